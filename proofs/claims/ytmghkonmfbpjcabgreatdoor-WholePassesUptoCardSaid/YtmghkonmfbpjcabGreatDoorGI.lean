/- Parts. -/
import Derived.Test.YtmghkonmfbpjcabGreatDoorGH
import Derived.Lib.ItoaNum
import Derived.Lib.AtoiAll
set_option linter.unusedVariables false
set_option linter.unusedSimpArgs false
set_option maxRecDepth 100000
set_option maxHeartbeats 16000000
namespace Go.Proofs.YtmghkonmfbpjcabGreatDoor
open Go.Proofs.Tryz
section
open Go.RowKit
def bHY (regs : Int) (l : List Nd) (w : World) (e : Ending) (w' : World) : Prop :=
 ∃ (v : Value) (l' : List Nd), e = .returned (.agg #[.int .i64 regs, v]) ∧ tV l l' ∧ l'.length = l.length ∧ cO w' w.heap.size 39 v l' ∧ Below w.heap.size w w'
attribute [local irreducible] Row madeCells
theorem bHX (regs : Int) (A : Option Addr) (l : List Nd) (cap : Nat) (w : World) (hA : bH w A l) (hR : bM regs l) :
 Calls prog 18 #[.agg #[.int .i64 regs, .slice A l.length cap]] w (bHY regs l w) := by (
 have hlo := hR.lo
 have hhi := hR.hi
 have hO := fun W (hW : Below w.heap.size w W) => kG regs A l cap W (hA.below hW) Zb
 have HO := bA hO
 have HR := bA hR
 clear hO hR hA
 go_enter func18, ntmps18
 go_wp2_with fail
 refine (HO.o _ Yc).mono ?_
 rintro e w1 ⟨v1, rfl, hN1, hb1⟩
 obtain ⟨A1, c1, rfl, _, _⟩ := hN1.shape
 have hz1 := hb1.size
 simp only [World.size_alloc] at hz1
 have hRes1 : Blk w1 (w.heap.size + 1) 24 #[.int .i64 0, .slice none 0 0] := Blk.below (Blk.new' Zf) hb1 Zf
 have hB1 : Below w.heap.size w w1 := Yc
 have hN1' : cO w1 w.heap.size 39 (.slice A1 l.length c1) l := hN1.mono Zd
 clear hb1 hN1 HO
 go_wp2_with fail
 go_loopg [4] (2 * oO l + 1) (fun gk ch wr => ∃ (c : Bool) (l1 : List Nd), ch = .bool c ∧ 2 * oO l1 + (if c = true then 1 else 0) ≤ gk ∧ (c = false → ∀ i, ¬ fR l1 i) ∧ bM regs l1 ∧ l1.length = l.length ∧ eQ l l1 ∧
  Blk wr w1.heap.size 24 #[.int .i64 regs, .slice A1 l.length c1] ∧ cO wr w.heap.size 39 (.slice A1 l.length c1) l1 ∧ Blk wr (w.heap.size + 1) 24 #[.int .i64 0, .slice none 0 0] ∧ Below w.heap.size w wr)
 case atStart => exact ⟨true, l, rfl, Zf, fun h => by (cases h), HR.o, rfl, eQ.nil l, Yd, hN1'.alloc _, hRes1.alloc _, Yc⟩
 case round => (
 clear hN1' hRes1 hB1
 obtain ⟨c, l1, rfl, hgk, hno, hR1, hl1, hH, hQ, hN, hRes, hB⟩ := hrel
 have Hgk := bA hgk
 have hz := hB.size
 have q0 := hQ.cell 0
 have q1 := hQ.cell 1
 simp only [Yl] at q0 q1
 have lq := hQ.lt
 have lres := hRes.lt
 cases c with
 | false =>
  have r0 := hRes.cell 0
  have r1 := hRes.cell 1
  have r2 := hRes.frozen 0
  have r3 := hRes.frozen 1
  simp only [Yl] at r0 r1
  have hne2 := hN.ne_blk hRes Ze
  have HD := bA (And.intro hH (hno rfl))
  have HN := bA hN
  have Hl1 := bA hl1
  have Hne := bA hne2
  clear hno hH hN hQ hRes hR1 hne2 hgk hl1
  go_wp2_with fail
  go_tidy
  refine bodyPost_ret (v := .agg #[.int .i64 regs, .slice A1 l.length c1]) (by simp [results, results18, go_sem, r0, r1, Vw, Vv]) rfl ?_
  exact ⟨_, l1, rfl, HD.o, Hl1.o, (HN.o.far Hne.o _).far Hne.o _, (hB.setCell Zf _).setCell Zf _⟩
 | true =>
  have hLO := bHS regs A1 l1 c1 wr hN.nodes hR1
  rw [hl1] at hLO
  have HLO := bA hLO
  have HR1 := bA hR1
  have Hl1 := bA hl1
  have HH := bA hH
  have HQ := bA hQ
  have HN := bA hN
  have HRes := bA hRes
  clear hno hH hN hQ hRes hR1 hLO hgk hl1
  go_wp2_with fail
  refine (HLO.o).mono ?_
  rintro e w2 ⟨v2, rfl, hT2, hb2⟩
  have hz2 := hb2.size
  have HT2 := bA hT2
  have HQ2 := bA (HQ.o.below hb2 lq)
  have HN2 := bA (HN.o.below' hb2)
  have HRes2 := bA (HRes.o.below hb2 lres)
  have hB2 : Below w.heap.size w w2 := hB.trans (hb2.mono hz)
  clear hb2 q0 q1 lq lres hT2 HLO
  go_wp2_with fail
  obtain ⟨wo, rfl⟩ := Exq wr
  obtain ⟨gk3, rfl⟩ := Exq gk
  go_loopg [4, 6] (l.length) (fun gk ch i wr => ∃ (k : Nat) (c : Bool) (l2 : List Nd), k ≤ l.length ∧ ch = .bool c ∧ i = .int .i64 k ∧ gk = l.length - k ∧ jT regs l l1 l2 k c ∧
   gC wo.heap.size 25 3 l.length (gJ regs.toNat l1) v2 wr ∧
   Blk wr w1.heap.size 24 #[.int .i64 regs, .slice A1 l.length c1] ∧ cO wr w.heap.size 39 (.slice A1 l.length c1) l2 ∧ Blk wr (w.heap.size + 1) 24 #[.int .i64 0, .slice none 0 0] ∧ Below w.heap.size w wr)
  case atStart => exact ⟨0, false, l1, Nat.zero_le _, rfl, rfl, rfl, jT.start HR1.o Hl1.o HH.o, HT2.o, HQ2.o, HN2.o, HRes2.o, hB2⟩
  case round => (
 clear HT2 HQ2 HN2 HRes2 hB2 HQ HN HRes hB
 obtain ⟨k, c, l2, hk, rfl, rfl, hgk2, hHu, hT, hQ, hN, hRes, hB⟩ := hrel
 have Hgk2 := bA hgk2
 have HHu := bA hHu
 have HT := bA hT
 have hz3 := hB.size
 have q0 := hQ.cell 0
 have q1 := hQ.cell 1
 simp only [Yl] at q0 q1
 have lq := hQ.lt
 have lres := hRes.lt
 have HQ := bA hQ
 have HRes := bA hRes
 clear hgk2 hHu hT hQ hRes
 by_cases hlt : k < l.length
 · (
 obtain ⟨gN, cN, x, e1, hgB, hgl, hx, hlies, hfr⟩ := hN.get (k := k) (by rw [HHu.o.len]; exact hlt)
 injection e1 with e1 e2 e3
 subst e1 e3
 clear e2
 have HN := bA hN
 have Hx := bA hx
 obtain ⟨c0, c1', c2, c3, c4, c5⟩ := hlies
 have f0 := hfr (k * 6) Xf
 have f1 := hfr (k * 6 + 1) Xf
 have f2 := hfr (k * 6 + 2) Xf
 have f3 := hfr (k * 6 + 3) Xf
 have f4 := hfr (k * 6 + 4) Xf
 have f5 := hfr (k * 6 + 5) Xf
 obtain ⟨k0, k1⟩ := Ikq (k := k) (n := l.length) (by omega)
 clear hN hx hfr
 cases hw : inB x.op 1 8
 case false => (
 have Hw := bA hw
 go_wp2_with (go_at_call 14; refine (dZ _ _ _ _).mono ?_; rw [hw]; rintro e w' ⟨rfl, rfl⟩)
 go_roundg (l.length - (k + 1))
 case measure => exact Jf
 case rel => (
 have hnd : ¬ fR l1 k := by (
 rintro ⟨y, hy, h1, h8, _⟩
 rw [← HHu.o.same k (Nat.le_refl _), Hx.o] at hy
 injection hy with hy
 subst hy
 have := Hw.o
 simp [inB] at this
 omega)
 exact ⟨k + 1, c, l2, Zb, rfl, by go_num, rfl, HHu.o.pass hnd, HT.o.below ((Bnq _ _)), HQ.o.alloc _, HN.o.alloc _, HRes.o.alloc _, hB.alloc hz3 _⟩))
 case true => (
 have Hw := bA hw
 have hop : 1 ≤ x.op ∧ x.op ≤ 8 := by simp [inB] at hw; omega
 have hm := V4 Hx.o
 have ht := HHu.o.right.then_ hm Zb
 rw [HHu.o.len] at ht
 have hd := (by
  have h1 := HHu.o.right.rng x hm
  simp only [kI, Uf, Bool.not_eq_false'] at h1
  have h2 := h1.1.1.1.1
  have h3 : dE x.op = true := by simp [dE, inB]; omega
  simpa [okR, h3] using h2 : 0 ≤ x.d ∧ x.d < regs)
 obtain ⟨tt, htt⟩ := V7 (show 0 ≤ x.t by omega)
 obtain ⟨gT, oT, cT, AT, cT2, rfl, hgT, hcT, hvT⟩ := HT.o.row (i := tt) Zb
 have hlv : (gJ regs.toNat l1 tt).any (fun z => z == x.d) = yn (lvx l1 x.d.toNat) tt := bOB hd.1 Zb
 have hll : (gJ regs.toNat l1 tt).length ≤ 64 := by (
 have := kP (fun r => yn (lvx l1 r) tt) regs.toNat
 have := HHu.o.right.rhi
 unfold gJ
 omega)
 rw [htt] at c4
 obtain ⟨t0', t1'⟩ := Ikq (k := tt) (n := l.length) (by omega)
 have Hhop := bA hop
 have Hht := bA htt
 have Hlv := bA hlv
 have hbn : Below w.heap.size w (wr.alloc (.cells #[.int .i64 x.op, .int .i64 x.d, .int .i64 x.a, .int .i64 x.b, .int .i64 (tt : Int), .int .i64 x.e] 39)) := hB.alloc hz3 _
 clear hop htt hlv ht hd hm
 generalize hLL : gJ regs.toNat l1 tt = L at *
 have HLL := bA hLL
 clear hLL
 go_wp2_with (go_at_call 14; refine (dZ _ _ _ _).mono ?_; rw [hw]; rintro e w' ⟨rfl, rfl⟩)
 obtain ⟨wn, hwn⟩ := Exq (wr.alloc (.cells #[.int .i64 x.op, .int .i64 x.d, .int .i64 x.a, .int .i64 x.b, .int .i64 (tt : Int), .int .i64 x.e] 39))
 have hbW : Below wr.heap.size wr wn := by rw [hwn]; exact (Bnq _ _)
 have hXn : Blk wn wr.heap.size 39 #[.int .i64 x.op, .int .i64 x.d, .int .i64 x.a, .int .i64 x.b, .int .i64 (tt : Int), .int .i64 x.e] := by rw [hwn]; exact Yd
 rw [← hwn] at hbn ⊢
 have n0 := hXn.cell 1
 have n1 := hXn.cell 4
 simp only [Yl] at n0 n1
 have HQn := bA (HQ.o.below hbW lq)
 have HNn := bA (HN.o.below' hbW)
 have HResn := bA (HRes.o.below hbW lres)
 have HTn := bA (HT.o.below hbW)
 have hvTn := hvT.below hbW
 have q0n := ((bB hbW).1 _ _ lq).trans q0
 have q1n := ((bB hbW).1 _ _ lq).trans q1
 have hgln := V6 hgl hbW.size
 have e0 := ((bB hbW).1 _ _ hgl).trans c0
 have e1 := ((bB hbW).1 _ _ hgl).trans c1'
 have e2 := ((bB hbW).1 _ _ hgl).trans c2
 have e3 := ((bB hbW).1 _ _ hgl).trans c3
 have e4 := ((bB hbW).1 _ _ hgl).trans c4
 have e5 := ((bB hbW).1 _ _ hgl).trans c5
 have i0 := ((bB hbW).2 _ _ hgl).trans f0
 have i1 := ((bB hbW).2 _ _ hgl).trans f1
 have i2 := ((bB hbW).2 _ _ hgl).trans f2
 have i3 := ((bB hbW).2 _ _ hgl).trans f3
 have i4 := ((bB hbW).2 _ _ hgl).trans f4
 have i5 := ((bB hbW).2 _ _ hgl).trans f5
 clear hwn hvT hcT q0 q1 c0 c1' c2 c3 c4 c5 f0 f1 f2 f3 f4 f5 hXn HT
 obtain ⟨wp, rfl⟩ := Exq wr
 obtain ⟨gk4, rfl⟩ := Exq gk
 go_loopg [9, 10] (L.length) (fun gk is i w4 => ∃ j : Nat, j ≤ L.length ∧ is = .bool ((L.take j).any fun z => z == x.d) ∧ i = .int .i64 j ∧ gk = L.length - j ∧ ∃ d, w4 = wn.drewN d)
 case atStart => exact ⟨0, Nat.zero_le _, rfl, rfl, rfl, 0, rfl⟩
 case round => (
 obtain ⟨j, hj, rfl, rfl, hgk5, d, rfl⟩ := hrel
 have Hgk5 := bA hgk5
 clear hgk5
 by_cases hjl : j < L.length
 · (
 obtain ⟨lb, lo, z, rfl, hlb, hzL, cz⟩ := hvTn.int hjl
 have HzL := bA hzL
 obtain ⟨j0, j1⟩ := Ikq (k := j) (n := L.length) (by omega)
 clear hzL hvTn
 have hsucc : ((L.take (j + 1)).any fun z => z == x.d) = (((L.take j).any fun z => z == x.d) || z == x.d) := dQ _ L j z HzL.o
 have Hsucc := bA hsucc
 clear hsucc
 generalize ((L.take j).any fun z => z == x.d) = q at *
 cases q
 all_goals (go_wp2_with fail)
 all_goals (go_quiet (fail))
 all_goals (go_wp2_with fail)
 all_goals (go_roundg (L.length - (j + 1)))
 all_goals first
  | (case measure => (have := Hgk5.o; omega))
  | (case rel => exact ⟨j + 1, Zb, by rw [Hsucc.o]; simp, by go_num, rfl, d + nq, Zf⟩))
 · (
 have hq : ((L.take j).any fun z => z == x.d) = yn (lvx l1 x.d.toNat) tt := by rw [eF _ L j hjl]; exact Hlv.o
 rw [hq]
 clear hq
 have Hhjl := bA hjl
 clear hjl hvTn
 cases hy : yn (lvx l1 x.d.toNat) tt
 case true => (
 have Hy := bA hy
 clear hy
 go_wp2_with fail
 go_roundg (l.length - (k + 1))
 case measure => exact Jf
 case rel => (
 have hx1 : l1[k]? = some x := by rw [← HHu.o.same k (Nat.le_refl _)]; exact Hx.o
 have hnd : ¬ fR l1 k := fun h => by (
 have := (qH HR1.o hx1).2 h
 unfold wV at this
 rw [Hht.o, Int.toNat_natCast, Hy.o] at this
 simp at this)
 exact ⟨k + 1, c, l2, Zb, rfl, by go_num, rfl, HHu.o.pass hnd, by rw [HLL.o] at *; exact HTn.o.below (bZ (Below.refl _ _) _), HQn.o.drewN _, HNn.o.drewN _, HResn.o.drewN _, bZ hbn _⟩))
 case false => (
 have Hy := bA hy
 clear hy
 go_wp2_with fail
 go_roundg (l.length - (k + 1))
 case measure => exact Jf
 case rel => (
 have hx1 : l1[k]? = some x := by rw [← HHu.o.same k (Nat.le_refl _)]; exact Hx.o
 have hnd : fR l1 k := (qH HR1.o hx1).1 (by
  unfold wV
  rw [Hht.o, Int.toNat_natCast, Hy.o]
  have := Hhop.o
  simp
  omega)
 have hne := HNn.o.ne_blk HQn.o Ze
 have hne2 := HNn.o.ne_blk HResn.o Ze
 have g1 : gN ≠ w1.heap.size := fun e => hne Xz
 have g2 : gN ≠ w.heap.size + 1 := fun e => hne2 Xz
 have hput := (HNn.o.drewN d).put6 Hx.o (xX x)
 have hgt : (xX x).t = (tt : Int) := Hht.o
 rw [hgt] at hput
 obtain ⟨csN, hNb⟩ := HNn.o.blk
 have b0 := hNb.drewN d
 have t0 : gC wo.heap.size 25 3 l.length (gJ regs.toNat l1) (.slice (some ⟨gT, oT, none⟩) l.length cT) (wn.drewN d) := HTn.o.below (bZ (Below.refl _ _) _)
 have t1 := t0.far (p := ⟨gN, k * 6, none⟩) b0 Ze Ze (.int .i64 0)
 have b1 := b0.set_ (k * 6) (.int .i64 0)
 have t2 := t1.far (p := ⟨gN, k * 6 + 1, none⟩) b1 Ze Ze (.int .i64 0)
 have b2 := b1.set_ (k * 6 + 1) (.int .i64 0)
 have t3 := t2.far (p := ⟨gN, k * 6 + 2, none⟩) b2 Ze Ze (.int .i64 0)
 have b3 := b2.set_ (k * 6 + 2) (.int .i64 0)
 have t4 := t3.far (p := ⟨gN, k * 6 + 3, none⟩) b3 Ze Ze (.int .i64 0)
 have b4 := b3.set_ (k * 6 + 3) (.int .i64 0)
 have t5 := t4.far (p := ⟨gN, k * 6 + 4, none⟩) b4 Ze Ze (.int .i64 (tt : Int))
 have b5 := b4.set_ (k * 6 + 4) (.int .i64 (tt : Int))
 have t6 := t5.far (p := ⟨gN, k * 6 + 5, none⟩) b5 Ze Ze (.int .i64 0)
 refine ⟨k + 1, true, eP l2 k, Zb, rfl, by go_num, rfl, HHu.o.step hnd, t6, (((((((HQn.o.drewN d).far (Ne.symm g1) _).far (Ne.symm g1) _).far (Ne.symm g1) _).far (Ne.symm g1) _).far (Ne.symm g1) _).far (Ne.symm g1) _), ?_, (((((((HResn.o.drewN d).far (Ne.symm g2) _).far (Ne.symm g2) _).far (Ne.symm g2) _).far (Ne.symm g2) _).far (Ne.symm g2) _).far (Ne.symm g2) _), ?_⟩
 · rw [qB Hx.o]; exact hput
 · exact ((((((bZ hbn d).setCell hgB _).setCell hgB _).setCell hgB _).setCell hgB _).setCell hgB _).setCell hgB _))))))
 · (
 have hkk : k = l.length := Zb
 have Hkk := bA hkk
 have HN := bA hN
 clear hkk hN
 go_wp2_with fail
 go_roundg (2 * oO l2 + (if c = true then 1 else 0))
 case measure => (
 have h1 := Hgk.o
 have h2 := HHu.o.busy
 have h3 := HHu.o.le
 cases c
 · simp at h1 ⊢; omega
 · (
 have := h2 rfl
 simp at h1 ⊢; omega))
 case rel => (
 refine ⟨c, l2, rfl, Nat.le_refl _, fun hc i hd => ?_, HHu.o.right, HHu.o.len, HHu.o.hush, HQ.o, HN.o, HRes.o, hB⟩
 obtain ⟨he, hn⟩ := HHu.o.idle hc
 rw [he] at hd
 refine hn i ?_ hd
 obtain ⟨y, hy, _⟩ := hd
 have := (List.getElem?_eq_some_iff.1 hy).1
 rw [Hkk.o, ← HHu.o.len, he]
 exact this)))))
end
section
open Go.RowKit
attribute [local irreducible] Row madeCells bO
structure sO (W0 : World) (ob : Nat) (r : Int) (v1 v2 : Value) (out back : List Nd) (W : World) : Prop where
 box : Blk W ob 24 #[.int .i64 r, v1]
 r1 : cO W W0.heap.size 39 v1 out
 r2 : cO W W0.heap.size 39 v2 back
 ne : v1.ownBlock = none ∨ v1.ownBlock ≠ v2.ownBlock
 below : Below W0.heap.size W0 W
 low : W0.heap.size ≤ ob
section
variable {W0 : World} {ob : Nat} {r : Int} {v1 v2 : Value} {out back : List Nd} {W : World}
theorem sO.later {W' : World} (h : sO W0 ob r v1 v2 out back W) (hb : Below W.heap.size W W') : sO W0 ob r v1 v2 out back W' :=
 ⟨h.box.below hb h.box.lt, h.r1.below' hb, h.r2.below' hb, h.ne, h.below.trans (hb.mono h.below.size), h.low⟩
theorem sO.front {V w9 : World} {v9 : Value} {xs : List Nd} (h : sO W0 ob r v1 v2 out back V) (hr : cO w9 W0.heap.size 39 v9 (out ++ xs)) (hg : V.grownBy w9 v1.ownBlock) (hat : v9.ownBlock = v1.ownBlock ∨ ∀ k, v9.ownBlock = some k → V.heap.size ≤ k) :
 sO W0 ob r v9 v2 (out ++ xs) back (w9.setCell ⟨ob, 1, none⟩ v9) := by (
 have hL := Blk.grown h.box hg (h.r1.ne_blk h.box Ze)
 have hne2 : v2.ownBlock = none ∨ v2.ownBlock ≠ v1.ownBlock := by (
 rcases h.ne with e | e
 · (
 rw [e]; rcases h2 : v2.ownBlock with _ | k
 · exact Jc
 · exact .inr Zf)
 · exact .inr (Ne.symm e))
 have hr2 := bO.kept h.r2 hg hne2
 refine ⟨hL.set_ 1 _, hr.far (hr.ne_blk hL Ze) _, hr2.far (hr2.ne_blk hL Ze) _, ?_, (h.below.grown hg h.below.size (fun q hq => (h.r1.lt q hq).1)).setCell h.low _, h.low⟩
 rcases hat with e | e
 · rw [e]; exact h.ne
 · (
 rcases h9 : v9.ownBlock with _ | k
 · exact Jc
 · (
 refine .inr fun e2 => ?_
 have := e k h9
 have := (h.r2.lt k e2.symm).2
 omega)))
theorem sO.behind {V w9 : World} {v9 : Value} {xs : List Nd} (h : sO W0 ob r v1 v2 out back V) (hr : cO w9 W0.heap.size 39 v9 (back ++ xs)) (hg : V.grownBy w9 v2.ownBlock) (hat : v9.ownBlock = v2.ownBlock ∨ ∀ k, v9.ownBlock = some k → V.heap.size ≤ k) :
 sO W0 ob r v1 v9 out (back ++ xs) w9 := by (
 have hL := Blk.grown h.box hg (h.r2.ne_blk h.box Ze)
 refine ⟨hL, bO.kept h.r1 hg h.ne, hr, ?_, h.below.grown hg h.below.size (fun q hq => (h.r2.lt q hq).1), h.low⟩
 rcases hat with e | e
 · rw [e]; exact h.ne
 · (
 rcases h1 : v1.ownBlock with _ | k
 · exact Jc
 · (
 refine .inr fun e2 => ?_
 have := e k (by rw [← e2])
 have := (h.r1.lt k h1).2
 omega)))
theorem bO.ne_qb {w9 V : World} {o : Obj} {B qb : Nat} {e : TypeId} {v v9 : Value} {ls : List Nd} (hr : cO w9 B e v9 ls) (hq : qb < V.heap.size) (h2 : v.ownBlock ≠ some qb) (hat : v9.ownBlock = v.ownBlock ∨ ∀ k, v9.ownBlock = some k → (V.alloc o).heap.size ≤ k) : v9.ownBlock ≠ some qb := by (
 rcases hat with e | e
 · rw [e]; exact h2
 · (
 intro e2
 have := e qb e2
 simp at this
 omega))
theorem sO.far6 {xb : Nat} {u0 u1 u2 u3 u4 u5 : Value} {cs : Array Value} (h : sO W0 ob r v1 v2 out back W) (hx : Blk W xb 39 cs) (h1 : v1.ownBlock ≠ some xb) (h2 : v2.ownBlock ≠ some xb) (hge : W0.heap.size ≤ xb) :
 sO W0 ob r v1 v2 out back ((((((W.setCell ⟨xb, 0, none⟩ u0).setCell ⟨xb, 1, none⟩ u1).setCell ⟨xb, 2, none⟩ u2).setCell ⟨xb, 3, none⟩ u3).setCell ⟨xb, 4, none⟩ u4).setCell ⟨xb, 5, none⟩ u5) := by (
 have hne : ob ≠ xb := Blk.ne_ h.box hx Ze
 exact ⟨(((((h.box.far (p := ⟨xb, 0, none⟩) hne _).far (p := ⟨xb, 1, none⟩) hne _).far (p := ⟨xb, 2, none⟩) hne _).far (p := ⟨xb, 3, none⟩) hne _).far (p := ⟨xb, 4, none⟩) hne _).far (p := ⟨xb, 5, none⟩) hne _,
  (((((h.r1.far (p := ⟨xb, 0, none⟩) h1 _).far (p := ⟨xb, 1, none⟩) h1 _).far (p := ⟨xb, 2, none⟩) h1 _).far (p := ⟨xb, 3, none⟩) h1 _).far (p := ⟨xb, 4, none⟩) h1 _).far (p := ⟨xb, 5, none⟩) h1 _,
  (((((h.r2.far (p := ⟨xb, 0, none⟩) h2 _).far (p := ⟨xb, 1, none⟩) h2 _).far (p := ⟨xb, 2, none⟩) h2 _).far (p := ⟨xb, 3, none⟩) h2 _).far (p := ⟨xb, 4, none⟩) h2 _).far (p := ⟨xb, 5, none⟩) h2 _,
  h.ne, (((((h.below.setCell hge _).setCell hge _).setCell hge _).setCell hge _).setCell hge _).setCell hge _, h.low⟩)
end
theorem bFI (regs : Int) (A : Option Addr) (l : List Nd) (cap : Nat) (t : Tm) (X Y : Option Addr) (pt tk : List Bool) (xc yc : Nat) (w : World) (hA : bH w A l) (hX : bG w X (bE pt)) (hY : bG w Y (bE tk)) (hR : bM regs l) (h1 : pt.length = l.length) (h2 : tk.length = l.length) :
 Calls prog 78 #[.agg #[.int .i64 regs, .slice A l.length cap], .agg #[.int .i64 t.op, .int .i64 t.a, .int .i64 t.b], .agg #[.slice X pt.length xc, .slice Y tk.length yc]] w (sI w.heap.size 39 (regs + 1) (dF regs t pt tk l) w) := by (
 obtain ⟨i3, h3i, h3z, h3s, h3b⟩ := info_parts iG
 have hlo := hR.lo
 have hhi := hR.hi
 have hrlo := hR.rlo
 have hrhi := hR.rhi
 have hwr : IntKind.i64.wrap (regs + 1) = regs + 1 := by rw [IntKind.wrap_i64]; omega
 have HN := bA (fun W (hW : Below w.heap.size w W) => hA.below hW)
 refine Vt fun HX HY => ?_
 have Hpt := bA h1
 have Htk := bA h2
 rw [h1, h2]
 clear hA hX hY hR h1 h2
 go_enter func78, ntmps78
 go_upto_region 2 with fail
 obtain ⟨W0, hW0⟩ := Exq ((((w.alloc (.cells #[.int .i64 regs, .slice A l.length cap] 24)).alloc (.cells #[.int .i64 t.op, .int .i64 t.a, .int .i64 t.b] 56)).alloc (.cells #[.slice X l.length xc, .slice Y l.length yc] 133)).alloc (.cells #[.int .i64 0, .slice none 0 0] 24))
 have hP : Blk W0 w.heap.size 24 #[.int .i64 regs, .slice A l.length cap] := by rw [hW0]; exact Yd
 have hT : Blk W0 (w.heap.size + 1) 56 #[.int .i64 t.op, .int .i64 t.a, .int .i64 t.b] := by rw [hW0]; exact Yd
 have hL : Blk W0 (w.heap.size + 1 + 1) 133 #[.slice X l.length xc, .slice Y l.length yc] := by rw [hW0]; exact Yd
 have hO : Blk W0 (w.heap.size + 1 + 1 + 1) 24 #[.int .i64 0, .slice none 0 0] := by rw [hW0]; exact Yd
 have hB : Below w.heap.size w W0 := by rw [hW0]; exact Yc
 have hs0 : W0.heap.size = w.heap.size + 1 + 1 + 1 + 1 := by rw [hW0]; simp
 try rw [← hW0]
 obtain ⟨ob, hob⟩ := Exq W0.heap.size
 try rw [← hs0, ← hob]
 obtain ⟨W1, hW1⟩ := Exq (W0.alloc (.cells #[.int .i64 (regs + 1), .slice none 0 0] 24))
 have hS1 : sO W0 ob (regs + 1) (.slice none 0 0) (.slice none 0 0) (eC regs t pt tk l 0) (gW regs pt tk l 0) W1 := by rw [hW1, hob]; exact ⟨Blk.new' rfl, bO.nil_ _ _ _, bO.nil_ _ _ _, .inl rfl, (Bnq _ _), Nat.le_refl _⟩
 rw [← hW1]
 have hlw : w.heap.size + 1 + 1 + 1 < ob := Zb
 have hb1 : Below W0.heap.size W0 W1 := hS1.below
 have hP1 := hP.below hb1 hP.lt
 have p0 := hP1.cell 0
 have p1 := hP1.cell 1
 simp only [Yl] at p0 p1
 have lp := hP1.lt
 have HS1 := bA hS1
 have HP := bA hP
 have HT := bA hT
 have HL := bA hL
 have HO := bA hO
 have HB := bA hB
 have hob0 : W0.heap.size ≤ ob := Zb
 clear hW0 hW1 hob hP hT hL hO hB hS1 hP1 hs0 hb1
 go_upto_region 5 with fail
 clear p0 p1 lp
 go_wp2_with fail
 go_loopg [9, 10, 11] (l.length) (fun gk c s10 i wr => ∃ (k : Nat) (v1 v2 : Value), k ≤ l.length ∧ i = .int .i64 k ∧ s10 = v2 ∧ c = .int .i64 ((l.length : Int) + (rk pt k : Int)) ∧ gk = l.length - k ∧ sO W0 ob (regs + 1) v1 v2 (eC regs t pt tk l k) (gW regs pt tk l k) wr)
 case atStart => exact ⟨0, _, _, Nat.zero_le _, rfl, rfl, by simp [rk], rfl, HS1.o⟩
 case round => (
 clear HS1
 obtain ⟨k, v1, v2, hk, rfl, e10, rfl, hgk, hS⟩ := hrel
 replace e10 := e10.symm
 subst e10
 have Hgk := bA hgk
 clear hgk
 have hwz := hS.below.size
 have hB := HB.o.size
 have hP := HP.o.below hS.below HP.o.lt
 refine Wl fun p0 p1 => ?_
 have lp := hP.lt
 have lp0 := HP.o.lt
 have lt0 := HT.o.lt
 have ll0 := HL.o.lt
 have lo0 := HO.o.lt
 by_cases hlt : k < l.length
 · (
 obtain ⟨nb, no, nn, rfl, hnb, hn, n0, n1, n2, n3, n4, n5⟩ := (HN.o _ HB.o).get hlt
 obtain ⟨xb, xo, rfl, lxb, ex⟩ := (HX.o _ HB.o).bool (k := k) (by rw [Hpt.o]; exact hlt)
 obtain ⟨yb, yo, rfl, lyb, ey⟩ := (HY.o _ HB.o).bool (k := k) (by rw [Htk.o]; exact hlt)
 replace n0 := ((bB hS.below).1 _ _ hnb).trans n0
 replace n1 := ((bB hS.below).1 _ _ hnb).trans n1
 replace n2 := ((bB hS.below).1 _ _ hnb).trans n2
 replace n3 := ((bB hS.below).1 _ _ hnb).trans n3
 replace n4 := ((bB hS.below).1 _ _ hnb).trans n4
 replace n5 := ((bB hS.below).1 _ _ hnb).trans n5
 replace ex := ((bB hS.below).1 _ _ lxb).trans ex
 replace ey := ((bB hS.below).1 _ _ lyb).trans ey
 have hT := HT.o.below hS.below HT.o.lt
 have hL := HL.o.below hS.below HL.o.lt
 have t0 := hT.cell 0
 have t1 := hT.cell 1
 have t2 := hT.cell 2
 have x0 := hL.cell 0
 have x1 := hL.cell 1
 simp only [Yl] at t0 t1 t2 x0 x1
 have lt' := hT.lt
 have lL := hL.lt
 have lnb := V6 hnb hwz
 have lx' := V6 lxb hwz
 have ly' := V6 lyb hwz
 refine Vk fun u0 u1 => ?_
 have hfl := wP regs t pt tk l k
 have hbl := tQ regs pt tk l k
 have hrk := rU pt k
 have Hn := bA hn
 clear hn hP
 cases hy : yn tk k
 case false => (
 rw [hy] at ey
 have Hy := bA hy
 clear hy
 cases hx : yn pt k
 case false => (
 rw [hx] at ex
 have Hx := bA hx
 clear hx
 go_upto_region 15 with fail
 obtain ⟨W2, hW2⟩ := Exq (wr.alloc (.cells #[.int .i64 nn.op, .int .i64 nn.d, .int .i64 nn.a, .int .i64 nn.b, .int .i64 nn.t, .int .i64 nn.e] 39))
 have hS2 := hS.later (W' := W2) Z2
 have hX2 : Blk W2 wr.heap.size 39 #[.int .i64 nn.op, .int .i64 nn.d, .int .i64 nn.a, .int .i64 nn.b, .int .i64 nn.t, .int .i64 nn.e] := by rw [hW2]; exact Blk.new' rfl
 rw [← hW2]
 obtain ⟨qb, hqb⟩ := Exq wr.heap.size
 refine K3 fun n1b n2b hqg hqo => ?_
 rw [← hqb] at hX2 ⊢
 refine Kb fun g0 g1 g2 g3 g4 g5 lX2 z0 z1 z2 z3 z4 z5 => ?_; clear hW2 hqb p0 p1 ex ey t0 t1 t2 x0 x1 n0 n1 n2 n3 n4 n5 hT hL lp lt' lL lnb lx' ly' hS
 have b1 := hS2.box.cell 1
 simp only [Yl] at b1
 have lb2 := hS2.box.lt
 have HS2 := bA hS2
 clear hS2
 go_upto_region 7 with (at_builtin; refine bK (v := v1) (l := eC regs t pt tk l k) (base := W0.heap.size) rfl _ _ _ rfl i3 _ 48 underlying22 h3i h3z h3s h3b rfl rfl (HS2.o.r1.alloc _) (some ⟨W2.heap.size, 0, none⟩) 1 1 [nn] rfl rfl (cH Zf) Xn X6 Xc ?_; intro v8 w8 hr8 hg8 hat8; obtain ⟨A8, c8, hv8, _, _⟩ := hr8.shape; subst hv8; simp only [Vz, V8, hfl] at hr8 hat8 ⊢; have hS8 := (HS2.o.later ((Below.refl _ _).alloc (Nat.le_refl _) (.cells (ndK.cells [nn]).toArray 39))); have hq8 := Blk.grown hS8.box hg8 (hS8.r1.ne_blk hS8.box Ze); have HF8 := bA (hS8.front hr8 hg8 hat8); have b1 := hq8.cell 1; have fb := hq8.frozen 1; have lb8 := hq8.lt; simp only [Yl] at b1; clear hS8 hq8 hr8 hg8 hat8)
 go_wp2_with fail
 go_roundg (l.length - (k + 1))
 case measure => exact Jg
 case rel => (
 have hE : eC regs t pt tk l (k + 1) = eC regs t pt tk l k ++ [nn] := by rw [mI, if_neg (by rw [Hx.o]; simp), jA, if_neg (by rw [Hy.o]; simp), dJ Hn.o]
 exact ⟨k + 1, _, _, Zb, by go_num, rfl, by rw [rk, Hx.o]; simp, rfl, by rw [hE, bEI Hx.o]; exact HF8.o⟩))
 case true => (
 rw [hx] at ex
 have Hx := bA hx
 clear hx
 go_upto_region 12 with fail
 obtain ⟨W2, hW2⟩ := Exq (wr.alloc (.cells #[.int .i64 nn.op, .int .i64 nn.d, .int .i64 nn.a, .int .i64 nn.b, .int .i64 nn.t, .int .i64 nn.e] 39))
 have hS2 := hS.later (W' := W2) Z2
 have hX2 : Blk W2 wr.heap.size 39 #[.int .i64 nn.op, .int .i64 nn.d, .int .i64 nn.a, .int .i64 nn.b, .int .i64 nn.t, .int .i64 nn.e] := by rw [hW2]; exact Blk.new' rfl
 rw [← hW2]
 obtain ⟨qb, hqb⟩ := Exq wr.heap.size
 refine K3 fun n1b n2b hqg hqo => ?_
 rw [← hqb] at hX2 ⊢
 refine Kb fun g0 g1 g2 g3 g4 g5 lX2 z0 z1 z2 z3 z4 z5 => ?_; clear hW2 hqb p0 p1 ex ey t0 t1 t2 x0 x1 n0 n1 n2 n3 n4 n5 hT hL lp lt' lL lnb lx' ly' hS
 have HS2 := bA hS2
 clear hS2
 go_upto_region 13 with (at_builtin; go_loud (refine bK (v := v2) (l := gW regs pt tk l k) (base := W0.heap.size) rfl _ _ _ rfl i3 _ 48 underlying22 h3i h3z h3s h3b rfl rfl (HS2.o.r2.alloc _) (some ⟨W2.heap.size, 0, none⟩) 1 1 [nn] rfl rfl (cH Zf) (by rw [hbl]; simp [maxLen]; omega) (by rw [hbl]; simp; omega) Xc ?_; intro v4 w4 hr4 hg4 hat4; have hS4 := (HS2.o.later ((Below.refl _ _).alloc (Nat.le_refl _) (.cells (ndK.cells [nn]).toArray 39))).behind hr4 hg4 hat4; have hX4 := Blk.grown (hX2.alloc (.cells (ndK.cells [nn]).toArray 39)) hg4 n2b; have n4b : v4.ownBlock ≠ some qb := hr4.ne_qb hX2.lt n2b hat4))
 clear z0 z1 z2 z3 z4 z5 g0 g1 g2 g3 g4 g5 lX2 hX2 hr4 hg4 hat4
 refine J3 fun g0 g1 g2 g3 g4 g5 lX4 z0 z1 z2 z3 z4 z5 hT hL t0 t1 t2 lt' HS4 HX4 => ?_; clear hS4 hX4
 go_upto_region 14 with fail
 obtain ⟨W5, hW5⟩ := Exq ((((((w4.setCell ⟨qb, 0, none⟩ (.int .i64 t.op)).setCell ⟨qb, 1, none⟩ (.int .i64 regs)).setCell ⟨qb, 2, none⟩ (.int .i64 t.a)).setCell ⟨qb, 3, none⟩ (.int .i64 t.b)).setCell ⟨qb, 4, none⟩ (.int .i64 ((l.length : Int) + (rk pt k : Int)))).setCell ⟨qb, 5, none⟩ (.int .i64 0))
 refine Wo fun hS5 hX5 => ?_
 rw [← hW5]
 clear hW5 z0 z1 z2 z3 z4 z5 g0 g1 g2 g3 g4 g5 t0 t1 t2 lt' hT hL lX4 HS4 HX4
 have z0 := hX5.cell 0
 have z1 := hX5.cell 1
 have z2 := hX5.cell 2
 have z3 := hX5.cell 3
 have z4 := hX5.cell 4
 have z5 := hX5.cell 5
 have lX5 := hX5.lt
 simp only [Yl] at z0 z1 z2 z3 z4 z5
 have b1 := hS5.box.cell 1
 simp only [Yl] at b1
 have lb2 := hS5.box.lt
 have HS5 := bA hS5
 clear hS5
 go_upto_region 15 with fail
 go_upto_region 7 with (at_builtin; refine bK (v := v1) (l := eC regs t pt tk l k) (base := W0.heap.size) rfl _ _ _ rfl i3 _ 48 underlying22 h3i h3z h3s h3b rfl rfl (HS5.o.r1.alloc _) (some ⟨W5.heap.size, 0, none⟩) 1 1 [⟨t.op, regs, t.a, t.b, (l.length : Int) + (rk pt k : Int), 0⟩] rfl rfl (cH Zf) Xn X6 (by have := HS5.o.below.size; simp <;> omega) ?_; intro v8 w8 hr8 hg8 hat8; obtain ⟨A8, c8, hv8, _, _⟩ := hr8.shape; subst hv8; simp only [Vz, V8, hfl] at hr8 hat8 ⊢; have hS8 := (HS5.o.later ((Below.refl _ _).alloc (Nat.le_refl _) (.cells (ndK.cells [⟨t.op, regs, t.a, t.b, (l.length : Int) + (rk pt k : Int), 0⟩]).toArray 39))); have hq8 := Blk.grown hS8.box hg8 (hS8.r1.ne_blk hS8.box Ze); have HF8 := bA (hS8.front hr8 hg8 hat8); have b1 := hq8.cell 1; have fb := hq8.frozen 1; have lb8 := hq8.lt; simp only [Yl] at b1; clear hS8 hq8 hr8 hg8 hat8)
 go_wp2_with fail
 go_roundg (l.length - (k + 1))
 case measure => exact Jg
 case rel => (
 have hE : eC regs t pt tk l (k + 1) = eC regs t pt tk l k ++ [⟨t.op, regs, t.a, t.b, (l.length : Int) + (rk pt k : Int), 0⟩] := by rw [mI, if_pos Hx.o, vW]; simp
 have hE2 : gW regs pt tk l (k + 1) = gW regs pt tk l k ++ [nn] := by rw [zQ Hx.o, jA, if_neg (by rw [Hy.o]; simp), dJ Hn.o]
 exact ⟨k + 1, _, _, Zb, by go_num, rfl, by rw [rk, Hx.o]; simp; omega, rfl, by rw [hE, hE2]; exact HF8.o⟩)))
 case true => (
 rw [hy] at ey
 have Hy := bA hy
 clear hy
 cases hx : yn pt k
 case false => (
 rw [hx] at ex
 have Hx := bA hx
 clear hx
 go_upto_region 15 with fail
 obtain ⟨W2, hW2⟩ := Exq (wr.alloc (.cells #[.int .i64 2, .int .i64 nn.d, .int .i64 regs, .int .i64 0, .int .i64 nn.t, .int .i64 0] 39))
 have hS2 := hS.later (W' := W2) Z2
 have hX2 : Blk W2 wr.heap.size 39 #[.int .i64 2, .int .i64 nn.d, .int .i64 regs, .int .i64 0, .int .i64 nn.t, .int .i64 0] := by rw [hW2]; exact Blk.new' rfl
 rw [← hW2]
 obtain ⟨qb, hqb⟩ := Exq wr.heap.size
 refine K3 fun n1b n2b hqg hqo => ?_
 rw [← hqb] at hX2 ⊢
 refine Kb fun g0 g1 g2 g3 g4 g5 lX2 z0 z1 z2 z3 z4 z5 => ?_; clear hW2 hqb p0 p1 ex ey t0 t1 t2 x0 x1 n0 n1 n2 n3 n4 n5 hT hL lp lt' lL lnb lx' ly' hS
 have b1 := hS2.box.cell 1
 simp only [Yl] at b1
 have lb2 := hS2.box.lt
 have HS2 := bA hS2
 clear hS2
 go_upto_region 7 with (at_builtin; refine bK (v := v1) (l := eC regs t pt tk l k) (base := W0.heap.size) rfl _ _ _ rfl i3 _ 48 underlying22 h3i h3z h3s h3b rfl rfl (HS2.o.r1.alloc _) (some ⟨W2.heap.size, 0, none⟩) 1 1 [⟨2, nn.d, regs, 0, nn.t, 0⟩] rfl rfl (cH Zf) Xn X6 Xc ?_; intro v8 w8 hr8 hg8 hat8; obtain ⟨A8, c8, hv8, _, _⟩ := hr8.shape; subst hv8; simp only [Vz, V8, hfl] at hr8 hat8 ⊢; have hS8 := (HS2.o.later ((Below.refl _ _).alloc (Nat.le_refl _) (.cells (ndK.cells [⟨2, nn.d, regs, 0, nn.t, 0⟩]).toArray 39))); have hq8 := Blk.grown hS8.box hg8 (hS8.r1.ne_blk hS8.box Ze); have HF8 := bA (hS8.front hr8 hg8 hat8); have b1 := hq8.cell 1; have fb := hq8.frozen 1; have lb8 := hq8.lt; simp only [Yl] at b1; clear hS8 hq8 hr8 hg8 hat8)
 go_wp2_with fail
 go_roundg (l.length - (k + 1))
 case measure => exact Jg
 case rel => (
 have hE : eC regs t pt tk l (k + 1) = eC regs t pt tk l k ++ [⟨2, nn.d, regs, 0, nn.t, 0⟩] := by rw [mI, if_neg (by rw [Hx.o]; simp), jA, if_pos Hy.o, dJ Hn.o]
 exact ⟨k + 1, _, _, Zb, by go_num, rfl, by rw [rk, Hx.o]; simp, rfl, by rw [hE, bEI Hx.o]; exact HF8.o⟩))
 case true => (
 rw [hx] at ex
 have Hx := bA hx
 clear hx
 go_upto_region 12 with fail
 obtain ⟨W2, hW2⟩ := Exq (wr.alloc (.cells #[.int .i64 2, .int .i64 nn.d, .int .i64 regs, .int .i64 0, .int .i64 nn.t, .int .i64 0] 39))
 have hS2 := hS.later (W' := W2) Z2
 have hX2 : Blk W2 wr.heap.size 39 #[.int .i64 2, .int .i64 nn.d, .int .i64 regs, .int .i64 0, .int .i64 nn.t, .int .i64 0] := by rw [hW2]; exact Blk.new' rfl
 rw [← hW2]
 obtain ⟨qb, hqb⟩ := Exq wr.heap.size
 refine K3 fun n1b n2b hqg hqo => ?_
 rw [← hqb] at hX2 ⊢
 refine Kb fun g0 g1 g2 g3 g4 g5 lX2 z0 z1 z2 z3 z4 z5 => ?_; clear hW2 hqb p0 p1 ex ey t0 t1 t2 x0 x1 n0 n1 n2 n3 n4 n5 hT hL lp lt' lL lnb lx' ly' hS
 have HS2 := bA hS2
 clear hS2
 go_upto_region 13 with (at_builtin; go_loud (refine bK (v := v2) (l := gW regs pt tk l k) (base := W0.heap.size) rfl _ _ _ rfl i3 _ 48 underlying22 h3i h3z h3s h3b rfl rfl (HS2.o.r2.alloc _) (some ⟨W2.heap.size, 0, none⟩) 1 1 [⟨2, nn.d, regs, 0, nn.t, 0⟩] rfl rfl (cH Zf) (by rw [hbl]; simp [maxLen]; omega) (by rw [hbl]; simp; omega) Xc ?_; intro v4 w4 hr4 hg4 hat4; have hS4 := (HS2.o.later ((Below.refl _ _).alloc (Nat.le_refl _) (.cells (ndK.cells [⟨2, nn.d, regs, 0, nn.t, 0⟩]).toArray 39))).behind hr4 hg4 hat4; have hX4 := Blk.grown (hX2.alloc (.cells (ndK.cells [⟨2, nn.d, regs, 0, nn.t, 0⟩]).toArray 39)) hg4 n2b; have n4b : v4.ownBlock ≠ some qb := hr4.ne_qb hX2.lt n2b hat4))
 clear z0 z1 z2 z3 z4 z5 g0 g1 g2 g3 g4 g5 lX2 hX2 hr4 hg4 hat4
 refine J3 fun g0 g1 g2 g3 g4 g5 lX4 z0 z1 z2 z3 z4 z5 hT hL t0 t1 t2 lt' HS4 HX4 => ?_; clear hS4 hX4
 go_upto_region 14 with fail
 obtain ⟨W5, hW5⟩ := Exq ((((((w4.setCell ⟨qb, 0, none⟩ (.int .i64 t.op)).setCell ⟨qb, 1, none⟩ (.int .i64 regs)).setCell ⟨qb, 2, none⟩ (.int .i64 t.a)).setCell ⟨qb, 3, none⟩ (.int .i64 t.b)).setCell ⟨qb, 4, none⟩ (.int .i64 ((l.length : Int) + (rk pt k : Int)))).setCell ⟨qb, 5, none⟩ (.int .i64 0))
 refine Wo fun hS5 hX5 => ?_
 rw [← hW5]
 clear hW5 z0 z1 z2 z3 z4 z5 g0 g1 g2 g3 g4 g5 t0 t1 t2 lt' hT hL lX4 HS4 HX4
 have z0 := hX5.cell 0
 have z1 := hX5.cell 1
 have z2 := hX5.cell 2
 have z3 := hX5.cell 3
 have z4 := hX5.cell 4
 have z5 := hX5.cell 5
 have lX5 := hX5.lt
 simp only [Yl] at z0 z1 z2 z3 z4 z5
 have b1 := hS5.box.cell 1
 simp only [Yl] at b1
 have lb2 := hS5.box.lt
 have HS5 := bA hS5
 clear hS5
 go_upto_region 15 with fail
 go_upto_region 7 with (at_builtin; refine bK (v := v1) (l := eC regs t pt tk l k) (base := W0.heap.size) rfl _ _ _ rfl i3 _ 48 underlying22 h3i h3z h3s h3b rfl rfl (HS5.o.r1.alloc _) (some ⟨W5.heap.size, 0, none⟩) 1 1 [⟨t.op, regs, t.a, t.b, (l.length : Int) + (rk pt k : Int), 0⟩] rfl rfl (cH Zf) Xn X6 (by have := HS5.o.below.size; simp <;> omega) ?_; intro v8 w8 hr8 hg8 hat8; obtain ⟨A8, c8, hv8, _, _⟩ := hr8.shape; subst hv8; simp only [Vz, V8, hfl] at hr8 hat8 ⊢; have hS8 := (HS5.o.later ((Below.refl _ _).alloc (Nat.le_refl _) (.cells (ndK.cells [⟨t.op, regs, t.a, t.b, (l.length : Int) + (rk pt k : Int), 0⟩]).toArray 39))); have hq8 := Blk.grown hS8.box hg8 (hS8.r1.ne_blk hS8.box Ze); have HF8 := bA (hS8.front hr8 hg8 hat8); have b1 := hq8.cell 1; have fb := hq8.frozen 1; have lb8 := hq8.lt; simp only [Yl] at b1; clear hS8 hq8 hr8 hg8 hat8)
 go_wp2_with fail
 go_roundg (l.length - (k + 1))
 case measure => exact Jg
 case rel => (
 have hE : eC regs t pt tk l (k + 1) = eC regs t pt tk l k ++ [⟨t.op, regs, t.a, t.b, (l.length : Int) + (rk pt k : Int), 0⟩] := by rw [mI, if_pos Hx.o, vW]; simp
 have hE2 : gW regs pt tk l (k + 1) = gW regs pt tk l k ++ [⟨2, nn.d, regs, 0, nn.t, 0⟩] := by rw [zQ Hx.o, jA, if_pos Hy.o, dJ Hn.o]
 exact ⟨k + 1, _, _, Zb, by go_num, rfl, by rw [rk, Hx.o]; simp; omega, rfl, by rw [hE, hE2]; exact HF8.o⟩))))
 · (
 have hkk : k = l.length := Zb
 subst hkk
 have hO := HO.o.below hS.below lo0
 have b1 := hS.box.cell 1
 have lb := hS.box.lt
 obtain ⟨A2, c2, e2, _, _⟩ := hS.r2.shape
 subst e2
 obtain ⟨A1, c1, e1, _, _⟩ := hS.r1.shape
 subst e1
 simp only [Yl] at b1
 have hfl := wP regs t pt tk l l.length
 have hbl := tQ regs pt tk l l.length
 have hrk := rU pt l.length
 have Hfl := bA hfl
 have Hbl := bA hbl
 clear hfl hbl
 have HS := bA hS
 have HO2 := bA hO
 clear hS hO hP
 go_upto_region 17 with (at_builtin; go_loud (refine bK (v := .slice A1 (eC regs t pt tk l l.length).length c1) (l := eC regs t pt tk l l.length) (base := W0.heap.size) rfl _ _ _ rfl i3 _ 48 underlying22 h3i h3z h3s h3b rfl rfl HS.o.r1 A2 (gW regs pt tk l l.length).length c2 (gW regs pt tk l l.length) rfl rfl HS.o.r2.nodes (by rw [Hfl.o, Hbl.o]; simp [maxLen]; omega) (by rw [Hfl.o, Hbl.o]; omega) (by have := HS.o.below.size; omega) ?_; intro v8 w8 hr8 hg8 hat8; obtain ⟨A8, c8, hv8, _, _⟩ := hr8.shape; subst hv8; have hq8 := Blk.grown HS.o.box hg8 (HS.o.r1.ne_blk HS.o.box Ze); have HF8 := bA (HS.o.front hr8 hg8 hat8); have b1' := hq8.cell 1; have fb := hq8.frozen 1; have lb8 := hq8.lt; simp only [Yl] at b1'; clear hq8 hr8 hg8 hat8))
 obtain ⟨W9, hW9⟩ := Exq (w8.setCell ⟨ob, 1, none⟩ (.slice A8 (eC regs t pt tk l l.length ++ gW regs pt tk l l.length).length c8))
 have hS9 := HF8.o
 rw [← hW9] at hS9
 try simp only [← Vz]
 rw [← hW9]
 clear hW9 HF8 HS b1 b1' fb lb lb8
 rw [← sE] at hS9 ⊢
 have q0 := hS9.box.cell 0
 have q1 := hS9.box.cell 1
 have hO9 := HO.o.below hS9.below lo0
 have o0 := hO9.cell 0
 have o1 := hO9.cell 1
 have f0 := hO9.frozen 0
 have f1 := hO9.frozen 1
 simp only [Yl] at q0 q1 o0 o1
 have lO := hO9.lt
 have lq := hS9.box.lt
 have hn1 := hS9.r1.ne_blk hO9 Ze
 obtain ⟨N, hN⟩ := Exq ((dF regs t pt tk l).length)
 rw [← hN] at hS9 hn1 q1 ⊢
 have Q := bA (((hS9.r1.far (p := ⟨w.heap.size + 1 + 1 + 1, 0, none⟩) hn1 (.int .i64 (regs + 1))).far (p := ⟨w.heap.size + 1 + 1 + 1, 1, none⟩) hn1 (.slice A8 N c8)).mono hB)
 have HBf := bA (HB.o.trans (hS9.below.mono hB))
 clear hS9 hO9 hn1 HO2 hN
 go_wp2_with fail
 go_tidy
 refine bodyPost_ret (v := .agg #[.int .i64 (regs + 1), .slice A8 N c8]) (by simp [results, results78, go_sem, q0, q1, o0, o1, f0, f1, Vw, Vv]; try rfl) rfl ?_
 exact ⟨_, rfl, Q.out, (HBf.o.setCell Zd _).setCell Zd _⟩)))
end
section
open Go.RowKit
theorem zS (A : Option Addr) (cap : Nat) (x : List Bool) (w : World) (h : bG w A (bE x)) (hl : x.length ≤ maxLen) :
 Calls prog 76 #[.slice A x.length cap] w fun e w' => e = .returned (.bool (x.any id)) ∧ w' = w := by (
 unfold maxLen at hl
 go_enter func76, ntmps76
 go_wp2_with fail
 go_loopg [3] (x.length) (fun gk i wr => ∃ k : Nat, k ≤ x.length ∧ i = .int .i64 k ∧ gk = x.length - k ∧ (∀ j, j < k → yn x j = false) ∧ wr = w)
 case atStart => exact ⟨0, Nat.zero_le _, rfl, rfl, fun j hj => by omega, rfl⟩
 case round => (
 obtain ⟨k, hk, rfl, hgk, hno, rfl⟩ := hrel
 have Hgk := bA hgk
 have Hno := bA hno
 clear hgk hno
 by_cases hlt : k < x.length
 · (
 obtain ⟨b, off, rfl, hb, hc⟩ := h.bool hlt
 obtain ⟨u0, u1⟩ := Ikq (k := k) (n := x.length) (by omega)
 have H := bA h
 clear h
 cases hy : yn x k
 case false => (
 rw [hy] at hc
 have Hy := bA hy
 clear hy
 go_wp2_with fail
 go_roundg (x.length - (k + 1))
 case measure => exact Jg
 case rel => (
 refine ⟨k + 1, Zb, by go_num, rfl, ?_, rfl⟩
 intro j hj
 by_cases e : j = k
 · rw [e]; exact Hy.o
 · exact Hno.o j Zb))
 case true => (
 rw [hy] at hc
 have ha : x.any id = true := by (
 rw [List.any_eq_true]
 exact ⟨x[k], List.getElem_mem hlt, by simpa [yn, hlt] using hy⟩)
 have Ha := bA ha
 clear hy ha
 go_wp2_with fail
 go_ret
 exact ⟨by rw [Ha.o]; rfl, rfl⟩))
 · (
 have ha : x.any id = false := by (
 rw [List.any_eq_false]
 intro z hz
 obtain ⟨i, hi, rfl⟩ := List.getElem_of_mem hz
 have := Hno.o i Zb
 simpa [yn, hi] using this)
 have Ha := bA ha
 clear ha
 go_wp2_with fail
 go_ret
 exact ⟨by rw [Ha.o]; rfl, rfl⟩)))
end
section
open Go.RowKit
attribute [local irreducible] Row madeCells bO
theorem Y5 {P : Prop} (h : P := by (
 have hz' : (apE regs (eK l) t (iE t l) (iD t l) != 0) = true := by simp [hz]
 have HZ := bA hz
 clear hz hT hQ hL r1 r2
 refine Kp fun f0 f1 o0 o1 lO => ?_
 go_wp2_with fail
 go_tidy
 refine bodyPost_ret (v := .tuple #[.agg #[.int .i64 0, .slice none 0 0], .int .i64 (apE regs (eK l) t (iE t l) (iD t l))]) (by simp [results, results42, go_sem, o0, o1, f0, f1, Vw, Vv]; try rfl) rfl ?_
 exact ⟨(hB.setCell Zd _).setCell Zd _, .inl ⟨by rw [HE.o]; exact HZ.o, by rw [HE.o]⟩⟩)) : P := h
theorem Y4 {P : Prop} (h : P := by (
 rw [hz]
 have HZ := bA hz
 clear hz
 have t0 := hT.cell 0
 have t1 := hT.cell 1
 have t2 := hT.cell 2
 have q0 := hQ.cell 0
 have q1 := hQ.cell 1
 have l0 := hL.cell 0
 have l1 := hL.cell 1
 simp only [tmA, Yl] at t0 t1 t2 q0 q1 l0 l1
 have lt' := hT.lt
 have lq := hQ.lt
 have lL := hL.lt
 have HAo := bA (bFI regs Sq (eK l) sc t A1 A2 (iE t l) (iD t l) c1 c2 w6 hnq r1.vals r2.vals HRq.o (rY t l) (rX t l))
 go_wp2_with fail
 refine (HAo.o).mono ?_
 rintro e w7 ⟨v, rfl, hr, hb7⟩
 clear HAo t0 t1 t2 q0 q1 l0 l1 lt' lq lL hT hQ hL r1 r2
 replace hr := hr.mono hB.size
 replace hO := hO.below hb7 hO.lt
 replace hB := hB.trans (hb7.mono hB.size)
 obtain ⟨Ac, cc, ev, _, _⟩ := hr.shape
 subst ev
 obtain ⟨N, hN⟩ := Exq ((dF regs t (iE t l) (iD t l) (eK l)).length)
 rw [← hN] at hr ⊢
 have hnO := hr.ne_blk hO Ze
 have Q := bA ((hr.far (p := ⟨w.heap.size + 1 + 1, 0, none⟩) hnO (.int .i64 (regs + 1))).far (p := ⟨w.heap.size + 1 + 1, 1, none⟩) hnO (.slice Ac N cc))
 clear hb7 hr hnO hN
 refine Kp fun f0 f1 o0 o1 lO => ?_
 go_wp2_with fail
 go_tidy
 refine bodyPost_ret (v := .tuple #[.agg #[.int .i64 (regs + 1), .slice Ac N cc], .int .i64 0]) (by simp [results, results42, go_sem, o0, o1, f0, f1, Vw, Vv]; try rfl) rfl ?_
 exact ⟨(hB.setCell Zd _).setCell Zd _, .inr ⟨by rw [HE.o]; exact HZ.o, _, by rw [HRr.o], by rw [HLl.o]; exact Q.out⟩⟩)) : P := h
theorem bO.far2_is {w W : World} {a base : Nat} {u1 u2 v : Value} {t : TypeId} {ls : List Nd} (e : W = (w.setCell ⟨a, 0, none⟩ u1).setCell ⟨a, 1, none⟩ u2) (h : cO w base t v ls) (n1 : v.ownBlock ≠ some a) : cO W base t v ls := by rw [e]; exact (h.far (p := ⟨a, 0, none⟩) n1 _).far (p := ⟨a, 1, none⟩) n1 _
theorem bKX (regs : Int) (A : Option Addr) (l : List Nd) (cap : Nat) (t : Tm) (w : World) (hA : bH w A l) :
 Calls prog 42 #[.agg #[.int .i64 regs, .slice A l.length cap], .agg #[.int .i64 t.op, .int .i64 t.a, .int .i64 t.b]] w (sL 39 regs l t w) := by (
 have HFE := bA (fun W (hW : Below w.heap.size w W) => iX regs A l cap t W (hA.below hW))
 have HN := bA (fun W (hW : Below w.heap.size w W) => hA.below hW)
 clear hA
 go_enter func42, ntmps42
 go_wp2_with fail
 refine (HFE.o _ Yc).mono ?_
 rintro e w1 ⟨rfl, hb1⟩
 have hz1 := hb1.size
 simp only [World.size_alloc] at hz1
 have hB : Below w.heap.size w w1 := Yc
 have hP : Blk w1 w.heap.size 24 #[.int .i64 regs, .slice A l.length cap] := Blk.below Ye hb1 Zd
 have hT : Blk w1 (w.heap.size + 1) 56 (tmA t) := Blk.below Yg hb1 Zd
 have hO : Blk w1 (w.heap.size + 1 + 1) 24 #[.int .i64 0, .slice none 0 0] := Blk.below Ye hb1 Zd
 clear hb1 hz1
 by_cases h0 : fxE regs l t = 0
 case neg => (
 have hE : gH regs l t = fxE regs l t := by unfold gH; rw [if_pos h0]
 have h0' : (fxE regs l t != 0) = true := by simp [h0]
 have H0 := bA h0
 have HE := bA hE
 clear h0 hE hP hT
 refine Kp fun f0 f1 o0 o1 lO => ?_
 go_wp2_with fail
 go_tidy
 refine bodyPost_ret (v := .tuple #[.agg #[.int .i64 0, .slice none 0 0], .int .i64 (fxE regs l t)]) (by simp [results, results42, go_sem, o0, o1, f0, f1, Vw, Vv]; try rfl) rfl ?_
 exact ⟨(hB.setCell Zd _).setCell Zd _, .inl ⟨by rw [HE.o]; exact H0.o, by rw [HE.o]⟩⟩)
 case pos => (
 have hc0 := mH h0
 have hR := bS hc0
 have hlo := hR.lo
 have hhi := hR.hi
 have htl := sV l
 have hop := bAS h0
 have Hop := bA hop
 have hRt := hR.trim
 have HTr := bA (fun W (hW : Below w.heap.size w W) => xE regs A l cap W (HN.o _ hW) hR)
 have HOw := bA (fun W (hW : Below w.heap.size w W) => kG regs A l cap W (HN.o _ hW) Zb)
 have HRt := bA hRt
 have HC := bA hc0
 have H0 := bA h0
 rw [h0]
 clear hc0 hR hop hRt h0
 refine Kk fun p0 p1 t0 t1 t2 lp lt' => ?_
 go_wp2_with fail
 refine (HTr.o _ hB).mono ?_
 rintro e w2 ⟨v, rfl, hr, hb2⟩
 obtain ⟨Tq, qc, hv, _, _⟩ := hr.shape
 subst hv
 clear p0 p1 t0 t1 t2 lp lt'
 replace hP := hP.below hb2 hP.lt
 replace hT := hT.below hb2 hT.lt
 replace hO := hO.below hb2 hO.lt
 replace hB := hB.trans (hb2.mono hB.size)
 clear hb2
 have hnq := hr.nodes
 clear hr
 have HSp := bA (uN regs Tq (iS l) qc w2 hnq HRt.o)
 go_wp2_with fail
 refine (HSp.o).mono ?_
 rintro e w3 ⟨hb3, h⟩
 replace hP := hP.below hb3 hP.lt
 replace hT := hT.below hb3 hT.lt
 replace hO := hO.below hb3 hO.lt
 replace hB := hB.trans (hb3.mono hB.size)
 clear hb3 HSp hnq
 rcases h with ⟨h256, rfl⟩ | ⟨h256, v, rfl, hr⟩
 · (
 change 256 < (eK l).length at h256
 have hE : gH regs l t = 2 := by unfold gH; rw [if_neg Xv, if_pos h256]
 have HE := bA hE
 clear h256 hE
 go_upto_region 5 with fail
 obtain ⟨W3, hW3⟩ := Exq (w3.alloc (.cells #[.int .i64 0, .slice none 0 0] 24))
 have hbW : Below w3.heap.size w3 W3 := by rw [hW3]; exact (Bnq _ _)
 rw [← hW3]
 replace hO := hO.below hbW hO.lt
 replace hB := hB.trans (hbW.mono hB.size)
 clear hW3 hbW hP hT
 refine Kp fun f0 f1 o0 o1 lO => ?_
 go_wp2_with fail
 go_tidy
 refine bodyPost_ret (v := .tuple #[.agg #[.int .i64 0, .slice none 0 0], .int .i64 2]) (by simp [results, results42, go_sem, o0, o1, f0, f1, Vw, Vv]; try rfl) rfl ?_
 exact ⟨(hB.setCell Zd _).setCell Zd _, .inl ⟨by rw [HE.o]; decide, by rw [HE.o]⟩⟩)
 · (
 change (eK l).length ≤ 256 at h256
 change cO w3 w2.heap.size _ v (eK l) at hr
 have hRq := rE HC.o h256
 have hqlo := hRq.lo
 have HRq := bA hRq
 have h6 : ¬ 256 < (eK l).length := Zb
 have H6 := bA h6
 clear hRq h6
 obtain ⟨Sq, sc, hv, _, _⟩ := hr.shape
 subst hv
 go_upto_region 5 with fail
 obtain ⟨W3, hW3⟩ := Exq (w3.alloc (.cells #[.int .i64 regs, .slice Sq (eK l).length sc] 24))
 have hbW : Below w3.heap.size w3 W3 := by rw [hW3]; exact (Bnq _ _)
 have hQ : Blk W3 w3.heap.size 24 #[.int .i64 regs, .slice Sq (eK l).length sc] := by rw [hW3]; exact Blk.new' rfl
 rw [← hW3]
 replace hP := hP.below hbW hP.lt
 replace hT := hT.below hbW hT.lt
 replace hO := hO.below hbW hO.lt
 replace hr := hr.below' hbW
 replace hB := hB.trans (hbW.mono hB.size)
 clear hW3 hbW
 have hnq := hr.nodes
 clear hr
 refine Kk fun p0 p1 t0 t1 t2 lp lt' => ?_
 have q0 := hQ.cell 0
 have q1 := hQ.cell 1
 have lq := hQ.lt
 simp only [Yl] at q0 q1
 have HLz := bA (bHT regs Sq (eK l) sc t W3 hnq HRq.o)
 go_wp2_with fail
 refine (HLz.o).mono ?_
 rintro e w4 ⟨hb4, F, v1, v2, hF, rfl, r1, r2⟩
 have hFe : F = bNT t (eK l) := hF.unique (bIM _ _)
 subst hFe
 clear hF HLz p0 p1 t0 t1 t2 lp lt' q0 q1 lq
 rw [bNF _ HRq.o Hop.o] at r2
 change Row w4 W3.heap.size _ v1 (bE (iE t l)) at r1
 change Row w4 W3.heap.size _ v2 (bE (iD t l)) at r2
 obtain ⟨A1, c1, e1, _, _⟩ := r1.shape
 rw [bD] at e1
 subst e1
 obtain ⟨A2, c2, e2, _, _⟩ := r2.shape
 rw [bD] at e2
 subst e2
 have hnq := hnq.below hb4
 replace hP := hP.below hb4 hP.lt
 replace hT := hT.below hb4 hT.lt
 replace hO := hO.below hb4 hO.lt
 replace hQ := hQ.below hb4 hQ.lt
 replace hB := hB.trans (hb4.mono hB.size)
 clear hb4
 go_upto_region 8 with fail
 obtain ⟨W4, hW4⟩ := Exq (w4.alloc (.cells #[.slice A1 (iE t l).length c1, .slice A2 (iD t l).length c2] 133))
 have hbW : Below w4.heap.size w4 W4 := by rw [hW4]; exact (Bnq _ _)
 have hL : Blk W4 w4.heap.size 133 #[.slice A1 (iE t l).length c1, .slice A2 (iD t l).length c2] := by rw [hW4]; exact Blk.new' rfl
 rw [← hW4]
 replace hP := hP.below hbW hP.lt
 replace hT := hT.below hbW hT.lt
 replace hO := hO.below hbW hO.lt
 replace hQ := hQ.below hbW hQ.lt
 replace r1 := r1.below' hbW
 replace r2 := r2.below' hbW
 replace hB := hB.trans (hbW.mono hB.size)
 have hnq := hnq.below hbW
 clear hW4 hbW
 have xv := r1.vals
 have yv := r2.vals
 have l0 := hL.cell 0
 have l1 := hL.cell 1
 simp only [Yl] at l0 l1
 have lL := hL.lt
 have HA1 := bA (zS A1 c1 (iE t l) W4 xv (by rw [rY]; simp [maxLen]; omega))
 have HA2 := bA (zS A2 c2 (iD t l) W4 yv (by rw [rX]; simp [maxLen]; omega))
 have han : mN t l = ((iE t l).any id || (iD t l).any id) := by unfold mN; rw [List.any_append]
 obtain ⟨ax, hax⟩ := Exq ((iE t l).any id)
 obtain ⟨ay, hay⟩ := Exq ((iD t l).any id)
 rw [← hax, ← hay] at han
 rw [← hax] at HA1
 rw [← hay] at HA2
 have Han := bA han
 clear han hax hay
 go_wp2_with fail
 refine (HA1.o).mono ?_
 rintro e w5 ⟨rfl, rfl⟩
 cases ax
 case true => (
 refine J5 ?_; clear l0 l1 lL xv yv HA1 HA2; intro HE HRr HLl t0 t1 t2 q0 q1 l0 l1 lt' lq lL
 have HAe := bA (pT regs Sq (eK l) sc t A1 A2 (iE t l) (iD t l) c1 c2 w5 hnq r1.vals r2.vals)
 go_wp2_with fail
 refine (HAe.o).mono ?_
 rintro e w6 ⟨rfl, hb6⟩
 have hnq := hnq.below hb6
 clear HAe t0 t1 t2 q0 q1 l0 l1 lt' lq lL
 replace hT := hT.below hb6 hT.lt
 replace hO := hO.below hb6 hO.lt
 replace hQ := hQ.below hb6 hQ.lt
 replace hL := hL.below hb6 hL.lt
 replace r1 := r1.below' hb6
 replace r2 := r2.below' hb6
 replace hB := hB.trans (hb6.mono hB.size)
 clear hb6 hP
 by_cases hz : apE regs (eK l) t (iE t l) (iD t l) = 0
 case neg => exact Y5
 case pos => exact Y4)
 case false => (
 go_wp2_with fail
 refine (HA2.o).mono ?_
 rintro e w8 ⟨rfl, rfl⟩
 cases ay
 case false => (
 have han : mN t l = false := Han.o
 have hE : gH regs l t = 0 := by unfold gH; rw [if_neg Xv, if_neg H6.o, if_neg (by rw [han]; simp)]
 have hRr : pG regs l t = regs := by unfold pG; rw [if_neg (by rw [han]; simp)]
 have hLl : pH regs l t = l := by unfold pH; rw [if_neg (by rw [han]; simp)]
 have HE := bA hE
 have HRr := bA hRr
 have HLl := bA hLl
 clear hE hRr hLl han l0 l1 lL xv yv hL hQ r1 r2 HA1 HA2 hnq
 refine Kk fun p0 p1 t0 t1 t2 lp lt' => ?_
 go_wp2_with fail
 refine (HOw.o _ hB).mono ?_
 rintro e w6 ⟨v, rfl, hr, hb6⟩
 clear p0 p1 t0 t1 t2 lp lt'
 replace hr := hr.mono hB.size
 replace hO := hO.below hb6 hO.lt
 replace hB := hB.trans (hb6.mono hB.size)
 obtain ⟨Ac, cc, ev, _, _⟩ := hr.shape
 subst ev
 have hnO := hr.ne_blk hO Ze
 have Q := bA ((hr.far (p := ⟨w.heap.size + 1 + 1, 0, none⟩) hnO (.int .i64 regs)).far (p := ⟨w.heap.size + 1 + 1, 1, none⟩) hnO (.slice Ac l.length cc))
 clear hb6 hr hnO
 refine Kp fun f0 f1 o0 o1 lO => ?_
 go_wp2_with fail
 go_tidy
 refine bodyPost_ret (v := .tuple #[.agg #[.int .i64 regs, .slice Ac l.length cc], .int .i64 0]) (by simp [results, results42, go_sem, o0, o1, f0, f1, Vw, Vv]; try rfl) rfl ?_
 exact ⟨(hB.setCell Zd _).setCell Zd _, .inr ⟨HE.o, _, by rw [HRr.o], by rw [HLl.o]; exact Q.out⟩⟩)
 case true => (
 refine J5 ?_; clear l0 l1 lL xv yv HA1 HA2; intro HE HRr HLl t0 t1 t2 q0 q1 l0 l1 lt' lq lL
 have HAe := bA (pT regs Sq (eK l) sc t A1 A2 (iE t l) (iD t l) c1 c2 w8 hnq r1.vals r2.vals)
 go_wp2_with fail
 refine (HAe.o).mono ?_
 rintro e w6 ⟨rfl, hb6⟩
 have hnq := hnq.below hb6
 clear HAe t0 t1 t2 q0 q1 l0 l1 lt' lq lL
 replace hT := hT.below hb6 hT.lt
 replace hO := hO.below hb6 hO.lt
 replace hQ := hQ.below hb6 hQ.lt
 replace hL := hL.below hb6 hL.lt
 replace r1 := r1.below' hb6
 replace r2 := r2.below' hb6
 replace hB := hB.trans (hb6.mono hB.size)
 clear hb6 hP
 by_cases hz : apE regs (eK l) t (iE t l) (iD t l) = 0
 case neg => exact Y5
 case pos => exact Y4)))))
end
section
open Go.RowKit
attribute [local irreducible] Row madeCells bO
theorem bLC (regs : Int) (A : Option Addr) (l : List Nd) (cap : Nat) (w : World) (hl : l.length ≤ maxLen) (hA : bH w A l) :
 Calls prog 17 #[.agg #[.int .i64 regs, .slice A l.length cap]] w (bIW 39 regs l w) := by (
 have HCk := bA (fun W (hW : Below w.heap.size w W) => jU regs A l cap W (hA.below hW))
 have HN := bA (fun W (hW : Below w.heap.size w W) => hA.below hW)
 clear hA
 go_enter func17, ntmps17
 go_wp2_with fail
 refine (HCk.o _ Yc).mono ?_
 rintro e w1 ⟨rfl, hb1⟩
 refine K0 fun hz1 hB hP hO => ?_
 clear hb1
 by_cases hc : chk regs l = 0
 case neg => (
 have hE : mW regs l = chk regs l := by unfold mW; rw [if_pos hc]
 have hc' : (chk regs l != 0) = true := by simp [hc]
 have H0 := bA hc
 have HE := bA hE
 clear hc hE hP
 refine Kp fun f0 f1 o0 o1 lO => ?_
 go_wp2_with fail
 go_tidy
 refine bodyPost_ret (v := .tuple #[.agg #[.int .i64 0, .slice none 0 0], .int .i64 (chk regs l)]) (by simp [results, results17, go_sem, o0, o1, f0, f1, Vw, Vv]; try rfl) rfl ?_
 exact ⟨(hB.setCell Zd _).setCell Zd _, .inl ⟨by rw [HE.o]; exact H0.o, by rw [HE.o]⟩⟩)
 case pos => (
 have hR := bS hc
 have hlo := hR.lo
 have hhi := hR.hi
 have hE : mW regs l = (gM (tR l) regs l).1 := by unfold mW; rw [if_neg (by simp [hc])]
 have HE := bA hE
 rw [hc]
 have HTm := bA (fun W (hW : Below w.heap.size w W) => bEW regs A l cap W hhi (HN.o _ hW))
 have HOw := bA (fun W (hW : Below w.heap.size w W) => kG regs A l cap W (HN.o _ hW) Zb)
 clear hc hR hE
 refine Wl fun p0 p1 => ?_
 have lp := hP.lt
 go_wp2_with fail
 refine (HTm.o _ hB).mono ?_
 rintro e w2 ⟨hb2, v, rfl, hr⟩
 clear p0 p1 lp
 replace hP := hP.below hb2 hP.lt
 replace hO := hO.below hb2 hO.lt
 replace hB := hB.trans (hb2.mono hB.size)
 clear hb2
 obtain ⟨ts, hts⟩ := Exq (tR l)
 change bEX w2 w1.heap.size _ v (tR l) at hr
 rw [← hts] at hr
 have htl : ts.length ≤ 256 := by rw [hts]; exact Nat.le_trans (nC l l.length) hhi
 have Hts := bA hts
 obtain ⟨Tv, tc, ev, _, _⟩ := hr.shape
 subst ev
 have hTs := hr.nodes
 clear hts hr
 refine Wl fun p0 p1 => ?_
 have lp := hP.lt
 go_wp2_with fail
 refine (HOw.o _ hB).mono ?_
 rintro e w3 ⟨v, rfl, hr, hb3⟩
 clear p0 p1 lp
 replace hr := hr.mono hB.size
 replace hTs := hTs.below hb3
 replace hP := hP.below hb3 hP.lt
 replace hO := hO.below hb3 hO.lt
 replace hB := hB.trans (hb3.mono hB.size)
 clear hb3
 obtain ⟨Cv, cc, ev, _, _⟩ := hr.shape
 subst ev
 go_upto_region 6 with fail
 obtain ⟨W2, hW2⟩ := Exq (w3.alloc (.cells #[.int .i64 regs, .slice Cv l.length cc] 24))
 have hS2 : yK w3 w.heap.size w3.heap.size regs (.slice Cv l.length cc) l W2 := by rw [hW2]; exact ⟨Blk.new' rfl, hr.alloc _, (Bnq _ _), Nat.le_refl _⟩
 rw [← hW2]
 obtain ⟨qb, hqb⟩ := Exq w3.heap.size
 rw [← hqb] at hS2 ⊢
 have HS2 := bA hS2
 have HO := bA hO
 have HB := bA hB
 have HTs := bA hTs
 have lo0 := hO.lt
 have hbw := hB.size
 clear hr hP hO hB hTs hW2 hqb hS2
 go_wp2_with fail
 go_loopg [7] (ts.length) (fun gk i wr => ∃ (k : Nat) (r : Int) (v : Value) (ls : List Nd), k ≤ ts.length ∧ i = .int .i64 k ∧ gk = ts.length - k ∧ gM (ts.drop k) r ls = gM ts regs l ∧ yK w3 w.heap.size qb r v ls wr)
 case atStart => exact ⟨0, _, _, _, Nat.zero_le _, rfl, rfl, rfl, HS2.o⟩
 case round => (
 clear HS2
 obtain ⟨k, r, v, ls, hk, rfl, hgk, hgo, hS⟩ := hrel
 have Hgk := bA hgk
 have Hgo := bA hgo
 clear hgk hgo
 have hwz := hS.below.size
 have hlq := hS.box.lt
 have hlow := hS.low
 obtain ⟨Lv, lc, ev, hm1, hm2⟩ := hS.row.shape
 subst ev
 have hlm : ls.length ≤ maxLen := Nat.le_trans hm1 hm2
 by_cases hlt : k < ts.length
 · (
 obtain ⟨tb, tof, tm, rfl, htb, htk, c0, c1, c2⟩ := HTs.o.get hlt
 refine Ki ?_; clear c0 c1 c2 htk; intro Htk hlt1 c0 c1 c2 u0 u1 q0 q1
 have hqt : ¬ (tb = qb) := Zb
 have HS := bA hS
 clear hS
 go_upto_region 10 with fail
 clear q0 q1
 have HH : ∀ (V : World), Below wr.heap.size wr V → (V.cell? ⟨tb, tof + k * 3, none⟩ = some (.int .i64 tm.op) ∧ V.cell? ⟨tb, tof + k * 3 + 1, none⟩ = some (.int .i64 tm.a) ∧ V.cell? ⟨tb, tof + k * 3 + 2, none⟩ = some (.int .i64 tm.b)) := fun V hV => ⟨((bB hV).1 _ _ Zb).trans c0, ((bB hV).1 _ _ Zb).trans c1, ((bB hV).1 _ _ Zb).trans c2⟩
 refine wp_region_held_drew (S := fun w' => (w'.cell? ⟨tb, tof + k * 3, none⟩ = some (.int .i64 tm.op) ∧ w'.cell? ⟨tb, tof + k * 3 + 1, none⟩ = some (.int .i64 tm.a) ∧ w'.cell? ⟨tb, tof + k * 3 + 2, none⟩ = some (.int .i64 tm.b))) Zc ⟨c0, c1, c2⟩ ?_
 intro hH
 have hC0 : Below wr.heap.size wr wr.drew := (Below.refl _ _).drew
 generalize wr.drew = V0 at hH hC0 ⊢
 refine Up (fun _ _ _ _ _ => id) fun hP => ?_
 refine Vc 1 _ rfl hP hH ?_
 try simp only [Nm]
 refine Vc 2 _ rfl hP hH ?_
 try simp only [Nm]
 refine Vc 3 _ rfl hP hH ?_
 try simp only [Nm]
 refine Vb 4 _ rfl hP hH ?_
 try simp only [Nm]
 refine Rd 0 Zc rfl (fun K hK => ?_)
 have HK0 := bA hK
 clear hK
 have hS0 := HS.o.later hC0
 have q0 := hS0.box.cell 0
 have q1 := hS0.box.cell 1
 simp only [Yl] at q0 q1
 go_simp
 clear q0 q1 hS0 hH
 refine Shut.out HK0.o _ _ (HH _ hC0) (fun hH => ?_)
 try simp only [Nm]
 clear HK0
 refine Rd 5 Zc rfl (fun K hK => ?_)
 have HK5 := bA hK
 clear hK
 go_simp
 go_at_call 42
 refine (bKX r Lv ls lc tm V0 ((HS.o.later hC0).row.nodes)).mono ?_
 rintro e V1 ⟨hbV1, h⟩
 have hC1 : Below wr.heap.size wr V1 := hC0.trans (hbV1.mono hC0.size)
 clear hH
 have hstep := xD Htk.o r ls
 have hS4 := HS.o.later hC1
 have q0 := hS4.box.cell 0
 have q1 := hS4.box.cell 1
 have fq0 := hS4.box.frozen 0
 have fq1 := hS4.box.frozen 1
 simp only [Yl] at q0 q1
 have lq := hS4.box.lt
 have hO := HO.o.below hS4.below lo0
 refine Kp fun f0 f1 o0 o1 lO => ?_
 have HS4 := bA hS4
 clear hS4 hO
 rcases h with ⟨hne, rfl⟩ | ⟨h0, v', rfl, hr⟩
 · (
 refine Shut.out HK5.o _ _ (HH _ hC1) (fun hH => ?_)
 try simp only [Nm]
 clear HK5
 refine Vc 6 _ rfl hP hH ?_
 try simp only [Nm]
 refine Vc 7 _ rfl hP hH ?_
 try simp only [Nm]
 refine Vc 8 _ rfl hP hH ?_
 try simp only [Nm]
 refine Rd 9 Zc rfl (fun K hK => ?_)
 have HK9 := bA hK
 clear hK
 go_simp
 refine Shut.out HK9.o _ _ ⟨(bL Zb _ _).trans ((bL Zb _ _).trans (((bB hC1).1 _ _ Zb).trans c0)), (bL Zb _ _).trans ((bL Zb _ _).trans (((bB hC1).1 _ _ Zb).trans c1)), (bL Zb _ _).trans ((bL Zb _ _).trans (((bB hC1).1 _ _ Zb).trans c2))⟩ (fun hH => ?_)
 try simp only [Nm]
 clear HK9
 refine Vc 10 _ rfl hP hH ?_
 try simp only [Nm]
 refine wpAnyH_done Zc ?_ _
 rw [if_pos hne] at hstep
 have hne' : (gH r ls tm != 0) = true := by simp [hne]
 have hE : mW regs l = gH r ls tm := by rw [HE.o, ← Hts.o, ← Hgo.o, hstep]
 have Hne := bA hne
 have HE2 := bA hE
 have hB := HB.o.trans (HS4.o.below.mono hbw)
 have hB4 := hB.size
 clear hne hstep hE hH c0 c1 c2
 go_wp2_with fail
 go_tidy
 refine bodyPost_ret (v := .tuple #[.agg #[.int .i64 0, .slice none 0 0], .int .i64 (gH r ls tm)]) (by simp [results, results17, go_sem, o0, o1, f0, f1, Vw, Vv]; try rfl) rfl ?_
 exact ⟨(((hB.setCell Zd _).setCell Zd _).setCell Zd _).setCell Zd _, .inl ⟨by rw [HE2.o]; exact Hne.o, by rw [HE2.o]⟩⟩)
 · (
 replace hr := hr.mono (base' := w.heap.size) (by have := hC0.size; omega)
 obtain ⟨Rv, rc, ev, _, _⟩ := hr.shape
 subst ev
 refine Shut.out HK5.o _ _ (HH _ hC1) (fun hH => ?_)
 try simp only [Nm]
 clear HK5
 refine Vc 6 _ rfl hP hH ?_
 try simp only [Nm]
 refine Vc 7 _ rfl hP hH ?_
 try simp only [Nm]
 refine Vc 8 _ rfl hP hH ?_
 try simp only [Nm]
 refine Rd 9 Zc rfl (fun K hK => ?_)
 have HK9 := bA hK
 clear hK
 go_simp
 refine Shut.out HK9.o _ _ ⟨(bL Zb _ _).trans ((bL Zb _ _).trans (((bB hC1).1 _ _ Zb).trans c0)), (bL Zb _ _).trans ((bL Zb _ _).trans (((bB hC1).1 _ _ Zb).trans c1)), (bL Zb _ _).trans ((bL Zb _ _).trans (((bB hC1).1 _ _ Zb).trans c2))⟩ (fun hH => ?_)
 try simp only [Nm]
 clear HK9
 refine Vc 10 _ rfl hP hH ?_
 try simp only [Nm]
 refine wpAnyH_done Zc ?_ _
 rw [if_neg (by simp [h0])] at hstep
 have hS5 := HS.o.put (r' := pG r ls tm) hC1 hr
 obtain ⟨r2, hr2⟩ := Exq (pG r ls tm)
 obtain ⟨l2, hl2⟩ := Exq (pH r ls tm)
 rw [← hr2, ← hl2] at hstep hS5
 rw [← hl2] at hr
 rw [← hr2, ← hl2]
 rw [Hgo.o] at hstep
 have HS5 := bA hS5
 have Hst := bA hstep
 clear hstep hS5 hr2 hl2 hr h0 o0 o1 f0 f1 lO hbV1 hH
 go_wp2_with fail
 go_roundg (ts.length - (k + 1))
 case measure => exact Jg
 case rel => exact ⟨k + 1, _, _, _, Zb, by go_num, rfl, Hst.o.symm, HS5.o⟩))
 · (
 have hkk : k = ts.length := Zb
 subst hkk
 refine J4 fun HE2 Hgo2 q0 q1 Q f0 f1 o0 o1 lO HBf => ?_; clear hS
 go_wp2_with fail
 go_tidy
 refine bodyPost_ret (v := .tuple #[.agg #[.int .i64 r, .slice Lv ls.length lc], .int .i64 0]) (by simp [results, results17, go_sem, q0, q1, o0, o1, f0, f1, Vw, Vv]; try rfl) rfl ?_
 exact ⟨(HBf.o.setCell Zd _).setCell Zd _, .inr ⟨HE2.o, _, by rw [Hgo2.o], by rw [Hgo2.o]; exact Q.out⟩⟩))))
end
section
open Go.RowKit
attribute [local irreducible] Row madeCells bO
theorem Y7 {P : Prop} (h : P := by (
 subst hc0
 go_wp2_with fail
 go_roundg (ns.length - (k + 1))
 case measure => exact Jg
 case rel => exact ⟨k + 1, r', l', _, Zb, by go_num, rfl, hQ7, hN7.out, hZ7, hB7, Hpi.o.right HR1.o, fun c r2 l2 h => Hps.o c r2 l2 (jJ Hn.o Hpi.o h)⟩)) : P := h
theorem Y6 {P : Prop} (h : P := by (
 have hne : (c != 0) = true := by simp [hc0]
 refine Kj fun Hc0 zf0 zf1 lZ z0 z1 => ?_; clear hc0
 go_wp2_with fail
 refine bodyPost_ret (v := .tuple #[.agg #[.int .i64 0, .slice none 0 0], .int .i64 c]) (by simp [results, results5, go_sem, z0, z1, zf0, zf1, Vw, Vv]; try rfl) rfl ⟨_, 0, [], _, rfl, ?_, bO.nil_ _ _ _, ?_⟩
 rotate_left
 · exact Jr
 obtain ⟨e1, e2⟩ := Hpi.o.no Hc0.o
 exact .inr (.inr (.inr ⟨Hc.o, Zb, Hin.o, Hps.o _ _ _ (pN Hn.o Z0 Hc0.o)⟩)))) : P := h
def zV (n r : Int) (l : List Nd) (w : World) (e : Ending) (w' : World) : Prop :=
 ∃ (r' : Int) (l' : List Nd) (v : Value), e = .returned (.agg #[.int .i64 r', v]) ∧ iN n r l 0 r' l' ∧ cO w' w.heap.size 39 v l' ∧ Below w.heap.size w w'
theorem bJK (r : Int) (A : Option Addr) (l : List Nd) (cap : Nat) (w : World) (hA : bH w A l) (hR : bM r l) :
 Calls prog 16 #[.agg #[.int .i64 r, .slice A l.length cap]] w (xJ 1 r l w) := by (
 refine (uN r A l cap w hA hR).mono ?_
 rintro e w' ⟨hb, ⟨h1, rfl⟩ | ⟨h1, v, rfl, hN⟩⟩
 · exact Jo
 · exact ⟨0, r, _, v, rfl, .inl ⟨rfl, .inr ⟨h1, rfl, rfl, rfl⟩⟩, hN, hb⟩)
theorem bPD (r : Int) (A : Option Addr) (l : List Nd) (cap : Nat) (w : World) (hA : bH w A l) (hR : bM r l) :
 Calls prog 17 #[.agg #[.int .i64 r, .slice A l.length cap]] w (xJ 2 r l w) := by (
 refine (bLC r A l cap w (by have := hR.hi; unfold maxLen; omega) hA).mono ?_
 rintro e w' ⟨hb, ⟨h1, rfl⟩ | ⟨h1, v, rfl, hN⟩⟩
 · exact Jp
 · exact ⟨0, _, _, v, rfl, .inr (.inl ⟨rfl, .inr ⟨h1, rfl, rfl, rfl⟩⟩), hN, hb⟩)
theorem bMN (r : Int) (A : Option Addr) (l : List Nd) (cap : Nat) (w : World) (hA : bH w A l) (hR : bM r l) :
 Calls prog 18 #[.agg #[.int .i64 r, .slice A l.length cap]] w (zV 3 r l w) := by (
 refine (bHX r A l cap w hA hR).mono ?_
 rintro e w' ⟨v, l', rfl, hd, _, hN, hb⟩
 exact ⟨r, l', v, rfl, .inr (.inr (.inl ⟨rfl, rfl, rfl, hd⟩)), hN, hb⟩)
theorem bMM (r : Int) (A : Option Addr) (l : List Nd) (cap : Nat) (w : World) (hA : bH w A l) (hR : bM r l) :
 Calls prog 19 #[.agg #[.int .i64 r, .slice A l.length cap]] w (zV 4 r l w) := by (
 refine (xE r A l cap w hA hR).mono ?_
 rintro e w' ⟨v, rfl, hN, hb⟩
 exact ⟨r, _, v, rfl, .inr (.inr (.inr ⟨rfl, rfl, rfl, rfl⟩)), hN, hb⟩)
theorem in14 {n : Int} (h : 1 ≤ n ∧ n ≤ 4) : inB n 1 4 = true := by (
 unfold inB
 rw [decide_eq_true h.1, decide_eq_true h.2]; rfl)
theorem out14 {n : Int} (h : ¬ (1 ≤ n ∧ n ≤ 4)) : inB n 1 4 = false := by (
 unfold inB
 rw [Bool.and_eq_false_iff]
 by_cases h1 : 1 ≤ n
 · exact .inr (decide_eq_false fun h2 => h ⟨h1, h2⟩)
 · exact .inl (decide_eq_false h1))
theorem sJ (regs : Int) (A : Option Addr) (l : List Nd) (cap : Nat) (S : Option Addr) (ns : List Int) (ci : Nat) (w : World) (hA : bH w A l) (hI : bG w S (bN ns)) (hnl : ns.length ≤ maxLen) :
 Calls prog 5 #[.agg #[.int .i64 regs, .slice A l.length cap], .slice S ns.length ci] w (xI regs l ns w) := by (
 unfold maxLen at hnl
 have HC := fun W (hb : Below w.heap.size w W) => bA (jU regs A l cap W (hA.below hb))
 refine Wk fun hB0 hP0 hZ0 => ?_
 go_enter func5, ntmps5
 go_wp2_with fail
 refine Calls.mono (HC _ hB0).out ?_
 rintro e w1 ⟨rfl, hb1⟩
 have hP1 := hP0.below hb1 hP0.lt
 have hZ1 := hZ0.below hb1 hZ0.lt
 have hB1 := hB0.trans (hb1.mono hB0.size)
 clear hP0 hZ0 hB0 hb1 HC
 by_cases hc : chk regs l = 0
 · (
 rw [hc]
 have hR := bS hc
 by_cases h16 : 16 < ns.length
 · (
 have d1 : decide ((ns.length : Int) > 16) = true := decide_eq_true Zb
 refine Ks fun zf0 zf1 lZ z0 z1 => ?_
 go_wp2_with fail
 refine bodyPost_ret (v := .tuple #[.agg #[.int .i64 0, .slice none 0 0], .int .i64 2]) (by simp [results, results5, go_sem, z0, z1, zf0, zf1, Vw, Vv]; try rfl) rfl ⟨_, 0, [], _, rfl, ?_, bO.nil_ _ _ _, ?_⟩
 rotate_left
 · exact Jq
 exact .inr (.inl ⟨hc, h16, rfl, rfl, rfl⟩))
 · (
 have d1 : decide ((ns.length : Int) > 16) = false := decide_eq_false Zb
 have Hc := bA hc
 have HR := bA hR
 clear hc hR
 go_wp2_with fail
 go_loopg [7] (ns.length) (fun gk i wr => ∃ k : Nat, k ≤ ns.length ∧ i = .int .i64 k ∧ gk = ns.length - k ∧ (∀ j n, j < k → ns[j]? = some n → 1 ≤ n ∧ n ≤ 4) ∧ Blk wr w.heap.size 24 #[.int .i64 regs, .slice A l.length cap] ∧ Blk wr (w.heap.size + 1) 24 #[.int .i64 0, .slice none 0 0] ∧ Below w.heap.size w wr)
 case atStart => exact ⟨0, Zb, rfl, Zb, (fun j n hj => absurd hj Zb), hP1, hZ1, hB1⟩
 case round => (
 clear hP1 hZ1 hB1
 obtain ⟨k, hk, rfl, hgk, hall, hP, hZ, hB⟩ := hrel
 have Hgk := bA hgk
 have Hall := bA hall
 clear hgk hall
 by_cases hlt : k < ns.length
 · (
 obtain ⟨n, hn⟩ : ∃ n, ns[k]? = some n := ⟨_, Vx hlt⟩
 obtain ⟨b0, o0, hS, hb0, hv0⟩ := hI Zu
 subst hS
 have hck : wr.cell? ⟨b0, o0 + k, none⟩ = some (.int .i64 n) := (hB.cell (p := ⟨b0, o0 + k, none⟩) hb0).trans (hv0 k _ Z8)
 have Hn := bA hn
 have Hv := bA hv0
 obtain ⟨k0, k1⟩ := Ikq (k := k) (n := ns.length) (by omega)
 clear hn hv0
 by_cases h14 : 1 ≤ n ∧ n ≤ 4
 · (
 have e14 := bA (in14 h14)
 have H14 := bA h14
 clear h14
 go_wp2_with fail
 refine Calls.mono (dZ n 1 4 _) ?_
 rw [e14.out]
 rintro e w2 ⟨rfl, rfl⟩
 go_wp2_with fail
 go_roundg (ns.length - (k + 1))
 case measure => exact Jg
 case rel => exact ⟨k + 1, Zb, by go_num, rfl, (fun j m hj hm => (Nat.lt_or_eq_of_le (Nat.lt_succ_iff.1 hj)).elim (fun h => Hall.o j m h hm) (fun h => by rw [h, Hn.o] at hm; cases hm; exact H14.o)), hP, hZ, hB⟩)
 · (
 have e14 := bA (out14 h14)
 have H14 := bA h14
 clear h14
 go_wp2_with fail
 refine Calls.mono (dZ n 1 4 _) ?_
 rw [e14.out]
 rintro e w2 ⟨rfl, rfl⟩
 have z0 := hZ.cell 0
 have z1 := hZ.cell 1
 have zf0 := hZ.frozen 0
 have zf1 := hZ.frozen 1
 have lZ := hZ.lt
 simp only [Yl] at z0 z1
 go_wp2_with fail
 refine bodyPost_ret (v := .tuple #[.agg #[.int .i64 0, .slice none 0 0], .int .i64 4]) (by simp [results, results5, go_sem, z0, z1, zf0, zf1, Vw, Vv]; try rfl) rfl ⟨_, 0, [], _, rfl, ?_, bO.nil_ _ _ _, ?_⟩
 rotate_left
 · exact (hB.setCell Zf _).setCell Zf _
 exact .inr (.inr (.inl ⟨Hc.o, Zb, ⟨n, V4 Hn.o, H14.o⟩, rfl, rfl, rfl⟩))))
 · (
 obtain rfl : k = ns.length := Zb
 have hall : ∀ n ∈ ns, 1 ≤ n ∧ n ≤ 4 := fun n hn => by (
 obtain ⟨j, hj, e⟩ := List.getElem_of_mem hn
 exact Hall.o j n hj Xy)
 have Hin := bA hall
 clear hall Hall
 have HOw := bA (fun W (hW : Below w.heap.size w W) => kG regs A l cap W (hA.below hW) (by have := HR.o.hi; omega))
 have lp := hP.lt
 have lz := hZ.lt
 refine Wl fun p0 p1 => ?_
 go_wp2_with fail
 refine Calls.mono (HOw.o _ hB) ?_
 rintro e w2 ⟨v, rfl, hN, hb2⟩
 replace hN := hN.mono hB.size
 obtain ⟨A2, c2, rfl, _, _⟩ := hN.shape
 replace hZ := hZ.below hb2 hZ.lt
 replace hB := hB.trans (hb2.mono hB.size)
 clear p0 p1 lp lz hP hb2 HOw
 go_upto_region 12 with fail
 have hz2 := hB.size
 have lz2 := hZ.lt
 obtain ⟨W2, hW2⟩ := Exq (w2.alloc (.cells #[.int .i64 regs, .slice A2 l.length c2] 24))
 have hQ : Blk W2 w2.heap.size 24 #[.int .i64 regs, .slice A2 l.length c2] := by rw [hW2]; exact Blk.new' rfl
 replace hN : cO W2 w.heap.size 39 (.slice A2 l.length c2) l := by rw [hW2]; exact hN.alloc _
 replace hZ : Blk W2 (w.heap.size + 1) 24 #[.int .i64 0, .slice none 0 0] := by rw [hW2]; exact hZ.alloc _
 replace hB : Below w.heap.size w W2 := by rw [hW2]; exact hB.alloc hB.size _
 rw [← hW2]
 obtain ⟨GQ, hGQ, hGQ2⟩ : ∃ b, b = w2.heap.size ∧ w.heap.size + 2 ≤ b := ⟨_, rfl, Zb⟩
 rw [← hGQ] at hQ ⊢
 clear hW2 hGQ hz2 lz2
 go_wp2_with fail
 go_loopg [9] (ns.length) (fun gk i wr => ∃ (k : Nat) (r1 : Int) (l1 : List Nd) (v : Value), k ≤ ns.length ∧ i = .int .i64 k ∧ gk = ns.length - k ∧ Blk wr GQ 24 #[.int .i64 r1, v] ∧ cO wr w.heap.size 39 v l1 ∧ Blk wr (w.heap.size + 1) 24 #[.int .i64 0, .slice none 0 0] ∧ Below w.heap.size w wr ∧ bM r1 l1 ∧ (∀ c r2 l2, Psq (ns.drop k) r1 l1 c r2 l2 → Psq ns regs l c r2 l2))
 case atStart => exact ⟨0, regs, l, _, Zb, rfl, rfl, hQ, hN, hZ, hB, HR.o, fun c r2 l2 h => h⟩
 case round => (
 clear hQ hN hZ hB
 obtain ⟨k, r1, l1, v, hk, rfl, hgk, hQ, hN, hZ, hB, hR1, hps⟩ := hrel
 have Hgk := bA hgk
 have HR1 := bA hR1
 have Hps := bA hps
 clear hgk hR1 hps
 obtain ⟨A1, c1, rfl, _, _⟩ := hN.shape
 by_cases hlt : k < ns.length
 · (
 obtain ⟨n, hn⟩ : ∃ n, ns[k]? = some n := ⟨_, Vx hlt⟩
 obtain ⟨b0, o0, hS, hb0, hv0⟩ := hI Zu
 subst hS
 have hck : wr.cell? ⟨b0, o0 + k, none⟩ = some (.int .i64 n) := (hB.cell (p := ⟨b0, o0 + k, none⟩) hb0).trans (hv0 k _ Z8)
 have h14 := Hin.o n (V4 hn)
 have Hn := bA hn
 have Hv := bA hv0
 have hnd := hN.nodes
 obtain ⟨k0, k1⟩ := Ikq (k := k) (n := ns.length) (by omega)
 have q0 := hQ.cell 0
 have q1 := hQ.cell 1
 have lq := hQ.lt
 have hz := hB.size
 simp only [Yl] at q0 q1
 clear hn hv0 hN
 have h14' := bA h14
 clear h14
 rcases n4 h14'.out with rfl | rfl | rfl | rfl
 · (
 skip
 have HCk := bA (bJK r1 A1 l1 c1 wr hnd HR1.o)
 clear hnd
 go_wp2_with fail
 refine Calls.mono HCk.o ?_
 rintro e w6 ⟨c, r', l', v', rfl, hpi, hN6, hb6⟩
 obtain ⟨A6, c6, rfl, _, _⟩ := hN6.shape
 refine Kd ?_; clear q0 q1 hZ hN6 hpi HCk; intro qf0 qf1 q0 q1 hZ7 hB7 hQ7 hN7 Hpi lq6
 by_cases hc0 : c = 0
 · exact Y7
 · exact Y6)
 · (
 skip
 have HCk := bA (bPD r1 A1 l1 c1 wr hnd HR1.o)
 clear hnd
 go_wp2_with fail
 refine Calls.mono HCk.o ?_
 rintro e w6 ⟨c, r', l', v', rfl, hpi, hN6, hb6⟩
 obtain ⟨A6, c6, rfl, _, _⟩ := hN6.shape
 refine Kd ?_; clear q0 q1 hZ hN6 hpi HCk; intro qf0 qf1 q0 q1 hZ7 hB7 hQ7 hN7 Hpi lq6
 by_cases hc0 : c = 0
 · exact Y7
 · exact Y6)
 · (
 skip
 have HCk := bA (bMN r1 A1 l1 c1 wr hnd HR1.o)
 clear hnd
 go_wp2_with fail
 refine Calls.mono HCk.o ?_
 rintro e w6 ⟨r', l', v', rfl, hpi, hN6, hb6⟩
 obtain ⟨A6, c6, rfl, _, _⟩ := hN6.shape
 refine Kd ?_; clear q0 q1 hZ hN6 hpi HCk; intro qf0 qf1 q0 q1 hZ7 hB7 hQ7 hN7 Hpi lq6
 go_wp2_with fail
 go_roundg (ns.length - (k + 1))
 case measure => exact Jg
 case rel => exact ⟨k + 1, r', l', _, Zb, by go_num, rfl, hQ7, hN7.out, hZ7, hB7, Hpi.o.right HR1.o, fun c r2 l2 h => Hps.o c r2 l2 (jJ Hn.o Hpi.o h)⟩)
 · (
 skip
 have HCk := bA (bMM r1 A1 l1 c1 wr hnd HR1.o)
 clear hnd
 go_wp2_with fail
 refine Calls.mono HCk.o ?_
 rintro e w6 ⟨r', l', v', rfl, hpi, hN6, hb6⟩
 obtain ⟨A6, c6, rfl, _, _⟩ := hN6.shape
 refine Kd ?_; clear q0 q1 hZ hN6 hpi HCk; intro qf0 qf1 q0 q1 hZ7 hB7 hQ7 hN7 Hpi lq6
 go_wp2_with fail
 go_roundg (ns.length - (k + 1))
 case measure => exact Jg
 case rel => exact ⟨k + 1, r', l', _, Zb, by go_num, rfl, hQ7, hN7.out, hZ7, hB7, Hpi.o.right HR1.o, fun c r2 l2 h => Hps.o c r2 l2 (jJ Hn.o Hpi.o h)⟩))
 · (
 obtain rfl : k = ns.length := Zb
 have q0 := hQ.cell 0
 have q1 := hQ.cell 1
 have z0 := hZ.cell 0
 have z1 := hZ.cell 1
 have zf0 := hZ.frozen 0
 have zf1 := hZ.frozen 1
 have lz := hZ.lt
 have hNz := bA (hN.ne_blk hZ Ze)
 simp only [Yl] at q0 q1 z0 z1
 clear hZ
 go_wp2_with fail
 refine bodyPost_ret (v := .tuple #[.agg #[.int .i64 r1, .slice A1 l1.length c1], .int .i64 0]) (by simp [results, results5, go_sem, z0, z1, zf0, zf1, Vw, Vv]; try rfl) rfl ⟨0, r1, l1, _, rfl, .inr (.inr (.inr ⟨Hc.o, Zb, Hin.o, Hps.o _ _ _ (by rw [List.drop_length]; exact .nil)⟩)), (hN.far hNz.out _).far hNz.out _, (hB.setCell Zf _).setCell Zf _⟩))))))
 · (
 have hn0 : (chk regs l != 0) = true := by simp [hc]
 have Hc := bA hc
 clear hc
 generalize hgz : chk regs l = cz at *
 have Hgz := bA hgz
 clear hgz
 refine Ks fun zf0 zf1 lZ z0 z1 => ?_
 go_wp2_with fail
 refine bodyPost_ret (v := .tuple #[.agg #[.int .i64 0, .slice none 0 0], .int .i64 cz]) (by simp [results, results5, go_sem, z0, z1, zf0, zf1, Vw, Vv]; try rfl) rfl ⟨_, 0, [], _, rfl, ?_, bO.nil_ _ _ _, ?_⟩
 rotate_left
 · exact Jq
 exact .inl ⟨by rw [Hgz.o]; exact Hc.o, Hgz.o.symm, rfl, rfl⟩))
end
section
open Go.Lib
/-! numbers -/
theorem qF {i : Nat} (h : i < 10) : (UInt8.ofNat (48 + i)).toNat = 48 + i := by
 rw [UInt8.toNat_ofNat']
 omega
theorem iP {u : Nat} (h : u < 10) : decDigits u = [UInt8.ofNat (48 + u)] := by rw [decDigits, dif_pos h]
theorem qG {u : Nat} (h : ¬ u < 10) : decDigits u = decDigits (u / 10) ++ [UInt8.ofNat (48 + u % 10)] := by
 conv => lhs; rw [decDigits]
 rw [dif_neg h]
theorem gU (u : Nat) : ∀ b ∈ decDigits u, 48 ≤ b.toNat ∧ b.toNat ≤ 57 := by
 induction u using Nat.strongRecOn with
 | _ u ih =>
  intro b hb
  by_cases h : u < 10
  ·rw [iP h] at hb
   have : b = UInt8.ofNat (48 + u) := by simpa using hb
   rw [this, qF h]; omega
  ·rw [qG h] at hb
   rcases List.mem_append.1 hb with e | e
   ·exact ih (u / 10) Zb b e
   ·have : b = UInt8.ofNat (48 + u % 10) := by simpa using e
    rw [this, qF Zb]; omega
theorem bAV (u : Nat) : decDigits u ≠ [] := by
 by_cases h : u < 10
 ·rw [iP h]; simp
 ·rw [qG h]; simp
def kH : Nat → List UInt8 → Nat
 | acc, [] => acc
 | acc, b :: r => kH (acc * 10 + (b.toNat - 48)) r
theorem uJ (l : List UInt8) (b : UInt8) : ∀ acc, kH acc (l ++ [b]) = kH acc l * 10 + (b.toNat - 48) := by
 induction l with
 | nil => intro acc; rfl
 | cons a l ih => intro acc; exact ih _
theorem lY (u : Nat) : kH 0 (decDigits u) = u := by
 induction u using Nat.strongRecOn with
 | _ u ih =>
  by_cases h : u < 10
  ·rw [iP h]
   show 0 * 10 + ((UInt8.ofNat (48 + u)).toNat - 48) = u
   rw [qF h]; omega
  ·rw [qG h, uJ, ih (u / 10) Zb, qF Zb]
   omega
theorem zO (l : List UInt8) : ∀ acc, acc ≤ kH acc l := by
 induction l with
 | nil => intro acc; exact Nat.le_refl _
 | cons b l ih => intro acc; exact Nat.le_trans Zb (ih (acc * 10 + (b.toNat - 48)))
theorem bJO (l : List UInt8) : ∀ acc, (∀ b ∈ l, 48 ≤ b.toNat ∧ b.toNat ≤ 57) → kH acc l < 18446744073709551616 → parseUint10 acc l = .ok (kH acc l) := by
 induction l with
 | nil => intro acc _ _; rfl
 | cons b l ih =>
  intro acc hb hv
  have h1 := hb b Zf
  have h2 := zO l (acc * 10 + (b.toNat - 48))
  have hv' : kH (acc * 10 + (b.toNat - 48)) l < 18446744073709551616 := hv
  rw [parseUint10, if_pos h1, if_neg Zb, if_neg Zb]
  exact ih _ (fun c hc => hb c (by simp [hc])) hv
theorem bGS (n : Int) : ∀ b ∈ itoa n, b.toNat = 45 ∨ 48 ≤ b.toNat ∧ b.toNat ≤ 57 := by
 intro b hb
 unfold itoa at hb
 split at hb
 ·rcases List.mem_cons.1 hb with e | e
  ·left; rw [e]; decide
  ·exact .inr (gU _ b e)
 ·exact .inr (gU _ b hb)
theorem bPU (n : Int) : itoa n ≠ [] := by
 unfold itoa
 split
 ·simp
 ·exact bAV _
theorem bIR {u v : Nat} (h : decDigits u = decDigits v) : u = v := by rw [← lY u, ← lY v, h]
theorem wF {a b : Int} (h : itoa a = itoa b) : a = b := by
 have hd : ∀ (u v : Nat), decDigits u ≠ 45 :: decDigits v := fun u v e => by
  have := gU u 45 Xo
  simp at this
 unfold itoa at h
 split at h
 ·split at h
  ·injection h with _ h
   have := bIR h
   omega
  ·exact absurd h.symm (hd _ _)
 ·split at h
  ·exact absurd h (hd _ _)
  ·have := bIR h
   omega
theorem bKP {n : Int} (h0 : -9223372036854775808 ≤ n) (h1 : n ≤ 9223372036854775807) : atoiAll (itoa n) = .ok n := by
 have key : ∀ u : Nat, u < 18446744073709551616 → parseMag (decDigits u) = .ok u := fun u hu => by
  unfold parseMag
  rw [if_neg (bAV u), bJO _ 0 (gU u) (by rw [lY]; exact hu), lY]
 by_cases h : n < 0
 ·have e : itoa n = 45 :: decDigits n.natAbs := if_pos h
  rw [e]
  unfold atoiAll
  have h45 : (45 : UInt8).toNat = 45 := Ze
  simp only [h45]
  rw [if_pos Zf, key n.natAbs Zb]
  have a : ¬ (9223372036854775808 < n.natAbs) := Zb
  have e2 : -(n.natAbs : Int) = n := Zb
  simp [a, e2]
 ·have e : itoa n = decDigits n.toNat := if_neg h
  rw [e]
  have hb := gU n.toNat
  have hk := key n.toNat Zb
  rcases hD : decDigits n.toNat with _ | ⟨c, r⟩
  ·exact absurd hD (bAV _)
  ·rw [hD] at hb hk
   have hc := hb c Zf
   unfold atoiAll
   simp only
   rw [if_neg Zb, hk]
   simp only
   rw [if_neg Zb, if_neg Zb, if_neg Zb]
   congr 1
   omega
/-! words -/
def dL (c : UInt8) : List (List UInt8) → List UInt8
 | [] => []
 | [x] => x
 | x :: y :: r => x ++ c :: dL c (y :: r)
theorem bGP (c : UInt8) (x : List UInt8) {r : List (List UInt8)} (h : r ≠ []) : dL c (x :: r) = x ++ c :: dL c r := by
 cases r with
 | nil => exact absurd rfl h
 | cons y r => rfl
theorem kD {c : UInt8} : ∀ {x y s u : List UInt8}, c ∉ x → c ∉ y → x ++ c :: s = y ++ c :: u → x = y ∧ s = u
 | [], [], s, u, _, _, h => by simpa using h
 | [], b :: y, s, u, _, hy, h => by
  injection h with h1 _
  exact absurd (by rw [h1]; simp) hy
 | a :: x, [], s, u, hx, _, h => by
  injection h with h1 _
  exact absurd (by rw [← h1]; simp) hx
 | a :: x, b :: y, s, u, hx, hy, h => by
  injection h with h1 h2
  obtain ⟨e1, e2⟩ := kD (fun e => hx (by simp [e])) (fun e => hy (by simp [e])) h2
  exact ⟨by rw [h1, e1], e2⟩
theorem tK {c : UInt8} : ∀ {p q : List (List UInt8)}, p ≠ [] → q ≠ [] → (∀ x ∈ p, c ∉ x) → (∀ x ∈ q, c ∉ x) → dL c p = dL c q → p = q
 | [], _, h, _, _, _, _ => absurd rfl h
 | _, [], _, h, _, _, _ => absurd rfl h
 | [x], [y], _, _, _, _, h => by rw [show x = y from h]
 | [x], y :: z :: r, _, _, hp, _, h => by
  have h : x = y ++ c :: dL c (z :: r) := h
  exact absurd Xi (hp x Zf)
 | x :: z :: r, [y], _, _, _, hq, h => by
  have h : x ++ c :: dL c (z :: r) = y := h
  exact absurd (by rw [← h]; simp) (hq y Zf)
 | x :: x2 :: r, y :: y2 :: q, _, _, hp, hq, h => by
  obtain ⟨e1, e2⟩ := kD (hp x Zf) (hq y Zf) (show x ++ c :: dL c (x2 :: r) = y ++ c :: dL c (y2 :: q) from h)
  rw [e1, tK Zf Zf (fun z hz => hp z (by simp [hz])) (fun z hz => hq z (by simp [hz])) e2]
end
section
open Go.Lib
def jR : List (List UInt8) := [[115, 107, 105, 112], [115, 101, 116], [99, 111, 112, 121], [97, 100, 100], [115, 117, 98], [109, 117, 108], [97, 110, 100], [120, 111, 114], [108, 101, 115, 115], [105, 110], [111, 117, 116], [105, 102], [101, 110, 100]]
def opW (op : Int) : List UInt8 := jR.getD op.toNat []
def toW : List UInt8 := [116, 111]
def elseW : List UInt8 := [101, 108, 115, 101]
def kO : List UInt8 := [114, 101, 103, 115, 32]
def cC (op : Int) : List (List UInt8 × Nat) :=
 if op = 0 then [(toW, 4)] else if op = 1 ∨ op = 2 then [([], 1), ([], 2), (toW, 4)] else if op = 9 then [([], 1), (toW, 4)] else if op = 10 then [([], 2), (toW, 4)]
 else if op = 11 then [([], 2), (toW, 4), (elseW, 5)] else if op = 12 then [([], 2)] else [([], 1), ([], 2), ([], 3), (toW, 4)]
def Nd.fld (n : Nd) : Nat → Int
 | 0 => n.op
 | 1 => n.d
 | 2 => n.a
 | 3 => n.b
 | 4 => n.t
 | _ => n.e
theorem Nd.fld_cell (n : Nd) {i : Nat} (h : i < 6) : n.cells[i]? = some (.int .i64 (n.fld i)) := by
 rcases i with _ | _ | _ | _ | _ | _ | i <;> first | rfl | omega
theorem Nd.fld_put (n : Nd) {i : Nat} (k : Nat) (x : Int) (hi : i < 6) (hk : k < 6) : (n.put k x).fld i = if i = k then x else n.fld i := by
 rcases k with _ | _ | _ | _ | _ | _ | k <;> (try omega) <;> rcases i with _ | _ | _ | _ | _ | _ | i <;> first | rfl | omega
theorem Nd.ext_fld {n m : Nd} (h : ∀ i, i < 6 → n.fld i = m.fld i) : n = m := by
 have h0 := h 0 Zb
 have h1 := h 1 Zb
 have h2 := h 2 Zb
 have h3 := h 3 Zb
 have h4 := h 4 Zb
 have h5 := h 5 Zb
 cases n
 cases m
 simp only [Nd.fld] at *
 subst h0 h1 h2 h3 h4 h5
 rfl
def dW (n : Nd) (p : List UInt8 × Nat) : List (List UInt8) := (if p.1 = [] then [] else [p.1]) ++ [itoa (n.fld p.2)]
def dY (n : Nd) : List (List UInt8) := opW n.op :: (cC n.op).flatMap (dW n)
def dS (n : Nd) : List UInt8 := dL 32 (dY n)
def fD (n : Nd) : List UInt8 := dS n ++ [10]
def cS (l : List Nd) : List UInt8 := l.flatMap fD
def cD (regs : Int) (l : List Nd) : List UInt8 := kO ++ itoa regs ++ 10 :: cS l
structure dH (n : Nd) : Prop where
 op : 0 ≤ n.op ∧ n.op ≤ 12
 rest : ∀ i, 1 ≤ i → i < 6 → i ∉ (cC n.op).map Prod.snd → n.fld i = 0
 fit : ∀ i, i < 6 → -9223372036854775808 ≤ n.fld i ∧ n.fld i ≤ 9223372036854775807
theorem uZ {a b : Int} (ha : 0 ≤ a ∧ a ≤ 12) (hb : 0 ≤ b ∧ b ≤ 12) (h : opW a = opW b) : a = b := by
 have key : ∀ i : Fin 13, ∀ j : Fin 13, jR.getD i.val [] = jR.getD j.val [] → i = j := Ze
 have := key ⟨a.toNat, Zb⟩ ⟨b.toNat, Zb⟩ h
 have := congrArg Fin.val this
 simp only at this
 omega
theorem yY {a : Int} (ha : 0 ≤ a ∧ a ≤ 12) : (32 : UInt8) ∉ opW a ∧ (10 : UInt8) ∉ opW a ∧ opW a ≠ [] := by
 have key : ∀ i : Fin 13, (32 : UInt8) ∉ jR.getD i.val [] ∧ (10 : UInt8) ∉ jR.getD i.val [] ∧ jR.getD i.val [] ≠ [] := Ze
 exact key ⟨a.toNat, Zb⟩
theorem gQ (op : Int) : ∀ p ∈ cC op, (p.1 = [] ∨ p.1 = toW ∨ p.1 = elseW) ∧ 1 ≤ p.2 ∧ p.2 < 6 := by
 intro p hp
 unfold cC at hp
 repeat' (split at hp)
 all_goals
  simp only [Uo, List.not_mem_nil, or_false] at hp
 all_goals
  rcases hp with rfl | rfl | rfl | rfl <;> simp
theorem iM (n : Int) (c : UInt8) (hc : c.toNat < 45) : c ∉ itoa n := fun h => by
 have := bGS n c h
 omega
theorem bCN {op : Int} {p : List UInt8 × Nat} (hp : p ∈ cC op) (n : Nd) : ∀ x ∈ dW n p, (32 : UInt8) ∉ x ∧ (10 : UInt8) ∉ x := by
 intro x hx
 unfold dW at hx
 rcases List.mem_append.1 hx with e | e
 ·rcases (gQ op p hp).1 with h | h | h
  ·rw [if_pos h] at e; cases e
  ·rw [h] at e
   have : x = toW := by simpa [toW] using e
   rw [this]; decide
  ·rw [h] at e
   have : x = elseW := by simpa [elseW] using e
   rw [this]; decide
 ·have : x = itoa (n.fld p.2) := by simpa using e
  rw [this]
  exact ⟨iM _ _ Ze, iM _ _ Ze⟩
theorem jW {n : Nd} (hn : 0 ≤ n.op ∧ n.op ≤ 12) : ∀ x ∈ dY n, (32 : UInt8) ∉ x ∧ (10 : UInt8) ∉ x := by
 intro x hx
 rcases List.mem_cons.1 hx with e | e
 ·rw [e]; exact ⟨(yY hn).1, (yY hn).2.1⟩
 ·obtain ⟨p, hp, hx⟩ := List.mem_flatMap.1 e
  exact bCN hp n x hx
theorem uI {c : UInt8} (hc : c ≠ 32) : ∀ {p : List (List UInt8)}, (∀ x ∈ p, c ∉ x) → c ∉ dL 32 p
 | [], _ => by simp [dL]
 | [x], h => h x Zf
 | x :: y :: r, h => by
  have ih := uI hc (p := y :: r) fun z hz => h z (by simp [hz])
  show c ∉ x ++ 32 :: dL 32 (y :: r)
  simp only [Um, Uo, not_or]
  exact ⟨h x Zf, hc, ih⟩
theorem jH {n : Nd} (hn : 0 ≤ n.op ∧ n.op ≤ 12) : (10 : UInt8) ∉ dS n := uI Ze fun x hx => (jW hn x hx).2
theorem yW {n m : Nd} : ∀ {ps : List (List UInt8 × Nat)}, ps.flatMap (dW n) = ps.flatMap (dW m) → ∀ p ∈ ps, n.fld p.2 = m.fld p.2
 | [], _, p, hp => by cases hp
 | q :: ps, h, p, hp => by
  rw [List.flatMap_cons, List.flatMap_cons] at h
  have hl : (dW n q).length = (dW m q).length := by unfold dW; simp
  obtain ⟨h1, h2⟩ := List.append_inj h hl
  rcases List.mem_cons.1 hp with e | e
  ·subst e
   unfold dW at h1
   have := List.append_inj_right h1 rfl
   simp at this
   exact wF this
  ·exact yW h2 p e
theorem bCS {n m : Nd} (hn : dH n) (hm : dH m) (h : dS n = dS m) : n = m := by
 have hw := tK (by simp [dY]) (by simp [dY]) (fun x hx => (jW hn.op x hx).1) (fun x hx => (jW hm.op x hx).1) h
 unfold dY at hw
 injection hw with h1 h2
 have ho := uZ hn.op hm.op h1
 rw [← ho] at h2
 refine Nd.ext_fld fun i hi => ?_
 by_cases h0 : i = 0
 ·subst h0; exact ho
 ·by_cases hp : i ∈ (cC n.op).map Prod.snd
  ·obtain ⟨p, hp1, rfl⟩ := List.mem_map.1 hp
   exact yW h2 p hp1
  ·rw [hn.rest i Zb hi hp, hm.rest i Zb hi (by rw [← ho]; exact hp)]
theorem zG : ∀ {l m : List Nd}, (∀ n ∈ l, dH n) → (∀ n ∈ m, dH n) → cS l = cS m → l = m
 | [], [], _, _, _ => rfl
 | [], m :: ms, _, _, h => by
  have : (cS (m :: ms)) ≠ [] := by simp [cS, fD]
  exact absurd h.symm this
 | n :: ns, [], _, _, h => by
  have : (cS (n :: ns)) ≠ [] := by simp [cS, fD]
  exact absurd h this
 | n :: ns, m :: ms, hl, hm, h => by
  have hn := hl n Zf
  have hm' := hm m Zf
  have h : dS n ++ 10 :: cS ns = dS m ++ 10 :: cS ms := by simpa [cS, fD] using h
  obtain ⟨e1, e2⟩ := kD (jH hn.op) (jH hm'.op) h
  rw [bCS hn hm' e1, zG (fun k hk => hl k (by simp [hk])) (fun k hk => hm k (by simp [hk])) e2]
theorem bAD {regs : Int} {l : List Nd} (hR : bM regs l) : ∀ n ∈ l, (∀ i, i < 6 → -9223372036854775808 ≤ n.fld i ∧ n.fld i ≤ 9223372036854775807) → dH n := fun n hn hf => by
 have ho := hR.ok n hn
 have hb := hR.frm n hn
 have hop : 0 ≤ n.op ∧ n.op ≤ 12 := by simpa [gG, inB] using ho
 refine ⟨hop, fun i h1 h6 hi => ?_, hf⟩
 simp only [badF, Uf, Bool.not_eq_false', okF, Bool.or_eq_true, beq_iff_eq] at hb
 obtain ⟨⟨⟨⟨b1, b2⟩, b3⟩, b4⟩, b5⟩ := hb
 have hcase : n.op = 0 ∨ n.op = 1 ∨ n.op = 2 ∨ n.op = 3 ∨ n.op = 4 ∨ n.op = 5 ∨ n.op = 6 ∨ n.op = 7 ∨ n.op = 8 ∨ n.op = 9 ∨ n.op = 10 ∨ n.op = 11 ∨ n.op = 12 := Zb
 have hi' : i = 1 ∨ i = 2 ∨ i = 3 ∨ i = 4 ∨ i = 5 := Zb
 rcases hcase with e | e | e | e | e | e | e | e | e | e | e | e | e <;> rcases hi' with rfl | rfl | rfl | rfl | rfl <;>
  simp [e, cC, dE, dC, cG, fL, shT, gG, oL, inB] at b1 b2 b3 b4 b5 hi <;> simp [Nd.fld, *]
theorem vP {r1 r2 : Int} {l m : List Nd} (hl : ∀ n ∈ l, dH n) (hm : ∀ n ∈ m, dH n) (h : cD r1 l = cD r2 m) : r1 = r2 ∧ l = m := by
 unfold cD at h
 rw [List.append_assoc, List.append_assoc] at h
 have h1 := List.append_cancel_left h
 obtain ⟨e1, e2⟩ := kD (iM r1 10 Ze) (iM r2 10 Ze) h1
 exact ⟨wF e1, zG hl hm e2⟩
end
end Go.Proofs.YtmghkonmfbpjcabGreatDoor
