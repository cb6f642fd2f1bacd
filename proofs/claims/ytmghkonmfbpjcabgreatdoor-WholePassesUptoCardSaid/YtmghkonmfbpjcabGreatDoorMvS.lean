/- Parts. -/
import Derived.Test.YtmghkonmfbpjcabGreatDoorFactR9
set_option linter.unusedVariables false
set_option linter.unusedSimpArgs false
set_option maxRecDepth 100000
set_option maxHeartbeats 8000000
namespace Go.Proofs.YtmghkonmfbpjcabGreatDoor
open Go.RowKit
open Go.Proofs.Tryz
section
attribute [local irreducible] Row madeCells
theorem Yy {P : Prop} (h : P := by (
 rw [eS]
 intro V w9 hV hg9
 have hown : ∀ b, b < W2.heap.size → (some b) ≠ v1.ownBlock := fun b hb e => by have := (HS.o.r1.lt b e.symm).1; omega
 have hsz2 := hV.size
 exact ⟨(hg9.cell_far ⟨fb, 4, none⟩ Zh (hown _ Zb)).trans (((bB hV).1 _ _ Zb).trans f4), (hg9.cell_far ⟨fb, 5, none⟩ Zh (hown _ Zb)).trans (((bB hV).1 _ _ Zb).trans f5), (hg9.cell_far ⟨b4, o4 + k, none⟩ Zh (hown _ Zb)).trans (((bB hV).1 _ _ Zb).trans e4), (hg9.cell_far ⟨b5, o5 + k, none⟩ Zh (hown _ Zb)).trans (((bB hV).1 _ _ Zb).trans e5)⟩)) : P := h
theorem Yx {P : Prop} (h : P := by (
 rw [eS]
 intro V w9 hV hg9
 have hown : ∀ b, b < W2.heap.size → (some b) ≠ v2.ownBlock := fun b hb e => by have := (HS.o.r2.lt b e.symm).1; omega
 have hsz2 := hV.size
 exact ⟨(hg9.cell_far ⟨w.heap.size, 1, none⟩ Zh (hown _ Zb)).trans (((bB hV).1 _ _ Zb).trans p1), (hg9.cell_far ⟨nb, no + k * 6, none⟩ Zh (hown _ Zb)).trans (((bB hV).1 _ _ Zb).trans n0), (hg9.cell_far ⟨nb, no + k * 6 + 1, none⟩ Zh (hown _ Zb)).trans (((bB hV).1 _ _ Zb).trans n1), (hg9.cell_far ⟨nb, no + k * 6 + 2, none⟩ Zh (hown _ Zb)).trans (((bB hV).1 _ _ Zb).trans n2), (hg9.cell_far ⟨nb, no + k * 6 + 3, none⟩ Zh (hown _ Zb)).trans (((bB hV).1 _ _ Zb).trans n3), (hg9.cell_far ⟨nb, no + k * 6 + 4, none⟩ Zh (hown _ Zb)).trans (((bB hV).1 _ _ Zb).trans n4), (hg9.cell_far ⟨nb, no + k * 6 + 5, none⟩ Zh (hown _ Zb)).trans (((bB hV).1 _ _ Zb).trans n5), (hg9.cell_far ⟨w.heap.size + 1, 0, none⟩ Zh (hown _ Zb)).trans (((bB hV).1 _ _ Zb).trans t0), (hg9.cell_far ⟨w.heap.size + 1, 1, none⟩ Zh (hown _ Zb)).trans (((bB hV).1 _ _ Zb).trans t1), (hg9.cell_far ⟨w.heap.size + 1, 2, none⟩ Zh (hown _ Zb)).trans (((bB hV).1 _ _ Zb).trans t2), (hg9.cell_far ⟨fb, 4, none⟩ Zh (hown _ Zb)).trans (((bB hV).1 _ _ Zb).trans f4), (hg9.cell_far ⟨fb, 5, none⟩ Zh (hown _ Zb)).trans (((bB hV).1 _ _ Zb).trans f5), (hg9.cell_far ⟨b4, o4 + k, none⟩ Zh (hown _ Zb)).trans (((bB hV).1 _ _ Zb).trans e4), (hg9.cell_far ⟨b5, o5 + k, none⟩ Zh (hown _ Zb)).trans (((bB hV).1 _ _ Zb).trans e5)⟩)) : P := h
structure uU (W0 : World) (lb : Nat) (v1 v2 : Value) (x y : List Bool) (W : World) : Prop where
 L : Blk W lb 133 #[v1, v2]
 r1 : Row W W0.heap.size 4 v1 (bE x)
 r2 : Row W W0.heap.size 4 v2 (bE y)
 ne : v1.ownBlock = none ∨ v1.ownBlock ≠ v2.ownBlock
 below : Below W0.heap.size W0 W
 low : W0.heap.size ≤ lb
section
variable {W0 : World} {lb : Nat} {v1 v2 : Value} {x y : List Bool} {W : World}
theorem uU.later {W' : World} (h : uU W0 lb v1 v2 x y W) (hb : Below W.heap.size W W') : uU W0 lb v1 v2 x y W' :=
 ⟨h.L.below hb h.L.lt, h.r1.below' hb, h.r2.below' hb, h.ne, h.below.trans (hb.mono h.below.size), h.low⟩
theorem uU.put1 {V w9 : World} {v9 : Value} {b : Bool} (h0 : uU W0 lb v1 v2 x y W) (hb : Below W.heap.size W V) (hr : Row w9 W0.heap.size 4 v9 (bE x ++ [.bool b])) (hg : V.grownBy w9 v1.ownBlock) (hat : v9.ownBlock = v1.ownBlock ∨ ∀ k, v9.ownBlock = some k → V.heap.size ≤ k) :
 uU W0 lb v9 v2 (x ++ [b]) y (w9.setCell ⟨lb, 0, none⟩ v9) := by (
 have h := h0.later hb
 have hL := Blk.grown h.L hg (h.r1.ne_blk h.L Ze)
 have hne2 : v2.ownBlock = none ∨ v2.ownBlock ≠ v1.ownBlock := by (
 rcases h.ne with e | e
 · (
 rw [e]; rcases h2 : v2.ownBlock with _ | k
 · exact Jc
 · exact .inr Zf)
 · exact .inr (Ne.symm e))
 have hr2 := Row.kept h.r2 hg hne2
 refine ⟨hL.set_ 0 _, by rw [oA]; exact hr.far (hr.ne_blk hL Ze) _, hr2.far (hr2.ne_blk hL Ze) _, ?_, (h.below.grown hg h.below.size (fun q hq => (h.r1.lt q hq).1)).setCell h.low _, h.low⟩
 rcases hat with e | e
 · rw [e]; exact h.ne
 · (
 rcases h9 : v9.ownBlock with _ | k
 · exact Jc
 · (
 refine .inr fun e2 => ?_
 have := e k h9
 have := (h.r2.lt k e2.symm).2
 omega)))
theorem uU.put2 {V w9 : World} {v9 : Value} {b : Bool} (h0 : uU W0 lb v1 v2 x y W) (hb : Below W.heap.size W V) (hr : Row w9 W0.heap.size 4 v9 (bE y ++ [.bool b])) (hg : V.grownBy w9 v2.ownBlock) (hat : v9.ownBlock = v2.ownBlock ∨ ∀ k, v9.ownBlock = some k → V.heap.size ≤ k) :
 uU W0 lb v1 v9 x (y ++ [b]) (w9.setCell ⟨lb, 1, none⟩ v9) := by (
 have h := h0.later hb
 have hL := Blk.grown h.L hg (h.r2.ne_blk h.L Ze)
 have hr1 := Row.kept h.r1 hg h.ne
 refine ⟨hL.set_ 1 _, hr1.far (hr1.ne_blk hL Ze) _, by rw [oA]; exact hr.far (hr.ne_blk hL Ze) _, ?_, (h.below.grown hg h.below.size (fun q hq => (h.r2.lt q hq).1)).setCell h.low _, h.low⟩
 rcases hat with e | e
 · rw [e]; exact h.ne
 · (
 rcases h1 : v1.ownBlock with _ | k
 · exact Jc
 · (
 refine .inr fun e2 => ?_
 have := e k (by rw [← e2])
 have := (h.r1.lt k h1).2
 omega)))
end
def bNG (t : Tm) (l : List Nd) (F : Fx) : List Bool := mk l.length fun k => fJ t (nd l k) && !(yn F.late k && yn F.alone k)
def bSI (tB : TypeId) (l : List Nd) (t : Tm) (w : World) (e : Ending) (w' : World) : Prop :=
 Below w.heap.size w w' ∧ ∃ F v1 v2, yG t l F ∧ e = .returned (.agg #[v1, v2]) ∧ Row w' w.heap.size tB v1 (bE (bNH l F)) ∧ Row w' w.heap.size tB v2 (bE (bNG t l F))
theorem bHT (regs : Int) (A : Option Addr) (l : List Nd) (cap : Nat) (t : Tm) (w : World) (hA : bH w A l) (hR : bM regs l) :
 Calls prog 75 #[.agg #[.int .i64 regs, .slice A l.length cap], .agg #[.int .i64 t.op, .int .i64 t.a, .int .i64 t.b]] w (bSI 4 l t w) := by (
 obtain ⟨ib, hbi, hbz, hbs, hbb⟩ := info_parts gR
 have hhi := hR.hi
 have HX := bA (fun W (hW : Below w.heap.size w W) => bFG regs A l cap t W (hA.below hW) hR)
 have HN := bA (fun W (hW : Below w.heap.size w W) => hA.below hW)
 clear hA hR
 go_enter func75, ntmps75
 go_wp2_with fail
 refine (HX.o _ Yc).mono ?_
 rintro e w1 ⟨hb1, F, v0, v1, v2, v3, v4, v5, rfl, hF, r0, r1, r2, r3, r4, r5⟩
 obtain ⟨L0, L1, L2, L3, L4, L5⟩ := hF.len
 obtain ⟨A0, c0, e0, _, _⟩ := r0.shape
 rw [bD, L0] at e0
 subst e0
 obtain ⟨A1, c1, e1, _, _⟩ := r1.shape
 rw [bD, L1] at e1
 subst e1
 obtain ⟨A2, c2, e2, _, _⟩ := r2.shape
 rw [bD, L2] at e2
 subst e2
 obtain ⟨A3, c3, e3, _, _⟩ := r3.shape
 rw [bD, L3] at e3
 subst e3
 obtain ⟨A4, c4, e4, _, _⟩ := r4.shape
 rw [bD, L4] at e4
 subst e4
 obtain ⟨A5, c5, e5, _, _⟩ := r5.shape
 rw [bD, L5] at e5
 subst e5
 refine Km fun hz1 hB1 hP1 hT1 hO1 => ?_; clear hb1
 go_upto_region 2 with fail
 obtain ⟨W2, hW2⟩ := Exq (w1.alloc (.cells #[.slice A0 l.length c0, .slice A1 l.length c1, .slice A2 l.length c2, .slice A3 l.length c3, .slice A4 l.length c4, .slice A5 l.length c5] 152))
 have hb2 : Below w1.heap.size w1 W2 := by rw [hW2]; exact (Bnq _ _)
 have hFB : xL 152 w1.heap.size l.length A0 A1 A2 A3 A4 A5 c0 c1 c2 c3 c4 c5 F W2 := ⟨by rw [hW2]; exact Blk.new' rfl, ⟨r0.vals.below hb2, L0⟩, ⟨r2.vals.below hb2, L2⟩, ⟨r4.vals.below hb2, L4⟩, ⟨r5.vals.below hb2, L5⟩⟩
 have hP2 := hP1.below hb2 hP1.lt
 have hT2 := hT1.below hb2 hT1.lt
 have hO2 := hO1.below hb2 hO1.lt
 have hB2 := hB1.trans (hb2.mono hB1.size)
 have hz2 := hb2.size
 rw [← hW2]
 obtain ⟨fb, hfb⟩ := Exq w1.heap.size
 rw [← hfb] at hFB ⊢
 have hfl := hFB.box.lt
 have hfg : w.heap.size + 1 + 1 < fb := Zb
 clear hfb hW2 hb2 hP1 hT1 hO1 hB1 r0 r1 r2 r3 r4 r5 L0 L1 L2 L3 L4 L5 hz1 hz2
 go_upto_region 3 with fail
 obtain ⟨W3, hW3⟩ := Exq (W2.alloc (.cells #[.slice none 0 0, .slice none 0 0] 133))
 have hS3 : uU W2 W2.heap.size (.slice none 0 0) (.slice none 0 0) (mk 0 fun k => yn F.late k && !yn F.alone k) (mk 0 fun k => fJ t (nd l k) && !(yn F.late k && yn F.alone k)) W3 := by rw [hW3]; exact ⟨Blk.new' rfl, Row.nil_ _ _ _, Row.nil_ _ _ _, .inl rfl, (Bnq _ _), Nat.le_refl _⟩
 rw [← hW3]
 obtain ⟨lb, hlb⟩ := Exq W2.heap.size
 rw [← hlb] at hS3 ⊢
 have hlw := hS3.low
 have HS3 := bA hS3
 have HP1 := bA hP2
 have HT1 := bA hT2
 have HO1 := bA hO2
 have HB1 := bA hB2
 have HFB := bA hFB
 have HF := bA hF
 clear hS3 hP2 hT2 hO2 hB2 hFB hF hW3 hlb w1
 go_wp2_with fail
 go_loopg [7] (l.length) (fun gk i wr => ∃ (k : Nat) (v1 v2 : Value), k ≤ l.length ∧ i = .int .i64 k ∧ gk = l.length - k ∧ uU W2 lb v1 v2 (mk k fun k => yn F.late k && !yn F.alone k) (mk k fun k => fJ t (nd l k) && !(yn F.late k && yn F.alone k)) wr)
 case atStart => exact ⟨0, _, _, Nat.zero_le _, rfl, rfl, HS3.o⟩
 case round => (
 clear HS3
 obtain ⟨k, v1, v2, hk, rfl, hgk, hS⟩ := hrel
 have Hgk := bA hgk
 clear hgk
 have lp := HP1.o.lt
 have hwz := hS.below.size
 by_cases hlt : k < l.length
 · (
 obtain ⟨nb, no, nn, rfl, hnb, hn, n0, n1, n2, n3, n4, n5⟩ := (HN.o _ HB1.o).get hlt
 have p1 := HP1.o.cell 1
 have t0 := HT1.o.cell 0
 have t1 := HT1.o.cell 1
 have t2 := HT1.o.cell 2
 have ltb := HT1.o.lt
 obtain ⟨b4, o4, rfl, l4, e4⟩ := HFB.o.late.1.bool (k := k) (by rw [HFB.o.late.2]; exact hlt)
 obtain ⟨b5, o5, rfl, l5, e5⟩ := HFB.o.alone.1.bool (k := k) (by rw [HFB.o.alone.2]; exact hlt)
 have f4 := HFB.o.box.cell 4
 have f5 := HFB.o.box.cell 5
 simp only [tmA, Yl] at p1 t0 t1 t2 f4 f5
 have HC := bA (show _ ∧ _ ∧ _ ∧ _ ∧ _ ∧ _ ∧ _ ∧ _ ∧ _ ∧ _ ∧ _ ∧ _ ∧ _ ∧ _ from ⟨p1, n0, n1, n2, n3, n4, n5, t0, t1, t2, f4, f5, e4, e5⟩)
 clear p1 n0 n1 n2 n3 n4 n5 t0 t1 t2 f4 f5 e4 e5
 refine Vk fun u0 u1 => ?_
 have hm1 : (mk k fun k => yn F.late k && !yn F.alone k).length = k := dD _ _
 have hm2 : (mk k fun k => fJ t (nd l k) && !(yn F.late k && yn F.alone k)).length = k := dD _ _
 have Hn := bA hn
 obtain ⟨p1, n0, n1, n2, n3, n4, n5, t0, t1, t2, f4, f5, e4, e5⟩ := HC.o
 refine Kc fun p1 n0 n1 n2 n3 n4 n5 t0 t1 t2 f4 f5 e4 e5 HS => ?_
 clear hn hS
 go_upto_region 6 with fail
 go_cut [6] (fun s6 wx => s6 = .pointer (some ⟨lb, 0, none⟩) ∧ ∃ v1', uU W2 lb v1' v2 (mk (k + 1) fun k => yn F.late k && !yn F.alone k) (mk k fun k => fJ t (nd l k) && !(yn F.late k && yn F.alone k)) wx)
 case first => (
 cases hq4 : yn F.late k
 case false => (
 rw [hq4] at e4
 have Hq4 := bA hq4
 clear hq4 p1 n0 n1 n2 n3 n4 n5 t0 t1 t2
 obtain ⟨S, eS⟩ := Exq (fun w' => (w'.cell? ⟨fb, 4, none⟩ = some (.slice (some ⟨b4, o4, none⟩) l.length c4) ∧ w'.cell? ⟨fb, 5, none⟩ = some (.slice (some ⟨b5, o5, none⟩) l.length c5) ∧ w'.cell? ⟨b4, o4 + k, none⟩ = some (.bool false) ∧ w'.cell? ⟨b5, o5 + k, none⟩ = some (.bool (yn F.alone k))) : World → Prop)
 refine Kw fun HH HG HZ ES => ?_; clear eS
 refine Jx ?_
 intro hH
 have hC0 : Below wr.heap.size wr wr.drew := (Below.refl _ _).drew
 generalize wr.drew = V0 at hH hC0 ⊢
 refine Up (fun _ _ _ _ _ => id) fun hP => ?_
 refine Vc 0 _ rfl hP hH ?_
 try simp only [Nm]
 refine Vc 2 _ rfl hP hH ?_
 try simp only [Nm]
 refine Ve 3 _ rfl hP hH ?_
 try simp only [Nm]
 refine Vc 4 _ rfl hP hH ?_
 try simp only [Nm]
 refine Vc 5 _ rfl hP hH ?_
 try simp only [Nm]
 refine Ve 6 _ rfl hP hH ?_
 try simp only [Nm]
 refine Vc 7 _ rfl hP hH ?_
 try simp only [Nm]
 refine Vd 8 rfl hP hH ?_
 try simp only [Nm]
 refine Vd 9 rfl hP hH ?_
 try simp only [Nm]
 refine Vd 10 rfl hP hH ?_
 try simp only [Nm]
 refine Vd 11 rfl hP hH ?_
 try simp only [Nm]
 refine Vd 12 rfl hP hH ?_
 try simp only [Nm]
 refine Vd 13 rfl hP hH ?_
 try simp only [Nm]
 refine Vc 14 _ rfl hP hH ?_
 try simp only [Nm]
 refine wpAnyH_ready (rs := [1, 15]) Zc Zf ?_
 refine Ug rfl (fun K hK => ?_) (Ug rfl (fun K hK => ?_) Uh)
 focus (
 have HK1 := bA hK
 clear hK
 have hx := (HS.o.L.below hC0 HS.o.L.lt).cell 0
 simp only [Yl] at hx
 go_simp
 clear hx hH
 refine Shut.out HK1.o _ _ (HH _ hC0) (fun hH => ?_)
 try simp only [Nm]
 clear HK1
 refine Rd 15 Zc rfl (fun K hK => ?_)
 have HK15 := bA hK
 clear hK
 go_simp
 obtain ⟨V1, hV1⟩ := Exq (V0.alloc (.cells #[.bool (false)] 4))
 rw [← hV1]
 have hC1 : Below wr.heap.size wr V1 := by rw [hV1]; exact Below.alloc hC0 hC0.size _
 have hv1 : bG V1 (some ⟨V0.heap.size, 0, none⟩) [.bool (false)] := by rw [hV1]; exact dK _ _ _
 clear hH hV1
 refine Shut.out HK15.o _ _ (HH _ hC1) (fun hH => ?_)
 try simp only [Nm]
 clear HK15)
 rotate_left
 focus (
 have HK15 := bA hK
 clear hK
 go_simp
 obtain ⟨V1, hV1⟩ := Exq (V0.alloc (.cells #[.bool (false)] 4))
 rw [← hV1]
 have hC1 : Below wr.heap.size wr V1 := by rw [hV1]; exact Below.alloc hC0 hC0.size _
 have hv1 : bG V1 (some ⟨V0.heap.size, 0, none⟩) [.bool (false)] := by rw [hV1]; exact dK _ _ _
 clear hH hV1
 refine Shut.out HK15.o _ _ (HH _ hC1) (fun hH => ?_)
 try simp only [Nm]
 clear HK15
 refine Rd 1 Zc rfl (fun K hK => ?_)
 have HK1 := bA hK
 clear hK
 have hx := (HS.o.L.below hC1 HS.o.L.lt).cell 0
 simp only [Yl] at hx
 go_simp
 clear hx hH
 refine Shut.out HK1.o _ _ (HH _ hC1) (fun hH => ?_)
 try simp only [Nm]
 clear HK1)
 all_goals (
 refine Rd 16 Zc rfl (fun K hK => ?_)
 have HK16 := bA hK
 clear hK
 refine bP (v := v1) Zj _ _ _ Zj ib _ 1 underlying74 hbi hbz hbs hbb rfl Zj (HS.o.r1.below' hC1) (some ⟨_, 0, none⟩) 1 1 [.bool (false)] Zj Zj hv1 Zk (by rw [bD, hm1]; simp [maxLen]; omega) (by rw [bD, hm1]; simp; omega) (by have := hC1.size; omega) ?_
 intro v9 w9 hr9 hg9 hat9
 obtain ⟨A9, c9, hv9, _, _⟩ := hr9.shape
 subst hv9
 simp only [Vz, V8, bD, hm1] at hr9 hat9 ⊢
 have X9 := HG _ _ hC1 hg9
 have hq9 := Blk.grown (HS.o.L.below hC1 HS.o.L.lt) hg9 (HS.o.r1.ne_blk HS.o.L Ze)
 have hP9 := HS.o.put1 hC1 hr9 hg9 hat9
 have HP9 := bA hP9
 clear hP9 hr9 hat9 hH
 refine Shut.out HK16.o _ _ X9 (fun hH => ?_)
 try simp only [Nm]
 clear HK16
 refine Vc 17 _ rfl hP hH ?_
 try simp only [Nm]
 refine Rd 18 Zc rfl (fun K hK => ?_)
 have HK18 := bA hK
 clear hK
 have hx := hq9.cell 0
 have fx := hq9.frozen 0
 simp only [Yl] at hx
 go_simp
 refine Shut.out HK18.o _ _ (HZ _ _ X9) (fun hH => ?_)
 try simp only [Nm]
 clear HK18
 refine wpAnyH_done Zc ?_ _
 go_wp2_with fail
 go_meet
 go_tidy
 exact ⟨rfl, _, by rw [mE, Hq4.o]; exact HP9.o⟩))
 case true => (
 rw [hq4] at e4
 have Hq4 := bA hq4
 clear hq4 p1 n0 n1 n2 n3 n4 n5 t0 t1 t2
 obtain ⟨S, eS⟩ := Exq (fun w' => (w'.cell? ⟨fb, 4, none⟩ = some (.slice (some ⟨b4, o4, none⟩) l.length c4) ∧ w'.cell? ⟨fb, 5, none⟩ = some (.slice (some ⟨b5, o5, none⟩) l.length c5) ∧ w'.cell? ⟨b4, o4 + k, none⟩ = some (.bool true) ∧ w'.cell? ⟨b5, o5 + k, none⟩ = some (.bool (yn F.alone k))) : World → Prop)
 refine Kw fun HH HG HZ ES => ?_; clear eS
 refine Jx ?_
 intro hH
 have hC0 : Below wr.heap.size wr wr.drew := (Below.refl _ _).drew
 generalize wr.drew = V0 at hH hC0 ⊢
 refine Up (fun _ _ _ _ _ => id) fun hP => ?_
 refine Vc 0 _ rfl hP hH ?_
 try simp only [Nm]
 refine Vc 2 _ rfl hP hH ?_
 try simp only [Nm]
 refine Ve 3 _ rfl hP hH ?_
 try simp only [Nm]
 refine Vc 4 _ rfl hP hH ?_
 try simp only [Nm]
 refine Vc 5 _ rfl hP hH ?_
 try simp only [Nm]
 refine Ve 6 _ rfl hP hH ?_
 try simp only [Nm]
 refine Vc 7 _ rfl hP hH ?_
 try simp only [Nm]
 refine Vc 8 _ rfl hP hH ?_
 try simp only [Nm]
 refine Ve 9 _ rfl hP hH ?_
 try simp only [Nm]
 refine Vc 10 _ rfl hP hH ?_
 try simp only [Nm]
 refine Vc 11 _ rfl hP hH ?_
 try simp only [Nm]
 refine Ve 12 _ rfl hP hH ?_
 try simp only [Nm]
 refine Vc 13 _ rfl hP hH ?_
 try simp only [Nm]
 refine Vc 14 _ rfl hP hH ?_
 try simp only [Nm]
 refine wpAnyH_ready (rs := [1, 15]) Zc Zf ?_
 refine Ug rfl (fun K hK => ?_) (Ug rfl (fun K hK => ?_) Uh)
 focus (
 have HK1 := bA hK
 clear hK
 have hx := (HS.o.L.below hC0 HS.o.L.lt).cell 0
 simp only [Yl] at hx
 go_simp
 clear hx hH
 refine Shut.out HK1.o _ _ (HH _ hC0) (fun hH => ?_)
 try simp only [Nm]
 clear HK1
 refine Rd 15 Zc rfl (fun K hK => ?_)
 have HK15 := bA hK
 clear hK
 go_simp
 obtain ⟨V1, hV1⟩ := Exq (V0.alloc (.cells #[.bool (!yn F.alone k)] 4))
 rw [← hV1]
 have hC1 : Below wr.heap.size wr V1 := by rw [hV1]; exact Below.alloc hC0 hC0.size _
 have hv1 : bG V1 (some ⟨V0.heap.size, 0, none⟩) [.bool (!yn F.alone k)] := by rw [hV1]; exact dK _ _ _
 clear hH hV1
 refine Shut.out HK15.o _ _ (HH _ hC1) (fun hH => ?_)
 try simp only [Nm]
 clear HK15)
 rotate_left
 focus (
 have HK15 := bA hK
 clear hK
 go_simp
 obtain ⟨V1, hV1⟩ := Exq (V0.alloc (.cells #[.bool (!yn F.alone k)] 4))
 rw [← hV1]
 have hC1 : Below wr.heap.size wr V1 := by rw [hV1]; exact Below.alloc hC0 hC0.size _
 have hv1 : bG V1 (some ⟨V0.heap.size, 0, none⟩) [.bool (!yn F.alone k)] := by rw [hV1]; exact dK _ _ _
 clear hH hV1
 refine Shut.out HK15.o _ _ (HH _ hC1) (fun hH => ?_)
 try simp only [Nm]
 clear HK15
 refine Rd 1 Zc rfl (fun K hK => ?_)
 have HK1 := bA hK
 clear hK
 have hx := (HS.o.L.below hC1 HS.o.L.lt).cell 0
 simp only [Yl] at hx
 go_simp
 clear hx hH
 refine Shut.out HK1.o _ _ (HH _ hC1) (fun hH => ?_)
 try simp only [Nm]
 clear HK1)
 all_goals (
 refine Rd 16 Zc rfl (fun K hK => ?_)
 have HK16 := bA hK
 clear hK
 refine bP (v := v1) Zj _ _ _ Zj ib _ 1 underlying74 hbi hbz hbs hbb rfl Zj (HS.o.r1.below' hC1) (some ⟨_, 0, none⟩) 1 1 [.bool (!yn F.alone k)] Zj Zj hv1 Zk (by rw [bD, hm1]; simp [maxLen]; omega) (by rw [bD, hm1]; simp; omega) (by have := hC1.size; omega) ?_
 intro v9 w9 hr9 hg9 hat9
 obtain ⟨A9, c9, hv9, _, _⟩ := hr9.shape
 subst hv9
 simp only [Vz, V8, bD, hm1] at hr9 hat9 ⊢
 have X9 := HG _ _ hC1 hg9
 have hq9 := Blk.grown (HS.o.L.below hC1 HS.o.L.lt) hg9 (HS.o.r1.ne_blk HS.o.L Ze)
 have hP9 := HS.o.put1 hC1 hr9 hg9 hat9
 have HP9 := bA hP9
 clear hP9 hr9 hat9 hH
 refine Shut.out HK16.o _ _ X9 (fun hH => ?_)
 try simp only [Nm]
 clear HK16
 refine Vc 17 _ rfl hP hH ?_
 try simp only [Nm]
 refine Rd 18 Zc rfl (fun K hK => ?_)
 have HK18 := bA hK
 clear hK
 have hx := hq9.cell 0
 have fx := hq9.frozen 0
 simp only [Yl] at hx
 go_simp
 refine Shut.out HK18.o _ _ (HZ _ _ X9) (fun hH => ?_)
 try simp only [Nm]
 clear HK18
 refine wpAnyH_done Zc ?_ _
 go_wp2_with fail
 go_meet
 go_tidy
 exact ⟨rfl, _, by rw [mE, Hq4.o]; exact HP9.o⟩)))
 case rest => (
 obtain ⟨rfl, v1', hS⟩ := hcut
 clear HS p1 n0 n1 n2 n3 n4 n5 t0 t1 t2 f4 f5 e4 e5
 have hwz := hS.below.size
 obtain ⟨p1, n0, n1, n2, n3, n4, n5, t0, t1, t2, f4, f5, e4, e5⟩ := HC.o
 refine Kc fun p1 n0 n1 n2 n3 n4 n5 t0 t1 t2 f4 f5 e4 e5 HS => ?_
 clear hS
 go_upto_region 7 with fail
 cases hq : fJ t nn
 case false => (
 have Hq := bA hq
 clear hq
 obtain ⟨S, eS⟩ := Exq (fun w' => (w'.cell? ⟨w.heap.size, 1, none⟩ = some (.slice (some ⟨nb, no, none⟩) l.length cap) ∧ w'.cell? ⟨nb, no + k * 6, none⟩ = some (.int .i64 nn.op) ∧ w'.cell? ⟨nb, no + k * 6 + 1, none⟩ = some (.int .i64 nn.d) ∧ w'.cell? ⟨nb, no + k * 6 + 2, none⟩ = some (.int .i64 nn.a) ∧ w'.cell? ⟨nb, no + k * 6 + 3, none⟩ = some (.int .i64 nn.b) ∧ w'.cell? ⟨nb, no + k * 6 + 4, none⟩ = some (.int .i64 nn.t) ∧ w'.cell? ⟨nb, no + k * 6 + 5, none⟩ = some (.int .i64 nn.e) ∧ w'.cell? ⟨w.heap.size + 1, 0, none⟩ = some (.int .i64 t.op) ∧ w'.cell? ⟨w.heap.size + 1, 1, none⟩ = some (.int .i64 t.a) ∧ w'.cell? ⟨w.heap.size + 1, 2, none⟩ = some (.int .i64 t.b) ∧ w'.cell? ⟨fb, 4, none⟩ = some (.slice (some ⟨b4, o4, none⟩) l.length c4) ∧ w'.cell? ⟨fb, 5, none⟩ = some (.slice (some ⟨b5, o5, none⟩) l.length c5) ∧ w'.cell? ⟨b4, o4 + k, none⟩ = some (.bool (yn F.late k)) ∧ w'.cell? ⟨b5, o5 + k, none⟩ = some (.bool (yn F.alone k))) : World → Prop)
 refine Kv fun HH HG HZ ES => ?_; clear eS
 refine Jx ?_
 intro hH
 have hC0 : Below wc.heap.size wc wc.drew := (Below.refl _ _).drew
 generalize wc.drew = V0 at hH hC0 ⊢
 refine Up (fun _ _ _ _ _ => id) fun hP => ?_
 refine Vc 0 _ rfl hP hH ?_
 try simp only [Nm]
 refine Vc 2 _ rfl hP hH ?_
 try simp only [Nm]
 refine Ve 3 _ rfl hP hH ?_
 try simp only [Nm]
 refine Vc 4 _ rfl hP hH ?_
 try simp only [Nm]
 refine Vc 5 _ rfl hP hH ?_
 try simp only [Nm]
 refine Ve 6 _ rfl hP hH ?_
 try simp only [Nm]
 refine Ve 7 _ rfl hP hH ?_
 try simp only [Nm]
 refine wpAnyH_ready (rs := [1, 8]) Zc Zf ?_
 refine Ug rfl (fun K hK => ?_) (Ug rfl (fun K hK => ?_) Uh)
 focus (
 refine K9 fun HK1 hx => ?_; clear hK
 go_simp
 clear hx hH
 refine Shut.out HK1.o _ _ (HH _ hC0) (fun hH => ?_)
 try simp only [Nm]
 clear HK1
 refine Rd 8 Zc rfl (fun K hK => ?_)
 have HK8 := bA hK
 clear hK
 go_simp
 go_at_call 105
 refine (bW nn t _).mono ?_
 rintro e V1 ⟨rfl, hbV1⟩
 rw [Hq.o]
 refine Vo fun hC1 => ?_; clear hH
 refine Shut.out HK8.o _ _ (HH _ hC1) (fun hH => ?_)
 try simp only [Nm]
 clear HK8
 refine Vc 9 _ rfl hP hH ?_
 try simp only [Nm]
 refine Vd 10 rfl hP hH ?_
 try simp only [Nm]
 refine Vd 11 rfl hP hH ?_
 try simp only [Nm]
 refine Vd 12 rfl hP hH ?_
 try simp only [Nm]
 refine Vd 13 rfl hP hH ?_
 try simp only [Nm]
 refine Vd 14 rfl hP hH ?_
 try simp only [Nm]
 refine Vd 15 rfl hP hH ?_
 try simp only [Nm]
 refine Vd 16 rfl hP hH ?_
 try simp only [Nm]
 refine Vd 17 rfl hP hH ?_
 try simp only [Nm]
 refine Vd 18 rfl hP hH ?_
 try simp only [Nm]
 refine Vd 19 rfl hP hH ?_
 try simp only [Nm]
 refine Vd 20 rfl hP hH ?_
 try simp only [Nm]
 refine Vd 21 rfl hP hH ?_
 try simp only [Nm]
 refine Vd 22 rfl hP hH ?_
 try simp only [Nm]
 refine Vc 23 _ rfl hP hH ?_
 try simp only [Nm]
 refine Rd 24 Zc rfl (fun K hK => ?_)
 have HK24 := bA hK
 clear hK
 go_simp
 obtain ⟨V2, hV2⟩ := Exq (V1.alloc (.cells #[.bool (false)] 4))
 rw [← hV2]
 refine Wq fun hC2 hv1 => ?_; clear hH hV2
 refine Shut.out HK24.o _ _ (HH _ hC2) (fun hH => ?_)
 try simp only [Nm]
 clear HK24)
 rotate_left
 focus (
 have HK8 := bA hK
 clear hK
 go_simp
 go_at_call 105
 refine (bW nn t _).mono ?_
 rintro e V1 ⟨rfl, hbV1⟩
 rw [Hq.o]
 refine Vo fun hC1 => ?_; clear hH
 refine Shut.out HK8.o _ _ (HH _ hC1) (fun hH => ?_)
 try simp only [Nm]
 clear HK8
 refine Vc 9 _ rfl hP hH ?_
 try simp only [Nm]
 refine Vd 10 rfl hP hH ?_
 try simp only [Nm]
 refine Vd 11 rfl hP hH ?_
 try simp only [Nm]
 refine Vd 12 rfl hP hH ?_
 try simp only [Nm]
 refine Vd 13 rfl hP hH ?_
 try simp only [Nm]
 refine Vd 14 rfl hP hH ?_
 try simp only [Nm]
 refine Vd 15 rfl hP hH ?_
 try simp only [Nm]
 refine Vd 16 rfl hP hH ?_
 try simp only [Nm]
 refine Vd 17 rfl hP hH ?_
 try simp only [Nm]
 refine Vd 18 rfl hP hH ?_
 try simp only [Nm]
 refine Vd 19 rfl hP hH ?_
 try simp only [Nm]
 refine Vd 20 rfl hP hH ?_
 try simp only [Nm]
 refine Vd 21 rfl hP hH ?_
 try simp only [Nm]
 refine Vd 22 rfl hP hH ?_
 try simp only [Nm]
 refine Vc 23 _ rfl hP hH ?_
 try simp only [Nm]
 refine wpAnyH_ready (rs := [1, 24]) Zc Zf ?_
 refine Ug rfl (fun K hK => ?_) (Ug rfl (fun K hK => ?_) Uh)
 focus (
 refine Wf fun HK1 hx => ?_; clear hK
 go_simp
 clear hx hH
 refine Shut.out HK1.o _ _ (HH _ hC1) (fun hH => ?_)
 try simp only [Nm]
 clear HK1
 refine Rd 24 Zc rfl (fun K hK => ?_)
 have HK24 := bA hK
 clear hK
 go_simp
 obtain ⟨V2, hV2⟩ := Exq (V1.alloc (.cells #[.bool (false)] 4))
 rw [← hV2]
 refine Wq fun hC2 hv1 => ?_; clear hH hV2
 refine Shut.out HK24.o _ _ (HH _ hC2) (fun hH => ?_)
 try simp only [Nm]
 clear HK24)
 rotate_left
 focus (
 have HK24 := bA hK
 clear hK
 go_simp
 obtain ⟨V2, hV2⟩ := Exq (V1.alloc (.cells #[.bool (false)] 4))
 rw [← hV2]
 refine Wq fun hC2 hv1 => ?_; clear hH hV2
 refine Shut.out HK24.o _ _ (HH _ hC2) (fun hH => ?_)
 try simp only [Nm]
 clear HK24
 refine Rd 1 Zc rfl (fun K hK => ?_)
 refine Wg fun HK1 hx => ?_; clear hK
 go_simp
 clear hx hH
 refine Shut.out HK1.o _ _ (HH _ hC2) (fun hH => ?_)
 try simp only [Nm]
 clear HK1))
 all_goals (
 refine Rd 25 Zc rfl (fun K hK => ?_)
 have HK25 := bA hK
 clear hK
 refine bP (v := v2) Zj _ _ _ Zj ib _ 1 underlying74 hbi hbz hbs hbb rfl Zj (HS.o.r2.below' hC2) (some ⟨_, 0, none⟩) 1 1 [.bool (false)] Zj Zj hv1 Zk Xk Xx X0 ?_
 intro v9 w9 hr9 hg9 hat9
 obtain ⟨A9, c9, hv9, _, _⟩ := hr9.shape
 subst hv9
 simp only [Vz, V8, bD, hm2] at hr9 hat9 ⊢
 refine Kx fun X9 hq9 HP9 => ?_; clear hr9 hat9 hH
 refine Shut.out HK25.o _ _ X9 (fun hH => ?_)
 try simp only [Nm]
 clear HK25
 refine Vc 26 _ rfl hP hH ?_
 try simp only [Nm]
 refine Rd 27 Zc rfl (fun K hK => ?_)
 have HK27 := bA hK
 clear hK
 have hx := hq9.cell 1
 have fx := hq9.frozen 1
 simp only [Yl] at hx
 go_simp
 refine Shut.out HK27.o _ _ (HZ _ _ X9) (fun hH => ?_)
 try simp only [Nm]
 clear HK27
 refine wpAnyH_done Zc ?_ _
 go_wp2_with fail
 go_roundg (l.length - (k + 1))
 case measure => exact Jg
 case rel => exact ⟨k + 1, _, _, Zb, by go_num, rfl, by rw [mE (f := fun k => fJ t (nd l k) && !(yn F.late k && yn F.alone k)), dJ Hn.o, Hq.o]; exact HP9.o⟩))
 case true => (
 have Hq := bA hq
 clear hq
 cases hq4 : yn F.late k
 case false => (
 rw [hq4] at e4
 have Hq4 := bA hq4
 clear hq4
 obtain ⟨S, eS⟩ := Exq (fun w' => (w'.cell? ⟨w.heap.size, 1, none⟩ = some (.slice (some ⟨nb, no, none⟩) l.length cap) ∧ w'.cell? ⟨nb, no + k * 6, none⟩ = some (.int .i64 nn.op) ∧ w'.cell? ⟨nb, no + k * 6 + 1, none⟩ = some (.int .i64 nn.d) ∧ w'.cell? ⟨nb, no + k * 6 + 2, none⟩ = some (.int .i64 nn.a) ∧ w'.cell? ⟨nb, no + k * 6 + 3, none⟩ = some (.int .i64 nn.b) ∧ w'.cell? ⟨nb, no + k * 6 + 4, none⟩ = some (.int .i64 nn.t) ∧ w'.cell? ⟨nb, no + k * 6 + 5, none⟩ = some (.int .i64 nn.e) ∧ w'.cell? ⟨w.heap.size + 1, 0, none⟩ = some (.int .i64 t.op) ∧ w'.cell? ⟨w.heap.size + 1, 1, none⟩ = some (.int .i64 t.a) ∧ w'.cell? ⟨w.heap.size + 1, 2, none⟩ = some (.int .i64 t.b) ∧ w'.cell? ⟨fb, 4, none⟩ = some (.slice (some ⟨b4, o4, none⟩) l.length c4) ∧ w'.cell? ⟨fb, 5, none⟩ = some (.slice (some ⟨b5, o5, none⟩) l.length c5) ∧ w'.cell? ⟨b4, o4 + k, none⟩ = some (.bool false) ∧ w'.cell? ⟨b5, o5 + k, none⟩ = some (.bool (yn F.alone k))) : World → Prop)
 refine Kv fun HH HG HZ ES => ?_; clear eS
 refine Jx ?_
 intro hH
 have hC0 : Below wc.heap.size wc wc.drew := (Below.refl _ _).drew
 generalize wc.drew = V0 at hH hC0 ⊢
 refine Up (fun _ _ _ _ _ => id) fun hP => ?_
 refine Vc 0 _ rfl hP hH ?_
 try simp only [Nm]
 refine Vc 2 _ rfl hP hH ?_
 try simp only [Nm]
 refine Ve 3 _ rfl hP hH ?_
 try simp only [Nm]
 refine Vc 4 _ rfl hP hH ?_
 try simp only [Nm]
 refine Vc 5 _ rfl hP hH ?_
 try simp only [Nm]
 refine Ve 6 _ rfl hP hH ?_
 try simp only [Nm]
 refine Ve 7 _ rfl hP hH ?_
 try simp only [Nm]
 refine wpAnyH_ready (rs := [1, 8]) Zc Zf ?_
 refine Ug rfl (fun K hK => ?_) (Ug rfl (fun K hK => ?_) Uh)
 focus (
 refine K9 fun HK1 hx => ?_; clear hK
 go_simp
 clear hx hH
 refine Shut.out HK1.o _ _ (HH _ hC0) (fun hH => ?_)
 try simp only [Nm]
 clear HK1
 refine Rd 8 Zc rfl (fun K hK => ?_)
 have HK8 := bA hK
 clear hK
 go_simp
 go_at_call 105
 refine (bW nn t _).mono ?_
 rintro e V1 ⟨rfl, hbV1⟩
 rw [Hq.o]
 refine Vo fun hC1 => ?_; clear hH
 refine Shut.out HK8.o _ _ (HH _ hC1) (fun hH => ?_)
 try simp only [Nm]
 clear HK8
 refine Vc 9 _ rfl hP hH ?_
 try simp only [Nm]
 refine Vc 10 _ rfl hP hH ?_
 try simp only [Nm]
 refine Ve 11 _ rfl hP hH ?_
 try simp only [Nm]
 refine Vc 12 _ rfl hP hH ?_
 try simp only [Nm]
 refine Vc 13 _ rfl hP hH ?_
 try simp only [Nm]
 refine Ve 14 _ rfl hP hH ?_
 try simp only [Nm]
 refine Vc 15 _ rfl hP hH ?_
 try simp only [Nm]
 refine Vd 16 rfl hP hH ?_
 try simp only [Nm]
 refine Vd 17 rfl hP hH ?_
 try simp only [Nm]
 refine Vd 18 rfl hP hH ?_
 try simp only [Nm]
 refine Vd 19 rfl hP hH ?_
 try simp only [Nm]
 refine Vd 20 rfl hP hH ?_
 try simp only [Nm]
 refine Vc 21 _ rfl hP hH ?_
 try simp only [Nm]
 refine Vc 22 _ rfl hP hH ?_
 try simp only [Nm]
 refine Vc 23 _ rfl hP hH ?_
 try simp only [Nm]
 refine Rd 24 Zc rfl (fun K hK => ?_)
 have HK24 := bA hK
 clear hK
 go_simp
 obtain ⟨V2, hV2⟩ := Exq (V1.alloc (.cells #[.bool (true)] 4))
 rw [← hV2]
 refine Wr fun hC2 hv1 => ?_; clear hH hV2
 refine Shut.out HK24.o _ _ (HH _ hC2) (fun hH => ?_)
 try simp only [Nm]
 clear HK24)
 rotate_left
 focus (
 have HK8 := bA hK
 clear hK
 go_simp
 go_at_call 105
 refine (bW nn t _).mono ?_
 rintro e V1 ⟨rfl, hbV1⟩
 rw [Hq.o]
 refine Vo fun hC1 => ?_; clear hH
 refine Shut.out HK8.o _ _ (HH _ hC1) (fun hH => ?_)
 try simp only [Nm]
 clear HK8
 refine Vc 9 _ rfl hP hH ?_
 try simp only [Nm]
 refine Vc 10 _ rfl hP hH ?_
 try simp only [Nm]
 refine Ve 11 _ rfl hP hH ?_
 try simp only [Nm]
 refine Vc 12 _ rfl hP hH ?_
 try simp only [Nm]
 refine Vc 13 _ rfl hP hH ?_
 try simp only [Nm]
 refine Ve 14 _ rfl hP hH ?_
 try simp only [Nm]
 refine Vc 15 _ rfl hP hH ?_
 try simp only [Nm]
 refine Vd 16 rfl hP hH ?_
 try simp only [Nm]
 refine Vd 17 rfl hP hH ?_
 try simp only [Nm]
 refine Vd 18 rfl hP hH ?_
 try simp only [Nm]
 refine Vd 19 rfl hP hH ?_
 try simp only [Nm]
 refine Vd 20 rfl hP hH ?_
 try simp only [Nm]
 refine Vc 21 _ rfl hP hH ?_
 try simp only [Nm]
 refine Vc 22 _ rfl hP hH ?_
 try simp only [Nm]
 refine Vc 23 _ rfl hP hH ?_
 try simp only [Nm]
 refine wpAnyH_ready (rs := [1, 24]) Zc Zf ?_
 refine Ug rfl (fun K hK => ?_) (Ug rfl (fun K hK => ?_) Uh)
 focus (
 refine Wf fun HK1 hx => ?_; clear hK
 go_simp
 clear hx hH
 refine Shut.out HK1.o _ _ (HH _ hC1) (fun hH => ?_)
 try simp only [Nm]
 clear HK1
 refine Rd 24 Zc rfl (fun K hK => ?_)
 have HK24 := bA hK
 clear hK
 go_simp
 obtain ⟨V2, hV2⟩ := Exq (V1.alloc (.cells #[.bool (true)] 4))
 rw [← hV2]
 refine Wr fun hC2 hv1 => ?_; clear hH hV2
 refine Shut.out HK24.o _ _ (HH _ hC2) (fun hH => ?_)
 try simp only [Nm]
 clear HK24)
 rotate_left
 focus (
 have HK24 := bA hK
 clear hK
 go_simp
 obtain ⟨V2, hV2⟩ := Exq (V1.alloc (.cells #[.bool (true)] 4))
 rw [← hV2]
 refine Wr fun hC2 hv1 => ?_; clear hH hV2
 refine Shut.out HK24.o _ _ (HH _ hC2) (fun hH => ?_)
 try simp only [Nm]
 clear HK24
 refine Rd 1 Zc rfl (fun K hK => ?_)
 refine Wg fun HK1 hx => ?_; clear hK
 go_simp
 clear hx hH
 refine Shut.out HK1.o _ _ (HH _ hC2) (fun hH => ?_)
 try simp only [Nm]
 clear HK1))
 all_goals (
 refine Rd 25 Zc rfl (fun K hK => ?_)
 have HK25 := bA hK
 clear hK
 refine bP (v := v2) Zj _ _ _ Zj ib _ 1 underlying74 hbi hbz hbs hbb rfl Zj (HS.o.r2.below' hC2) (some ⟨_, 0, none⟩) 1 1 [.bool (true)] Zj Zj hv1 Zk Xk Xx X0 ?_
 intro v9 w9 hr9 hg9 hat9
 obtain ⟨A9, c9, hv9, _, _⟩ := hr9.shape
 subst hv9
 simp only [Vz, V8, bD, hm2] at hr9 hat9 ⊢
 refine Kx fun X9 hq9 HP9 => ?_; clear hr9 hat9 hH
 refine Shut.out HK25.o _ _ X9 (fun hH => ?_)
 try simp only [Nm]
 clear HK25
 refine Vc 26 _ rfl hP hH ?_
 try simp only [Nm]
 refine Rd 27 Zc rfl (fun K hK => ?_)
 have HK27 := bA hK
 clear hK
 have hx := hq9.cell 1
 have fx := hq9.frozen 1
 simp only [Yl] at hx
 go_simp
 refine Shut.out HK27.o _ _ (HZ _ _ X9) (fun hH => ?_)
 try simp only [Nm]
 clear HK27
 refine wpAnyH_done Zc ?_ _
 go_wp2_with fail
 go_roundg (l.length - (k + 1))
 case measure => exact Jg
 case rel => exact ⟨k + 1, _, _, Zb, by go_num, rfl, by rw [mE (f := fun k => fJ t (nd l k) && !(yn F.late k && yn F.alone k)), dJ Hn.o, Hq.o, Hq4.o]; exact HP9.o⟩))
 case true => (
 rw [hq4] at e4
 have Hq4 := bA hq4
 clear hq4
 obtain ⟨S, eS⟩ := Exq (fun w' => (w'.cell? ⟨w.heap.size, 1, none⟩ = some (.slice (some ⟨nb, no, none⟩) l.length cap) ∧ w'.cell? ⟨nb, no + k * 6, none⟩ = some (.int .i64 nn.op) ∧ w'.cell? ⟨nb, no + k * 6 + 1, none⟩ = some (.int .i64 nn.d) ∧ w'.cell? ⟨nb, no + k * 6 + 2, none⟩ = some (.int .i64 nn.a) ∧ w'.cell? ⟨nb, no + k * 6 + 3, none⟩ = some (.int .i64 nn.b) ∧ w'.cell? ⟨nb, no + k * 6 + 4, none⟩ = some (.int .i64 nn.t) ∧ w'.cell? ⟨nb, no + k * 6 + 5, none⟩ = some (.int .i64 nn.e) ∧ w'.cell? ⟨w.heap.size + 1, 0, none⟩ = some (.int .i64 t.op) ∧ w'.cell? ⟨w.heap.size + 1, 1, none⟩ = some (.int .i64 t.a) ∧ w'.cell? ⟨w.heap.size + 1, 2, none⟩ = some (.int .i64 t.b) ∧ w'.cell? ⟨fb, 4, none⟩ = some (.slice (some ⟨b4, o4, none⟩) l.length c4) ∧ w'.cell? ⟨fb, 5, none⟩ = some (.slice (some ⟨b5, o5, none⟩) l.length c5) ∧ w'.cell? ⟨b4, o4 + k, none⟩ = some (.bool true) ∧ w'.cell? ⟨b5, o5 + k, none⟩ = some (.bool (yn F.alone k))) : World → Prop)
 refine Kv fun HH HG HZ ES => ?_; clear eS
 refine Jx ?_
 intro hH
 have hC0 : Below wc.heap.size wc wc.drew := (Below.refl _ _).drew
 generalize wc.drew = V0 at hH hC0 ⊢
 refine Up (fun _ _ _ _ _ => id) fun hP => ?_
 refine Vc 0 _ rfl hP hH ?_
 try simp only [Nm]
 refine Vc 2 _ rfl hP hH ?_
 try simp only [Nm]
 refine Ve 3 _ rfl hP hH ?_
 try simp only [Nm]
 refine Vc 4 _ rfl hP hH ?_
 try simp only [Nm]
 refine Vc 5 _ rfl hP hH ?_
 try simp only [Nm]
 refine Ve 6 _ rfl hP hH ?_
 try simp only [Nm]
 refine Ve 7 _ rfl hP hH ?_
 try simp only [Nm]
 refine wpAnyH_ready (rs := [1, 8]) Zc Zf ?_
 refine Ug rfl (fun K hK => ?_) (Ug rfl (fun K hK => ?_) Uh)
 focus (
 refine K9 fun HK1 hx => ?_; clear hK
 go_simp
 clear hx hH
 refine Shut.out HK1.o _ _ (HH _ hC0) (fun hH => ?_)
 try simp only [Nm]
 clear HK1
 refine Rd 8 Zc rfl (fun K hK => ?_)
 have HK8 := bA hK
 clear hK
 go_simp
 go_at_call 105
 refine (bW nn t _).mono ?_
 rintro e V1 ⟨rfl, hbV1⟩
 rw [Hq.o]
 refine Vo fun hC1 => ?_; clear hH
 refine Shut.out HK8.o _ _ (HH _ hC1) (fun hH => ?_)
 try simp only [Nm]
 clear HK8
 refine Vc 9 _ rfl hP hH ?_
 try simp only [Nm]
 refine Vc 10 _ rfl hP hH ?_
 try simp only [Nm]
 refine Ve 11 _ rfl hP hH ?_
 try simp only [Nm]
 refine Vc 12 _ rfl hP hH ?_
 try simp only [Nm]
 refine Vc 13 _ rfl hP hH ?_
 try simp only [Nm]
 refine Ve 14 _ rfl hP hH ?_
 try simp only [Nm]
 refine Vc 15 _ rfl hP hH ?_
 try simp only [Nm]
 refine Vc 16 _ rfl hP hH ?_
 try simp only [Nm]
 refine Ve 17 _ rfl hP hH ?_
 try simp only [Nm]
 refine Vc 18 _ rfl hP hH ?_
 try simp only [Nm]
 refine Vc 19 _ rfl hP hH ?_
 try simp only [Nm]
 refine Ve 20 _ rfl hP hH ?_
 try simp only [Nm]
 refine Vc 21 _ rfl hP hH ?_
 try simp only [Nm]
 refine Vc 22 _ rfl hP hH ?_
 try simp only [Nm]
 refine Vc 23 _ rfl hP hH ?_
 try simp only [Nm]
 refine Rd 24 Zc rfl (fun K hK => ?_)
 have HK24 := bA hK
 clear hK
 go_simp
 obtain ⟨V2, hV2⟩ := Exq (V1.alloc (.cells #[.bool (!yn F.alone k)] 4))
 rw [← hV2]
 refine Wp fun hC2 hv1 => ?_; clear hH hV2
 refine Shut.out HK24.o _ _ (HH _ hC2) (fun hH => ?_)
 try simp only [Nm]
 clear HK24)
 rotate_left
 focus (
 have HK8 := bA hK
 clear hK
 go_simp
 go_at_call 105
 refine (bW nn t _).mono ?_
 rintro e V1 ⟨rfl, hbV1⟩
 rw [Hq.o]
 refine Vo fun hC1 => ?_; clear hH
 refine Shut.out HK8.o _ _ (HH _ hC1) (fun hH => ?_)
 try simp only [Nm]
 clear HK8
 refine Vc 9 _ rfl hP hH ?_
 try simp only [Nm]
 refine Vc 10 _ rfl hP hH ?_
 try simp only [Nm]
 refine Ve 11 _ rfl hP hH ?_
 try simp only [Nm]
 refine Vc 12 _ rfl hP hH ?_
 try simp only [Nm]
 refine Vc 13 _ rfl hP hH ?_
 try simp only [Nm]
 refine Ve 14 _ rfl hP hH ?_
 try simp only [Nm]
 refine Vc 15 _ rfl hP hH ?_
 try simp only [Nm]
 refine Vc 16 _ rfl hP hH ?_
 try simp only [Nm]
 refine Ve 17 _ rfl hP hH ?_
 try simp only [Nm]
 refine Vc 18 _ rfl hP hH ?_
 try simp only [Nm]
 refine Vc 19 _ rfl hP hH ?_
 try simp only [Nm]
 refine Ve 20 _ rfl hP hH ?_
 try simp only [Nm]
 refine Vc 21 _ rfl hP hH ?_
 try simp only [Nm]
 refine Vc 22 _ rfl hP hH ?_
 try simp only [Nm]
 refine Vc 23 _ rfl hP hH ?_
 try simp only [Nm]
 refine wpAnyH_ready (rs := [1, 24]) Zc Zf ?_
 refine Ug rfl (fun K hK => ?_) (Ug rfl (fun K hK => ?_) Uh)
 focus (
 refine Wf fun HK1 hx => ?_; clear hK
 go_simp
 clear hx hH
 refine Shut.out HK1.o _ _ (HH _ hC1) (fun hH => ?_)
 try simp only [Nm]
 clear HK1
 refine Rd 24 Zc rfl (fun K hK => ?_)
 have HK24 := bA hK
 clear hK
 go_simp
 obtain ⟨V2, hV2⟩ := Exq (V1.alloc (.cells #[.bool (!yn F.alone k)] 4))
 rw [← hV2]
 refine Wp fun hC2 hv1 => ?_; clear hH hV2
 refine Shut.out HK24.o _ _ (HH _ hC2) (fun hH => ?_)
 try simp only [Nm]
 clear HK24)
 rotate_left
 focus (
 have HK24 := bA hK
 clear hK
 go_simp
 obtain ⟨V2, hV2⟩ := Exq (V1.alloc (.cells #[.bool (!yn F.alone k)] 4))
 rw [← hV2]
 refine Wp fun hC2 hv1 => ?_; clear hH hV2
 refine Shut.out HK24.o _ _ (HH _ hC2) (fun hH => ?_)
 try simp only [Nm]
 clear HK24
 refine Rd 1 Zc rfl (fun K hK => ?_)
 refine Wg fun HK1 hx => ?_; clear hK
 go_simp
 clear hx hH
 refine Shut.out HK1.o _ _ (HH _ hC2) (fun hH => ?_)
 try simp only [Nm]
 clear HK1))
 all_goals (
 refine Rd 25 Zc rfl (fun K hK => ?_)
 have HK25 := bA hK
 clear hK
 refine bP (v := v2) Zj _ _ _ Zj ib _ 1 underlying74 hbi hbz hbs hbb rfl Zj (HS.o.r2.below' hC2) (some ⟨_, 0, none⟩) 1 1 [.bool (!yn F.alone k)] Zj Zj hv1 Zk Xk Xx X0 ?_
 intro v9 w9 hr9 hg9 hat9
 obtain ⟨A9, c9, hv9, _, _⟩ := hr9.shape
 subst hv9
 simp only [Vz, V8, bD, hm2] at hr9 hat9 ⊢
 refine Kx fun X9 hq9 HP9 => ?_; clear hr9 hat9 hH
 refine Shut.out HK25.o _ _ X9 (fun hH => ?_)
 try simp only [Nm]
 clear HK25
 refine Vc 26 _ rfl hP hH ?_
 try simp only [Nm]
 refine Rd 27 Zc rfl (fun K hK => ?_)
 have HK27 := bA hK
 clear hK
 have hx := hq9.cell 1
 have fx := hq9.frozen 1
 simp only [Yl] at hx
 go_simp
 refine Shut.out HK27.o _ _ (HZ _ _ X9) (fun hH => ?_)
 try simp only [Nm]
 clear HK27
 refine wpAnyH_done Zc ?_ _
 go_wp2_with fail
 go_roundg (l.length - (k + 1))
 case measure => exact Jg
 case rel => exact ⟨k + 1, _, _, Zb, by go_num, rfl, by rw [mE (f := fun k => fJ t (nd l k) && !(yn F.late k && yn F.alone k)), dJ Hn.o, Hq.o, Hq4.o]; exact HP9.o⟩)))))
 · (
 have hkk : k = l.length := Zb
 subst hkk
 have hO := HO1.o.below hS.below HO1.o.lt
 have hP := HP1.o.below hS.below HP1.o.lt
 have p1 := hP.cell 1
 have lpw := hP.lt
 simp only [Yl] at p1
 obtain ⟨B1, b1, e1, _, _⟩ := hS.r1.shape
 rw [bD, dD] at e1
 subst e1
 obtain ⟨B2, b2, e2, _, _⟩ := hS.r2.shape
 rw [bD, dD] at e2
 subst e2
 have l0 := hS.L.cell 0
 have l1 := hS.L.cell 1
 have o0 := hO.cell 0
 have o1 := hO.cell 1
 have f0 := hO.frozen 0
 have f1 := hO.frozen 1
 simp only [Yl] at l0 l1 o0 o1
 have lO := hO.lt
 have lL := hS.L.lt
 have hn1 := hS.r1.ne_blk hO Ze
 have hn2 := hS.r2.ne_blk hO Ze
 have hBw := HB1.o.size
 have Q1 := bA ((hS.r1.far (p := ⟨w.heap.size + 1 + 1, 0, none⟩) hn1 (.slice B1 l.length b1)).far (p := ⟨w.heap.size + 1 + 1, 1, none⟩) hn1 (.slice B2 l.length b2))
 have Q2 := bA ((hS.r2.far (p := ⟨w.heap.size + 1 + 1, 0, none⟩) hn2 (.slice B1 l.length b1)).far (p := ⟨w.heap.size + 1 + 1, 1, none⟩) hn2 (.slice B2 l.length b2))
 have HBf := bA (HB1.o.trans (hS.below.mono HB1.o.size))
 clear hS hO hn2 hn1 hP
 go_wp2_with fail
 go_tidy
 refine bodyPost_ret (v := .agg #[.slice B1 l.length b1, .slice B2 l.length b2]) (by simp [results, results75, go_sem, l0, l1, o0, o1, f0, f1, Vw, Vv]; try rfl) rfl ?_
 exact ⟨(HBf.o.setCell Zd _).setCell Zd _, F, _, _, HF.o, rfl, Q1.out.mono Zb, Q2.out.mono Zb⟩)))
end
end Go.Proofs.YtmghkonmfbpjcabGreatDoor
