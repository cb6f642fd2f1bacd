/- MvS. -/
import Derived.Test.YtmghkonmfbpjcabGreatGE
import Derived.Test.YtmghkonmfbpjcabGreatFactR9
import Derived.Test.YtmghkonmfbpjcabGreatGA
set_option linter.unusedVariables false
set_option linter.unusedSimpArgs false
set_option maxRecDepth 100000
namespace Go.Proofs.YtmghkonmfbpjcabGreat
section
open Go.RowKit
set_option maxHeartbeats 8000000
attribute [local irreducible] Row madeCells
structure LzSt (W0 : World) (lb : Nat) (v1 v2 : Value) (x y : List Bool) (W : World) : Prop where
 L : Blk W lb 29 #[v1, v2]
 r1 : Row W W0.heap.size 4 v1 (bools x)
 r2 : Row W W0.heap.size 4 v2 (bools y)
 ne : v1.ownBlock = none ∨ v1.ownBlock ≠ v2.ownBlock
 below : Below W0.heap.size W0 W
 low : W0.heap.size ≤ lb
section
variable {W0 : World} {lb : Nat} {v1 v2 : Value} {x y : List Bool} {W : World}
theorem LzSt.later {W' : World} (h : LzSt W0 lb v1 v2 x y W) (hb : Below W.heap.size W W') : LzSt W0 lb v1 v2 x y W' :=
 ⟨h.L.below hb h.L.lt, h.r1.below' hb, h.r2.below' hb, h.ne, h.below.trans (hb.mono h.below.size), h.low⟩
theorem LzSt.put1 {V w9 : World} {v9 : Value} {b : Bool} (h0 : LzSt W0 lb v1 v2 x y W) (hb : Below W.heap.size W V) (hr : Row w9 W0.heap.size 4 v9 (bools x ++ [.bool b])) (hg : V.grownBy w9 v1.ownBlock) (hat : v9.ownBlock = v1.ownBlock ∨ ∀ k, v9.ownBlock = some k → V.heap.size ≤ k) :
 LzSt W0 lb v9 v2 (x ++ [b]) y (w9.setCell ⟨lb, 0, none⟩ v9) := by (
 have h := h0.later hb
 have hL := Blk.grown h.L hg (h.r1.ne_blk h.L (by decide))
 have hne2 : v2.ownBlock = none ∨ v2.ownBlock ≠ v1.ownBlock := by (
 rcases h.ne with e | e
 · (
 rw [e]; rcases h2 : v2.ownBlock with _ | k
 · exact .inl rfl
 · exact .inr (by simp))
 · exact .inr (Ne.symm e))
 have hr2 := Row.kept h.r2 hg hne2
 refine ⟨hL.set_ 0 _, by rw [bools_snoc]; exact hr.far (hr.ne_blk hL (by decide)) _, hr2.far (hr2.ne_blk hL (by decide)) _, ?_, (h.below.grown hg h.below.size (fun q hq => (h.r1.lt q hq).1)).setCell h.low _, h.low⟩
 rcases hat with e | e
 · rw [e]; exact h.ne
 · (
 rcases h9 : v9.ownBlock with _ | k
 · exact .inl rfl
 · (
 refine .inr fun e2 => ?_
 have := e k h9
 have := (h.r2.lt k e2.symm).2
 omega)))
theorem LzSt.put2 {V w9 : World} {v9 : Value} {b : Bool} (h0 : LzSt W0 lb v1 v2 x y W) (hb : Below W.heap.size W V) (hr : Row w9 W0.heap.size 4 v9 (bools y ++ [.bool b])) (hg : V.grownBy w9 v2.ownBlock) (hat : v9.ownBlock = v2.ownBlock ∨ ∀ k, v9.ownBlock = some k → V.heap.size ≤ k) :
 LzSt W0 lb v1 v9 x (y ++ [b]) (w9.setCell ⟨lb, 1, none⟩ v9) := by (
 have h := h0.later hb
 have hL := Blk.grown h.L hg (h.r2.ne_blk h.L (by decide))
 have hr1 := Row.kept h.r1 hg h.ne
 refine ⟨hL.set_ 1 _, hr1.far (hr1.ne_blk hL (by decide)) _, by rw [bools_snoc]; exact hr.far (hr.ne_blk hL (by decide)) _, ?_, (h.below.grown hg h.below.size (fun q hq => (h.r2.lt q hq).1)).setCell h.low _, h.low⟩
 rcases hat with e | e
 · rw [e]; exact h.ne
 · (
 rcases h1 : v1.ownBlock with _ | k
 · exact .inl rfl
 · (
 refine .inr fun e2 => ?_
 have := e k (by rw [← e2])
 have := (h.r1.lt k h1).2
 omega)))
end
def lazyZ (t : Tm) (l : List Nd) (F : Fx) : List Bool := mk l.length fun k => recB t (nd l k) && !(yn F.late k && yn F.alone k)
def LoPost (tB : TypeId) (l : List Nd) (t : Tm) (w : World) (e : Ending) (w' : World) : Prop :=
 Below w.heap.size w w' ∧ ∃ F v1 v2, IsFx t l F ∧ e = .returned (.agg #[v1, v2]) ∧ Row w' w.heap.size tB v1 (bools (lazyX l F)) ∧ Row w' w.heap.size tB v2 (bools (lazyZ t l F))
theorem LazyOf_any (regs : Int) (A : Option Addr) (l : List Nd) (cap : Nat) (t : Tm) (w : World) (hA : NodesAt w A l) (hR : Right regs l) :
 Calls Tryz.prog 9 #[.agg #[.int .i64 regs, .slice A l.length cap], .agg #[.int .i64 t.op, .int .i64 t.a, .int .i64 t.b]] w (LoPost 4 l t w) := by (
 obtain ⟨ib, hbi, hbz, hbs, hbb⟩ := info_parts infoBoolG
 have hhi := hR.hi
 have HX := hide (fun W (hW : Below w.heap.size w W) => FactsOf_any regs A l cap t W (hA.below hW) hR)
 have HN := hide (fun W (hW : Below w.heap.size w W) => hA.below hW)
 clear hA hR
 go_enter Tryz.func9, Tryz.ntmps9
 go_wp2_with fail
 refine (HX.out _ (by (with_reducible repeat first | apply Qa | assumption | apply Qb | apply Qc | apply Qd | apply Qe | refine Qf ?_ (by assumption) ?_); all_goals (try simp only [Sz]); first | done | omega | (try simp only [Sz] at *); omega)).mono ?_
 rintro e w1 ⟨hb1, F, v0, v1, v2, v3, v4, v5, rfl, hF, r0, r1, r2, r3, r4, r5⟩
 obtain ⟨L0, L1, L2, L3, L4, L5⟩ := hF.len
 obtain ⟨A0, c0, e0, _, _⟩ := r0.shape
 rw [bools_length, L0] at e0
 subst e0
 obtain ⟨A1, c1, e1, _, _⟩ := r1.shape
 rw [bools_length, L1] at e1
 subst e1
 obtain ⟨A2, c2, e2, _, _⟩ := r2.shape
 rw [bools_length, L2] at e2
 subst e2
 obtain ⟨A3, c3, e3, _, _⟩ := r3.shape
 rw [bools_length, L3] at e3
 subst e3
 obtain ⟨A4, c4, e4, _, _⟩ := r4.shape
 rw [bools_length, L4] at e4
 subst e4
 obtain ⟨A5, c5, e5, _, _⟩ := r5.shape
 rw [bools_length, L5] at e5
 subst e5
 have hz1 := hb1.size
 simp only [World.size_alloc] at hz1
 have hB1 : Below w.heap.size w w1 := (by (with_reducible repeat first | apply Qa | assumption | apply Qb | apply Qc | apply Qd | apply Qe | refine Qf ?_ (by assumption) ?_); all_goals (try simp only [Sz]); first | done | omega | (try simp only [Sz] at *); omega)
 have hP1 : Blk w1 w.heap.size 24 #[.int .i64 regs, .slice A l.length cap] := Blk.below (by repeat (first | ((with_reducible refine Blk.new' ?_); exact (by (try simp only [Sz]); first | done | omega | (try simp only [Sz] at *); omega)) | (with_reducible refine Blk.alloc ?_ _))) hb1 (by simp <;> omega)
 have hT1 : Blk w1 (w.heap.size + 1) 26 (tmA t) := Blk.below (by unfold tmA; repeat (first | ((with_reducible refine Blk.new' ?_); exact (by (try simp only [Sz]); first | done | omega | (try simp only [Sz] at *); omega)) | (with_reducible refine Blk.alloc ?_ _))) hb1 (by simp <;> omega)
 have hO1 : Blk w1 (w.heap.size + 1 + 1) 29 #[.slice none 0 0, .slice none 0 0] := Blk.below (by repeat (first | ((with_reducible refine Blk.new' ?_); exact (by (try simp only [Sz]); first | done | omega | (try simp only [Sz] at *); omega)) | (with_reducible refine Blk.alloc ?_ _))) hb1 (by simp <;> omega)
 clear hb1
 go_upto_region 2 with fail
 obtain ⟨W2, hW2⟩ : ∃ W2 : World, W2 = w1.alloc (.cells #[.slice A0 l.length c0, .slice A1 l.length c1, .slice A2 l.length c2, .slice A3 l.length c3, .slice A4 l.length c4, .slice A5 l.length c5] 49) := ⟨_, rfl⟩
 have hb2 : Below w1.heap.size w1 W2 := by rw [hW2]; exact (Below.refl _ _).alloc (Nat.le_refl _) _
 have hFB : FxBox 49 w1.heap.size l.length A0 A1 A2 A3 A4 A5 c0 c1 c2 c3 c4 c5 F W2 := ⟨by rw [hW2]; exact Blk.new' rfl, ⟨r0.vals.below hb2, L0⟩, ⟨r2.vals.below hb2, L2⟩, ⟨r4.vals.below hb2, L4⟩, ⟨r5.vals.below hb2, L5⟩⟩
 have hP2 := hP1.below hb2 hP1.lt
 have hT2 := hT1.below hb2 hT1.lt
 have hO2 := hO1.below hb2 hO1.lt
 have hB2 := hB1.trans (hb2.mono hB1.size)
 have hz2 := hb2.size
 rw [← hW2]
 obtain ⟨fb, hfb⟩ : ∃ b, b = w1.heap.size := ⟨_, rfl⟩
 rw [← hfb] at hFB ⊢
 have hfl := hFB.box.lt
 have hfg : w.heap.size + 1 + 1 < fb := by omega
 clear hfb hW2 hb2 hP1 hT1 hO1 hB1 r0 r1 r2 r3 r4 r5 L0 L1 L2 L3 L4 L5 hz1 hz2
 go_upto_region 3 with fail
 obtain ⟨W3, hW3⟩ : ∃ W3 : World, W3 = W2.alloc (.cells #[.slice none 0 0, .slice none 0 0] 29) := ⟨_, rfl⟩
 have hS3 : LzSt W2 W2.heap.size (.slice none 0 0) (.slice none 0 0) (mk 0 fun k => yn F.late k && !yn F.alone k) (mk 0 fun k => recB t (nd l k) && !(yn F.late k && yn F.alone k)) W3 := by rw [hW3]; exact ⟨Blk.new' rfl, Row.nil_ _ _ _, Row.nil_ _ _ _, .inl rfl, (Below.refl _ _).alloc (Nat.le_refl _) _, Nat.le_refl _⟩
 rw [← hW3]
 obtain ⟨lb, hlb⟩ : ∃ b, b = W2.heap.size := ⟨_, rfl⟩
 rw [← hlb] at hS3 ⊢
 have hlw := hS3.low
 have HS3 := hide hS3
 have HP1 := hide hP2
 have HT1 := hide hT2
 have HO1 := hide hO2
 have HB1 := hide hB2
 have HFB := hide hFB
 have HF := hide hF
 clear hS3 hP2 hT2 hO2 hB2 hFB hF hW3 hlb w1
 go_wp2_with fail
 go_loopg [7] (l.length) (fun gk i wr => ∃ (k : Nat) (v1 v2 : Value), k ≤ l.length ∧ i = .int .i64 k ∧ gk = l.length - k ∧ LzSt W2 lb v1 v2 (mk k fun k => yn F.late k && !yn F.alone k) (mk k fun k => recB t (nd l k) && !(yn F.late k && yn F.alone k)) wr)
 case atStart => exact ⟨0, _, _, Nat.zero_le _, rfl, rfl, HS3.out⟩
 case round => (
 clear HS3
 obtain ⟨k, v1, v2, hk, rfl, hgk, hS⟩ := hrel
 have Hgk := hide hgk
 clear hgk
 have lp := HP1.out.lt
 have hwz := hS.below.size
 by_cases hlt : k < l.length
 · (
 obtain ⟨nb, no, nn, rfl, hnb, hn, n0, n1, n2, n3, n4, n5⟩ := (HN.out _ HB1.out).get hlt
 have p1 := HP1.out.cell 1
 have t0 := HT1.out.cell 0
 have t1 := HT1.out.cell 1
 have t2 := HT1.out.cell 2
 have ltb := HT1.out.lt
 obtain ⟨b4, o4, rfl, l4, e4⟩ := HFB.out.late.1.bool (k := k) (by rw [HFB.out.late.2]; exact hlt)
 obtain ⟨b5, o5, rfl, l5, e5⟩ := HFB.out.alone.1.bool (k := k) (by rw [HFB.out.alone.2]; exact hlt)
 have f4 := HFB.out.box.cell 4
 have f5 := HFB.out.box.cell 5
 simp only [tmA, Yl] at p1 t0 t1 t2 f4 f5
 have HC := hide (show _ ∧ _ ∧ _ ∧ _ ∧ _ ∧ _ ∧ _ ∧ _ ∧ _ ∧ _ ∧ _ ∧ _ ∧ _ ∧ _ from ⟨p1, n0, n1, n2, n3, n4, n5, t0, t1, t2, f4, f5, e4, e5⟩)
 clear p1 n0 n1 n2 n3 n4 n5 t0 t1 t2 f4 f5 e4 e5
 have u0 : (0 : Int) ≤ (k : Int) := by omega
 have u1 : (k : Int) < (l.length : Int) := by omega
 have hm1 : (mk k fun k => yn F.late k && !yn F.alone k).length = k := mk_len _ _
 have hm2 : (mk k fun k => recB t (nd l k) && !(yn F.late k && yn F.alone k)).length = k := mk_len _ _
 have Hn := hide hn
 obtain ⟨p1, n0, n1, n2, n3, n4, n5, t0, t1, t2, f4, f5, e4, e5⟩ := HC.out
 have p1 := ((bcell hS.below).1 _ _ lp).trans p1
 have n0 := ((bcell hS.below).1 _ _ hnb).trans n0
 have n1 := ((bcell hS.below).1 _ _ hnb).trans n1
 have n2 := ((bcell hS.below).1 _ _ hnb).trans n2
 have n3 := ((bcell hS.below).1 _ _ hnb).trans n3
 have n4 := ((bcell hS.below).1 _ _ hnb).trans n4
 have n5 := ((bcell hS.below).1 _ _ hnb).trans n5
 have t0 := ((bcell hS.below).1 _ _ ltb).trans t0
 have t1 := ((bcell hS.below).1 _ _ ltb).trans t1
 have t2 := ((bcell hS.below).1 _ _ ltb).trans t2
 have f4 := ((bcell hS.below).1 _ _ hfl).trans f4
 have f5 := ((bcell hS.below).1 _ _ hfl).trans f5
 have e4 := ((bcell hS.below).1 _ _ l4).trans e4
 have e5 := ((bcell hS.below).1 _ _ l5).trans e5
 have HS := hide hS
 clear hn hS
 go_upto_region 6 with fail
 go_cut [6] (fun s6 wx => s6 = .pointer (some ⟨lb, 0, none⟩) ∧ ∃ v1', LzSt W2 lb v1' v2 (mk (k + 1) fun k => yn F.late k && !yn F.alone k) (mk k fun k => recB t (nd l k) && !(yn F.late k && yn F.alone k)) wx)
 case first => (
 cases hq4 : yn F.late k
 case false => (
 rw [hq4] at e4
 have Hq4 := hide hq4
 clear hq4 p1 n0 n1 n2 n3 n4 n5 t0 t1 t2
 obtain ⟨S, eS⟩ : ∃ S : World → Prop, S = fun w' => (w'.cell? ⟨fb, 4, none⟩ = some (.slice (some ⟨b4, o4, none⟩) l.length c4) ∧ w'.cell? ⟨fb, 5, none⟩ = some (.slice (some ⟨b5, o5, none⟩) l.length c5) ∧ w'.cell? ⟨b4, o4 + k, none⟩ = some (.bool false) ∧ w'.cell? ⟨b5, o5 + k, none⟩ = some (.bool (yn F.alone k))) := ⟨_, rfl⟩
 have HH : ∀ V : World, Below wr.heap.size wr V → S V := by rw [eS]; exact fun V hV => ⟨((bcell hV).1 _ _ (by omega)).trans f4, ((bcell hV).1 _ _ (by omega)).trans f5, ((bcell hV).1 _ _ (by omega)).trans e4, ((bcell hV).1 _ _ (by omega)).trans e5⟩
 have HG : ∀ V w9 : World, Below wr.heap.size wr V → V.grownBy w9 v1.ownBlock → S w9 := by (
 rw [eS]
 intro V w9 hV hg9
 have hown : ∀ b, b < W2.heap.size → (some b) ≠ v1.ownBlock := fun b hb e => by have := (HS.out.r1.lt b e.symm).1; omega
 have hsz2 := hV.size
 exact ⟨(hg9.cell_far ⟨fb, 4, none⟩ (by simp; omega) (hown _ (by omega))).trans (((bcell hV).1 _ _ (by omega)).trans f4), (hg9.cell_far ⟨fb, 5, none⟩ (by simp; omega) (hown _ (by omega))).trans (((bcell hV).1 _ _ (by omega)).trans f5), (hg9.cell_far ⟨b4, o4 + k, none⟩ (by simp; omega) (hown _ (by omega))).trans (((bcell hV).1 _ _ (by omega)).trans e4), (hg9.cell_far ⟨b5, o5 + k, none⟩ (by simp; omega) (hown _ (by omega))).trans (((bcell hV).1 _ _ (by omega)).trans e5)⟩)
 have HZ : ∀ (V : World) (u : Value), S V → S (V.setCell ⟨lb, 0, none⟩ u) := by rw [eS]; exact fun V u ⟨f4, f5, e4, e5⟩ => ⟨(set1_cell (by omega) _ _).trans f4, (set1_cell (by omega) _ _).trans f5, (set1_cell (by omega) _ _).trans e4, (set1_cell (by omega) _ _).trans e5⟩
 have ES := hide eS
 clear eS
 refine wp_region_held_drew (S := S) (by kernel_rfl) (HH _ (Below.refl _ _).drew) ?_
 intro hH
 have hC0 : Below wr.heap.size wr wr.drew := (Below.refl _ _).drew
 generalize wr.drew = V0 at hH hC0 ⊢
 refine Up (fun _ _ _ _ _ => id) fun hP => ?_
 refine Vq 0 ?_ rfl (by kernel_rfl) hP (by rfl) ?r hH ?_; case r => intro w'; go_simp; try with_reducible rfl
 try simp only [Nm]
 refine Vq 2 ?_ rfl (by kernel_rfl) hP (by rfl) ?r hH ?_; case r => intro w'; go_simp; try with_reducible rfl
 try simp only [Nm]
 refine Vi 3 ?_ rfl (by kernel_rfl) hP (by rfl) ?r hH ?_; case r => intro w' h; rw [ES.out] at h; (try dsimp only at h); (try go_split_ands); go_simp; try with_reducible rfl
 try simp only [Nm]
 refine Vq 4 ?_ rfl (by kernel_rfl) hP (by rfl) ?r hH ?_; case r => intro w'; go_simp; try with_reducible rfl
 try simp only [Nm]
 refine Vq 5 ?_ rfl (by kernel_rfl) hP (by rfl) ?r hH ?_; case r => intro w'; go_simp; try with_reducible rfl
 try simp only [Nm]
 refine Vi 6 ?_ rfl (by kernel_rfl) hP (by rfl) ?r hH ?_; case r => intro w' h; rw [ES.out] at h; (try dsimp only at h); (try go_split_ands); go_simp; try with_reducible rfl
 try simp only [Nm]
 refine Vq 7 ?_ rfl (by kernel_rfl) hP (by rfl) ?r hH ?_; case r => intro w'; go_simp; try with_reducible rfl
 try simp only [Nm]
 refine Vn 8 rfl (by kernel_rfl) hP (by rfl) hH ?_
 try simp only [Nm]
 refine Vn 9 rfl (by kernel_rfl) hP (by rfl) hH ?_
 try simp only [Nm]
 refine Vn 10 rfl (by kernel_rfl) hP (by rfl) hH ?_
 try simp only [Nm]
 refine Vn 11 rfl (by kernel_rfl) hP (by rfl) hH ?_
 try simp only [Nm]
 refine Vn 12 rfl (by kernel_rfl) hP (by rfl) hH ?_
 try simp only [Nm]
 refine Vn 13 rfl (by kernel_rfl) hP (by rfl) hH ?_
 try simp only [Nm]
 refine Vq 14 ?_ rfl (by kernel_rfl) hP (by rfl) ?r hH ?_; case r => intro w'; go_simp; try with_reducible rfl
 try simp only [Nm]
 refine wpAnyH_ready (rs := [1, 15]) (by kernel_rfl) (by simp) ?_
 refine AllReadyH.cons rfl (fun K hK => ?_) (AllReadyH.cons rfl (fun K hK => ?_) AllReadyH.nil)
 focus (
 have HK1 := hide hK
 clear hK
 have hx := (HS.out.L.below hC0 HS.out.L.lt).cell 0
 simp only [Yl] at hx
 go_simp
 clear hx hH
 refine Shut.out HK1.out _ _ (HH _ hC0) (fun hH => ?_)
 try simp only [Nm]
 clear HK1
 refine Rd 15 (by kernel_rfl) rfl (fun K hK => ?_)
 have HK15 := hide hK
 clear hK
 go_simp
 obtain ⟨V1, hV1⟩ : ∃ V : World, V = V0.alloc (.cells #[.bool (false)] 4) := ⟨_, rfl⟩
 rw [← hV1]
 have hC1 : Below wr.heap.size wr V1 := by rw [hV1]; exact Below.alloc hC0 hC0.size _
 have hv1 : ValsAt V1 (some ⟨V0.heap.size, 0, none⟩) [.bool (false)] := by rw [hV1]; exact vals_one _ _ _
 clear hH hV1
 refine Shut.out HK15.out _ _ (HH _ hC1) (fun hH => ?_)
 try simp only [Nm]
 clear HK15)
 rotate_left
 focus (
 have HK15 := hide hK
 clear hK
 go_simp
 obtain ⟨V1, hV1⟩ : ∃ V : World, V = V0.alloc (.cells #[.bool (false)] 4) := ⟨_, rfl⟩
 rw [← hV1]
 have hC1 : Below wr.heap.size wr V1 := by rw [hV1]; exact Below.alloc hC0 hC0.size _
 have hv1 : ValsAt V1 (some ⟨V0.heap.size, 0, none⟩) [.bool (false)] := by rw [hV1]; exact vals_one _ _ _
 clear hH hV1
 refine Shut.out HK15.out _ _ (HH _ hC1) (fun hH => ?_)
 try simp only [Nm]
 clear HK15
 refine Rd 1 (by kernel_rfl) rfl (fun K hK => ?_)
 have HK1 := hide hK
 clear hK
 have hx := (HS.out.L.below hC1 HS.out.L.lt).cell 0
 simp only [Yl] at hx
 go_simp
 clear hx hH
 refine Shut.out HK1.out _ _ (HH _ hC1) (fun hH => ?_)
 try simp only [Nm]
 clear HK1)
 all_goals (
 refine Rd 16 (by kernel_rfl) rfl (fun K hK => ?_)
 have HK16 := hide hK
 clear hK
 refine step_append_row (v := v1) (by rfl) _ _ _ (by rfl) ib _ 1 Tryz.underlying27 hbi hbz hbs hbb rfl (by rfl) (HS.out.r1.below' hC1) (some ⟨_, 0, none⟩) 1 1 [.bool (false)] (by rfl) (by rfl) hv1 (by simp [Value.oneCell']) (by rw [bools_length, hm1]; simp [maxLen]; omega) (by rw [bools_length, hm1]; simp; omega) (by have := hC1.size; omega) ?_
 intro v9 w9 hr9 hg9 hat9
 obtain ⟨A9, c9, hv9, _, _⟩ := hr9.shape
 subst hv9
 simp only [List.length_append, List.length_singleton, bools_length, hm1] at hr9 hat9 ⊢
 have X9 := HG _ _ hC1 hg9
 have hq9 := Blk.grown (HS.out.L.below hC1 HS.out.L.lt) hg9 (HS.out.r1.ne_blk HS.out.L (by decide))
 have hP9 := HS.out.put1 hC1 hr9 hg9 hat9
 have HP9 := hide hP9
 clear hP9 hr9 hat9 hH
 refine Shut.out HK16.out _ _ X9 (fun hH => ?_)
 try simp only [Nm]
 clear HK16
 refine Vq 17 ?_ rfl (by kernel_rfl) hP (by rfl) ?r hH ?_; case r => intro w'; go_simp; try with_reducible rfl
 try simp only [Nm]
 refine Rd 18 (by kernel_rfl) rfl (fun K hK => ?_)
 have HK18 := hide hK
 clear hK
 have hx := hq9.cell 0
 have fx := hq9.frozen 0
 simp only [Yl] at hx
 go_simp
 refine Shut.out HK18.out _ _ (HZ _ _ X9) (fun hH => ?_)
 try simp only [Nm]
 clear HK18
 refine wpAnyH_done (by kernel_rfl) ?_ _
 go_wp2_with fail
 go_meet
 go_tidy
 exact ⟨rfl, _, by rw [mk_succ, Hq4.out]; exact HP9.out⟩))
 case true => (
 rw [hq4] at e4
 have Hq4 := hide hq4
 clear hq4 p1 n0 n1 n2 n3 n4 n5 t0 t1 t2
 obtain ⟨S, eS⟩ : ∃ S : World → Prop, S = fun w' => (w'.cell? ⟨fb, 4, none⟩ = some (.slice (some ⟨b4, o4, none⟩) l.length c4) ∧ w'.cell? ⟨fb, 5, none⟩ = some (.slice (some ⟨b5, o5, none⟩) l.length c5) ∧ w'.cell? ⟨b4, o4 + k, none⟩ = some (.bool true) ∧ w'.cell? ⟨b5, o5 + k, none⟩ = some (.bool (yn F.alone k))) := ⟨_, rfl⟩
 have HH : ∀ V : World, Below wr.heap.size wr V → S V := by rw [eS]; exact fun V hV => ⟨((bcell hV).1 _ _ (by omega)).trans f4, ((bcell hV).1 _ _ (by omega)).trans f5, ((bcell hV).1 _ _ (by omega)).trans e4, ((bcell hV).1 _ _ (by omega)).trans e5⟩
 have HG : ∀ V w9 : World, Below wr.heap.size wr V → V.grownBy w9 v1.ownBlock → S w9 := by (
 rw [eS]
 intro V w9 hV hg9
 have hown : ∀ b, b < W2.heap.size → (some b) ≠ v1.ownBlock := fun b hb e => by have := (HS.out.r1.lt b e.symm).1; omega
 have hsz2 := hV.size
 exact ⟨(hg9.cell_far ⟨fb, 4, none⟩ (by simp; omega) (hown _ (by omega))).trans (((bcell hV).1 _ _ (by omega)).trans f4), (hg9.cell_far ⟨fb, 5, none⟩ (by simp; omega) (hown _ (by omega))).trans (((bcell hV).1 _ _ (by omega)).trans f5), (hg9.cell_far ⟨b4, o4 + k, none⟩ (by simp; omega) (hown _ (by omega))).trans (((bcell hV).1 _ _ (by omega)).trans e4), (hg9.cell_far ⟨b5, o5 + k, none⟩ (by simp; omega) (hown _ (by omega))).trans (((bcell hV).1 _ _ (by omega)).trans e5)⟩)
 have HZ : ∀ (V : World) (u : Value), S V → S (V.setCell ⟨lb, 0, none⟩ u) := by rw [eS]; exact fun V u ⟨f4, f5, e4, e5⟩ => ⟨(set1_cell (by omega) _ _).trans f4, (set1_cell (by omega) _ _).trans f5, (set1_cell (by omega) _ _).trans e4, (set1_cell (by omega) _ _).trans e5⟩
 have ES := hide eS
 clear eS
 refine wp_region_held_drew (S := S) (by kernel_rfl) (HH _ (Below.refl _ _).drew) ?_
 intro hH
 have hC0 : Below wr.heap.size wr wr.drew := (Below.refl _ _).drew
 generalize wr.drew = V0 at hH hC0 ⊢
 refine Up (fun _ _ _ _ _ => id) fun hP => ?_
 refine Vq 0 ?_ rfl (by kernel_rfl) hP (by rfl) ?r hH ?_; case r => intro w'; go_simp; try with_reducible rfl
 try simp only [Nm]
 refine Vq 2 ?_ rfl (by kernel_rfl) hP (by rfl) ?r hH ?_; case r => intro w'; go_simp; try with_reducible rfl
 try simp only [Nm]
 refine Vi 3 ?_ rfl (by kernel_rfl) hP (by rfl) ?r hH ?_; case r => intro w' h; rw [ES.out] at h; (try dsimp only at h); (try go_split_ands); go_simp; try with_reducible rfl
 try simp only [Nm]
 refine Vq 4 ?_ rfl (by kernel_rfl) hP (by rfl) ?r hH ?_; case r => intro w'; go_simp; try with_reducible rfl
 try simp only [Nm]
 refine Vq 5 ?_ rfl (by kernel_rfl) hP (by rfl) ?r hH ?_; case r => intro w'; go_simp; try with_reducible rfl
 try simp only [Nm]
 refine Vi 6 ?_ rfl (by kernel_rfl) hP (by rfl) ?r hH ?_; case r => intro w' h; rw [ES.out] at h; (try dsimp only at h); (try go_split_ands); go_simp; try with_reducible rfl
 try simp only [Nm]
 refine Vq 7 ?_ rfl (by kernel_rfl) hP (by rfl) ?r hH ?_; case r => intro w'; go_simp; try with_reducible rfl
 try simp only [Nm]
 refine Vq 8 ?_ rfl (by kernel_rfl) hP (by rfl) ?r hH ?_; case r => intro w'; go_simp; try with_reducible rfl
 try simp only [Nm]
 refine Vi 9 ?_ rfl (by kernel_rfl) hP (by rfl) ?r hH ?_; case r => intro w' h; rw [ES.out] at h; (try dsimp only at h); (try go_split_ands); go_simp; try with_reducible rfl
 try simp only [Nm]
 refine Vq 10 ?_ rfl (by kernel_rfl) hP (by rfl) ?r hH ?_; case r => intro w'; go_simp; try with_reducible rfl
 try simp only [Nm]
 refine Vq 11 ?_ rfl (by kernel_rfl) hP (by rfl) ?r hH ?_; case r => intro w'; go_simp; try with_reducible rfl
 try simp only [Nm]
 refine Vi 12 ?_ rfl (by kernel_rfl) hP (by rfl) ?r hH ?_; case r => intro w' h; rw [ES.out] at h; (try dsimp only at h); (try go_split_ands); go_simp; try with_reducible rfl
 try simp only [Nm]
 refine Vq 13 ?_ rfl (by kernel_rfl) hP (by rfl) ?r hH ?_; case r => intro w'; go_simp; try with_reducible rfl
 try simp only [Nm]
 refine Vq 14 ?_ rfl (by kernel_rfl) hP (by rfl) ?r hH ?_; case r => intro w'; go_simp; try with_reducible rfl
 try simp only [Nm]
 refine wpAnyH_ready (rs := [1, 15]) (by kernel_rfl) (by simp) ?_
 refine AllReadyH.cons rfl (fun K hK => ?_) (AllReadyH.cons rfl (fun K hK => ?_) AllReadyH.nil)
 focus (
 have HK1 := hide hK
 clear hK
 have hx := (HS.out.L.below hC0 HS.out.L.lt).cell 0
 simp only [Yl] at hx
 go_simp
 clear hx hH
 refine Shut.out HK1.out _ _ (HH _ hC0) (fun hH => ?_)
 try simp only [Nm]
 clear HK1
 refine Rd 15 (by kernel_rfl) rfl (fun K hK => ?_)
 have HK15 := hide hK
 clear hK
 go_simp
 obtain ⟨V1, hV1⟩ : ∃ V : World, V = V0.alloc (.cells #[.bool (!yn F.alone k)] 4) := ⟨_, rfl⟩
 rw [← hV1]
 have hC1 : Below wr.heap.size wr V1 := by rw [hV1]; exact Below.alloc hC0 hC0.size _
 have hv1 : ValsAt V1 (some ⟨V0.heap.size, 0, none⟩) [.bool (!yn F.alone k)] := by rw [hV1]; exact vals_one _ _ _
 clear hH hV1
 refine Shut.out HK15.out _ _ (HH _ hC1) (fun hH => ?_)
 try simp only [Nm]
 clear HK15)
 rotate_left
 focus (
 have HK15 := hide hK
 clear hK
 go_simp
 obtain ⟨V1, hV1⟩ : ∃ V : World, V = V0.alloc (.cells #[.bool (!yn F.alone k)] 4) := ⟨_, rfl⟩
 rw [← hV1]
 have hC1 : Below wr.heap.size wr V1 := by rw [hV1]; exact Below.alloc hC0 hC0.size _
 have hv1 : ValsAt V1 (some ⟨V0.heap.size, 0, none⟩) [.bool (!yn F.alone k)] := by rw [hV1]; exact vals_one _ _ _
 clear hH hV1
 refine Shut.out HK15.out _ _ (HH _ hC1) (fun hH => ?_)
 try simp only [Nm]
 clear HK15
 refine Rd 1 (by kernel_rfl) rfl (fun K hK => ?_)
 have HK1 := hide hK
 clear hK
 have hx := (HS.out.L.below hC1 HS.out.L.lt).cell 0
 simp only [Yl] at hx
 go_simp
 clear hx hH
 refine Shut.out HK1.out _ _ (HH _ hC1) (fun hH => ?_)
 try simp only [Nm]
 clear HK1)
 all_goals (
 refine Rd 16 (by kernel_rfl) rfl (fun K hK => ?_)
 have HK16 := hide hK
 clear hK
 refine step_append_row (v := v1) (by rfl) _ _ _ (by rfl) ib _ 1 Tryz.underlying27 hbi hbz hbs hbb rfl (by rfl) (HS.out.r1.below' hC1) (some ⟨_, 0, none⟩) 1 1 [.bool (!yn F.alone k)] (by rfl) (by rfl) hv1 (by simp [Value.oneCell']) (by rw [bools_length, hm1]; simp [maxLen]; omega) (by rw [bools_length, hm1]; simp; omega) (by have := hC1.size; omega) ?_
 intro v9 w9 hr9 hg9 hat9
 obtain ⟨A9, c9, hv9, _, _⟩ := hr9.shape
 subst hv9
 simp only [List.length_append, List.length_singleton, bools_length, hm1] at hr9 hat9 ⊢
 have X9 := HG _ _ hC1 hg9
 have hq9 := Blk.grown (HS.out.L.below hC1 HS.out.L.lt) hg9 (HS.out.r1.ne_blk HS.out.L (by decide))
 have hP9 := HS.out.put1 hC1 hr9 hg9 hat9
 have HP9 := hide hP9
 clear hP9 hr9 hat9 hH
 refine Shut.out HK16.out _ _ X9 (fun hH => ?_)
 try simp only [Nm]
 clear HK16
 refine Vq 17 ?_ rfl (by kernel_rfl) hP (by rfl) ?r hH ?_; case r => intro w'; go_simp; try with_reducible rfl
 try simp only [Nm]
 refine Rd 18 (by kernel_rfl) rfl (fun K hK => ?_)
 have HK18 := hide hK
 clear hK
 have hx := hq9.cell 0
 have fx := hq9.frozen 0
 simp only [Yl] at hx
 go_simp
 refine Shut.out HK18.out _ _ (HZ _ _ X9) (fun hH => ?_)
 try simp only [Nm]
 clear HK18
 refine wpAnyH_done (by kernel_rfl) ?_ _
 go_wp2_with fail
 go_meet
 go_tidy
 exact ⟨rfl, _, by rw [mk_succ, Hq4.out]; exact HP9.out⟩)))
 case rest => (
 obtain ⟨rfl, v1', hS⟩ := hcut
 clear HS p1 n0 n1 n2 n3 n4 n5 t0 t1 t2 f4 f5 e4 e5
 have hwz := hS.below.size
 obtain ⟨p1, n0, n1, n2, n3, n4, n5, t0, t1, t2, f4, f5, e4, e5⟩ := HC.out
 have p1 := ((bcell hS.below).1 _ _ lp).trans p1
 have n0 := ((bcell hS.below).1 _ _ hnb).trans n0
 have n1 := ((bcell hS.below).1 _ _ hnb).trans n1
 have n2 := ((bcell hS.below).1 _ _ hnb).trans n2
 have n3 := ((bcell hS.below).1 _ _ hnb).trans n3
 have n4 := ((bcell hS.below).1 _ _ hnb).trans n4
 have n5 := ((bcell hS.below).1 _ _ hnb).trans n5
 have t0 := ((bcell hS.below).1 _ _ ltb).trans t0
 have t1 := ((bcell hS.below).1 _ _ ltb).trans t1
 have t2 := ((bcell hS.below).1 _ _ ltb).trans t2
 have f4 := ((bcell hS.below).1 _ _ hfl).trans f4
 have f5 := ((bcell hS.below).1 _ _ hfl).trans f5
 have e4 := ((bcell hS.below).1 _ _ l4).trans e4
 have e5 := ((bcell hS.below).1 _ _ l5).trans e5
 have HS := hide hS
 clear hS
 go_upto_region 7 with fail
 cases hq : recB t nn
 case false => (
 have Hq := hide hq
 clear hq
 obtain ⟨S, eS⟩ : ∃ S : World → Prop, S = fun w' => (w'.cell? ⟨w.heap.size, 1, none⟩ = some (.slice (some ⟨nb, no, none⟩) l.length cap) ∧ w'.cell? ⟨nb, no + k * 6, none⟩ = some (.int .i64 nn.op) ∧ w'.cell? ⟨nb, no + k * 6 + 1, none⟩ = some (.int .i64 nn.d) ∧ w'.cell? ⟨nb, no + k * 6 + 2, none⟩ = some (.int .i64 nn.a) ∧ w'.cell? ⟨nb, no + k * 6 + 3, none⟩ = some (.int .i64 nn.b) ∧ w'.cell? ⟨nb, no + k * 6 + 4, none⟩ = some (.int .i64 nn.t) ∧ w'.cell? ⟨nb, no + k * 6 + 5, none⟩ = some (.int .i64 nn.e) ∧ w'.cell? ⟨w.heap.size + 1, 0, none⟩ = some (.int .i64 t.op) ∧ w'.cell? ⟨w.heap.size + 1, 1, none⟩ = some (.int .i64 t.a) ∧ w'.cell? ⟨w.heap.size + 1, 2, none⟩ = some (.int .i64 t.b) ∧ w'.cell? ⟨fb, 4, none⟩ = some (.slice (some ⟨b4, o4, none⟩) l.length c4) ∧ w'.cell? ⟨fb, 5, none⟩ = some (.slice (some ⟨b5, o5, none⟩) l.length c5) ∧ w'.cell? ⟨b4, o4 + k, none⟩ = some (.bool (yn F.late k)) ∧ w'.cell? ⟨b5, o5 + k, none⟩ = some (.bool (yn F.alone k))) := ⟨_, rfl⟩
 have HH : ∀ V : World, Below wc.heap.size wc V → S V := by rw [eS]; exact fun V hV => ⟨((bcell hV).1 _ _ (by omega)).trans p1, ((bcell hV).1 _ _ (by omega)).trans n0, ((bcell hV).1 _ _ (by omega)).trans n1, ((bcell hV).1 _ _ (by omega)).trans n2, ((bcell hV).1 _ _ (by omega)).trans n3, ((bcell hV).1 _ _ (by omega)).trans n4, ((bcell hV).1 _ _ (by omega)).trans n5, ((bcell hV).1 _ _ (by omega)).trans t0, ((bcell hV).1 _ _ (by omega)).trans t1, ((bcell hV).1 _ _ (by omega)).trans t2, ((bcell hV).1 _ _ (by omega)).trans f4, ((bcell hV).1 _ _ (by omega)).trans f5, ((bcell hV).1 _ _ (by omega)).trans e4, ((bcell hV).1 _ _ (by omega)).trans e5⟩
 have HG : ∀ V w9 : World, Below wc.heap.size wc V → V.grownBy w9 v2.ownBlock → S w9 := by (
 rw [eS]
 intro V w9 hV hg9
 have hown : ∀ b, b < W2.heap.size → (some b) ≠ v2.ownBlock := fun b hb e => by have := (HS.out.r2.lt b e.symm).1; omega
 have hsz2 := hV.size
 exact ⟨(hg9.cell_far ⟨w.heap.size, 1, none⟩ (by simp; omega) (hown _ (by omega))).trans (((bcell hV).1 _ _ (by omega)).trans p1), (hg9.cell_far ⟨nb, no + k * 6, none⟩ (by simp; omega) (hown _ (by omega))).trans (((bcell hV).1 _ _ (by omega)).trans n0), (hg9.cell_far ⟨nb, no + k * 6 + 1, none⟩ (by simp; omega) (hown _ (by omega))).trans (((bcell hV).1 _ _ (by omega)).trans n1), (hg9.cell_far ⟨nb, no + k * 6 + 2, none⟩ (by simp; omega) (hown _ (by omega))).trans (((bcell hV).1 _ _ (by omega)).trans n2), (hg9.cell_far ⟨nb, no + k * 6 + 3, none⟩ (by simp; omega) (hown _ (by omega))).trans (((bcell hV).1 _ _ (by omega)).trans n3), (hg9.cell_far ⟨nb, no + k * 6 + 4, none⟩ (by simp; omega) (hown _ (by omega))).trans (((bcell hV).1 _ _ (by omega)).trans n4), (hg9.cell_far ⟨nb, no + k * 6 + 5, none⟩ (by simp; omega) (hown _ (by omega))).trans (((bcell hV).1 _ _ (by omega)).trans n5), (hg9.cell_far ⟨w.heap.size + 1, 0, none⟩ (by simp; omega) (hown _ (by omega))).trans (((bcell hV).1 _ _ (by omega)).trans t0), (hg9.cell_far ⟨w.heap.size + 1, 1, none⟩ (by simp; omega) (hown _ (by omega))).trans (((bcell hV).1 _ _ (by omega)).trans t1), (hg9.cell_far ⟨w.heap.size + 1, 2, none⟩ (by simp; omega) (hown _ (by omega))).trans (((bcell hV).1 _ _ (by omega)).trans t2), (hg9.cell_far ⟨fb, 4, none⟩ (by simp; omega) (hown _ (by omega))).trans (((bcell hV).1 _ _ (by omega)).trans f4), (hg9.cell_far ⟨fb, 5, none⟩ (by simp; omega) (hown _ (by omega))).trans (((bcell hV).1 _ _ (by omega)).trans f5), (hg9.cell_far ⟨b4, o4 + k, none⟩ (by simp; omega) (hown _ (by omega))).trans (((bcell hV).1 _ _ (by omega)).trans e4), (hg9.cell_far ⟨b5, o5 + k, none⟩ (by simp; omega) (hown _ (by omega))).trans (((bcell hV).1 _ _ (by omega)).trans e5)⟩)
 have HZ : ∀ (V : World) (u : Value), S V → S (V.setCell ⟨lb, 1, none⟩ u) := by rw [eS]; exact fun V u ⟨p1, n0, n1, n2, n3, n4, n5, t0, t1, t2, f4, f5, e4, e5⟩ => ⟨(set1_cell (by omega) _ _).trans p1, (set1_cell (by omega) _ _).trans n0, (set1_cell (by omega) _ _).trans n1, (set1_cell (by omega) _ _).trans n2, (set1_cell (by omega) _ _).trans n3, (set1_cell (by omega) _ _).trans n4, (set1_cell (by omega) _ _).trans n5, (set1_cell (by omega) _ _).trans t0, (set1_cell (by omega) _ _).trans t1, (set1_cell (by omega) _ _).trans t2, (set1_cell (by omega) _ _).trans f4, (set1_cell (by omega) _ _).trans f5, (set1_cell (by omega) _ _).trans e4, (set1_cell (by omega) _ _).trans e5⟩
 have ES := hide eS
 clear eS
 refine wp_region_held_drew (S := S) (by kernel_rfl) (HH _ (Below.refl _ _).drew) ?_
 intro hH
 have hC0 : Below wc.heap.size wc wc.drew := (Below.refl _ _).drew
 generalize wc.drew = V0 at hH hC0 ⊢
 refine Up (fun _ _ _ _ _ => id) fun hP => ?_
 refine Vq 0 ?_ rfl (by kernel_rfl) hP (by rfl) ?r hH ?_; case r => intro w'; go_simp; try with_reducible rfl
 try simp only [Nm]
 refine Vq 2 ?_ rfl (by kernel_rfl) hP (by rfl) ?r hH ?_; case r => intro w'; go_simp; try with_reducible rfl
 try simp only [Nm]
 refine Vi 3 ?_ rfl (by kernel_rfl) hP (by rfl) ?r hH ?_; case r => intro w' h; rw [ES.out] at h; (try dsimp only at h); (try go_split_ands); go_simp; try with_reducible rfl
 try simp only [Nm]
 refine Vq 4 ?_ rfl (by kernel_rfl) hP (by rfl) ?r hH ?_; case r => intro w'; go_simp; try with_reducible rfl
 try simp only [Nm]
 refine Vq 5 ?_ rfl (by kernel_rfl) hP (by rfl) ?r hH ?_; case r => intro w'; go_simp; try with_reducible rfl
 try simp only [Nm]
 refine Vi 6 ?_ rfl (by kernel_rfl) hP (by rfl) ?r hH ?_; case r => intro w' h; rw [ES.out] at h; (try dsimp only at h); (try go_split_ands); go_simp; try with_reducible rfl
 try simp only [Nm]
 refine Vi 7 ?_ rfl (by kernel_rfl) hP (by rfl) ?r hH ?_; case r => intro w' h; rw [ES.out] at h; (try dsimp only at h); (try go_split_ands); go_simp; try with_reducible rfl
 try simp only [Nm]
 refine wpAnyH_ready (rs := [1, 8]) (by kernel_rfl) (by simp) ?_
 refine AllReadyH.cons rfl (fun K hK => ?_) (AllReadyH.cons rfl (fun K hK => ?_) AllReadyH.nil)
 focus (
 have HK1 := hide hK
 clear hK
 have hx := (HS.out.L.below hC0 HS.out.L.lt).cell 1
 simp only [Yl] at hx
 go_simp
 clear hx hH
 refine Shut.out HK1.out _ _ (HH _ hC0) (fun hH => ?_)
 try simp only [Nm]
 clear HK1
 refine Rd 8 (by kernel_rfl) rfl (fun K hK => ?_)
 have HK8 := hide hK
 clear hK
 go_simp
 go_at_call 35
 refine (reckonsIt_any nn t _).mono ?_
 rintro e V1 ⟨rfl, hbV1⟩
 rw [Hq.out]
 have hC1 : Below wc.heap.size wc V1 := hC0.trans (hbV1.mono hC0.size)
 clear hH
 refine Shut.out HK8.out _ _ (HH _ hC1) (fun hH => ?_)
 try simp only [Nm]
 clear HK8
 refine Vq 9 ?_ rfl (by kernel_rfl) hP (by rfl) ?r hH ?_; case r => intro w'; go_simp; try with_reducible rfl
 try simp only [Nm]
 refine Vn 10 rfl (by kernel_rfl) hP (by rfl) hH ?_
 try simp only [Nm]
 refine Vn 11 rfl (by kernel_rfl) hP (by rfl) hH ?_
 try simp only [Nm]
 refine Vn 12 rfl (by kernel_rfl) hP (by rfl) hH ?_
 try simp only [Nm]
 refine Vn 13 rfl (by kernel_rfl) hP (by rfl) hH ?_
 try simp only [Nm]
 refine Vn 14 rfl (by kernel_rfl) hP (by rfl) hH ?_
 try simp only [Nm]
 refine Vn 15 rfl (by kernel_rfl) hP (by rfl) hH ?_
 try simp only [Nm]
 refine Vn 16 rfl (by kernel_rfl) hP (by rfl) hH ?_
 try simp only [Nm]
 refine Vn 17 rfl (by kernel_rfl) hP (by rfl) hH ?_
 try simp only [Nm]
 refine Vn 18 rfl (by kernel_rfl) hP (by rfl) hH ?_
 try simp only [Nm]
 refine Vn 19 rfl (by kernel_rfl) hP (by rfl) hH ?_
 try simp only [Nm]
 refine Vn 20 rfl (by kernel_rfl) hP (by rfl) hH ?_
 try simp only [Nm]
 refine Vn 21 rfl (by kernel_rfl) hP (by rfl) hH ?_
 try simp only [Nm]
 refine Vn 22 rfl (by kernel_rfl) hP (by rfl) hH ?_
 try simp only [Nm]
 refine Vq 23 ?_ rfl (by kernel_rfl) hP (by rfl) ?r hH ?_; case r => intro w'; go_simp; try with_reducible rfl
 try simp only [Nm]
 refine Rd 24 (by kernel_rfl) rfl (fun K hK => ?_)
 have HK24 := hide hK
 clear hK
 go_simp
 obtain ⟨V2, hV2⟩ : ∃ V : World, V = V1.alloc (.cells #[.bool (false)] 4) := ⟨_, rfl⟩
 rw [← hV2]
 have hC2 : Below wc.heap.size wc V2 := by rw [hV2]; exact Below.alloc hC1 hC1.size _
 have hv1 : ValsAt V2 (some ⟨V1.heap.size, 0, none⟩) [.bool (false)] := by rw [hV2]; exact vals_one _ _ _
 clear hH hV2
 refine Shut.out HK24.out _ _ (HH _ hC2) (fun hH => ?_)
 try simp only [Nm]
 clear HK24)
 rotate_left
 focus (
 have HK8 := hide hK
 clear hK
 go_simp
 go_at_call 35
 refine (reckonsIt_any nn t _).mono ?_
 rintro e V1 ⟨rfl, hbV1⟩
 rw [Hq.out]
 have hC1 : Below wc.heap.size wc V1 := hC0.trans (hbV1.mono hC0.size)
 clear hH
 refine Shut.out HK8.out _ _ (HH _ hC1) (fun hH => ?_)
 try simp only [Nm]
 clear HK8
 refine Vq 9 ?_ rfl (by kernel_rfl) hP (by rfl) ?r hH ?_; case r => intro w'; go_simp; try with_reducible rfl
 try simp only [Nm]
 refine Vn 10 rfl (by kernel_rfl) hP (by rfl) hH ?_
 try simp only [Nm]
 refine Vn 11 rfl (by kernel_rfl) hP (by rfl) hH ?_
 try simp only [Nm]
 refine Vn 12 rfl (by kernel_rfl) hP (by rfl) hH ?_
 try simp only [Nm]
 refine Vn 13 rfl (by kernel_rfl) hP (by rfl) hH ?_
 try simp only [Nm]
 refine Vn 14 rfl (by kernel_rfl) hP (by rfl) hH ?_
 try simp only [Nm]
 refine Vn 15 rfl (by kernel_rfl) hP (by rfl) hH ?_
 try simp only [Nm]
 refine Vn 16 rfl (by kernel_rfl) hP (by rfl) hH ?_
 try simp only [Nm]
 refine Vn 17 rfl (by kernel_rfl) hP (by rfl) hH ?_
 try simp only [Nm]
 refine Vn 18 rfl (by kernel_rfl) hP (by rfl) hH ?_
 try simp only [Nm]
 refine Vn 19 rfl (by kernel_rfl) hP (by rfl) hH ?_
 try simp only [Nm]
 refine Vn 20 rfl (by kernel_rfl) hP (by rfl) hH ?_
 try simp only [Nm]
 refine Vn 21 rfl (by kernel_rfl) hP (by rfl) hH ?_
 try simp only [Nm]
 refine Vn 22 rfl (by kernel_rfl) hP (by rfl) hH ?_
 try simp only [Nm]
 refine Vq 23 ?_ rfl (by kernel_rfl) hP (by rfl) ?r hH ?_; case r => intro w'; go_simp; try with_reducible rfl
 try simp only [Nm]
 refine wpAnyH_ready (rs := [1, 24]) (by kernel_rfl) (by simp) ?_
 refine AllReadyH.cons rfl (fun K hK => ?_) (AllReadyH.cons rfl (fun K hK => ?_) AllReadyH.nil)
 focus (
 have HK1 := hide hK
 clear hK
 have hx := (HS.out.L.below hC1 HS.out.L.lt).cell 1
 simp only [Yl] at hx
 go_simp
 clear hx hH
 refine Shut.out HK1.out _ _ (HH _ hC1) (fun hH => ?_)
 try simp only [Nm]
 clear HK1
 refine Rd 24 (by kernel_rfl) rfl (fun K hK => ?_)
 have HK24 := hide hK
 clear hK
 go_simp
 obtain ⟨V2, hV2⟩ : ∃ V : World, V = V1.alloc (.cells #[.bool (false)] 4) := ⟨_, rfl⟩
 rw [← hV2]
 have hC2 : Below wc.heap.size wc V2 := by rw [hV2]; exact Below.alloc hC1 hC1.size _
 have hv1 : ValsAt V2 (some ⟨V1.heap.size, 0, none⟩) [.bool (false)] := by rw [hV2]; exact vals_one _ _ _
 clear hH hV2
 refine Shut.out HK24.out _ _ (HH _ hC2) (fun hH => ?_)
 try simp only [Nm]
 clear HK24)
 rotate_left
 focus (
 have HK24 := hide hK
 clear hK
 go_simp
 obtain ⟨V2, hV2⟩ : ∃ V : World, V = V1.alloc (.cells #[.bool (false)] 4) := ⟨_, rfl⟩
 rw [← hV2]
 have hC2 : Below wc.heap.size wc V2 := by rw [hV2]; exact Below.alloc hC1 hC1.size _
 have hv1 : ValsAt V2 (some ⟨V1.heap.size, 0, none⟩) [.bool (false)] := by rw [hV2]; exact vals_one _ _ _
 clear hH hV2
 refine Shut.out HK24.out _ _ (HH _ hC2) (fun hH => ?_)
 try simp only [Nm]
 clear HK24
 refine Rd 1 (by kernel_rfl) rfl (fun K hK => ?_)
 have HK1 := hide hK
 clear hK
 have hx := (HS.out.L.below hC2 HS.out.L.lt).cell 1
 simp only [Yl] at hx
 go_simp
 clear hx hH
 refine Shut.out HK1.out _ _ (HH _ hC2) (fun hH => ?_)
 try simp only [Nm]
 clear HK1))
 all_goals (
 refine Rd 25 (by kernel_rfl) rfl (fun K hK => ?_)
 have HK25 := hide hK
 clear hK
 refine step_append_row (v := v2) (by rfl) _ _ _ (by rfl) ib _ 1 Tryz.underlying27 hbi hbz hbs hbb rfl (by rfl) (HS.out.r2.below' hC2) (some ⟨_, 0, none⟩) 1 1 [.bool (false)] (by rfl) (by rfl) hv1 (by simp [Value.oneCell']) (by rw [bools_length, hm2]; simp [maxLen]; omega) (by rw [bools_length, hm2]; simp; omega) (by have := hC2.size; omega) ?_
 intro v9 w9 hr9 hg9 hat9
 obtain ⟨A9, c9, hv9, _, _⟩ := hr9.shape
 subst hv9
 simp only [List.length_append, List.length_singleton, bools_length, hm2] at hr9 hat9 ⊢
 have X9 := HG _ _ hC2 hg9
 have hq9 := Blk.grown (HS.out.L.below hC2 HS.out.L.lt) hg9 (HS.out.r2.ne_blk HS.out.L (by decide))
 have hP9 := HS.out.put2 hC2 hr9 hg9 hat9
 have HP9 := hide hP9
 clear hP9 hr9 hat9 hH
 refine Shut.out HK25.out _ _ X9 (fun hH => ?_)
 try simp only [Nm]
 clear HK25
 refine Vq 26 ?_ rfl (by kernel_rfl) hP (by rfl) ?r hH ?_; case r => intro w'; go_simp; try with_reducible rfl
 try simp only [Nm]
 refine Rd 27 (by kernel_rfl) rfl (fun K hK => ?_)
 have HK27 := hide hK
 clear hK
 have hx := hq9.cell 1
 have fx := hq9.frozen 1
 simp only [Yl] at hx
 go_simp
 refine Shut.out HK27.out _ _ (HZ _ _ X9) (fun hH => ?_)
 try simp only [Nm]
 clear HK27
 refine wpAnyH_done (by kernel_rfl) ?_ _
 go_wp2_with fail
 go_roundg (l.length - (k + 1))
 case measure => have := Hgk.out; omega
 case rel => exact ⟨k + 1, _, _, by omega, by go_num, rfl, by rw [mk_succ (f := fun k => recB t (nd l k) && !(yn F.late k && yn F.alone k)), nd_get Hn.out, Hq.out]; exact HP9.out⟩))
 case true => (
 have Hq := hide hq
 clear hq
 cases hq4 : yn F.late k
 case false => (
 rw [hq4] at e4
 have Hq4 := hide hq4
 clear hq4
 obtain ⟨S, eS⟩ : ∃ S : World → Prop, S = fun w' => (w'.cell? ⟨w.heap.size, 1, none⟩ = some (.slice (some ⟨nb, no, none⟩) l.length cap) ∧ w'.cell? ⟨nb, no + k * 6, none⟩ = some (.int .i64 nn.op) ∧ w'.cell? ⟨nb, no + k * 6 + 1, none⟩ = some (.int .i64 nn.d) ∧ w'.cell? ⟨nb, no + k * 6 + 2, none⟩ = some (.int .i64 nn.a) ∧ w'.cell? ⟨nb, no + k * 6 + 3, none⟩ = some (.int .i64 nn.b) ∧ w'.cell? ⟨nb, no + k * 6 + 4, none⟩ = some (.int .i64 nn.t) ∧ w'.cell? ⟨nb, no + k * 6 + 5, none⟩ = some (.int .i64 nn.e) ∧ w'.cell? ⟨w.heap.size + 1, 0, none⟩ = some (.int .i64 t.op) ∧ w'.cell? ⟨w.heap.size + 1, 1, none⟩ = some (.int .i64 t.a) ∧ w'.cell? ⟨w.heap.size + 1, 2, none⟩ = some (.int .i64 t.b) ∧ w'.cell? ⟨fb, 4, none⟩ = some (.slice (some ⟨b4, o4, none⟩) l.length c4) ∧ w'.cell? ⟨fb, 5, none⟩ = some (.slice (some ⟨b5, o5, none⟩) l.length c5) ∧ w'.cell? ⟨b4, o4 + k, none⟩ = some (.bool false) ∧ w'.cell? ⟨b5, o5 + k, none⟩ = some (.bool (yn F.alone k))) := ⟨_, rfl⟩
 have HH : ∀ V : World, Below wc.heap.size wc V → S V := by rw [eS]; exact fun V hV => ⟨((bcell hV).1 _ _ (by omega)).trans p1, ((bcell hV).1 _ _ (by omega)).trans n0, ((bcell hV).1 _ _ (by omega)).trans n1, ((bcell hV).1 _ _ (by omega)).trans n2, ((bcell hV).1 _ _ (by omega)).trans n3, ((bcell hV).1 _ _ (by omega)).trans n4, ((bcell hV).1 _ _ (by omega)).trans n5, ((bcell hV).1 _ _ (by omega)).trans t0, ((bcell hV).1 _ _ (by omega)).trans t1, ((bcell hV).1 _ _ (by omega)).trans t2, ((bcell hV).1 _ _ (by omega)).trans f4, ((bcell hV).1 _ _ (by omega)).trans f5, ((bcell hV).1 _ _ (by omega)).trans e4, ((bcell hV).1 _ _ (by omega)).trans e5⟩
 have HG : ∀ V w9 : World, Below wc.heap.size wc V → V.grownBy w9 v2.ownBlock → S w9 := by (
 rw [eS]
 intro V w9 hV hg9
 have hown : ∀ b, b < W2.heap.size → (some b) ≠ v2.ownBlock := fun b hb e => by have := (HS.out.r2.lt b e.symm).1; omega
 have hsz2 := hV.size
 exact ⟨(hg9.cell_far ⟨w.heap.size, 1, none⟩ (by simp; omega) (hown _ (by omega))).trans (((bcell hV).1 _ _ (by omega)).trans p1), (hg9.cell_far ⟨nb, no + k * 6, none⟩ (by simp; omega) (hown _ (by omega))).trans (((bcell hV).1 _ _ (by omega)).trans n0), (hg9.cell_far ⟨nb, no + k * 6 + 1, none⟩ (by simp; omega) (hown _ (by omega))).trans (((bcell hV).1 _ _ (by omega)).trans n1), (hg9.cell_far ⟨nb, no + k * 6 + 2, none⟩ (by simp; omega) (hown _ (by omega))).trans (((bcell hV).1 _ _ (by omega)).trans n2), (hg9.cell_far ⟨nb, no + k * 6 + 3, none⟩ (by simp; omega) (hown _ (by omega))).trans (((bcell hV).1 _ _ (by omega)).trans n3), (hg9.cell_far ⟨nb, no + k * 6 + 4, none⟩ (by simp; omega) (hown _ (by omega))).trans (((bcell hV).1 _ _ (by omega)).trans n4), (hg9.cell_far ⟨nb, no + k * 6 + 5, none⟩ (by simp; omega) (hown _ (by omega))).trans (((bcell hV).1 _ _ (by omega)).trans n5), (hg9.cell_far ⟨w.heap.size + 1, 0, none⟩ (by simp; omega) (hown _ (by omega))).trans (((bcell hV).1 _ _ (by omega)).trans t0), (hg9.cell_far ⟨w.heap.size + 1, 1, none⟩ (by simp; omega) (hown _ (by omega))).trans (((bcell hV).1 _ _ (by omega)).trans t1), (hg9.cell_far ⟨w.heap.size + 1, 2, none⟩ (by simp; omega) (hown _ (by omega))).trans (((bcell hV).1 _ _ (by omega)).trans t2), (hg9.cell_far ⟨fb, 4, none⟩ (by simp; omega) (hown _ (by omega))).trans (((bcell hV).1 _ _ (by omega)).trans f4), (hg9.cell_far ⟨fb, 5, none⟩ (by simp; omega) (hown _ (by omega))).trans (((bcell hV).1 _ _ (by omega)).trans f5), (hg9.cell_far ⟨b4, o4 + k, none⟩ (by simp; omega) (hown _ (by omega))).trans (((bcell hV).1 _ _ (by omega)).trans e4), (hg9.cell_far ⟨b5, o5 + k, none⟩ (by simp; omega) (hown _ (by omega))).trans (((bcell hV).1 _ _ (by omega)).trans e5)⟩)
 have HZ : ∀ (V : World) (u : Value), S V → S (V.setCell ⟨lb, 1, none⟩ u) := by rw [eS]; exact fun V u ⟨p1, n0, n1, n2, n3, n4, n5, t0, t1, t2, f4, f5, e4, e5⟩ => ⟨(set1_cell (by omega) _ _).trans p1, (set1_cell (by omega) _ _).trans n0, (set1_cell (by omega) _ _).trans n1, (set1_cell (by omega) _ _).trans n2, (set1_cell (by omega) _ _).trans n3, (set1_cell (by omega) _ _).trans n4, (set1_cell (by omega) _ _).trans n5, (set1_cell (by omega) _ _).trans t0, (set1_cell (by omega) _ _).trans t1, (set1_cell (by omega) _ _).trans t2, (set1_cell (by omega) _ _).trans f4, (set1_cell (by omega) _ _).trans f5, (set1_cell (by omega) _ _).trans e4, (set1_cell (by omega) _ _).trans e5⟩
 have ES := hide eS
 clear eS
 refine wp_region_held_drew (S := S) (by kernel_rfl) (HH _ (Below.refl _ _).drew) ?_
 intro hH
 have hC0 : Below wc.heap.size wc wc.drew := (Below.refl _ _).drew
 generalize wc.drew = V0 at hH hC0 ⊢
 refine Up (fun _ _ _ _ _ => id) fun hP => ?_
 refine Vq 0 ?_ rfl (by kernel_rfl) hP (by rfl) ?r hH ?_; case r => intro w'; go_simp; try with_reducible rfl
 try simp only [Nm]
 refine Vq 2 ?_ rfl (by kernel_rfl) hP (by rfl) ?r hH ?_; case r => intro w'; go_simp; try with_reducible rfl
 try simp only [Nm]
 refine Vi 3 ?_ rfl (by kernel_rfl) hP (by rfl) ?r hH ?_; case r => intro w' h; rw [ES.out] at h; (try dsimp only at h); (try go_split_ands); go_simp; try with_reducible rfl
 try simp only [Nm]
 refine Vq 4 ?_ rfl (by kernel_rfl) hP (by rfl) ?r hH ?_; case r => intro w'; go_simp; try with_reducible rfl
 try simp only [Nm]
 refine Vq 5 ?_ rfl (by kernel_rfl) hP (by rfl) ?r hH ?_; case r => intro w'; go_simp; try with_reducible rfl
 try simp only [Nm]
 refine Vi 6 ?_ rfl (by kernel_rfl) hP (by rfl) ?r hH ?_; case r => intro w' h; rw [ES.out] at h; (try dsimp only at h); (try go_split_ands); go_simp; try with_reducible rfl
 try simp only [Nm]
 refine Vi 7 ?_ rfl (by kernel_rfl) hP (by rfl) ?r hH ?_; case r => intro w' h; rw [ES.out] at h; (try dsimp only at h); (try go_split_ands); go_simp; try with_reducible rfl
 try simp only [Nm]
 refine wpAnyH_ready (rs := [1, 8]) (by kernel_rfl) (by simp) ?_
 refine AllReadyH.cons rfl (fun K hK => ?_) (AllReadyH.cons rfl (fun K hK => ?_) AllReadyH.nil)
 focus (
 have HK1 := hide hK
 clear hK
 have hx := (HS.out.L.below hC0 HS.out.L.lt).cell 1
 simp only [Yl] at hx
 go_simp
 clear hx hH
 refine Shut.out HK1.out _ _ (HH _ hC0) (fun hH => ?_)
 try simp only [Nm]
 clear HK1
 refine Rd 8 (by kernel_rfl) rfl (fun K hK => ?_)
 have HK8 := hide hK
 clear hK
 go_simp
 go_at_call 35
 refine (reckonsIt_any nn t _).mono ?_
 rintro e V1 ⟨rfl, hbV1⟩
 rw [Hq.out]
 have hC1 : Below wc.heap.size wc V1 := hC0.trans (hbV1.mono hC0.size)
 clear hH
 refine Shut.out HK8.out _ _ (HH _ hC1) (fun hH => ?_)
 try simp only [Nm]
 clear HK8
 refine Vq 9 ?_ rfl (by kernel_rfl) hP (by rfl) ?r hH ?_; case r => intro w'; go_simp; try with_reducible rfl
 try simp only [Nm]
 refine Vq 10 ?_ rfl (by kernel_rfl) hP (by rfl) ?r hH ?_; case r => intro w'; go_simp; try with_reducible rfl
 try simp only [Nm]
 refine Vi 11 ?_ rfl (by kernel_rfl) hP (by rfl) ?r hH ?_; case r => intro w' h; rw [ES.out] at h; (try dsimp only at h); (try go_split_ands); go_simp; try with_reducible rfl
 try simp only [Nm]
 refine Vq 12 ?_ rfl (by kernel_rfl) hP (by rfl) ?r hH ?_; case r => intro w'; go_simp; try with_reducible rfl
 try simp only [Nm]
 refine Vq 13 ?_ rfl (by kernel_rfl) hP (by rfl) ?r hH ?_; case r => intro w'; go_simp; try with_reducible rfl
 try simp only [Nm]
 refine Vi 14 ?_ rfl (by kernel_rfl) hP (by rfl) ?r hH ?_; case r => intro w' h; rw [ES.out] at h; (try dsimp only at h); (try go_split_ands); go_simp; try with_reducible rfl
 try simp only [Nm]
 refine Vq 15 ?_ rfl (by kernel_rfl) hP (by rfl) ?r hH ?_; case r => intro w'; go_simp; try with_reducible rfl
 try simp only [Nm]
 refine Vn 16 rfl (by kernel_rfl) hP (by rfl) hH ?_
 try simp only [Nm]
 refine Vn 17 rfl (by kernel_rfl) hP (by rfl) hH ?_
 try simp only [Nm]
 refine Vn 18 rfl (by kernel_rfl) hP (by rfl) hH ?_
 try simp only [Nm]
 refine Vn 19 rfl (by kernel_rfl) hP (by rfl) hH ?_
 try simp only [Nm]
 refine Vn 20 rfl (by kernel_rfl) hP (by rfl) hH ?_
 try simp only [Nm]
 refine Vq 21 ?_ rfl (by kernel_rfl) hP (by rfl) ?r hH ?_; case r => intro w'; go_simp; try with_reducible rfl
 try simp only [Nm]
 refine Vq 22 ?_ rfl (by kernel_rfl) hP (by rfl) ?r hH ?_; case r => intro w'; go_simp; try with_reducible rfl
 try simp only [Nm]
 refine Vq 23 ?_ rfl (by kernel_rfl) hP (by rfl) ?r hH ?_; case r => intro w'; go_simp; try with_reducible rfl
 try simp only [Nm]
 refine Rd 24 (by kernel_rfl) rfl (fun K hK => ?_)
 have HK24 := hide hK
 clear hK
 go_simp
 obtain ⟨V2, hV2⟩ : ∃ V : World, V = V1.alloc (.cells #[.bool (true)] 4) := ⟨_, rfl⟩
 rw [← hV2]
 have hC2 : Below wc.heap.size wc V2 := by rw [hV2]; exact Below.alloc hC1 hC1.size _
 have hv1 : ValsAt V2 (some ⟨V1.heap.size, 0, none⟩) [.bool (true)] := by rw [hV2]; exact vals_one _ _ _
 clear hH hV2
 refine Shut.out HK24.out _ _ (HH _ hC2) (fun hH => ?_)
 try simp only [Nm]
 clear HK24)
 rotate_left
 focus (
 have HK8 := hide hK
 clear hK
 go_simp
 go_at_call 35
 refine (reckonsIt_any nn t _).mono ?_
 rintro e V1 ⟨rfl, hbV1⟩
 rw [Hq.out]
 have hC1 : Below wc.heap.size wc V1 := hC0.trans (hbV1.mono hC0.size)
 clear hH
 refine Shut.out HK8.out _ _ (HH _ hC1) (fun hH => ?_)
 try simp only [Nm]
 clear HK8
 refine Vq 9 ?_ rfl (by kernel_rfl) hP (by rfl) ?r hH ?_; case r => intro w'; go_simp; try with_reducible rfl
 try simp only [Nm]
 refine Vq 10 ?_ rfl (by kernel_rfl) hP (by rfl) ?r hH ?_; case r => intro w'; go_simp; try with_reducible rfl
 try simp only [Nm]
 refine Vi 11 ?_ rfl (by kernel_rfl) hP (by rfl) ?r hH ?_; case r => intro w' h; rw [ES.out] at h; (try dsimp only at h); (try go_split_ands); go_simp; try with_reducible rfl
 try simp only [Nm]
 refine Vq 12 ?_ rfl (by kernel_rfl) hP (by rfl) ?r hH ?_; case r => intro w'; go_simp; try with_reducible rfl
 try simp only [Nm]
 refine Vq 13 ?_ rfl (by kernel_rfl) hP (by rfl) ?r hH ?_; case r => intro w'; go_simp; try with_reducible rfl
 try simp only [Nm]
 refine Vi 14 ?_ rfl (by kernel_rfl) hP (by rfl) ?r hH ?_; case r => intro w' h; rw [ES.out] at h; (try dsimp only at h); (try go_split_ands); go_simp; try with_reducible rfl
 try simp only [Nm]
 refine Vq 15 ?_ rfl (by kernel_rfl) hP (by rfl) ?r hH ?_; case r => intro w'; go_simp; try with_reducible rfl
 try simp only [Nm]
 refine Vn 16 rfl (by kernel_rfl) hP (by rfl) hH ?_
 try simp only [Nm]
 refine Vn 17 rfl (by kernel_rfl) hP (by rfl) hH ?_
 try simp only [Nm]
 refine Vn 18 rfl (by kernel_rfl) hP (by rfl) hH ?_
 try simp only [Nm]
 refine Vn 19 rfl (by kernel_rfl) hP (by rfl) hH ?_
 try simp only [Nm]
 refine Vn 20 rfl (by kernel_rfl) hP (by rfl) hH ?_
 try simp only [Nm]
 refine Vq 21 ?_ rfl (by kernel_rfl) hP (by rfl) ?r hH ?_; case r => intro w'; go_simp; try with_reducible rfl
 try simp only [Nm]
 refine Vq 22 ?_ rfl (by kernel_rfl) hP (by rfl) ?r hH ?_; case r => intro w'; go_simp; try with_reducible rfl
 try simp only [Nm]
 refine Vq 23 ?_ rfl (by kernel_rfl) hP (by rfl) ?r hH ?_; case r => intro w'; go_simp; try with_reducible rfl
 try simp only [Nm]
 refine wpAnyH_ready (rs := [1, 24]) (by kernel_rfl) (by simp) ?_
 refine AllReadyH.cons rfl (fun K hK => ?_) (AllReadyH.cons rfl (fun K hK => ?_) AllReadyH.nil)
 focus (
 have HK1 := hide hK
 clear hK
 have hx := (HS.out.L.below hC1 HS.out.L.lt).cell 1
 simp only [Yl] at hx
 go_simp
 clear hx hH
 refine Shut.out HK1.out _ _ (HH _ hC1) (fun hH => ?_)
 try simp only [Nm]
 clear HK1
 refine Rd 24 (by kernel_rfl) rfl (fun K hK => ?_)
 have HK24 := hide hK
 clear hK
 go_simp
 obtain ⟨V2, hV2⟩ : ∃ V : World, V = V1.alloc (.cells #[.bool (true)] 4) := ⟨_, rfl⟩
 rw [← hV2]
 have hC2 : Below wc.heap.size wc V2 := by rw [hV2]; exact Below.alloc hC1 hC1.size _
 have hv1 : ValsAt V2 (some ⟨V1.heap.size, 0, none⟩) [.bool (true)] := by rw [hV2]; exact vals_one _ _ _
 clear hH hV2
 refine Shut.out HK24.out _ _ (HH _ hC2) (fun hH => ?_)
 try simp only [Nm]
 clear HK24)
 rotate_left
 focus (
 have HK24 := hide hK
 clear hK
 go_simp
 obtain ⟨V2, hV2⟩ : ∃ V : World, V = V1.alloc (.cells #[.bool (true)] 4) := ⟨_, rfl⟩
 rw [← hV2]
 have hC2 : Below wc.heap.size wc V2 := by rw [hV2]; exact Below.alloc hC1 hC1.size _
 have hv1 : ValsAt V2 (some ⟨V1.heap.size, 0, none⟩) [.bool (true)] := by rw [hV2]; exact vals_one _ _ _
 clear hH hV2
 refine Shut.out HK24.out _ _ (HH _ hC2) (fun hH => ?_)
 try simp only [Nm]
 clear HK24
 refine Rd 1 (by kernel_rfl) rfl (fun K hK => ?_)
 have HK1 := hide hK
 clear hK
 have hx := (HS.out.L.below hC2 HS.out.L.lt).cell 1
 simp only [Yl] at hx
 go_simp
 clear hx hH
 refine Shut.out HK1.out _ _ (HH _ hC2) (fun hH => ?_)
 try simp only [Nm]
 clear HK1))
 all_goals (
 refine Rd 25 (by kernel_rfl) rfl (fun K hK => ?_)
 have HK25 := hide hK
 clear hK
 refine step_append_row (v := v2) (by rfl) _ _ _ (by rfl) ib _ 1 Tryz.underlying27 hbi hbz hbs hbb rfl (by rfl) (HS.out.r2.below' hC2) (some ⟨_, 0, none⟩) 1 1 [.bool (true)] (by rfl) (by rfl) hv1 (by simp [Value.oneCell']) (by rw [bools_length, hm2]; simp [maxLen]; omega) (by rw [bools_length, hm2]; simp; omega) (by have := hC2.size; omega) ?_
 intro v9 w9 hr9 hg9 hat9
 obtain ⟨A9, c9, hv9, _, _⟩ := hr9.shape
 subst hv9
 simp only [List.length_append, List.length_singleton, bools_length, hm2] at hr9 hat9 ⊢
 have X9 := HG _ _ hC2 hg9
 have hq9 := Blk.grown (HS.out.L.below hC2 HS.out.L.lt) hg9 (HS.out.r2.ne_blk HS.out.L (by decide))
 have hP9 := HS.out.put2 hC2 hr9 hg9 hat9
 have HP9 := hide hP9
 clear hP9 hr9 hat9 hH
 refine Shut.out HK25.out _ _ X9 (fun hH => ?_)
 try simp only [Nm]
 clear HK25
 refine Vq 26 ?_ rfl (by kernel_rfl) hP (by rfl) ?r hH ?_; case r => intro w'; go_simp; try with_reducible rfl
 try simp only [Nm]
 refine Rd 27 (by kernel_rfl) rfl (fun K hK => ?_)
 have HK27 := hide hK
 clear hK
 have hx := hq9.cell 1
 have fx := hq9.frozen 1
 simp only [Yl] at hx
 go_simp
 refine Shut.out HK27.out _ _ (HZ _ _ X9) (fun hH => ?_)
 try simp only [Nm]
 clear HK27
 refine wpAnyH_done (by kernel_rfl) ?_ _
 go_wp2_with fail
 go_roundg (l.length - (k + 1))
 case measure => have := Hgk.out; omega
 case rel => exact ⟨k + 1, _, _, by omega, by go_num, rfl, by rw [mk_succ (f := fun k => recB t (nd l k) && !(yn F.late k && yn F.alone k)), nd_get Hn.out, Hq.out, Hq4.out]; exact HP9.out⟩))
 case true => (
 rw [hq4] at e4
 have Hq4 := hide hq4
 clear hq4
 obtain ⟨S, eS⟩ : ∃ S : World → Prop, S = fun w' => (w'.cell? ⟨w.heap.size, 1, none⟩ = some (.slice (some ⟨nb, no, none⟩) l.length cap) ∧ w'.cell? ⟨nb, no + k * 6, none⟩ = some (.int .i64 nn.op) ∧ w'.cell? ⟨nb, no + k * 6 + 1, none⟩ = some (.int .i64 nn.d) ∧ w'.cell? ⟨nb, no + k * 6 + 2, none⟩ = some (.int .i64 nn.a) ∧ w'.cell? ⟨nb, no + k * 6 + 3, none⟩ = some (.int .i64 nn.b) ∧ w'.cell? ⟨nb, no + k * 6 + 4, none⟩ = some (.int .i64 nn.t) ∧ w'.cell? ⟨nb, no + k * 6 + 5, none⟩ = some (.int .i64 nn.e) ∧ w'.cell? ⟨w.heap.size + 1, 0, none⟩ = some (.int .i64 t.op) ∧ w'.cell? ⟨w.heap.size + 1, 1, none⟩ = some (.int .i64 t.a) ∧ w'.cell? ⟨w.heap.size + 1, 2, none⟩ = some (.int .i64 t.b) ∧ w'.cell? ⟨fb, 4, none⟩ = some (.slice (some ⟨b4, o4, none⟩) l.length c4) ∧ w'.cell? ⟨fb, 5, none⟩ = some (.slice (some ⟨b5, o5, none⟩) l.length c5) ∧ w'.cell? ⟨b4, o4 + k, none⟩ = some (.bool true) ∧ w'.cell? ⟨b5, o5 + k, none⟩ = some (.bool (yn F.alone k))) := ⟨_, rfl⟩
 have HH : ∀ V : World, Below wc.heap.size wc V → S V := by rw [eS]; exact fun V hV => ⟨((bcell hV).1 _ _ (by omega)).trans p1, ((bcell hV).1 _ _ (by omega)).trans n0, ((bcell hV).1 _ _ (by omega)).trans n1, ((bcell hV).1 _ _ (by omega)).trans n2, ((bcell hV).1 _ _ (by omega)).trans n3, ((bcell hV).1 _ _ (by omega)).trans n4, ((bcell hV).1 _ _ (by omega)).trans n5, ((bcell hV).1 _ _ (by omega)).trans t0, ((bcell hV).1 _ _ (by omega)).trans t1, ((bcell hV).1 _ _ (by omega)).trans t2, ((bcell hV).1 _ _ (by omega)).trans f4, ((bcell hV).1 _ _ (by omega)).trans f5, ((bcell hV).1 _ _ (by omega)).trans e4, ((bcell hV).1 _ _ (by omega)).trans e5⟩
 have HG : ∀ V w9 : World, Below wc.heap.size wc V → V.grownBy w9 v2.ownBlock → S w9 := by (
 rw [eS]
 intro V w9 hV hg9
 have hown : ∀ b, b < W2.heap.size → (some b) ≠ v2.ownBlock := fun b hb e => by have := (HS.out.r2.lt b e.symm).1; omega
 have hsz2 := hV.size
 exact ⟨(hg9.cell_far ⟨w.heap.size, 1, none⟩ (by simp; omega) (hown _ (by omega))).trans (((bcell hV).1 _ _ (by omega)).trans p1), (hg9.cell_far ⟨nb, no + k * 6, none⟩ (by simp; omega) (hown _ (by omega))).trans (((bcell hV).1 _ _ (by omega)).trans n0), (hg9.cell_far ⟨nb, no + k * 6 + 1, none⟩ (by simp; omega) (hown _ (by omega))).trans (((bcell hV).1 _ _ (by omega)).trans n1), (hg9.cell_far ⟨nb, no + k * 6 + 2, none⟩ (by simp; omega) (hown _ (by omega))).trans (((bcell hV).1 _ _ (by omega)).trans n2), (hg9.cell_far ⟨nb, no + k * 6 + 3, none⟩ (by simp; omega) (hown _ (by omega))).trans (((bcell hV).1 _ _ (by omega)).trans n3), (hg9.cell_far ⟨nb, no + k * 6 + 4, none⟩ (by simp; omega) (hown _ (by omega))).trans (((bcell hV).1 _ _ (by omega)).trans n4), (hg9.cell_far ⟨nb, no + k * 6 + 5, none⟩ (by simp; omega) (hown _ (by omega))).trans (((bcell hV).1 _ _ (by omega)).trans n5), (hg9.cell_far ⟨w.heap.size + 1, 0, none⟩ (by simp; omega) (hown _ (by omega))).trans (((bcell hV).1 _ _ (by omega)).trans t0), (hg9.cell_far ⟨w.heap.size + 1, 1, none⟩ (by simp; omega) (hown _ (by omega))).trans (((bcell hV).1 _ _ (by omega)).trans t1), (hg9.cell_far ⟨w.heap.size + 1, 2, none⟩ (by simp; omega) (hown _ (by omega))).trans (((bcell hV).1 _ _ (by omega)).trans t2), (hg9.cell_far ⟨fb, 4, none⟩ (by simp; omega) (hown _ (by omega))).trans (((bcell hV).1 _ _ (by omega)).trans f4), (hg9.cell_far ⟨fb, 5, none⟩ (by simp; omega) (hown _ (by omega))).trans (((bcell hV).1 _ _ (by omega)).trans f5), (hg9.cell_far ⟨b4, o4 + k, none⟩ (by simp; omega) (hown _ (by omega))).trans (((bcell hV).1 _ _ (by omega)).trans e4), (hg9.cell_far ⟨b5, o5 + k, none⟩ (by simp; omega) (hown _ (by omega))).trans (((bcell hV).1 _ _ (by omega)).trans e5)⟩)
 have HZ : ∀ (V : World) (u : Value), S V → S (V.setCell ⟨lb, 1, none⟩ u) := by rw [eS]; exact fun V u ⟨p1, n0, n1, n2, n3, n4, n5, t0, t1, t2, f4, f5, e4, e5⟩ => ⟨(set1_cell (by omega) _ _).trans p1, (set1_cell (by omega) _ _).trans n0, (set1_cell (by omega) _ _).trans n1, (set1_cell (by omega) _ _).trans n2, (set1_cell (by omega) _ _).trans n3, (set1_cell (by omega) _ _).trans n4, (set1_cell (by omega) _ _).trans n5, (set1_cell (by omega) _ _).trans t0, (set1_cell (by omega) _ _).trans t1, (set1_cell (by omega) _ _).trans t2, (set1_cell (by omega) _ _).trans f4, (set1_cell (by omega) _ _).trans f5, (set1_cell (by omega) _ _).trans e4, (set1_cell (by omega) _ _).trans e5⟩
 have ES := hide eS
 clear eS
 refine wp_region_held_drew (S := S) (by kernel_rfl) (HH _ (Below.refl _ _).drew) ?_
 intro hH
 have hC0 : Below wc.heap.size wc wc.drew := (Below.refl _ _).drew
 generalize wc.drew = V0 at hH hC0 ⊢
 refine Up (fun _ _ _ _ _ => id) fun hP => ?_
 refine Vq 0 ?_ rfl (by kernel_rfl) hP (by rfl) ?r hH ?_; case r => intro w'; go_simp; try with_reducible rfl
 try simp only [Nm]
 refine Vq 2 ?_ rfl (by kernel_rfl) hP (by rfl) ?r hH ?_; case r => intro w'; go_simp; try with_reducible rfl
 try simp only [Nm]
 refine Vi 3 ?_ rfl (by kernel_rfl) hP (by rfl) ?r hH ?_; case r => intro w' h; rw [ES.out] at h; (try dsimp only at h); (try go_split_ands); go_simp; try with_reducible rfl
 try simp only [Nm]
 refine Vq 4 ?_ rfl (by kernel_rfl) hP (by rfl) ?r hH ?_; case r => intro w'; go_simp; try with_reducible rfl
 try simp only [Nm]
 refine Vq 5 ?_ rfl (by kernel_rfl) hP (by rfl) ?r hH ?_; case r => intro w'; go_simp; try with_reducible rfl
 try simp only [Nm]
 refine Vi 6 ?_ rfl (by kernel_rfl) hP (by rfl) ?r hH ?_; case r => intro w' h; rw [ES.out] at h; (try dsimp only at h); (try go_split_ands); go_simp; try with_reducible rfl
 try simp only [Nm]
 refine Vi 7 ?_ rfl (by kernel_rfl) hP (by rfl) ?r hH ?_; case r => intro w' h; rw [ES.out] at h; (try dsimp only at h); (try go_split_ands); go_simp; try with_reducible rfl
 try simp only [Nm]
 refine wpAnyH_ready (rs := [1, 8]) (by kernel_rfl) (by simp) ?_
 refine AllReadyH.cons rfl (fun K hK => ?_) (AllReadyH.cons rfl (fun K hK => ?_) AllReadyH.nil)
 focus (
 have HK1 := hide hK
 clear hK
 have hx := (HS.out.L.below hC0 HS.out.L.lt).cell 1
 simp only [Yl] at hx
 go_simp
 clear hx hH
 refine Shut.out HK1.out _ _ (HH _ hC0) (fun hH => ?_)
 try simp only [Nm]
 clear HK1
 refine Rd 8 (by kernel_rfl) rfl (fun K hK => ?_)
 have HK8 := hide hK
 clear hK
 go_simp
 go_at_call 35
 refine (reckonsIt_any nn t _).mono ?_
 rintro e V1 ⟨rfl, hbV1⟩
 rw [Hq.out]
 have hC1 : Below wc.heap.size wc V1 := hC0.trans (hbV1.mono hC0.size)
 clear hH
 refine Shut.out HK8.out _ _ (HH _ hC1) (fun hH => ?_)
 try simp only [Nm]
 clear HK8
 refine Vq 9 ?_ rfl (by kernel_rfl) hP (by rfl) ?r hH ?_; case r => intro w'; go_simp; try with_reducible rfl
 try simp only [Nm]
 refine Vq 10 ?_ rfl (by kernel_rfl) hP (by rfl) ?r hH ?_; case r => intro w'; go_simp; try with_reducible rfl
 try simp only [Nm]
 refine Vi 11 ?_ rfl (by kernel_rfl) hP (by rfl) ?r hH ?_; case r => intro w' h; rw [ES.out] at h; (try dsimp only at h); (try go_split_ands); go_simp; try with_reducible rfl
 try simp only [Nm]
 refine Vq 12 ?_ rfl (by kernel_rfl) hP (by rfl) ?r hH ?_; case r => intro w'; go_simp; try with_reducible rfl
 try simp only [Nm]
 refine Vq 13 ?_ rfl (by kernel_rfl) hP (by rfl) ?r hH ?_; case r => intro w'; go_simp; try with_reducible rfl
 try simp only [Nm]
 refine Vi 14 ?_ rfl (by kernel_rfl) hP (by rfl) ?r hH ?_; case r => intro w' h; rw [ES.out] at h; (try dsimp only at h); (try go_split_ands); go_simp; try with_reducible rfl
 try simp only [Nm]
 refine Vq 15 ?_ rfl (by kernel_rfl) hP (by rfl) ?r hH ?_; case r => intro w'; go_simp; try with_reducible rfl
 try simp only [Nm]
 refine Vq 16 ?_ rfl (by kernel_rfl) hP (by rfl) ?r hH ?_; case r => intro w'; go_simp; try with_reducible rfl
 try simp only [Nm]
 refine Vi 17 ?_ rfl (by kernel_rfl) hP (by rfl) ?r hH ?_; case r => intro w' h; rw [ES.out] at h; (try dsimp only at h); (try go_split_ands); go_simp; try with_reducible rfl
 try simp only [Nm]
 refine Vq 18 ?_ rfl (by kernel_rfl) hP (by rfl) ?r hH ?_; case r => intro w'; go_simp; try with_reducible rfl
 try simp only [Nm]
 refine Vq 19 ?_ rfl (by kernel_rfl) hP (by rfl) ?r hH ?_; case r => intro w'; go_simp; try with_reducible rfl
 try simp only [Nm]
 refine Vi 20 ?_ rfl (by kernel_rfl) hP (by rfl) ?r hH ?_; case r => intro w' h; rw [ES.out] at h; (try dsimp only at h); (try go_split_ands); go_simp; try with_reducible rfl
 try simp only [Nm]
 refine Vq 21 ?_ rfl (by kernel_rfl) hP (by rfl) ?r hH ?_; case r => intro w'; go_simp; try with_reducible rfl
 try simp only [Nm]
 refine Vq 22 ?_ rfl (by kernel_rfl) hP (by rfl) ?r hH ?_; case r => intro w'; go_simp; try with_reducible rfl
 try simp only [Nm]
 refine Vq 23 ?_ rfl (by kernel_rfl) hP (by rfl) ?r hH ?_; case r => intro w'; go_simp; try with_reducible rfl
 try simp only [Nm]
 refine Rd 24 (by kernel_rfl) rfl (fun K hK => ?_)
 have HK24 := hide hK
 clear hK
 go_simp
 obtain ⟨V2, hV2⟩ : ∃ V : World, V = V1.alloc (.cells #[.bool (!yn F.alone k)] 4) := ⟨_, rfl⟩
 rw [← hV2]
 have hC2 : Below wc.heap.size wc V2 := by rw [hV2]; exact Below.alloc hC1 hC1.size _
 have hv1 : ValsAt V2 (some ⟨V1.heap.size, 0, none⟩) [.bool (!yn F.alone k)] := by rw [hV2]; exact vals_one _ _ _
 clear hH hV2
 refine Shut.out HK24.out _ _ (HH _ hC2) (fun hH => ?_)
 try simp only [Nm]
 clear HK24)
 rotate_left
 focus (
 have HK8 := hide hK
 clear hK
 go_simp
 go_at_call 35
 refine (reckonsIt_any nn t _).mono ?_
 rintro e V1 ⟨rfl, hbV1⟩
 rw [Hq.out]
 have hC1 : Below wc.heap.size wc V1 := hC0.trans (hbV1.mono hC0.size)
 clear hH
 refine Shut.out HK8.out _ _ (HH _ hC1) (fun hH => ?_)
 try simp only [Nm]
 clear HK8
 refine Vq 9 ?_ rfl (by kernel_rfl) hP (by rfl) ?r hH ?_; case r => intro w'; go_simp; try with_reducible rfl
 try simp only [Nm]
 refine Vq 10 ?_ rfl (by kernel_rfl) hP (by rfl) ?r hH ?_; case r => intro w'; go_simp; try with_reducible rfl
 try simp only [Nm]
 refine Vi 11 ?_ rfl (by kernel_rfl) hP (by rfl) ?r hH ?_; case r => intro w' h; rw [ES.out] at h; (try dsimp only at h); (try go_split_ands); go_simp; try with_reducible rfl
 try simp only [Nm]
 refine Vq 12 ?_ rfl (by kernel_rfl) hP (by rfl) ?r hH ?_; case r => intro w'; go_simp; try with_reducible rfl
 try simp only [Nm]
 refine Vq 13 ?_ rfl (by kernel_rfl) hP (by rfl) ?r hH ?_; case r => intro w'; go_simp; try with_reducible rfl
 try simp only [Nm]
 refine Vi 14 ?_ rfl (by kernel_rfl) hP (by rfl) ?r hH ?_; case r => intro w' h; rw [ES.out] at h; (try dsimp only at h); (try go_split_ands); go_simp; try with_reducible rfl
 try simp only [Nm]
 refine Vq 15 ?_ rfl (by kernel_rfl) hP (by rfl) ?r hH ?_; case r => intro w'; go_simp; try with_reducible rfl
 try simp only [Nm]
 refine Vq 16 ?_ rfl (by kernel_rfl) hP (by rfl) ?r hH ?_; case r => intro w'; go_simp; try with_reducible rfl
 try simp only [Nm]
 refine Vi 17 ?_ rfl (by kernel_rfl) hP (by rfl) ?r hH ?_; case r => intro w' h; rw [ES.out] at h; (try dsimp only at h); (try go_split_ands); go_simp; try with_reducible rfl
 try simp only [Nm]
 refine Vq 18 ?_ rfl (by kernel_rfl) hP (by rfl) ?r hH ?_; case r => intro w'; go_simp; try with_reducible rfl
 try simp only [Nm]
 refine Vq 19 ?_ rfl (by kernel_rfl) hP (by rfl) ?r hH ?_; case r => intro w'; go_simp; try with_reducible rfl
 try simp only [Nm]
 refine Vi 20 ?_ rfl (by kernel_rfl) hP (by rfl) ?r hH ?_; case r => intro w' h; rw [ES.out] at h; (try dsimp only at h); (try go_split_ands); go_simp; try with_reducible rfl
 try simp only [Nm]
 refine Vq 21 ?_ rfl (by kernel_rfl) hP (by rfl) ?r hH ?_; case r => intro w'; go_simp; try with_reducible rfl
 try simp only [Nm]
 refine Vq 22 ?_ rfl (by kernel_rfl) hP (by rfl) ?r hH ?_; case r => intro w'; go_simp; try with_reducible rfl
 try simp only [Nm]
 refine Vq 23 ?_ rfl (by kernel_rfl) hP (by rfl) ?r hH ?_; case r => intro w'; go_simp; try with_reducible rfl
 try simp only [Nm]
 refine wpAnyH_ready (rs := [1, 24]) (by kernel_rfl) (by simp) ?_
 refine AllReadyH.cons rfl (fun K hK => ?_) (AllReadyH.cons rfl (fun K hK => ?_) AllReadyH.nil)
 focus (
 have HK1 := hide hK
 clear hK
 have hx := (HS.out.L.below hC1 HS.out.L.lt).cell 1
 simp only [Yl] at hx
 go_simp
 clear hx hH
 refine Shut.out HK1.out _ _ (HH _ hC1) (fun hH => ?_)
 try simp only [Nm]
 clear HK1
 refine Rd 24 (by kernel_rfl) rfl (fun K hK => ?_)
 have HK24 := hide hK
 clear hK
 go_simp
 obtain ⟨V2, hV2⟩ : ∃ V : World, V = V1.alloc (.cells #[.bool (!yn F.alone k)] 4) := ⟨_, rfl⟩
 rw [← hV2]
 have hC2 : Below wc.heap.size wc V2 := by rw [hV2]; exact Below.alloc hC1 hC1.size _
 have hv1 : ValsAt V2 (some ⟨V1.heap.size, 0, none⟩) [.bool (!yn F.alone k)] := by rw [hV2]; exact vals_one _ _ _
 clear hH hV2
 refine Shut.out HK24.out _ _ (HH _ hC2) (fun hH => ?_)
 try simp only [Nm]
 clear HK24)
 rotate_left
 focus (
 have HK24 := hide hK
 clear hK
 go_simp
 obtain ⟨V2, hV2⟩ : ∃ V : World, V = V1.alloc (.cells #[.bool (!yn F.alone k)] 4) := ⟨_, rfl⟩
 rw [← hV2]
 have hC2 : Below wc.heap.size wc V2 := by rw [hV2]; exact Below.alloc hC1 hC1.size _
 have hv1 : ValsAt V2 (some ⟨V1.heap.size, 0, none⟩) [.bool (!yn F.alone k)] := by rw [hV2]; exact vals_one _ _ _
 clear hH hV2
 refine Shut.out HK24.out _ _ (HH _ hC2) (fun hH => ?_)
 try simp only [Nm]
 clear HK24
 refine Rd 1 (by kernel_rfl) rfl (fun K hK => ?_)
 have HK1 := hide hK
 clear hK
 have hx := (HS.out.L.below hC2 HS.out.L.lt).cell 1
 simp only [Yl] at hx
 go_simp
 clear hx hH
 refine Shut.out HK1.out _ _ (HH _ hC2) (fun hH => ?_)
 try simp only [Nm]
 clear HK1))
 all_goals (
 refine Rd 25 (by kernel_rfl) rfl (fun K hK => ?_)
 have HK25 := hide hK
 clear hK
 refine step_append_row (v := v2) (by rfl) _ _ _ (by rfl) ib _ 1 Tryz.underlying27 hbi hbz hbs hbb rfl (by rfl) (HS.out.r2.below' hC2) (some ⟨_, 0, none⟩) 1 1 [.bool (!yn F.alone k)] (by rfl) (by rfl) hv1 (by simp [Value.oneCell']) (by rw [bools_length, hm2]; simp [maxLen]; omega) (by rw [bools_length, hm2]; simp; omega) (by have := hC2.size; omega) ?_
 intro v9 w9 hr9 hg9 hat9
 obtain ⟨A9, c9, hv9, _, _⟩ := hr9.shape
 subst hv9
 simp only [List.length_append, List.length_singleton, bools_length, hm2] at hr9 hat9 ⊢
 have X9 := HG _ _ hC2 hg9
 have hq9 := Blk.grown (HS.out.L.below hC2 HS.out.L.lt) hg9 (HS.out.r2.ne_blk HS.out.L (by decide))
 have hP9 := HS.out.put2 hC2 hr9 hg9 hat9
 have HP9 := hide hP9
 clear hP9 hr9 hat9 hH
 refine Shut.out HK25.out _ _ X9 (fun hH => ?_)
 try simp only [Nm]
 clear HK25
 refine Vq 26 ?_ rfl (by kernel_rfl) hP (by rfl) ?r hH ?_; case r => intro w'; go_simp; try with_reducible rfl
 try simp only [Nm]
 refine Rd 27 (by kernel_rfl) rfl (fun K hK => ?_)
 have HK27 := hide hK
 clear hK
 have hx := hq9.cell 1
 have fx := hq9.frozen 1
 simp only [Yl] at hx
 go_simp
 refine Shut.out HK27.out _ _ (HZ _ _ X9) (fun hH => ?_)
 try simp only [Nm]
 clear HK27
 refine wpAnyH_done (by kernel_rfl) ?_ _
 go_wp2_with fail
 go_roundg (l.length - (k + 1))
 case measure => have := Hgk.out; omega
 case rel => exact ⟨k + 1, _, _, by omega, by go_num, rfl, by rw [mk_succ (f := fun k => recB t (nd l k) && !(yn F.late k && yn F.alone k)), nd_get Hn.out, Hq.out, Hq4.out]; exact HP9.out⟩)))))
 · (
 have hkk : k = l.length := by omega
 subst hkk
 have hO := HO1.out.below hS.below HO1.out.lt
 have hP := HP1.out.below hS.below HP1.out.lt
 have p1 := hP.cell 1
 have lpw := hP.lt
 simp only [Yl] at p1
 obtain ⟨B1, b1, e1, _, _⟩ := hS.r1.shape
 rw [bools_length, mk_len] at e1
 subst e1
 obtain ⟨B2, b2, e2, _, _⟩ := hS.r2.shape
 rw [bools_length, mk_len] at e2
 subst e2
 have l0 := hS.L.cell 0
 have l1 := hS.L.cell 1
 have o0 := hO.cell 0
 have o1 := hO.cell 1
 have f0 := hO.frozen 0
 have f1 := hO.frozen 1
 simp only [Yl] at l0 l1 o0 o1
 have lO := hO.lt
 have lL := hS.L.lt
 have hn1 := hS.r1.ne_blk hO (by decide)
 have hn2 := hS.r2.ne_blk hO (by decide)
 have hBw := HB1.out.size
 have Q1 := hide ((hS.r1.far (p := ⟨w.heap.size + 1 + 1, 0, none⟩) hn1 (.slice B1 l.length b1)).far (p := ⟨w.heap.size + 1 + 1, 1, none⟩) hn1 (.slice B2 l.length b2))
 have Q2 := hide ((hS.r2.far (p := ⟨w.heap.size + 1 + 1, 0, none⟩) hn2 (.slice B1 l.length b1)).far (p := ⟨w.heap.size + 1 + 1, 1, none⟩) hn2 (.slice B2 l.length b2))
 have HBf := hide (HB1.out.trans (hS.below.mono HB1.out.size))
 clear hS hO hn2 hn1 hP
 go_wp2_with fail
 go_tidy
 refine bodyPost_ret (v := .agg #[.slice B1 l.length b1, .slice B2 l.length b2]) (by simp [results, Tryz.results9, go_sem, l0, l1, o0, o1, f0, f1, World.cell?_setCell_same, World.cell?_setCell_other]; try rfl) rfl ?_
 exact ⟨(HBf.out.setCell (by simp <;> omega) _).setCell (by simp <;> omega) _, F, _, _, HF.out, rfl, Q1.out.mono (by omega), Q2.out.mono (by omega)⟩)))
end
end Go.Proofs.YtmghkonmfbpjcabGreat
