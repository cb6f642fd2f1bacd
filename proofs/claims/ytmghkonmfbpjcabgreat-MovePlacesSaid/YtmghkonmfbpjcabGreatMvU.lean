/- MvU. -/
import Derived.Test.YtmghkonmfbpjcabGreatMvS
import Derived.Test.YtmghkonmfbpjcabGreatGH
import Derived.Test.YtmghkonmfbpjcabGreatFactR1
import Derived.Test.YtmghkonmfbpjcabGreatGA
set_option linter.unusedVariables false
set_option linter.unusedSimpArgs false
namespace Go.Proofs.YtmghkonmfbpjcabGreat
section
open Go.RowKit
set_option maxHeartbeats 8000000
attribute [local irreducible] Row madeCells
attribute [local go_sem] no_yes
structure RiSt (W0 : World) (lb thb : Nat) (l : List Nd) (v1 ax : Value) (m : Nat) (x th : List Bool) (W : World) : Prop where
 L : Blk W lb 29 #[v1, .slice none 0 0]
 r1 : Row W W0.heap.size 4 v1 (bools x)
 rt : Row W W0.heap.size 4 (.slice (some ⟨thb, 0, none⟩) l.length l.length) (bools th)
 len : th.length = l.length
 ahd : RTab 65 3 W0.heap.size false l m ax W
 n1 : v1.ownBlock ≠ some thb
 below : Below W0.heap.size W0 W
 low : W0.heap.size ≤ lb
section
variable {W0 : World} {lb thb : Nat} {l : List Nd} {v1 v2 ax : Value} {m : Nat} {x y th : List Bool} {W : World}
theorem RiSt.later {W' : World} (h : RiSt W0 lb thb l v1 ax m x th W) (hb : Below W.heap.size W W') : RiSt W0 lb thb l v1 ax m x th W' :=
 ⟨h.L.below hb h.L.lt, h.r1.below' hb, h.rt.below' hb, h.len, h.ahd.later hb, h.n1, h.below.trans (hb.mono h.below.size), h.low⟩
theorem RiSt.at_ (h : RiSt W0 lb thb l v1 ax m x th W) {k : Nat} (hk : k < l.length) : W.cell? ⟨thb, k, none⟩ = some (.bool (yn th k)) ∧ W.frozen? ⟨thb, k, none⟩ = false := h.rt.bool_at_ (by rw [h.len]; exact hk)
theorem RiSt.thlt (h : RiSt W0 lb thb l v1 ax m x th W) : thb < W.heap.size ∧ W0.heap.size ≤ thb := ⟨rowlt h.rt, rowge h.rt⟩
theorem RiSt.set (h : RiSt W0 lb thb l v1 ax m x th W) (k : Nat) (b : Bool) : RiSt W0 lb thb l v1 ax m x (th.set k b) (W.setCell ⟨thb, k, none⟩ (.bool b)) := by (
 obtain ⟨cs, hc⟩ := h.rt.blk
 refine ⟨h.L.far (Blk.ne_ h.L hc (by decide)) _, h.r1.far (by exact h.n1) _, h.rt.setb0 k b, by simpa using h.len, h.ahd.far (p := ⟨thb, k, none⟩) hc (by decide) (by decide) _, h.n1, h.below.setCell (rowge h.rt) _, h.low⟩)
theorem RiSt.add {V w9 : World} {v9 : Value} {R : Option Addr} {c : Nat} {vals : List Value} (h : RiSt W0 lb thb l v1 ax m x th V) (h1 : vals.length = m) (h2 : Row V W0.heap.size 65 ax vals)
 (h3 : ∀ k, k < m → ∃ (R : Option Addr) (c : Nat), vals[k]? = some (.slice R (edgesOf false l k).length c) ∧ Row V W0.heap.size 3 (.slice R (edgesOf false l k).length c) (ints (edgesOf false l k)))
 (hr : Row V W0.heap.size 3 (.slice R (edgesOf false l m).length c) (ints (edgesOf false l m)))
 (hg : V.grownBy w9 ax.ownBlock) (ha : Row w9 W0.heap.size 65 v9 (vals ++ [.slice R (edgesOf false l m).length c])) : RiSt W0 lb thb l v1 v9 (m + 1) x th w9 :=
⟨Blk.grown h.L hg (h2.ne_blk h.L (by decide)), Row.kept h.r1 hg (h.r1.ne_row h2 (by decide)), Row.kept h.rt hg (h.rt.ne_row h2 (by decide)), h.len, RTab.add h1 h2 h3 (by decide) hr hg ha, h.n1, h.below.grown hg h.below.size (fun q hq => (h2.lt q hq).1), h.low⟩
structure RkSt (W0 : World) (lb thb : Nat) (n : Nat) (v1 v2 : Value) (x y th : List Bool) (W : World) : Prop where
 z : LzSt W0 lb v1 v2 x y W
 rt : Row W W0.heap.size 4 (.slice (some ⟨thb, 0, none⟩) n n) (bools th)
 len : th.length = n
 n1 : v1.ownBlock ≠ some thb
 n2 : v2.ownBlock ≠ some thb
theorem RkSt.later {n : Nat} {W' : World} (h : RkSt W0 lb thb n v1 v2 x y th W) (hb : Below W.heap.size W W') : RkSt W0 lb thb n v1 v2 x y th W' := ⟨h.z.later hb, h.rt.below' hb, h.len, h.n1, h.n2⟩
theorem RkSt.put2 {n : Nat} {V w9 : World} {v9 : Value} {b : Bool} (h0 : RkSt W0 lb thb n v1 v2 x y th W) (hb : Below W.heap.size W V) (hr : Row w9 W0.heap.size 4 v9 (bools y ++ [.bool b])) (hg : V.grownBy w9 v2.ownBlock) (hat : v9.ownBlock = v2.ownBlock ∨ ∀ k, v9.ownBlock = some k → V.heap.size ≤ k) :
 RkSt W0 lb thb n v1 v9 x (y ++ [b]) th (w9.setCell ⟨lb, 1, none⟩ v9) := by (
 have h := h0.later hb
 have hL := Blk.grown h.z.L hg (h.z.r2.ne_blk h.z.L (by decide))
 have ht := Row.kept h.rt hg (.inr fun e => h.n2 e.symm)
 refine ⟨h0.z.put2 hb hr hg hat, ht.far (ht.ne_blk hL (by decide)) _, h.len, h.n1, ?_⟩
 rcases hat with e | e
 · rw [e]; exact h.n2
 · (
 intro e2
 have := e thb e2
 have := rowlt h.rt
 omega))
end
def RoPost (tB : TypeId) (l : List Nd) (t : Tm) (x : List Bool) (w : World) (e : Ending) (w' : World) : Prop :=
 Below w.heap.size w w' ∧ ∃ F th v1 v2, IsFx t l F ∧ Great (rivS t l (rivG l F x)) l.length th ∧ e = .returned (.agg #[v1, v2]) ∧ Row w' w.heap.size tB v1 (bools (rivG l F x)) ∧ Row w' w.heap.size tB v2 (bools (mk l.length fun k => yn th k && recB t (nd l k)))
set_option maxRecDepth 100000 in
theorem RivalOf_any (regs : Int) (A : Option Addr) (l : List Nd) (cap : Nat) (t : Tm) (X : Option Addr) (x : List Bool) (xc : Nat) (w : World) (hA : NodesAt w A l) (hR : Right regs l) (hX : ValsAt w X (bools x)) (hxl : x.length = l.length) :
 Calls Tryz.prog 11 #[.agg #[.int .i64 regs, .slice A l.length cap], .agg #[.int .i64 t.op, .int .i64 t.a, .int .i64 t.b], .slice X x.length xc] w (RoPost 4 l t x w) := by (
 obtain ⟨ib, hbi, hbz, hbs, hbb⟩ := info_parts infoBoolG
 obtain ⟨ii, hii, hiz, his, hib⟩ := info_parts info_intsR
 have hlo := hR.lo
 have hhi := hR.hi
 have hmk := run_make1 (P := Tryz.prog) 27 4 ib _ 1 Tryz.underlying27 hbi hbz hbs hbb (by omega) rfl l.length (by omega)
 have HX := hide (fun W (hW : Below w.heap.size w W) => FactsOf_any regs A l cap t W (hA.below hW) hR)
 have HN := hide (fun W (hW : Below w.heap.size w W) => hA.below hW)
 have HXV := hide (fun W (hW : Below w.heap.size w W) => hX.below hW)
 rw [hxl]
 clear hA hR hX
 go_enter Tryz.func11, Tryz.ntmps11
 go_wp2_with fail
 refine (HX.out _ (by (with_reducible repeat first | apply Qa | assumption | apply Qb | apply Qc | apply Qd | apply Qe | refine Qf ?_ (by assumption) ?_); all_goals (try simp only [Sz]); first | done | omega | (try simp only [Sz] at *); omega)).mono ?_
 rintro e w1 ⟨hb1, F, v0, v1, v2, v3, v4, v5, rfl, hF, r0, r1, r2, r3, r4, r5⟩
 obtain ⟨L0, L1, L2, L3, L4, L5⟩ := hF.len
 obtain ⟨A0, c0, e0, _, _⟩ := r0.shape
 rw [bools_length, L0] at e0
 subst e0
 obtain ⟨A1, c1, e1, _, _⟩ := r1.shape
 rw [bools_length, L1] at e1
 subst e1
 obtain ⟨A2, c2, e2, _, _⟩ := r2.shape
 rw [bools_length, L2] at e2
 subst e2
 obtain ⟨A3, c3, e3, _, _⟩ := r3.shape
 rw [bools_length, L3] at e3
 subst e3
 obtain ⟨A4, c4, e4, _, _⟩ := r4.shape
 rw [bools_length, L4] at e4
 subst e4
 obtain ⟨A5, c5, e5, _, _⟩ := r5.shape
 rw [bools_length, L5] at e5
 subst e5
 have hz1 := hb1.size
 simp only [World.size_alloc] at hz1
 have hB1 : Below w.heap.size w w1 := (by (with_reducible repeat first | apply Qa | assumption | apply Qb | apply Qc | apply Qd | apply Qe | refine Qf ?_ (by assumption) ?_); all_goals (try simp only [Sz]); first | done | omega | (try simp only [Sz] at *); omega)
 have hP1 : Blk w1 w.heap.size 24 #[.int .i64 regs, .slice A l.length cap] := Blk.below (by repeat (first | ((with_reducible refine Blk.new' ?_); exact (by (try simp only [Sz]); first | done | omega | (try simp only [Sz] at *); omega)) | (with_reducible refine Blk.alloc ?_ _))) hb1 (by simp <;> omega)
 have hT1 : Blk w1 (w.heap.size + 1) 26 (tmA t) := Blk.below (by unfold tmA; repeat (first | ((with_reducible refine Blk.new' ?_); exact (by (try simp only [Sz]); first | done | omega | (try simp only [Sz] at *); omega)) | (with_reducible refine Blk.alloc ?_ _))) hb1 (by simp <;> omega)
 have hO1 : Blk w1 (w.heap.size + 1 + 1) 29 #[.slice none 0 0, .slice none 0 0] := Blk.below (by repeat (first | ((with_reducible refine Blk.new' ?_); exact (by (try simp only [Sz]); first | done | omega | (try simp only [Sz] at *); omega)) | (with_reducible refine Blk.alloc ?_ _))) hb1 (by simp <;> omega)
 clear hb1
 go_upto_region 2 with fail
 obtain ⟨W2, hW2⟩ : ∃ W2 : World, W2 = w1.alloc (.cells #[.slice A0 l.length c0, .slice A1 l.length c1, .slice A2 l.length c2, .slice A3 l.length c3, .slice A4 l.length c4, .slice A5 l.length c5] 49) := ⟨_, rfl⟩
 have hb2 : Below w1.heap.size w1 W2 := by rw [hW2]; exact (Below.refl _ _).alloc (Nat.le_refl _) _
 have hFB : Blk W2 w1.heap.size 49 #[.slice A0 l.length c0, .slice A1 l.length c1, .slice A2 l.length c2, .slice A3 l.length c3, .slice A4 l.length c4, .slice A5 l.length c5] := by rw [hW2]; exact Blk.new' rfl
 have hDn : ValsAt W2 A0 (bools F.down) := r0.vals.below hb2
 have hP2 := hP1.below hb2 hP1.lt
 have hT2 := hT1.below hb2 hT1.lt
 have hO2 := hO1.below hb2 hO1.lt
 have hB2 := hB1.trans (hb2.mono hB1.size)
 have hz2 := hb2.size
 rw [← hW2]
 obtain ⟨fb, hfb⟩ : ∃ b, b = w1.heap.size := ⟨_, rfl⟩
 rw [← hfb] at hFB ⊢
 have hfl := hFB.lt
 have hfg : w.heap.size + 1 + 1 < fb := by omega
 clear hfb hW2 hb2 hP1 hT1 hO1 hB1 r0 r1 r2 r3 r4 r5 L1 L2 L3 L4 L5 hz1 hz2
 go_upto_region 3 with fail
 obtain ⟨W3, hW3⟩ : ∃ W3 : World, W3 = W2.alloc (.cells #[.slice none 0 0, .slice none 0 0] 29) := ⟨_, rfl⟩
 have hS3 : LzSt W2 W2.heap.size (.slice none 0 0) (.slice none 0 0) (mk 0 fun k => yn x k && yn F.down k) [] W3 := by rw [hW3]; exact ⟨Blk.new' rfl, Row.nil_ _ _ _, Row.nil_ _ _ _, .inl rfl, (Below.refl _ _).alloc (Nat.le_refl _) _, Nat.le_refl _⟩
 rw [← hW3]
 obtain ⟨lb, hlb⟩ : ∃ b, b = W2.heap.size := ⟨_, rfl⟩
 rw [← hlb] at hS3 ⊢
 have hlw := hS3.low
 have HS3 := hide hS3
 have HP1 := hide hP2
 have HT1 := hide hT2
 have HO1 := hide hO2
 have HB1 := hide hB2
 have HFB := hide hFB
 have HDn := hide hDn
 have HF := hide hF
 have HL0 := hide L0
 have lp := hP2.lt
 have ltb := hT2.lt
 clear hS3 hP2 hT2 hO2 hB2 hFB hDn hF L0 hW3 hlb w1
 go_wp2_with fail
 go_loopg [9] (l.length) (fun gk i wr => ∃ (k : Nat) (v1 : Value), k ≤ l.length ∧ i = .int .i64 k ∧ gk = l.length - k ∧ LzSt W2 lb v1 (.slice none 0 0) (mk k fun k => yn x k && yn F.down k) [] wr)
 case atStart => exact ⟨0, _, Nat.zero_le _, rfl, rfl, HS3.out⟩
 case round => (
 clear HS3
 obtain ⟨k, v1, hk, rfl, hgk, hS⟩ := hrel
 have Hgk := hide hgk
 clear hgk
 have hwz := hS.below.size
 by_cases hlt : k < l.length
 · (
 obtain ⟨b0, o0, rfl, l0, e0⟩ := HDn.out.bool (k := k) (by rw [HL0.out]; exact hlt)
 obtain ⟨xb, xo, rfl, lxb, ex⟩ := (HXV.out _ HB1.out).bool (k := k) (by rw [hxl]; exact hlt)
 have f0 := HFB.out.cell 0
 simp only [Yl] at f0
 have HC := hide (show _ ∧ _ ∧ _ from ⟨f0, ex, e0⟩)
 clear f0 ex e0
 have u0 : (0 : Int) ≤ (k : Int) := by omega
 have u1 : (k : Int) < (l.length : Int) := by omega
 have hm1 : (mk k fun k => yn x k && yn F.down k).length = k := mk_len _ _
 have hP := HP1.out.below hS.below lp
 have p1 := hP.cell 1
 have lpw := hP.lt
 simp only [Yl] at p1
 obtain ⟨f0, ex, e0⟩ := HC.out
 have f0 := ((bcell hS.below).1 _ _ hfl).trans f0
 have ex := ((bcell hS.below).1 _ _ lxb).trans ex
 have e0 := ((bcell hS.below).1 _ _ l0).trans e0
 have HS := hide hS
 clear hS hP
 go_upto_region 6 with fail
 cases hqx : yn x k
 case false => (
 rw [hqx] at ex
 have Hqx := hide hqx
 clear hqx p1
 have HG : ∀ (V w9 : World), Below wr.heap.size wr V → V.grownBy w9 v1.ownBlock → (w9.cell? ⟨fb, 0, none⟩ = some (.slice (some ⟨b0, o0, none⟩) l.length c0) ∧ w9.cell? ⟨xb, xo + k, none⟩ = some (.bool false) ∧ w9.cell? ⟨b0, o0 + k, none⟩ = some (.bool (yn F.down k))) := by (
 intro V w9 hV hg9
 have hown : ∀ b, b < W2.heap.size → (some b) ≠ v1.ownBlock := fun b hb e => by have := (HS.out.r1.lt b e.symm).1; omega
 have hsz2 := hV.size
 exact ⟨(hg9.cell_far ⟨fb, 0, none⟩ (by simp; omega) (hown _ (by omega))).trans (((bcell hV).1 _ _ (by omega)).trans f0), (hg9.cell_far ⟨xb, xo + k, none⟩ (by simp; omega) (hown _ (by omega))).trans (((bcell hV).1 _ _ (by omega)).trans ex), (hg9.cell_far ⟨b0, o0 + k, none⟩ (by simp; omega) (hown _ (by omega))).trans (((bcell hV).1 _ _ (by omega)).trans e0)⟩)
 have HZ : ∀ (V : World) (u : Value), (V.cell? ⟨fb, 0, none⟩ = some (.slice (some ⟨b0, o0, none⟩) l.length c0) ∧ V.cell? ⟨xb, xo + k, none⟩ = some (.bool false) ∧ V.cell? ⟨b0, o0 + k, none⟩ = some (.bool (yn F.down k))) → ((V.setCell ⟨lb, 0, none⟩ u).cell? ⟨fb, 0, none⟩ = some (.slice (some ⟨b0, o0, none⟩) l.length c0) ∧ (V.setCell ⟨lb, 0, none⟩ u).cell? ⟨xb, xo + k, none⟩ = some (.bool false) ∧ (V.setCell ⟨lb, 0, none⟩ u).cell? ⟨b0, o0 + k, none⟩ = some (.bool (yn F.down k))) := fun V u ⟨f0, ex, e0⟩ => ⟨(set1_cell (by omega) _ _).trans f0, (set1_cell (by omega) _ _).trans ex, (set1_cell (by omega) _ _).trans e0⟩
 have HH : ∀ (V : World), Below wr.heap.size wr V → (V.cell? ⟨fb, 0, none⟩ = some (.slice (some ⟨b0, o0, none⟩) l.length c0) ∧ V.cell? ⟨xb, xo + k, none⟩ = some (.bool false) ∧ V.cell? ⟨b0, o0 + k, none⟩ = some (.bool (yn F.down k))) := fun V hV => ⟨((bcell hV).1 _ _ (by omega)).trans f0, ((bcell hV).1 _ _ (by omega)).trans ex, ((bcell hV).1 _ _ (by omega)).trans e0⟩
 refine wp_region_held_drew (S := fun w' => (w'.cell? ⟨fb, 0, none⟩ = some (.slice (some ⟨b0, o0, none⟩) l.length c0) ∧ w'.cell? ⟨xb, xo + k, none⟩ = some (.bool false) ∧ w'.cell? ⟨b0, o0 + k, none⟩ = some (.bool (yn F.down k)))) (by kernel_rfl) ?_ ?_
 · exact ⟨f0, ex, e0⟩
 intro hH
 have hC0 : Below wr.heap.size wr wr.drew := (Below.refl _ _).drew
 generalize wr.drew = V0 at hH hC0 ⊢
 refine Up (fun _ _ _ _ _ => id) fun hP => ?_
 refine Vq 0 ?_ rfl (by kernel_rfl) hP (by rfl) ?r hH ?_; case r => intro w'; go_simp; try with_reducible rfl
 try simp only [Nm]
 refine Vq 2 ?_ rfl (by kernel_rfl) hP (by rfl) ?r hH ?_; case r => intro w'; go_simp; try with_reducible rfl
 try simp only [Nm]
 refine Vq 3 ?_ rfl (by kernel_rfl) hP (by rfl) ?r hH ?_; case r => intro w'; go_simp; try with_reducible rfl
 try simp only [Nm]
 refine Vq 4 ?_ rfl (by kernel_rfl) hP (by rfl) ?r hH ?_; case r => intro w'; go_simp; try with_reducible rfl
 try simp only [Nm]
 refine Vi 5 ?_ rfl (by kernel_rfl) hP (by rfl) ?r hH ?_; case r => intro w' h; (try dsimp only at h); (try go_split_ands); go_simp; try with_reducible rfl
 try simp only [Nm]
 refine Vq 6 ?_ rfl (by kernel_rfl) hP (by rfl) ?r hH ?_; case r => intro w'; go_simp; try with_reducible rfl
 try simp only [Nm]
 refine Vn 7 rfl (by kernel_rfl) hP (by rfl) hH ?_
 try simp only [Nm]
 refine Vn 8 rfl (by kernel_rfl) hP (by rfl) hH ?_
 try simp only [Nm]
 refine Vn 9 rfl (by kernel_rfl) hP (by rfl) hH ?_
 try simp only [Nm]
 refine Vn 10 rfl (by kernel_rfl) hP (by rfl) hH ?_
 try simp only [Nm]
 refine Vn 11 rfl (by kernel_rfl) hP (by rfl) hH ?_
 try simp only [Nm]
 refine Vq 12 ?_ rfl (by kernel_rfl) hP (by rfl) ?r hH ?_; case r => intro w'; go_simp; try with_reducible rfl
 try simp only [Nm]
 refine wpAnyH_ready (rs := [1, 13]) (by kernel_rfl) (by simp) ?_
 refine AllReadyH.cons rfl (fun K hK => ?_) (AllReadyH.cons rfl (fun K hK => ?_) AllReadyH.nil)
 focus (
 have HK1 := hide hK
 clear hK
 have hx := (HS.out.L.below hC0 HS.out.L.lt).cell 0
 simp only [Yl] at hx
 go_simp
 clear hx hH
 refine Shut.out HK1.out _ _ (HH _ hC0) (fun hH => ?_)
 try simp only [Nm]
 clear HK1
 refine Rd 13 (by kernel_rfl) rfl (fun K hK => ?_)
 have HK13 := hide hK
 clear hK
 go_simp
 obtain ⟨V1, hV1⟩ : ∃ V : World, V = V0.alloc (.cells #[.bool (false)] 4) := ⟨_, rfl⟩
 rw [← hV1]
 have hC1 : Below wr.heap.size wr V1 := by rw [hV1]; exact Below.alloc hC0 hC0.size _
 have hv1 : ValsAt V1 (some ⟨V0.heap.size, 0, none⟩) [.bool (false)] := by rw [hV1]; exact vals_one _ _ _
 clear hH hV1
 refine Shut.out HK13.out _ _ (HH _ hC1) (fun hH => ?_)
 try simp only [Nm]
 clear HK13)
 rotate_left
 focus (
 have HK13 := hide hK
 clear hK
 go_simp
 obtain ⟨V1, hV1⟩ : ∃ V : World, V = V0.alloc (.cells #[.bool (false)] 4) := ⟨_, rfl⟩
 rw [← hV1]
 have hC1 : Below wr.heap.size wr V1 := by rw [hV1]; exact Below.alloc hC0 hC0.size _
 have hv1 : ValsAt V1 (some ⟨V0.heap.size, 0, none⟩) [.bool (false)] := by rw [hV1]; exact vals_one _ _ _
 clear hH hV1
 refine Shut.out HK13.out _ _ (HH _ hC1) (fun hH => ?_)
 try simp only [Nm]
 clear HK13
 refine Rd 1 (by kernel_rfl) rfl (fun K hK => ?_)
 have HK1 := hide hK
 clear hK
 have hx := (HS.out.L.below hC1 HS.out.L.lt).cell 0
 simp only [Yl] at hx
 go_simp
 clear hx hH
 refine Shut.out HK1.out _ _ (HH _ hC1) (fun hH => ?_)
 try simp only [Nm]
 clear HK1)
 all_goals (
 refine Rd 14 (by kernel_rfl) rfl (fun K hK => ?_)
 have HK14 := hide hK
 clear hK
 refine step_append_row (v := v1) (by rfl) _ _ _ (by rfl) ib _ 1 Tryz.underlying27 hbi hbz hbs hbb rfl (by rfl) (HS.out.r1.below' hC1) (some ⟨_, 0, none⟩) 1 1 [.bool (false)] (by rfl) (by rfl) hv1 (by simp [Value.oneCell']) (by rw [bools_length, hm1]; simp [maxLen]; omega) (by rw [bools_length, hm1]; simp; omega) (by have := hC1.size; omega) ?_
 intro v9 w9 hr9 hg9 hat9
 obtain ⟨A9, c9, hv9, _, _⟩ := hr9.shape
 subst hv9
 simp only [List.length_append, List.length_singleton, bools_length, hm1] at hr9 hat9 ⊢
 have X9 := HG _ _ hC1 hg9
 have hq9 := Blk.grown (HS.out.L.below hC1 HS.out.L.lt) hg9 (HS.out.r1.ne_blk HS.out.L (by decide))
 have hP9 := HS.out.put1 hC1 hr9 hg9 hat9
 have HP9 := hide hP9
 clear hP9 hr9 hat9 hH
 refine Shut.out HK14.out _ _ X9 (fun hH => ?_)
 try simp only [Nm]
 clear HK14
 refine Vq 15 ?_ rfl (by kernel_rfl) hP (by rfl) ?r hH ?_; case r => intro w'; go_simp; try with_reducible rfl
 try simp only [Nm]
 refine Rd 16 (by kernel_rfl) rfl (fun K hK => ?_)
 have HK16 := hide hK
 clear hK
 have hx := hq9.cell 0
 have fx := hq9.frozen 0
 simp only [Yl] at hx
 go_simp
 refine Shut.out HK16.out _ _ (HZ _ _ X9) (fun hH => ?_)
 try simp only [Nm]
 clear HK16
 refine wpAnyH_done (by kernel_rfl) ?_ _
 go_wp2_with fail
 go_roundg (l.length - (k + 1))
 case measure => have := Hgk.out; omega
 case rel => exact ⟨k + 1, _, by omega, by go_num, rfl, by rw [mk_succ (f := fun k => yn x k && yn F.down k), Hqx.out]; exact HP9.out⟩))
 case true => (
 rw [hqx] at ex
 have Hqx := hide hqx
 clear hqx p1
 have HG : ∀ (V w9 : World), Below wr.heap.size wr V → V.grownBy w9 v1.ownBlock → (w9.cell? ⟨fb, 0, none⟩ = some (.slice (some ⟨b0, o0, none⟩) l.length c0) ∧ w9.cell? ⟨xb, xo + k, none⟩ = some (.bool true) ∧ w9.cell? ⟨b0, o0 + k, none⟩ = some (.bool (yn F.down k))) := by (
 intro V w9 hV hg9
 have hown : ∀ b, b < W2.heap.size → (some b) ≠ v1.ownBlock := fun b hb e => by have := (HS.out.r1.lt b e.symm).1; omega
 have hsz2 := hV.size
 exact ⟨(hg9.cell_far ⟨fb, 0, none⟩ (by simp; omega) (hown _ (by omega))).trans (((bcell hV).1 _ _ (by omega)).trans f0), (hg9.cell_far ⟨xb, xo + k, none⟩ (by simp; omega) (hown _ (by omega))).trans (((bcell hV).1 _ _ (by omega)).trans ex), (hg9.cell_far ⟨b0, o0 + k, none⟩ (by simp; omega) (hown _ (by omega))).trans (((bcell hV).1 _ _ (by omega)).trans e0)⟩)
 have HZ : ∀ (V : World) (u : Value), (V.cell? ⟨fb, 0, none⟩ = some (.slice (some ⟨b0, o0, none⟩) l.length c0) ∧ V.cell? ⟨xb, xo + k, none⟩ = some (.bool true) ∧ V.cell? ⟨b0, o0 + k, none⟩ = some (.bool (yn F.down k))) → ((V.setCell ⟨lb, 0, none⟩ u).cell? ⟨fb, 0, none⟩ = some (.slice (some ⟨b0, o0, none⟩) l.length c0) ∧ (V.setCell ⟨lb, 0, none⟩ u).cell? ⟨xb, xo + k, none⟩ = some (.bool true) ∧ (V.setCell ⟨lb, 0, none⟩ u).cell? ⟨b0, o0 + k, none⟩ = some (.bool (yn F.down k))) := fun V u ⟨f0, ex, e0⟩ => ⟨(set1_cell (by omega) _ _).trans f0, (set1_cell (by omega) _ _).trans ex, (set1_cell (by omega) _ _).trans e0⟩
 have HH : ∀ (V : World), Below wr.heap.size wr V → (V.cell? ⟨fb, 0, none⟩ = some (.slice (some ⟨b0, o0, none⟩) l.length c0) ∧ V.cell? ⟨xb, xo + k, none⟩ = some (.bool true) ∧ V.cell? ⟨b0, o0 + k, none⟩ = some (.bool (yn F.down k))) := fun V hV => ⟨((bcell hV).1 _ _ (by omega)).trans f0, ((bcell hV).1 _ _ (by omega)).trans ex, ((bcell hV).1 _ _ (by omega)).trans e0⟩
 refine wp_region_held_drew (S := fun w' => (w'.cell? ⟨fb, 0, none⟩ = some (.slice (some ⟨b0, o0, none⟩) l.length c0) ∧ w'.cell? ⟨xb, xo + k, none⟩ = some (.bool true) ∧ w'.cell? ⟨b0, o0 + k, none⟩ = some (.bool (yn F.down k)))) (by kernel_rfl) ?_ ?_
 · exact ⟨f0, ex, e0⟩
 intro hH
 have hC0 : Below wr.heap.size wr wr.drew := (Below.refl _ _).drew
 generalize wr.drew = V0 at hH hC0 ⊢
 refine Up (fun _ _ _ _ _ => id) fun hP => ?_
 refine Vq 0 ?_ rfl (by kernel_rfl) hP (by rfl) ?r hH ?_; case r => intro w'; go_simp; try with_reducible rfl
 try simp only [Nm]
 refine Vq 2 ?_ rfl (by kernel_rfl) hP (by rfl) ?r hH ?_; case r => intro w'; go_simp; try with_reducible rfl
 try simp only [Nm]
 refine Vq 3 ?_ rfl (by kernel_rfl) hP (by rfl) ?r hH ?_; case r => intro w'; go_simp; try with_reducible rfl
 try simp only [Nm]
 refine Vq 4 ?_ rfl (by kernel_rfl) hP (by rfl) ?r hH ?_; case r => intro w'; go_simp; try with_reducible rfl
 try simp only [Nm]
 refine Vi 5 ?_ rfl (by kernel_rfl) hP (by rfl) ?r hH ?_; case r => intro w' h; (try dsimp only at h); (try go_split_ands); go_simp; try with_reducible rfl
 try simp only [Nm]
 refine Vq 6 ?_ rfl (by kernel_rfl) hP (by rfl) ?r hH ?_; case r => intro w'; go_simp; try with_reducible rfl
 try simp only [Nm]
 refine Vq 7 ?_ rfl (by kernel_rfl) hP (by rfl) ?r hH ?_; case r => intro w'; go_simp; try with_reducible rfl
 try simp only [Nm]
 refine Vi 8 ?_ rfl (by kernel_rfl) hP (by rfl) ?r hH ?_; case r => intro w' h; (try dsimp only at h); (try go_split_ands); go_simp; try with_reducible rfl
 try simp only [Nm]
 refine Vq 9 ?_ rfl (by kernel_rfl) hP (by rfl) ?r hH ?_; case r => intro w'; go_simp; try with_reducible rfl
 try simp only [Nm]
 refine Vq 10 ?_ rfl (by kernel_rfl) hP (by rfl) ?r hH ?_; case r => intro w'; go_simp; try with_reducible rfl
 try simp only [Nm]
 refine Vi 11 ?_ rfl (by kernel_rfl) hP (by rfl) ?r hH ?_; case r => intro w' h; (try dsimp only at h); (try go_split_ands); go_simp; try with_reducible rfl
 try simp only [Nm]
 refine Vq 12 ?_ rfl (by kernel_rfl) hP (by rfl) ?r hH ?_; case r => intro w'; go_simp; try with_reducible rfl
 try simp only [Nm]
 refine wpAnyH_ready (rs := [1, 13]) (by kernel_rfl) (by simp) ?_
 refine AllReadyH.cons rfl (fun K hK => ?_) (AllReadyH.cons rfl (fun K hK => ?_) AllReadyH.nil)
 focus (
 have HK1 := hide hK
 clear hK
 have hx := (HS.out.L.below hC0 HS.out.L.lt).cell 0
 simp only [Yl] at hx
 go_simp
 clear hx hH
 refine Shut.out HK1.out _ _ (HH _ hC0) (fun hH => ?_)
 try simp only [Nm]
 clear HK1
 refine Rd 13 (by kernel_rfl) rfl (fun K hK => ?_)
 have HK13 := hide hK
 clear hK
 go_simp
 obtain ⟨V1, hV1⟩ : ∃ V : World, V = V0.alloc (.cells #[.bool (yn F.down k)] 4) := ⟨_, rfl⟩
 rw [← hV1]
 have hC1 : Below wr.heap.size wr V1 := by rw [hV1]; exact Below.alloc hC0 hC0.size _
 have hv1 : ValsAt V1 (some ⟨V0.heap.size, 0, none⟩) [.bool (yn F.down k)] := by rw [hV1]; exact vals_one _ _ _
 clear hH hV1
 refine Shut.out HK13.out _ _ (HH _ hC1) (fun hH => ?_)
 try simp only [Nm]
 clear HK13)
 rotate_left
 focus (
 have HK13 := hide hK
 clear hK
 go_simp
 obtain ⟨V1, hV1⟩ : ∃ V : World, V = V0.alloc (.cells #[.bool (yn F.down k)] 4) := ⟨_, rfl⟩
 rw [← hV1]
 have hC1 : Below wr.heap.size wr V1 := by rw [hV1]; exact Below.alloc hC0 hC0.size _
 have hv1 : ValsAt V1 (some ⟨V0.heap.size, 0, none⟩) [.bool (yn F.down k)] := by rw [hV1]; exact vals_one _ _ _
 clear hH hV1
 refine Shut.out HK13.out _ _ (HH _ hC1) (fun hH => ?_)
 try simp only [Nm]
 clear HK13
 refine Rd 1 (by kernel_rfl) rfl (fun K hK => ?_)
 have HK1 := hide hK
 clear hK
 have hx := (HS.out.L.below hC1 HS.out.L.lt).cell 0
 simp only [Yl] at hx
 go_simp
 clear hx hH
 refine Shut.out HK1.out _ _ (HH _ hC1) (fun hH => ?_)
 try simp only [Nm]
 clear HK1)
 all_goals (
 refine Rd 14 (by kernel_rfl) rfl (fun K hK => ?_)
 have HK14 := hide hK
 clear hK
 refine step_append_row (v := v1) (by rfl) _ _ _ (by rfl) ib _ 1 Tryz.underlying27 hbi hbz hbs hbb rfl (by rfl) (HS.out.r1.below' hC1) (some ⟨_, 0, none⟩) 1 1 [.bool (yn F.down k)] (by rfl) (by rfl) hv1 (by simp [Value.oneCell']) (by rw [bools_length, hm1]; simp [maxLen]; omega) (by rw [bools_length, hm1]; simp; omega) (by have := hC1.size; omega) ?_
 intro v9 w9 hr9 hg9 hat9
 obtain ⟨A9, c9, hv9, _, _⟩ := hr9.shape
 subst hv9
 simp only [List.length_append, List.length_singleton, bools_length, hm1] at hr9 hat9 ⊢
 have X9 := HG _ _ hC1 hg9
 have hq9 := Blk.grown (HS.out.L.below hC1 HS.out.L.lt) hg9 (HS.out.r1.ne_blk HS.out.L (by decide))
 have hP9 := HS.out.put1 hC1 hr9 hg9 hat9
 have HP9 := hide hP9
 clear hP9 hr9 hat9 hH
 refine Shut.out HK14.out _ _ X9 (fun hH => ?_)
 try simp only [Nm]
 clear HK14
 refine Vq 15 ?_ rfl (by kernel_rfl) hP (by rfl) ?r hH ?_; case r => intro w'; go_simp; try with_reducible rfl
 try simp only [Nm]
 refine Rd 16 (by kernel_rfl) rfl (fun K hK => ?_)
 have HK16 := hide hK
 clear hK
 have hx := hq9.cell 0
 have fx := hq9.frozen 0
 simp only [Yl] at hx
 go_simp
 refine Shut.out HK16.out _ _ (HZ _ _ X9) (fun hH => ?_)
 try simp only [Nm]
 clear HK16
 refine wpAnyH_done (by kernel_rfl) ?_ _
 go_wp2_with fail
 go_roundg (l.length - (k + 1))
 case measure => have := Hgk.out; omega
 case rel => exact ⟨k + 1, _, by omega, by go_num, rfl, by rw [mk_succ (f := fun k => yn x k && yn F.down k), Hqx.out]; exact HP9.out⟩)))
 · (
 have hkk : k = l.length := by omega
 subst hkk
 have hP := HP1.out.below hS.below lp
 have p1 := hP.cell 1
 have lpw := hP.lt
 simp only [Yl] at p1
 have hx1 : (mk l.length fun k => yn x k && yn F.down k) = rivG l F x := rfl
 rw [hx1] at hS
 have hhl := hS.L.lt
 have HS := hide hS
 clear hS hP hx1
 obtain ⟨W4, rfl⟩ : ∃ W : World, W = wr := ⟨_, rfl⟩
 go_upto_region 8 with fail
 obtain ⟨W5, hW5⟩ : ∃ W : World, W = W4.alloc (.cells (madeCells #[.bool false] l.length) 4) := ⟨_, rfl⟩
 obtain ⟨thb, hthb⟩ : ∃ b, b = W4.heap.size := ⟨_, rfl⟩
 obtain ⟨xs, hxs⟩ : ∃ xs, xs = rivG l F x := ⟨_, rfl⟩
 rw [← hxs] at HS
 have hxsl : xs.length = l.length := by rw [hxs]; exact mk_len _ _
 have hS5 : RiSt W2 lb thb l v1 (.slice none 0 0) 0 xs (List.replicate l.length false) W5 := by (
 have h := HS.out
 have hr : Row W5 W2.heap.size 4 (.slice (some ⟨thb, 0, none⟩) l.length l.length) (bools (List.replicate l.length false)) := by rw [bools, List.map_replicate, hW5, hthb]; exact (by repeat (first | ((with_reducible refine Row.made1' ?_ ?_ ?_); exact (by (try simp only [Sz]); first | done | omega | (try simp only [Sz] at *); omega); exact (by (try simp only [Sz]); first | done | omega | (try simp only [Sz] at *); omega); exact (by (try simp only [Sz]); first | done | omega | (try simp only [Sz] at *); omega)) | (with_reducible refine Row.drew ?_) | (with_reducible refine Row.drewN ?_ _) | (with_reducible refine Row.alloc ?_ _) | with_reducible assumption))
 refine ⟨by rw [hW5]; exact h.L.alloc _, by rw [hW5]; exact h.r1.alloc _, hr, by simp, RTab.nil _ _ _ _ _ _, ?_, by rw [hW5]; exact h.below.alloc h.below.size _, h.low⟩
 intro e
 have := (h.r1.lt _ e).2
 omega)
 have ht0 := hS5.thlt
 rw [← hW5, ← hthb]
 have HS5 := hide hS5
 have Hxs := hide hxs
 clear hS5 hW5 HS hthb p1 lpw hxs hhl hwz HXV hmk
 go_upto_region 9 with fail
 go_wp2_with fail
 go_loopg [11, 12] (l.length) (fun gk ax i wr => ∃ (k : Nat) (th : List Bool), k ≤ l.length ∧ i = .int .i64 k ∧ gk = l.length - k ∧ (∀ j, j < k → yn th j = true) ∧ RiSt W2 lb thb l v1 ax k xs th wr)
 case atStart => exact ⟨0, _, Nat.zero_le _, rfl, rfl, fun j hj => by omega, HS5.out⟩
 case round => (
 clear HS5
 obtain ⟨k, th, hk, rfl, hgk, hyes, hS⟩ := hrel
 have Hgk := hide hgk
 have Hyes := hide hyes
 clear hgk hyes
 have hwz := hS.below.size
 have hP := HP1.out.below hS.below lp
 have p0 := hP.cell 0
 have p1 := hP.cell 1
 have lpw := hP.lt
 simp only [Yl] at p0 p1
 have ht1 := hS.thlt
 have q1 : ¬ (w.heap.size = thb) := by omega
 by_cases hlt : k < l.length
 · (
 have u0 : (0 : Int) ≤ (k : Int) := by omega
 have u1 : (k : Int) < (l.length : Int) := by omega
 obtain ⟨ck, fk⟩ := hS.at_ hlt
 have hSs := hS.set k true
 have hthl := hS.len
 have Hthl := hide hthl
 have HS := hide hSs
 clear hS hSs hP hthl
 go_wp2_with fail
 refine (AheadOf_any regs A l cap _ k hlt hhi (HN.out _ (HB1.out.trans (HS.out.below.mono HB1.out.size)))).mono ?_
 rintro e w4 ⟨v4, rfl, hr4, hb4⟩
 have hx4 : sel (aheadP l k) l.length = edgesOf false l k := rfl
 rw [hx4] at hr4
 obtain ⟨R4, c4, rfl, _, _⟩ := hr4.shape
 rw [ints_length] at hr4 ⊢
 have hS4 := (HS.out.later hb4).later ((Below.refl _ _).alloc (Nat.le_refl _) (.cells #[.slice R4 (edgesOf false l k).length c4] 65))
 have hr4 := (hr4.mono HS.out.below.size).alloc (.cells #[.slice R4 (edgesOf false l k).length c4] 65)
 obtain ⟨va, d1, d2, d3⟩ := hS4.ahd
 obtain ⟨Aa, ca, hva, _, _⟩ := d2.shape
 rw [d1] at hva
 subst hva
 have D3 := hide d3
 have D2 := hide d2
 have HS4 := hide hS4
 have HR4 := hide hr4
 have hz4 := hS4.below.size
 simp only [World.size_alloc] at hz4
 clear d2 d3 hS4 hr4 hb4 p0 p1 ck fk
 go_wp2_with (at_builtin; refine wpList_append_row (v := .slice Aa k ca) rfl _ _ _ rfl ii _ 24 Tryz.underlying64 hii hiz his hib rfl rfl D2.out (some ⟨w4.heap.size, 0, none⟩) 1 1 [.slice R4 (edgesOf false l k).length c4] rfl rfl (vals_one' (by simp)) (by simp [Value.oneCell']) (by simp [maxLen]; omega) (by simp; omega) (by simp; omega) ?_; intro v5 w5 hr5 hg5 hat5)
 go_roundg (l.length - (k + 1))
 case measure => have := Hgk.out; omega
 case rel => (
 refine ⟨k + 1, _, by omega, by go_num, rfl, ?_, HS4.out.add d1 D2.out D3.out HR4.out hg5 hr5⟩
 intro j hj
 rw [yn_set _ _ _ _ (by rw [Hthl.out]; exact hlt)]
 split
 · rfl
 · exact Hyes.out j (by omega)))
 · (
 have hkk : k = l.length := by omega
 subst hkk
 obtain ⟨Sf, hSf⟩ : ∃ Sf, Sf = rivS t l xs := ⟨_, rfl⟩
 have hm : Mono Sf := by rw [hSf]; exact flowS_mono _ _ _ _ _ _ _
 have HSf := hide hSf
 have HM := hide hm
 have hst : Sweep Sf l.length 0 0 th := Sweep.start hS.len fun i hi => Hyes.out i hi
 have Hst := hide hst
 obtain ⟨vn, e1, e2, e3⟩ := hS.ahd
 obtain ⟨gn, on, cn, _, hnx, _, _, _, _, _⟩ := e2.get (k := 0) (by omega)
 rw [e1] at hnx
 subst hnx
 have HS := hide hS
 clear e1 e2 e3 hS hSf hm hst hP p0 p1 lpw hlt Hyes
 obtain ⟨W6, rfl⟩ : ∃ W : World, W = wr := ⟨_, rfl⟩
 go_wp2_with fail
 go_loopg [13] (l.length + 1) (fun gk i wr => ∃ (c : Nat) (y : List Bool), c ≤ l.length + 1 ∧ i = .int .i64 c ∧ gk = l.length + 1 - c ∧ Sweep Sf l.length c 0 y ∧ RiSt W2 lb thb l v1 (.slice (some ⟨gn, on, none⟩) l.length cn) l.length xs y wr)
 case atStart => exact ⟨0, th, Nat.zero_le _, rfl, rfl, Hst.out, HS.out⟩
 case round => (
 clear HS Hst
 obtain ⟨c, y, hc, rfl, hgk, h, hS⟩ := hrel
 have Hgk := hide hgk
 have HSw := hide h
 have HS := hide hS
 clear hgk h hS
 by_cases hcl : c ≤ l.length
 · (
 have cc : (c : Int) ≤ (l.length : Int) := by omega
 obtain ⟨wo, rfl⟩ : ∃ wo : World, wo = wr := ⟨_, rfl⟩
 obtain ⟨gk0, rfl⟩ : ∃ gk0 : Nat, gk0 = gk := ⟨_, rfl⟩
 go_wp2_with fail
 go_loopg [14] (l.length) (fun gk i wr => ∃ (k : Nat) (y : List Bool), k ≤ l.length ∧ i = .int .i64 k ∧ gk = l.length - k ∧ Sweep Sf l.length c k y ∧ RiSt W2 lb thb l v1 (.slice (some ⟨gn, on, none⟩) l.length cn) l.length xs y wr)
 case atStart => exact ⟨0, y, Nat.zero_le _, rfl, rfl, HSw.out, HS.out⟩
 case round => (
 clear HS HSw
 obtain ⟨k, y, hk, rfl, hgk2, h, hS⟩ := hrel
 have Hgk2 := hide hgk2
 have HSw := hide h
 clear hgk2 h
 by_cases hlt : k < l.length
 · (
 obtain ⟨vn, e1, e2, e3⟩ := hS.ahd
 obtain ⟨gn', on', cn', z, hnx, _, hgl, hz, hcz, _⟩ := e2.get (k := k) (by omega)
 obtain ⟨ea, eb⟩ : gn = gn' ∧ on = on' := by (
 injection hnx with hnx _ _
 injection hnx with hnx
 injection hnx with ea eb _
 exact ⟨ea, eb⟩)
 subst ea eb
 clear hnx
 obtain ⟨R, rc, ez, hrow⟩ := e3 k hlt
 rw [hz] at ez
 injection ez with ez
 subst ez
 have u0 : (0 : Int) ≤ (k : Int) := by omega
 have u1 : (k : Int) < (l.length : Int) := by omega
 have hel : (edgesOf false l k).length ≤ l.length := edges_le _ _ _
 clear hz e1 e2 e3
 obtain ⟨es, hes⟩ : ∃ es, es = edgesOf false l k := ⟨_, rfl⟩
 rw [← hes] at hrow hcz hel
 have Hes := hide hes
 clear hes
 have hyl : y.length = l.length := HSw.out.len
 have Hrow := hide hrow
 have HS := hide hS
 clear hS hrow
 go_wp2_with fail
 obtain ⟨wi, rfl⟩ : ∃ wi : World, wi = wr := ⟨_, rfl⟩
 go_loopg [16, 17] (es.length) (fun gk s16 i wr => ∃ j : Nat, j ≤ es.length ∧ i = .int .i64 j ∧ gk = es.length - j ∧ s16 = .bool (rivA t l y k j) ∧ RiSt W2 lb thb l v1 (.slice (some ⟨gn, on, none⟩) l.length cn) l.length xs y wr ∧ Row wr W2.heap.size 3 (.slice R es.length rc) (ints es))
 case atStart => exact ⟨0, Nat.zero_le _, rfl, rfl, by rw [rivA_zero, ← Hes.out], HS.out, Hrow.out⟩
 case round => (
 clear HS Hrow hcz
 obtain ⟨j, hj, rfl, hgk3, rfl, hS, hE⟩ := hrel
 have Hgk3 := hide hgk3
 clear hgk3
 obtain ⟨a0, ha0⟩ : ∃ a, a = rivA t l y k j := ⟨_, rfl⟩
 rw [← ha0]
 have hwz := hS.below.size
 by_cases hjl : j < es.length
 · (
 obtain ⟨mm, n, hjm, hmm, hnm⟩ := edge_in (bk := false) (l := l) (k := k) (j := j) (by rw [← Hes.out]; exact hjl)
 have hstA := rivA_step (t := t) (x := y) hjm hnm
 rw [← ha0] at hstA
 rw [← Hes.out] at hjm
 obtain ⟨rb, ro, rfl, lr, es0⟩ := hE.int_at_ hjm
 obtain ⟨nb, no, n', rfl, hnb, hn', n0, n1, n2, n3, n4, n5⟩ := (HN.out _ HB1.out).get hmm
 obtain rfl : n = n' := by rw [hnm] at hn'; injection hn'
 have p1 := HP1.out.cell 1
 have t0 := HT1.out.cell 0
 have t1 := HT1.out.cell 1
 have t2 := HT1.out.cell 2
 simp only [tmA, Yl] at p1 t0 t1 t2
 have HC := hide (show _ ∧ _ ∧ _ ∧ _ ∧ _ ∧ _ ∧ _ ∧ _ ∧ _ ∧ _ from ⟨p1, n0, n1, n2, n3, n4, n5, t0, t1, t2⟩)
 clear p1 n0 n1 n2 n3 n4 n5 t0 t1 t2
 obtain ⟨p1, n0, n1, n2, n3, n4, n5, t0, t1, t2⟩ := HC.out
 have p1 := ((bcell hS.below).1 _ _ lp).trans p1
 have n0 := ((bcell hS.below).1 _ _ hnb).trans n0
 have n1 := ((bcell hS.below).1 _ _ hnb).trans n1
 have n2 := ((bcell hS.below).1 _ _ hnb).trans n2
 have n3 := ((bcell hS.below).1 _ _ hnb).trans n3
 have n4 := ((bcell hS.below).1 _ _ hnb).trans n4
 have n5 := ((bcell hS.below).1 _ _ hnb).trans n5
 have t0 := ((bcell hS.below).1 _ _ ltb).trans t0
 have t1 := ((bcell hS.below).1 _ _ ltb).trans t1
 have t2 := ((bcell hS.below).1 _ _ ltb).trans t2
 obtain ⟨vm, hvm⟩ : ∃ b, b = yn y mm := ⟨_, rfl⟩
 rw [← hvm] at hstA
 have em := (hS.at_ hmm).1
 rw [← hvm] at em
 have ht1 := hS.thlt
 have lt5 := ltb
 have lp5 := lp
 have v0 : (0 : Int) ≤ (j : Int) := by omega
 have v1 : (j : Int) < (es.length : Int) := by omega
 have m0 : (0 : Int) ≤ (mm : Int) := by omega
 have m1 : (mm : Int) < (l.length : Int) := by omega
 have Hb := hide hstA
 have HS := hide hS
 have HE := hide hE
 clear hstA hvm ha0 hn' hnm hS hE
 go_upto_region 25 with fail
 cases a0
 case false => (
 have HH : ∀ (V : World), Below wr.heap.size wr V → (V.cell? ⟨w.heap.size, 1, none⟩ = some (.slice (some ⟨nb, no, none⟩) l.length cap) ∧ V.cell? ⟨nb, no + mm * 6, none⟩ = some (.int .i64 n.op) ∧ V.cell? ⟨nb, no + mm * 6 + 1, none⟩ = some (.int .i64 n.d) ∧ V.cell? ⟨nb, no + mm * 6 + 2, none⟩ = some (.int .i64 n.a) ∧ V.cell? ⟨nb, no + mm * 6 + 3, none⟩ = some (.int .i64 n.b) ∧ V.cell? ⟨nb, no + mm * 6 + 4, none⟩ = some (.int .i64 n.t) ∧ V.cell? ⟨nb, no + mm * 6 + 5, none⟩ = some (.int .i64 n.e) ∧ V.cell? ⟨w.heap.size + 1, 0, none⟩ = some (.int .i64 t.op) ∧ V.cell? ⟨w.heap.size + 1, 1, none⟩ = some (.int .i64 t.a) ∧ V.cell? ⟨w.heap.size + 1, 2, none⟩ = some (.int .i64 t.b) ∧ V.cell? ⟨rb, ro + j, none⟩ = some (.int .i64 (mm : Int)) ∧ V.cell? ⟨thb, mm, none⟩ = some (.bool vm)) := fun V hV => ⟨((bcell hV).1 _ _ (by omega)).trans p1, ((bcell hV).1 _ _ (by omega)).trans n0, ((bcell hV).1 _ _ (by omega)).trans n1, ((bcell hV).1 _ _ (by omega)).trans n2, ((bcell hV).1 _ _ (by omega)).trans n3, ((bcell hV).1 _ _ (by omega)).trans n4, ((bcell hV).1 _ _ (by omega)).trans n5, ((bcell hV).1 _ _ (by omega)).trans t0, ((bcell hV).1 _ _ (by omega)).trans t1, ((bcell hV).1 _ _ (by omega)).trans t2, ((bcell hV).1 _ _ (by omega)).trans es0, ((bcell hV).1 _ _ (by omega)).trans em⟩
 refine wp_region_held_drew (S := fun w' => (w'.cell? ⟨w.heap.size, 1, none⟩ = some (.slice (some ⟨nb, no, none⟩) l.length cap) ∧ w'.cell? ⟨nb, no + mm * 6, none⟩ = some (.int .i64 n.op) ∧ w'.cell? ⟨nb, no + mm * 6 + 1, none⟩ = some (.int .i64 n.d) ∧ w'.cell? ⟨nb, no + mm * 6 + 2, none⟩ = some (.int .i64 n.a) ∧ w'.cell? ⟨nb, no + mm * 6 + 3, none⟩ = some (.int .i64 n.b) ∧ w'.cell? ⟨nb, no + mm * 6 + 4, none⟩ = some (.int .i64 n.t) ∧ w'.cell? ⟨nb, no + mm * 6 + 5, none⟩ = some (.int .i64 n.e) ∧ w'.cell? ⟨w.heap.size + 1, 0, none⟩ = some (.int .i64 t.op) ∧ w'.cell? ⟨w.heap.size + 1, 1, none⟩ = some (.int .i64 t.a) ∧ w'.cell? ⟨w.heap.size + 1, 2, none⟩ = some (.int .i64 t.b) ∧ w'.cell? ⟨rb, ro + j, none⟩ = some (.int .i64 (mm : Int)) ∧ w'.cell? ⟨thb, mm, none⟩ = some (.bool vm))) (by kernel_rfl) ?_ ?_
 · exact ⟨p1, n0, n1, n2, n3, n4, n5, t0, t1, t2, es0, em⟩
 intro hH
 have hC0 : Below wr.heap.size wr wr.drew := (Below.refl _ _).drew
 generalize wr.drew = V0 at hH hC0 ⊢
 refine Up (fun _ _ _ _ _ => id) fun hP => ?_
 refine Vq 0 ?_ rfl (by kernel_rfl) hP (by rfl) ?r hH ?_; case r => intro w'; go_simp; try with_reducible rfl
 try simp only [Nm]
 refine Vq 1 ?_ rfl (by kernel_rfl) hP (by rfl) ?r hH ?_; case r => intro w'; go_simp; try with_reducible rfl
 try simp only [Nm]
 refine Vn 2 rfl (by kernel_rfl) hP (by rfl) hH ?_
 try simp only [Nm]
 refine Vn 3 rfl (by kernel_rfl) hP (by rfl) hH ?_
 try simp only [Nm]
 refine Vn 4 rfl (by kernel_rfl) hP (by rfl) hH ?_
 try simp only [Nm]
 refine Vn 5 rfl (by kernel_rfl) hP (by rfl) hH ?_
 try simp only [Nm]
 refine Vn 6 rfl (by kernel_rfl) hP (by rfl) hH ?_
 try simp only [Nm]
 refine Vn 7 rfl (by kernel_rfl) hP (by rfl) hH ?_
 try simp only [Nm]
 refine Vn 8 rfl (by kernel_rfl) hP (by rfl) hH ?_
 try simp only [Nm]
 refine Vq 9 ?_ rfl (by kernel_rfl) hP (by rfl) ?r hH ?_; case r => intro w'; go_simp; try with_reducible rfl
 try simp only [Nm]
 refine Vq 10 ?_ rfl (by kernel_rfl) hP (by rfl) ?r hH ?_; case r => intro w'; go_simp; try with_reducible rfl
 try simp only [Nm]
 refine Vn 11 rfl (by kernel_rfl) hP (by rfl) hH ?_
 try simp only [Nm]
 refine Vn 12 rfl (by kernel_rfl) hP (by rfl) hH ?_
 try simp only [Nm]
 refine Vn 13 rfl (by kernel_rfl) hP (by rfl) hH ?_
 try simp only [Nm]
 refine Vn 14 rfl (by kernel_rfl) hP (by rfl) hH ?_
 try simp only [Nm]
 refine Vn 15 rfl (by kernel_rfl) hP (by rfl) hH ?_
 try simp only [Nm]
 refine Vn 16 rfl (by kernel_rfl) hP (by rfl) hH ?_
 try simp only [Nm]
 refine Vn 17 rfl (by kernel_rfl) hP (by rfl) hH ?_
 try simp only [Nm]
 refine Vn 18 rfl (by kernel_rfl) hP (by rfl) hH ?_
 try simp only [Nm]
 refine Vn 19 rfl (by kernel_rfl) hP (by rfl) hH ?_
 try simp only [Nm]
 refine Vn 20 rfl (by kernel_rfl) hP (by rfl) hH ?_
 try simp only [Nm]
 refine Vq 21 ?_ rfl (by kernel_rfl) hP (by rfl) ?r hH ?_; case r => intro w'; go_simp; try with_reducible rfl
 try simp only [Nm]
 refine Vq 22 ?_ rfl (by kernel_rfl) hP (by rfl) ?r hH ?_; case r => intro w'; go_simp; try with_reducible rfl
 try simp only [Nm]
 refine wpAnyH_done (by kernel_rfl) ?_ _
 have HSn := hide (HS.out.later hC0)
 have HEn := hide (HE.out.below' hC0)
 clear hH es0 em p1 n0 n1 n2 n3 n4 n5 t0 t1 t2
 go_wp2_with fail
 go_roundg (es.length - (j + 1))
 case measure => have := Hgk3.out; omega
 case rel => exact ⟨j + 1, by omega, by go_num, rfl, by rw [Hb.out]; rfl, HSn.out, HEn.out⟩)
 case true => (
 cases vm
 case false => (
 have HH : ∀ (V : World), Below wr.heap.size wr V → (V.cell? ⟨w.heap.size, 1, none⟩ = some (.slice (some ⟨nb, no, none⟩) l.length cap) ∧ V.cell? ⟨nb, no + mm * 6, none⟩ = some (.int .i64 n.op) ∧ V.cell? ⟨nb, no + mm * 6 + 1, none⟩ = some (.int .i64 n.d) ∧ V.cell? ⟨nb, no + mm * 6 + 2, none⟩ = some (.int .i64 n.a) ∧ V.cell? ⟨nb, no + mm * 6 + 3, none⟩ = some (.int .i64 n.b) ∧ V.cell? ⟨nb, no + mm * 6 + 4, none⟩ = some (.int .i64 n.t) ∧ V.cell? ⟨nb, no + mm * 6 + 5, none⟩ = some (.int .i64 n.e) ∧ V.cell? ⟨w.heap.size + 1, 0, none⟩ = some (.int .i64 t.op) ∧ V.cell? ⟨w.heap.size + 1, 1, none⟩ = some (.int .i64 t.a) ∧ V.cell? ⟨w.heap.size + 1, 2, none⟩ = some (.int .i64 t.b) ∧ V.cell? ⟨rb, ro + j, none⟩ = some (.int .i64 (mm : Int)) ∧ V.cell? ⟨thb, mm, none⟩ = some (.bool false)) := fun V hV => ⟨((bcell hV).1 _ _ (by omega)).trans p1, ((bcell hV).1 _ _ (by omega)).trans n0, ((bcell hV).1 _ _ (by omega)).trans n1, ((bcell hV).1 _ _ (by omega)).trans n2, ((bcell hV).1 _ _ (by omega)).trans n3, ((bcell hV).1 _ _ (by omega)).trans n4, ((bcell hV).1 _ _ (by omega)).trans n5, ((bcell hV).1 _ _ (by omega)).trans t0, ((bcell hV).1 _ _ (by omega)).trans t1, ((bcell hV).1 _ _ (by omega)).trans t2, ((bcell hV).1 _ _ (by omega)).trans es0, ((bcell hV).1 _ _ (by omega)).trans em⟩
 refine wp_region_held_drew (S := fun w' => (w'.cell? ⟨w.heap.size, 1, none⟩ = some (.slice (some ⟨nb, no, none⟩) l.length cap) ∧ w'.cell? ⟨nb, no + mm * 6, none⟩ = some (.int .i64 n.op) ∧ w'.cell? ⟨nb, no + mm * 6 + 1, none⟩ = some (.int .i64 n.d) ∧ w'.cell? ⟨nb, no + mm * 6 + 2, none⟩ = some (.int .i64 n.a) ∧ w'.cell? ⟨nb, no + mm * 6 + 3, none⟩ = some (.int .i64 n.b) ∧ w'.cell? ⟨nb, no + mm * 6 + 4, none⟩ = some (.int .i64 n.t) ∧ w'.cell? ⟨nb, no + mm * 6 + 5, none⟩ = some (.int .i64 n.e) ∧ w'.cell? ⟨w.heap.size + 1, 0, none⟩ = some (.int .i64 t.op) ∧ w'.cell? ⟨w.heap.size + 1, 1, none⟩ = some (.int .i64 t.a) ∧ w'.cell? ⟨w.heap.size + 1, 2, none⟩ = some (.int .i64 t.b) ∧ w'.cell? ⟨rb, ro + j, none⟩ = some (.int .i64 (mm : Int)) ∧ w'.cell? ⟨thb, mm, none⟩ = some (.bool false))) (by kernel_rfl) ?_ ?_
 · exact ⟨p1, n0, n1, n2, n3, n4, n5, t0, t1, t2, es0, em⟩
 intro hH
 have hC0 : Below wr.heap.size wr wr.drew := (Below.refl _ _).drew
 generalize wr.drew = V0 at hH hC0 ⊢
 refine Up (fun _ _ _ _ _ => id) fun hP => ?_
 refine Vq 0 ?_ rfl (by kernel_rfl) hP (by rfl) ?r hH ?_; case r => intro w'; go_simp; try with_reducible rfl
 try simp only [Nm]
 refine Vq 1 ?_ rfl (by kernel_rfl) hP (by rfl) ?r hH ?_; case r => intro w'; go_simp; try with_reducible rfl
 try simp only [Nm]
 refine Vq 2 ?_ rfl (by kernel_rfl) hP (by rfl) ?r hH ?_; case r => intro w'; go_simp; try with_reducible rfl
 try simp only [Nm]
 refine Vq 3 ?_ rfl (by kernel_rfl) hP (by rfl) ?r hH ?_; case r => intro w'; go_simp; try with_reducible rfl
 try simp only [Nm]
 refine Vq 4 ?_ rfl (by kernel_rfl) hP (by rfl) ?r hH ?_; case r => intro w'; go_simp; try with_reducible rfl
 try simp only [Nm]
 refine Vq 5 ?_ rfl (by kernel_rfl) hP (by rfl) ?r hH ?_; case r => intro w'; go_simp; try with_reducible rfl
 try simp only [Nm]
 refine Vi 6 ?_ rfl (by kernel_rfl) hP (by rfl) ?r hH ?_; case r => intro w' h; (try dsimp only at h); (try go_split_ands); go_simp; try with_reducible rfl
 try simp only [Nm]
 refine Vq 7 ?_ rfl (by kernel_rfl) hP (by rfl) ?r hH ?_; case r => intro w'; go_simp; try with_reducible rfl
 try simp only [Nm]
 refine Vi 8 ?_ rfl (by kernel_rfl) hP (by rfl) ?r hH ?_; case r => intro w' h; (try dsimp only at h); (try go_split_ands); go_simp; try with_reducible rfl
 try simp only [Nm]
 refine Vq 9 ?_ rfl (by kernel_rfl) hP (by rfl) ?r hH ?_; case r => intro w'; go_simp; try with_reducible rfl
 try simp only [Nm]
 refine Vq 10 ?_ rfl (by kernel_rfl) hP (by rfl) ?r hH ?_; case r => intro w'; go_simp; try with_reducible rfl
 try simp only [Nm]
 refine Vn 11 rfl (by kernel_rfl) hP (by rfl) hH ?_
 try simp only [Nm]
 refine Vn 12 rfl (by kernel_rfl) hP (by rfl) hH ?_
 try simp only [Nm]
 refine Vn 13 rfl (by kernel_rfl) hP (by rfl) hH ?_
 try simp only [Nm]
 refine Vn 14 rfl (by kernel_rfl) hP (by rfl) hH ?_
 try simp only [Nm]
 refine Vn 15 rfl (by kernel_rfl) hP (by rfl) hH ?_
 try simp only [Nm]
 refine Vn 16 rfl (by kernel_rfl) hP (by rfl) hH ?_
 try simp only [Nm]
 refine Vn 17 rfl (by kernel_rfl) hP (by rfl) hH ?_
 try simp only [Nm]
 refine Vn 18 rfl (by kernel_rfl) hP (by rfl) hH ?_
 try simp only [Nm]
 refine Vn 19 rfl (by kernel_rfl) hP (by rfl) hH ?_
 try simp only [Nm]
 refine Vn 20 rfl (by kernel_rfl) hP (by rfl) hH ?_
 try simp only [Nm]
 refine Vq 21 ?_ rfl (by kernel_rfl) hP (by rfl) ?r hH ?_; case r => intro w'; go_simp; try with_reducible rfl
 try simp only [Nm]
 refine Vq 22 ?_ rfl (by kernel_rfl) hP (by rfl) ?r hH ?_; case r => intro w'; go_simp; try with_reducible rfl
 try simp only [Nm]
 refine wpAnyH_done (by kernel_rfl) ?_ _
 have HSn := hide (HS.out.later hC0)
 have HEn := hide (HE.out.below' hC0)
 clear hH es0 em p1 n0 n1 n2 n3 n4 n5 t0 t1 t2
 go_wp2_with fail
 go_roundg (es.length - (j + 1))
 case measure => have := Hgk3.out; omega
 case rel => exact ⟨j + 1, by omega, by go_num, rfl, by rw [Hb.out]; rfl, HSn.out, HEn.out⟩)
 case true => (
 have HH : ∀ (V : World), Below wr.heap.size wr V → (V.cell? ⟨w.heap.size, 1, none⟩ = some (.slice (some ⟨nb, no, none⟩) l.length cap) ∧ V.cell? ⟨nb, no + mm * 6, none⟩ = some (.int .i64 n.op) ∧ V.cell? ⟨nb, no + mm * 6 + 1, none⟩ = some (.int .i64 n.d) ∧ V.cell? ⟨nb, no + mm * 6 + 2, none⟩ = some (.int .i64 n.a) ∧ V.cell? ⟨nb, no + mm * 6 + 3, none⟩ = some (.int .i64 n.b) ∧ V.cell? ⟨nb, no + mm * 6 + 4, none⟩ = some (.int .i64 n.t) ∧ V.cell? ⟨nb, no + mm * 6 + 5, none⟩ = some (.int .i64 n.e) ∧ V.cell? ⟨w.heap.size + 1, 0, none⟩ = some (.int .i64 t.op) ∧ V.cell? ⟨w.heap.size + 1, 1, none⟩ = some (.int .i64 t.a) ∧ V.cell? ⟨w.heap.size + 1, 2, none⟩ = some (.int .i64 t.b) ∧ V.cell? ⟨rb, ro + j, none⟩ = some (.int .i64 (mm : Int)) ∧ V.cell? ⟨thb, mm, none⟩ = some (.bool true)) := fun V hV => ⟨((bcell hV).1 _ _ (by omega)).trans p1, ((bcell hV).1 _ _ (by omega)).trans n0, ((bcell hV).1 _ _ (by omega)).trans n1, ((bcell hV).1 _ _ (by omega)).trans n2, ((bcell hV).1 _ _ (by omega)).trans n3, ((bcell hV).1 _ _ (by omega)).trans n4, ((bcell hV).1 _ _ (by omega)).trans n5, ((bcell hV).1 _ _ (by omega)).trans t0, ((bcell hV).1 _ _ (by omega)).trans t1, ((bcell hV).1 _ _ (by omega)).trans t2, ((bcell hV).1 _ _ (by omega)).trans es0, ((bcell hV).1 _ _ (by omega)).trans em⟩
 refine wp_region_held_drew (S := fun w' => (w'.cell? ⟨w.heap.size, 1, none⟩ = some (.slice (some ⟨nb, no, none⟩) l.length cap) ∧ w'.cell? ⟨nb, no + mm * 6, none⟩ = some (.int .i64 n.op) ∧ w'.cell? ⟨nb, no + mm * 6 + 1, none⟩ = some (.int .i64 n.d) ∧ w'.cell? ⟨nb, no + mm * 6 + 2, none⟩ = some (.int .i64 n.a) ∧ w'.cell? ⟨nb, no + mm * 6 + 3, none⟩ = some (.int .i64 n.b) ∧ w'.cell? ⟨nb, no + mm * 6 + 4, none⟩ = some (.int .i64 n.t) ∧ w'.cell? ⟨nb, no + mm * 6 + 5, none⟩ = some (.int .i64 n.e) ∧ w'.cell? ⟨w.heap.size + 1, 0, none⟩ = some (.int .i64 t.op) ∧ w'.cell? ⟨w.heap.size + 1, 1, none⟩ = some (.int .i64 t.a) ∧ w'.cell? ⟨w.heap.size + 1, 2, none⟩ = some (.int .i64 t.b) ∧ w'.cell? ⟨rb, ro + j, none⟩ = some (.int .i64 (mm : Int)) ∧ w'.cell? ⟨thb, mm, none⟩ = some (.bool true))) (by kernel_rfl) ?_ ?_
 · exact ⟨p1, n0, n1, n2, n3, n4, n5, t0, t1, t2, es0, em⟩
 intro hH
 have hC0 : Below wr.heap.size wr wr.drew := (Below.refl _ _).drew
 generalize wr.drew = V0 at hH hC0 ⊢
 refine Up (fun _ _ _ _ _ => id) fun hP => ?_
 refine Vq 0 ?_ rfl (by kernel_rfl) hP (by rfl) ?r hH ?_; case r => intro w'; go_simp; try with_reducible rfl
 try simp only [Nm]
 refine Vq 1 ?_ rfl (by kernel_rfl) hP (by rfl) ?r hH ?_; case r => intro w'; go_simp; try with_reducible rfl
 try simp only [Nm]
 refine Vq 2 ?_ rfl (by kernel_rfl) hP (by rfl) ?r hH ?_; case r => intro w'; go_simp; try with_reducible rfl
 try simp only [Nm]
 refine Vq 3 ?_ rfl (by kernel_rfl) hP (by rfl) ?r hH ?_; case r => intro w'; go_simp; try with_reducible rfl
 try simp only [Nm]
 refine Vq 4 ?_ rfl (by kernel_rfl) hP (by rfl) ?r hH ?_; case r => intro w'; go_simp; try with_reducible rfl
 try simp only [Nm]
 refine Vq 5 ?_ rfl (by kernel_rfl) hP (by rfl) ?r hH ?_; case r => intro w'; go_simp; try with_reducible rfl
 try simp only [Nm]
 refine Vi 6 ?_ rfl (by kernel_rfl) hP (by rfl) ?r hH ?_; case r => intro w' h; (try dsimp only at h); (try go_split_ands); go_simp; try with_reducible rfl
 try simp only [Nm]
 refine Vq 7 ?_ rfl (by kernel_rfl) hP (by rfl) ?r hH ?_; case r => intro w'; go_simp; try with_reducible rfl
 try simp only [Nm]
 refine Vi 8 ?_ rfl (by kernel_rfl) hP (by rfl) ?r hH ?_; case r => intro w' h; (try dsimp only at h); (try go_split_ands); go_simp; try with_reducible rfl
 try simp only [Nm]
 refine Vq 9 ?_ rfl (by kernel_rfl) hP (by rfl) ?r hH ?_; case r => intro w'; go_simp; try with_reducible rfl
 try simp only [Nm]
 refine Vq 10 ?_ rfl (by kernel_rfl) hP (by rfl) ?r hH ?_; case r => intro w'; go_simp; try with_reducible rfl
 try simp only [Nm]
 refine Vq 11 ?_ rfl (by kernel_rfl) hP (by rfl) ?r hH ?_; case r => intro w'; go_simp; try with_reducible rfl
 try simp only [Nm]
 refine Vi 12 ?_ rfl (by kernel_rfl) hP (by rfl) ?r hH ?_; case r => intro w' h; (try dsimp only at h); (try go_split_ands); go_simp; try with_reducible rfl
 try simp only [Nm]
 refine Vq 13 ?_ rfl (by kernel_rfl) hP (by rfl) ?r hH ?_; case r => intro w'; go_simp; try with_reducible rfl
 try simp only [Nm]
 refine Vq 14 ?_ rfl (by kernel_rfl) hP (by rfl) ?r hH ?_; case r => intro w'; go_simp; try with_reducible rfl
 try simp only [Nm]
 refine Vq 15 ?_ rfl (by kernel_rfl) hP (by rfl) ?r hH ?_; case r => intro w'; go_simp; try with_reducible rfl
 try simp only [Nm]
 refine Vi 16 ?_ rfl (by kernel_rfl) hP (by rfl) ?r hH ?_; case r => intro w' h; (try dsimp only at h); (try go_split_ands); go_simp; try with_reducible rfl
 try simp only [Nm]
 refine Vq 17 ?_ rfl (by kernel_rfl) hP (by rfl) ?r hH ?_; case r => intro w'; go_simp; try with_reducible rfl
 try simp only [Nm]
 refine Vi 18 ?_ rfl (by kernel_rfl) hP (by rfl) ?r hH ?_; case r => intro w' h; (try dsimp only at h); (try go_split_ands); go_simp; try with_reducible rfl
 try simp only [Nm]
 refine Vi 19 ?_ rfl (by kernel_rfl) hP (by rfl) ?r hH ?_; case r => intro w' h; (try dsimp only at h); (try go_split_ands); go_simp; try with_reducible rfl
 try simp only [Nm]
 refine Rd 20 (by kernel_rfl) rfl (fun K hK => ?_)
 have HK20 := hide hK
 clear hK
 go_simp
 go_at_call 37
 refine (keepsIt_any n t _).mono ?_
 rintro e V1 ⟨rfl, hbV1⟩
 have hC1 : Below wr.heap.size wr V1 := hC0.trans (hbV1.mono hC0.size)
 clear hH
 refine Shut.out HK20.out _ _ (HH _ hC1) (fun hH => ?_)
 try simp only [Nm]
 clear HK20
 refine Vq 21 ?_ rfl (by kernel_rfl) hP (by rfl) ?r hH ?_; case r => intro w'; go_simp; try with_reducible rfl
 try simp only [Nm]
 refine Vq 22 ?_ rfl (by kernel_rfl) hP (by rfl) ?r hH ?_; case r => intro w'; go_simp; try with_reducible rfl
 try simp only [Nm]
 refine wpAnyH_done (by kernel_rfl) ?_ _
 have HSn := hide (HS.out.later hC1)
 have HEn := hide (HE.out.below' hC1)
 clear hH es0 em p1 n0 n1 n2 n3 n4 n5 t0 t1 t2
 go_wp2_with fail
 go_roundg (es.length - (j + 1))
 case measure => have := Hgk3.out; omega
 case rel => exact ⟨j + 1, by omega, by go_num, rfl, by rw [Hb.out]; rfl, HSn.out, HEn.out⟩)))
 · (
 obtain ⟨pb, po, pc, rfl, hpb, hpl, ep, fp⟩ := hS.r1.bool (k := k) (by rw [hxsl]; exact hlt)
 obtain ⟨ek, hek⟩ : ∃ b, b = yn xs k := ⟨_, rfl⟩
 rw [← hek] at ep
 have hend : Sf y k = (ek || a0) := by rw [HSf.out, rivA_end t l xs y hlt (j := j) (by rw [← Hes.out]; omega), ← ha0, ← hek]
 obtain ⟨bb, hbb⟩ : ∃ b, b = (ek || a0) := ⟨_, rfl⟩
 have hstep := HSw.out.step HM.out hlt (b := bb) (by rw [hend, hbb])
 have Hstep := hide hstep
 have Hbb := hide hbb
 obtain ⟨ck, fk⟩ := hS.at_ hlt
 have ht1 := hS.thlt
 have x0 := hS.L.cell 0
 have lL := hS.L.lt
 simp only [Yl] at x0
 rw [hxsl] at x0
 have HS := hide hS
 clear hend hstep hbb hS hE ha0 hek
 cases ek
 case true => (
 go_wp2_with fail
 go_roundg (l.length - (k + 1))
 case measure => have := Hgk2.out; omega
 case rel => (
 have h := HS.out.set k bb
 have hv : bb = true := by rw [Hbb.out]; simp
 refine ⟨k + 1, y.set k bb, by omega, by go_num, rfl, Hstep.out, ?_⟩
 rw [hv] at h ⊢
 exact h))
 case false => (
 go_wp2_with fail
 go_roundg (l.length - (k + 1))
 case measure => have := Hgk2.out; omega
 case rel => (
 have h := HS.out.set k bb
 have hv : bb = a0 := by rw [Hbb.out]; simp
 refine ⟨k + 1, y.set k bb, by omega, by go_num, rfl, Hstep.out, ?_⟩
 rw [hv] at h ⊢
 exact h)))))
 · (
 have hkk : k = l.length := by omega
 subst hkk
 have HS := hide hS
 clear hS
 go_wp2_with fail
 go_roundg (l.length + 1 - (c + 1))
 case measure => have := Hgk.out; omega
 case rel => exact ⟨c + 1, y, by omega, by go_num, rfl, HSw.out.turn, HS.out⟩)))
 · (
 have hG : Great Sf l.length y := HSw.out.great HM.out (by omega)
 rw [HSf.out] at hG
 have HG := hide hG
 clear hG
 obtain ⟨W7, rfl⟩ : ∃ W : World, W = wr := ⟨_, rfl⟩
 have hne : v1.ownBlock = none ∨ v1.ownBlock ≠ (Value.slice none 0 0).ownBlock := by (
 rcases h : v1.ownBlock with _ | q
 · exact .inl rfl
 · exact .inr (by simp [Value.ownBlock]))
 have hK : RkSt W2 lb thb l.length v1 (.slice none 0 0) xs (mk 0 fun k => yn y k && recB t (nd l k)) y W7 := ⟨⟨HS.out.L, HS.out.r1, Row.nil_ _ _ _, hne, HS.out.below, HS.out.low⟩, HS.out.rt, HS.out.len, HS.out.n1, by simp [Value.ownBlock]⟩
 have HK := hide hK
 clear hK hne HS
 go_wp2_with fail
 go_loopg [18] (l.length) (fun gk i wr => ∃ (k : Nat) (v2 : Value), k ≤ l.length ∧ i = .int .i64 k ∧ gk = l.length - k ∧ RkSt W2 lb thb l.length v1 v2 xs (mk k fun k => yn y k && recB t (nd l k)) y wr)
 case atStart => exact ⟨0, _, Nat.zero_le _, rfl, rfl, HK.out⟩
 case round => (
 clear HK
 obtain ⟨k, v2, hk, rfl, hgk, hS⟩ := hrel
 have Hgk := hide hgk
 clear hgk
 have hwz := hS.z.below.size
 by_cases hlt : k < l.length
 · (
 obtain ⟨nb, no, nn, rfl, hnb, hn, n0, n1, n2, n3, n4, n5⟩ := (HN.out _ HB1.out).get hlt
 have p1 := HP1.out.cell 1
 have t0 := HT1.out.cell 0
 have t1 := HT1.out.cell 1
 have t2 := HT1.out.cell 2
 simp only [tmA, Yl] at p1 t0 t1 t2
 have HC := hide (show _ ∧ _ ∧ _ ∧ _ ∧ _ ∧ _ ∧ _ ∧ _ ∧ _ ∧ _ from ⟨p1, n0, n1, n2, n3, n4, n5, t0, t1, t2⟩)
 clear p1 n0 n1 n2 n3 n4 n5 t0 t1 t2
 have u0 : (0 : Int) ≤ (k : Int) := by omega
 have u1 : (k : Int) < (l.length : Int) := by omega
 have hm2 : (mk k fun k => yn y k && recB t (nd l k)).length = k := mk_len _ _
 have Hn := hide hn
 have lt6 := ltb
 have lp6 := lp
 have q9 : ¬ (thb = lb) := fun e => hS.rt.ne_blk hS.z.L (by decide) (by simp [Value.ownBlock, e])
 have ht1 : thb < wr.heap.size := rowlt hS.rt
 obtain ⟨ey, fy⟩ := hS.rt.bool_at_ (k := k) (by rw [hS.len]; exact hlt)
 obtain ⟨p1, n0, n1, n2, n3, n4, n5, t0, t1, t2⟩ := HC.out
 have p1 := ((bcell hS.z.below).1 _ _ lp).trans p1
 have n0 := ((bcell hS.z.below).1 _ _ hnb).trans n0
 have n1 := ((bcell hS.z.below).1 _ _ hnb).trans n1
 have n2 := ((bcell hS.z.below).1 _ _ hnb).trans n2
 have n3 := ((bcell hS.z.below).1 _ _ hnb).trans n3
 have n4 := ((bcell hS.z.below).1 _ _ hnb).trans n4
 have n5 := ((bcell hS.z.below).1 _ _ hnb).trans n5
 have t0 := ((bcell hS.z.below).1 _ _ ltb).trans t0
 have t1 := ((bcell hS.z.below).1 _ _ ltb).trans t1
 have t2 := ((bcell hS.z.below).1 _ _ ltb).trans t2
 have HS := hide hS
 clear hn hS
 go_upto_region 30 with fail
 cases hqy : yn y k
 case false => (
 rw [hqy] at ey
 have Hqy := hide hqy
 clear hqy
 clear p1 n0 n1 n2 n3 n4 n5 t0 t1 t2
 refine wp_region_held_drew (S := fun w' => (w'.cell? ⟨thb, k, none⟩ = some (.bool false))) (by kernel_rfl) ?_ ?_
 · exact (ey)
 intro hH
 have hC0 : Below wr.heap.size wr wr.drew := (Below.refl _ _).drew
 generalize wr.drew = V0 at hH hC0 ⊢
 refine Up (fun _ _ _ _ _ => id) fun hP => ?_
 refine Vq 0 ?_ rfl (by kernel_rfl) hP (by rfl) ?r hH ?_; case r => intro w'; go_simp; try with_reducible rfl
 try simp only [Nm]
 refine Vq 2 ?_ rfl (by kernel_rfl) hP (by rfl) ?r hH ?_; case r => intro w'; go_simp; try with_reducible rfl
 try simp only [Nm]
 refine Vq 3 ?_ rfl (by kernel_rfl) hP (by rfl) ?r hH ?_; case r => intro w'; go_simp; try with_reducible rfl
 try simp only [Nm]
 refine Vq 4 ?_ rfl (by kernel_rfl) hP (by rfl) ?r hH ?_; case r => intro w'; go_simp; try with_reducible rfl
 try simp only [Nm]
 refine Vi 5 ?_ rfl (by kernel_rfl) hP (by rfl) ?r hH ?_; case r => intro w' h; (try dsimp only at h); (try go_split_ands); go_simp; try with_reducible rfl
 try simp only [Nm]
 refine Vq 6 ?_ rfl (by kernel_rfl) hP (by rfl) ?r hH ?_; case r => intro w'; go_simp; try with_reducible rfl
 try simp only [Nm]
 refine Vn 7 rfl (by kernel_rfl) hP (by rfl) hH ?_
 try simp only [Nm]
 refine Vn 8 rfl (by kernel_rfl) hP (by rfl) hH ?_
 try simp only [Nm]
 refine Vn 9 rfl (by kernel_rfl) hP (by rfl) hH ?_
 try simp only [Nm]
 refine Vn 10 rfl (by kernel_rfl) hP (by rfl) hH ?_
 try simp only [Nm]
 refine Vn 11 rfl (by kernel_rfl) hP (by rfl) hH ?_
 try simp only [Nm]
 refine Vn 12 rfl (by kernel_rfl) hP (by rfl) hH ?_
 try simp only [Nm]
 refine Vn 13 rfl (by kernel_rfl) hP (by rfl) hH ?_
 try simp only [Nm]
 refine Vq 14 ?_ rfl (by kernel_rfl) hP (by rfl) ?r hH ?_; case r => intro w'; go_simp; try with_reducible rfl
 try simp only [Nm]
 refine wpAnyH_ready (rs := [1, 15]) (by kernel_rfl) (by simp) ?_
 refine AllReadyH.cons rfl (fun K hK => ?_) (AllReadyH.cons rfl (fun K hK => ?_) AllReadyH.nil)
 focus (
 have HK1 := hide hK
 clear hK
 have hx := (HS.out.z.L.below hC0 HS.out.z.L.lt).cell 1
 simp only [Yl] at hx
 go_simp
 clear hx hH
 refine Shut.out HK1.out _ _ (((bcell hC0).1 _ _ (by omega)).trans ey) (fun hH => ?_)
 try simp only [Nm]
 clear HK1
 refine Rd 15 (by kernel_rfl) rfl (fun K hK => ?_)
 have HK15 := hide hK
 clear hK
 go_simp
 obtain ⟨V1, hV1⟩ : ∃ V : World, V = V0.alloc (.cells #[.bool (false)] 4) := ⟨_, rfl⟩
 rw [← hV1]
 have hC1 : Below wr.heap.size wr V1 := by rw [hV1]; exact Below.alloc hC0 hC0.size _
 have hv1 : ValsAt V1 (some ⟨V0.heap.size, 0, none⟩) [.bool (false)] := by rw [hV1]; exact vals_one _ _ _
 clear hH hV1
 refine Shut.out HK15.out _ _ (((bcell hC1).1 _ _ (by omega)).trans ey) (fun hH => ?_)
 try simp only [Nm]
 clear HK15)
 rotate_left
 focus (
 have HK15 := hide hK
 clear hK
 go_simp
 obtain ⟨V1, hV1⟩ : ∃ V : World, V = V0.alloc (.cells #[.bool (false)] 4) := ⟨_, rfl⟩
 rw [← hV1]
 have hC1 : Below wr.heap.size wr V1 := by rw [hV1]; exact Below.alloc hC0 hC0.size _
 have hv1 : ValsAt V1 (some ⟨V0.heap.size, 0, none⟩) [.bool (false)] := by rw [hV1]; exact vals_one _ _ _
 clear hH hV1
 refine Shut.out HK15.out _ _ (((bcell hC1).1 _ _ (by omega)).trans ey) (fun hH => ?_)
 try simp only [Nm]
 clear HK15
 refine Rd 1 (by kernel_rfl) rfl (fun K hK => ?_)
 have HK1 := hide hK
 clear hK
 have hx := (HS.out.z.L.below hC1 HS.out.z.L.lt).cell 1
 simp only [Yl] at hx
 go_simp
 clear hx hH
 refine Shut.out HK1.out _ _ (((bcell hC1).1 _ _ (by omega)).trans ey) (fun hH => ?_)
 try simp only [Nm]
 clear HK1)
 all_goals (
 refine Rd 16 (by kernel_rfl) rfl (fun K hK => ?_)
 have HK16 := hide hK
 clear hK
 refine step_append_row (v := v2) (by rfl) _ _ _ (by rfl) ib _ 1 Tryz.underlying27 hbi hbz hbs hbb rfl (by rfl) (HS.out.z.r2.below' hC1) (some ⟨_, 0, none⟩) 1 1 [.bool (false)] (by rfl) (by rfl) hv1 (by simp [Value.oneCell']) (by rw [bools_length, hm2]; simp [maxLen]; omega) (by rw [bools_length, hm2]; simp; omega) (by have := hC1.size; omega) ?_
 intro v9 w9 hr9 hg9 hat9
 obtain ⟨A9, c9, hv9, _, _⟩ := hr9.shape
 subst hv9
 simp only [List.length_append, List.length_singleton, bools_length, hm2] at hr9 hat9 ⊢
 have hown : ∀ b, b < W2.heap.size → (some b) ≠ v2.ownBlock := fun b hb e => by have := (HS.out.z.r2.lt b e.symm).1; omega
 have hsz2 := hC1.size
 have X9 := (hg9.cell_far ⟨thb, k, none⟩ (by simp; omega) (Ne.symm HS.out.n2)).trans (((bcell hC1).1 _ _ (by omega)).trans ey)
 have hq9 := Blk.grown (HS.out.z.L.below hC1 HS.out.z.L.lt) hg9 (HS.out.z.r2.ne_blk HS.out.z.L (by decide))
 have hP9 := HS.out.put2 hC1 hr9 hg9 hat9
 have HP9 := hide hP9
 clear hP9 hr9 hat9 hH
 refine Shut.out HK16.out _ _ X9 (fun hH => ?_)
 try simp only [Nm]
 clear HK16
 refine Vq 17 ?_ rfl (by kernel_rfl) hP (by rfl) ?r hH ?_; case r => intro w'; go_simp; try with_reducible rfl
 try simp only [Nm]
 refine Rd 18 (by kernel_rfl) rfl (fun K hK => ?_)
 have HK18 := hide hK
 clear hK
 have hx := hq9.cell 1
 have fx := hq9.frozen 1
 simp only [Yl] at hx
 go_simp
 refine Shut.out HK18.out _ _ ((set1_cell (by omega) _ _).trans X9) (fun hH => ?_)
 try simp only [Nm]
 clear HK18
 refine wpAnyH_done (by kernel_rfl) ?_ _
 go_wp2_with fail
 go_roundg (l.length - (k + 1))
 case measure => have := Hgk.out; omega
 case rel => exact ⟨k + 1, _, by omega, by go_num, rfl, by rw [mk_succ (f := fun k => yn y k && recB t (nd l k)), nd_get Hn.out, Hqy.out]; exact HP9.out⟩))
 case true => (
 rw [hqy] at ey
 have Hqy := hide hqy
 clear hqy
 have HG : ∀ (V w9 : World), Below wr.heap.size wr V → V.grownBy w9 v2.ownBlock → (w9.cell? ⟨thb, k, none⟩ = some (.bool true) ∧ w9.cell? ⟨w.heap.size, 1, none⟩ = some (.slice (some ⟨nb, no, none⟩) l.length cap) ∧ w9.cell? ⟨nb, no + k * 6, none⟩ = some (.int .i64 nn.op) ∧ w9.cell? ⟨nb, no + k * 6 + 1, none⟩ = some (.int .i64 nn.d) ∧ w9.cell? ⟨nb, no + k * 6 + 2, none⟩ = some (.int .i64 nn.a) ∧ w9.cell? ⟨nb, no + k * 6 + 3, none⟩ = some (.int .i64 nn.b) ∧ w9.cell? ⟨nb, no + k * 6 + 4, none⟩ = some (.int .i64 nn.t) ∧ w9.cell? ⟨nb, no + k * 6 + 5, none⟩ = some (.int .i64 nn.e) ∧ w9.cell? ⟨w.heap.size + 1, 0, none⟩ = some (.int .i64 t.op) ∧ w9.cell? ⟨w.heap.size + 1, 1, none⟩ = some (.int .i64 t.a) ∧ w9.cell? ⟨w.heap.size + 1, 2, none⟩ = some (.int .i64 t.b)) := by (
 intro V w9 hV hg9
 have hown : ∀ b, b < W2.heap.size → (some b) ≠ v2.ownBlock := fun b hb e => by have := (HS.out.z.r2.lt b e.symm).1; omega
 have hsz2 := hV.size
 exact ⟨(hg9.cell_far ⟨thb, k, none⟩ (by simp; omega) (Ne.symm HS.out.n2)).trans (((bcell hV).1 _ _ (by omega)).trans ey), (hg9.cell_far ⟨w.heap.size, 1, none⟩ (by simp; omega) (hown _ (by omega))).trans (((bcell hV).1 _ _ (by omega)).trans p1), (hg9.cell_far ⟨nb, no + k * 6, none⟩ (by simp; omega) (hown _ (by omega))).trans (((bcell hV).1 _ _ (by omega)).trans n0), (hg9.cell_far ⟨nb, no + k * 6 + 1, none⟩ (by simp; omega) (hown _ (by omega))).trans (((bcell hV).1 _ _ (by omega)).trans n1), (hg9.cell_far ⟨nb, no + k * 6 + 2, none⟩ (by simp; omega) (hown _ (by omega))).trans (((bcell hV).1 _ _ (by omega)).trans n2), (hg9.cell_far ⟨nb, no + k * 6 + 3, none⟩ (by simp; omega) (hown _ (by omega))).trans (((bcell hV).1 _ _ (by omega)).trans n3), (hg9.cell_far ⟨nb, no + k * 6 + 4, none⟩ (by simp; omega) (hown _ (by omega))).trans (((bcell hV).1 _ _ (by omega)).trans n4), (hg9.cell_far ⟨nb, no + k * 6 + 5, none⟩ (by simp; omega) (hown _ (by omega))).trans (((bcell hV).1 _ _ (by omega)).trans n5), (hg9.cell_far ⟨w.heap.size + 1, 0, none⟩ (by simp; omega) (hown _ (by omega))).trans (((bcell hV).1 _ _ (by omega)).trans t0), (hg9.cell_far ⟨w.heap.size + 1, 1, none⟩ (by simp; omega) (hown _ (by omega))).trans (((bcell hV).1 _ _ (by omega)).trans t1), (hg9.cell_far ⟨w.heap.size + 1, 2, none⟩ (by simp; omega) (hown _ (by omega))).trans (((bcell hV).1 _ _ (by omega)).trans t2)⟩)
 have HZ : ∀ (V : World) (u : Value), (V.cell? ⟨thb, k, none⟩ = some (.bool true) ∧ V.cell? ⟨w.heap.size, 1, none⟩ = some (.slice (some ⟨nb, no, none⟩) l.length cap) ∧ V.cell? ⟨nb, no + k * 6, none⟩ = some (.int .i64 nn.op) ∧ V.cell? ⟨nb, no + k * 6 + 1, none⟩ = some (.int .i64 nn.d) ∧ V.cell? ⟨nb, no + k * 6 + 2, none⟩ = some (.int .i64 nn.a) ∧ V.cell? ⟨nb, no + k * 6 + 3, none⟩ = some (.int .i64 nn.b) ∧ V.cell? ⟨nb, no + k * 6 + 4, none⟩ = some (.int .i64 nn.t) ∧ V.cell? ⟨nb, no + k * 6 + 5, none⟩ = some (.int .i64 nn.e) ∧ V.cell? ⟨w.heap.size + 1, 0, none⟩ = some (.int .i64 t.op) ∧ V.cell? ⟨w.heap.size + 1, 1, none⟩ = some (.int .i64 t.a) ∧ V.cell? ⟨w.heap.size + 1, 2, none⟩ = some (.int .i64 t.b)) → ((V.setCell ⟨lb, 1, none⟩ u).cell? ⟨thb, k, none⟩ = some (.bool true) ∧ (V.setCell ⟨lb, 1, none⟩ u).cell? ⟨w.heap.size, 1, none⟩ = some (.slice (some ⟨nb, no, none⟩) l.length cap) ∧ (V.setCell ⟨lb, 1, none⟩ u).cell? ⟨nb, no + k * 6, none⟩ = some (.int .i64 nn.op) ∧ (V.setCell ⟨lb, 1, none⟩ u).cell? ⟨nb, no + k * 6 + 1, none⟩ = some (.int .i64 nn.d) ∧ (V.setCell ⟨lb, 1, none⟩ u).cell? ⟨nb, no + k * 6 + 2, none⟩ = some (.int .i64 nn.a) ∧ (V.setCell ⟨lb, 1, none⟩ u).cell? ⟨nb, no + k * 6 + 3, none⟩ = some (.int .i64 nn.b) ∧ (V.setCell ⟨lb, 1, none⟩ u).cell? ⟨nb, no + k * 6 + 4, none⟩ = some (.int .i64 nn.t) ∧ (V.setCell ⟨lb, 1, none⟩ u).cell? ⟨nb, no + k * 6 + 5, none⟩ = some (.int .i64 nn.e) ∧ (V.setCell ⟨lb, 1, none⟩ u).cell? ⟨w.heap.size + 1, 0, none⟩ = some (.int .i64 t.op) ∧ (V.setCell ⟨lb, 1, none⟩ u).cell? ⟨w.heap.size + 1, 1, none⟩ = some (.int .i64 t.a) ∧ (V.setCell ⟨lb, 1, none⟩ u).cell? ⟨w.heap.size + 1, 2, none⟩ = some (.int .i64 t.b)) := fun V u ⟨ey, p1, n0, n1, n2, n3, n4, n5, t0, t1, t2⟩ => ⟨(set1_cell (by omega) _ _).trans ey, (set1_cell (by omega) _ _).trans p1, (set1_cell (by omega) _ _).trans n0, (set1_cell (by omega) _ _).trans n1, (set1_cell (by omega) _ _).trans n2, (set1_cell (by omega) _ _).trans n3, (set1_cell (by omega) _ _).trans n4, (set1_cell (by omega) _ _).trans n5, (set1_cell (by omega) _ _).trans t0, (set1_cell (by omega) _ _).trans t1, (set1_cell (by omega) _ _).trans t2⟩
 have HH : ∀ (V : World), Below wr.heap.size wr V → (V.cell? ⟨thb, k, none⟩ = some (.bool true) ∧ V.cell? ⟨w.heap.size, 1, none⟩ = some (.slice (some ⟨nb, no, none⟩) l.length cap) ∧ V.cell? ⟨nb, no + k * 6, none⟩ = some (.int .i64 nn.op) ∧ V.cell? ⟨nb, no + k * 6 + 1, none⟩ = some (.int .i64 nn.d) ∧ V.cell? ⟨nb, no + k * 6 + 2, none⟩ = some (.int .i64 nn.a) ∧ V.cell? ⟨nb, no + k * 6 + 3, none⟩ = some (.int .i64 nn.b) ∧ V.cell? ⟨nb, no + k * 6 + 4, none⟩ = some (.int .i64 nn.t) ∧ V.cell? ⟨nb, no + k * 6 + 5, none⟩ = some (.int .i64 nn.e) ∧ V.cell? ⟨w.heap.size + 1, 0, none⟩ = some (.int .i64 t.op) ∧ V.cell? ⟨w.heap.size + 1, 1, none⟩ = some (.int .i64 t.a) ∧ V.cell? ⟨w.heap.size + 1, 2, none⟩ = some (.int .i64 t.b)) := fun V hV => ⟨((bcell hV).1 _ _ (by omega)).trans ey, ((bcell hV).1 _ _ (by omega)).trans p1, ((bcell hV).1 _ _ (by omega)).trans n0, ((bcell hV).1 _ _ (by omega)).trans n1, ((bcell hV).1 _ _ (by omega)).trans n2, ((bcell hV).1 _ _ (by omega)).trans n3, ((bcell hV).1 _ _ (by omega)).trans n4, ((bcell hV).1 _ _ (by omega)).trans n5, ((bcell hV).1 _ _ (by omega)).trans t0, ((bcell hV).1 _ _ (by omega)).trans t1, ((bcell hV).1 _ _ (by omega)).trans t2⟩
 refine wp_region_held_drew (S := fun w' => (w'.cell? ⟨thb, k, none⟩ = some (.bool true) ∧ w'.cell? ⟨w.heap.size, 1, none⟩ = some (.slice (some ⟨nb, no, none⟩) l.length cap) ∧ w'.cell? ⟨nb, no + k * 6, none⟩ = some (.int .i64 nn.op) ∧ w'.cell? ⟨nb, no + k * 6 + 1, none⟩ = some (.int .i64 nn.d) ∧ w'.cell? ⟨nb, no + k * 6 + 2, none⟩ = some (.int .i64 nn.a) ∧ w'.cell? ⟨nb, no + k * 6 + 3, none⟩ = some (.int .i64 nn.b) ∧ w'.cell? ⟨nb, no + k * 6 + 4, none⟩ = some (.int .i64 nn.t) ∧ w'.cell? ⟨nb, no + k * 6 + 5, none⟩ = some (.int .i64 nn.e) ∧ w'.cell? ⟨w.heap.size + 1, 0, none⟩ = some (.int .i64 t.op) ∧ w'.cell? ⟨w.heap.size + 1, 1, none⟩ = some (.int .i64 t.a) ∧ w'.cell? ⟨w.heap.size + 1, 2, none⟩ = some (.int .i64 t.b))) (by kernel_rfl) ?_ ?_
 · exact ⟨ey, p1, n0, n1, n2, n3, n4, n5, t0, t1, t2⟩
 intro hH
 have hC0 : Below wr.heap.size wr wr.drew := (Below.refl _ _).drew
 generalize wr.drew = V0 at hH hC0 ⊢
 refine Up (fun _ _ _ _ _ => id) fun hP => ?_
 refine Vq 0 ?_ rfl (by kernel_rfl) hP (by rfl) ?r hH ?_; case r => intro w'; go_simp; try with_reducible rfl
 try simp only [Nm]
 refine Vq 2 ?_ rfl (by kernel_rfl) hP (by rfl) ?r hH ?_; case r => intro w'; go_simp; try with_reducible rfl
 try simp only [Nm]
 refine Vq 3 ?_ rfl (by kernel_rfl) hP (by rfl) ?r hH ?_; case r => intro w'; go_simp; try with_reducible rfl
 try simp only [Nm]
 refine Vq 4 ?_ rfl (by kernel_rfl) hP (by rfl) ?r hH ?_; case r => intro w'; go_simp; try with_reducible rfl
 try simp only [Nm]
 refine Vi 5 ?_ rfl (by kernel_rfl) hP (by rfl) ?r hH ?_; case r => intro w' h; (try dsimp only at h); (try go_split_ands); go_simp; try with_reducible rfl
 try simp only [Nm]
 refine Vq 6 ?_ rfl (by kernel_rfl) hP (by rfl) ?r hH ?_; case r => intro w'; go_simp; try with_reducible rfl
 try simp only [Nm]
 refine Vq 7 ?_ rfl (by kernel_rfl) hP (by rfl) ?r hH ?_; case r => intro w'; go_simp; try with_reducible rfl
 try simp only [Nm]
 refine Vi 8 ?_ rfl (by kernel_rfl) hP (by rfl) ?r hH ?_; case r => intro w' h; (try dsimp only at h); (try go_split_ands); go_simp; try with_reducible rfl
 try simp only [Nm]
 refine Vq 9 ?_ rfl (by kernel_rfl) hP (by rfl) ?r hH ?_; case r => intro w'; go_simp; try with_reducible rfl
 try simp only [Nm]
 refine Vq 10 ?_ rfl (by kernel_rfl) hP (by rfl) ?r hH ?_; case r => intro w'; go_simp; try with_reducible rfl
 try simp only [Nm]
 refine Vi 11 ?_ rfl (by kernel_rfl) hP (by rfl) ?r hH ?_; case r => intro w' h; (try dsimp only at h); (try go_split_ands); go_simp; try with_reducible rfl
 try simp only [Nm]
 refine Vi 12 ?_ rfl (by kernel_rfl) hP (by rfl) ?r hH ?_; case r => intro w' h; (try dsimp only at h); (try go_split_ands); go_simp; try with_reducible rfl
 try simp only [Nm]
 refine wpAnyH_ready (rs := [1, 13]) (by kernel_rfl) (by simp) ?_
 refine AllReadyH.cons rfl (fun K hK => ?_) (AllReadyH.cons rfl (fun K hK => ?_) AllReadyH.nil)
 focus (
 have HK1 := hide hK
 clear hK
 have hx := (HS.out.z.L.below hC0 HS.out.z.L.lt).cell 1
 simp only [Yl] at hx
 go_simp
 clear hx hH
 refine Shut.out HK1.out _ _ (HH _ hC0) (fun hH => ?_)
 try simp only [Nm]
 clear HK1
 refine Rd 13 (by kernel_rfl) rfl (fun K hK => ?_)
 have HK13 := hide hK
 clear hK
 go_simp
 go_at_call 35
 refine (reckonsIt_any nn t _).mono ?_
 rintro e V1 ⟨rfl, hbV1⟩
 have hC1 : Below wr.heap.size wr V1 := hC0.trans (hbV1.mono hC0.size)
 clear hH
 refine Shut.out HK13.out _ _ (HH _ hC1) (fun hH => ?_)
 try simp only [Nm]
 clear HK13
 refine Vq 14 ?_ rfl (by kernel_rfl) hP (by rfl) ?r hH ?_; case r => intro w'; go_simp; try with_reducible rfl
 try simp only [Nm]
 refine Rd 15 (by kernel_rfl) rfl (fun K hK => ?_)
 have HK15 := hide hK
 clear hK
 go_simp
 obtain ⟨V2, hV2⟩ : ∃ V : World, V = V1.alloc (.cells #[.bool (recB t nn)] 4) := ⟨_, rfl⟩
 rw [← hV2]
 have hC2 : Below wr.heap.size wr V2 := by rw [hV2]; exact Below.alloc hC1 hC1.size _
 have hv1 : ValsAt V2 (some ⟨V1.heap.size, 0, none⟩) [.bool (recB t nn)] := by rw [hV2]; exact vals_one _ _ _
 clear hH hV2
 refine Shut.out HK15.out _ _ (HH _ hC2) (fun hH => ?_)
 try simp only [Nm]
 clear HK15)
 rotate_left
 focus (
 have HK13 := hide hK
 clear hK
 go_simp
 go_at_call 35
 refine (reckonsIt_any nn t _).mono ?_
 rintro e V1 ⟨rfl, hbV1⟩
 have hC1 : Below wr.heap.size wr V1 := hC0.trans (hbV1.mono hC0.size)
 clear hH
 refine Shut.out HK13.out _ _ (HH _ hC1) (fun hH => ?_)
 try simp only [Nm]
 clear HK13
 refine Vq 14 ?_ rfl (by kernel_rfl) hP (by rfl) ?r hH ?_; case r => intro w'; go_simp; try with_reducible rfl
 try simp only [Nm]
 refine wpAnyH_ready (rs := [1, 15]) (by kernel_rfl) (by simp) ?_
 refine AllReadyH.cons rfl (fun K hK => ?_) (AllReadyH.cons rfl (fun K hK => ?_) AllReadyH.nil)
 focus (
 have HK1 := hide hK
 clear hK
 have hx := (HS.out.z.L.below hC1 HS.out.z.L.lt).cell 1
 simp only [Yl] at hx
 go_simp
 clear hx hH
 refine Shut.out HK1.out _ _ (HH _ hC1) (fun hH => ?_)
 try simp only [Nm]
 clear HK1
 refine Rd 15 (by kernel_rfl) rfl (fun K hK => ?_)
 have HK15 := hide hK
 clear hK
 go_simp
 obtain ⟨V2, hV2⟩ : ∃ V : World, V = V1.alloc (.cells #[.bool (recB t nn)] 4) := ⟨_, rfl⟩
 rw [← hV2]
 have hC2 : Below wr.heap.size wr V2 := by rw [hV2]; exact Below.alloc hC1 hC1.size _
 have hv1 : ValsAt V2 (some ⟨V1.heap.size, 0, none⟩) [.bool (recB t nn)] := by rw [hV2]; exact vals_one _ _ _
 clear hH hV2
 refine Shut.out HK15.out _ _ (HH _ hC2) (fun hH => ?_)
 try simp only [Nm]
 clear HK15)
 rotate_left
 focus (
 have HK15 := hide hK
 clear hK
 go_simp
 obtain ⟨V2, hV2⟩ : ∃ V : World, V = V1.alloc (.cells #[.bool (recB t nn)] 4) := ⟨_, rfl⟩
 rw [← hV2]
 have hC2 : Below wr.heap.size wr V2 := by rw [hV2]; exact Below.alloc hC1 hC1.size _
 have hv1 : ValsAt V2 (some ⟨V1.heap.size, 0, none⟩) [.bool (recB t nn)] := by rw [hV2]; exact vals_one _ _ _
 clear hH hV2
 refine Shut.out HK15.out _ _ (HH _ hC2) (fun hH => ?_)
 try simp only [Nm]
 clear HK15
 refine Rd 1 (by kernel_rfl) rfl (fun K hK => ?_)
 have HK1 := hide hK
 clear hK
 have hx := (HS.out.z.L.below hC2 HS.out.z.L.lt).cell 1
 simp only [Yl] at hx
 go_simp
 clear hx hH
 refine Shut.out HK1.out _ _ (HH _ hC2) (fun hH => ?_)
 try simp only [Nm]
 clear HK1))
 all_goals (
 refine Rd 16 (by kernel_rfl) rfl (fun K hK => ?_)
 have HK16 := hide hK
 clear hK
 refine step_append_row (v := v2) (by rfl) _ _ _ (by rfl) ib _ 1 Tryz.underlying27 hbi hbz hbs hbb rfl (by rfl) (HS.out.z.r2.below' hC2) (some ⟨_, 0, none⟩) 1 1 [.bool (recB t nn)] (by rfl) (by rfl) hv1 (by simp [Value.oneCell']) (by rw [bools_length, hm2]; simp [maxLen]; omega) (by rw [bools_length, hm2]; simp; omega) (by have := hC2.size; omega) ?_
 intro v9 w9 hr9 hg9 hat9
 obtain ⟨A9, c9, hv9, _, _⟩ := hr9.shape
 subst hv9
 simp only [List.length_append, List.length_singleton, bools_length, hm2] at hr9 hat9 ⊢
 have X9 := HG _ _ hC2 hg9
 have hq9 := Blk.grown (HS.out.z.L.below hC2 HS.out.z.L.lt) hg9 (HS.out.z.r2.ne_blk HS.out.z.L (by decide))
 have hP9 := HS.out.put2 hC2 hr9 hg9 hat9
 have HP9 := hide hP9
 clear hP9 hr9 hat9 hH
 refine Shut.out HK16.out _ _ X9 (fun hH => ?_)
 try simp only [Nm]
 clear HK16
 refine Vq 17 ?_ rfl (by kernel_rfl) hP (by rfl) ?r hH ?_; case r => intro w'; go_simp; try with_reducible rfl
 try simp only [Nm]
 refine Rd 18 (by kernel_rfl) rfl (fun K hK => ?_)
 have HK18 := hide hK
 clear hK
 have hx := hq9.cell 1
 have fx := hq9.frozen 1
 simp only [Yl] at hx
 go_simp
 refine Shut.out HK18.out _ _ (HZ _ _ X9) (fun hH => ?_)
 try simp only [Nm]
 clear HK18
 refine wpAnyH_done (by kernel_rfl) ?_ _
 go_wp2_with fail
 go_roundg (l.length - (k + 1))
 case measure => have := Hgk.out; omega
 case rel => exact ⟨k + 1, _, by omega, by go_num, rfl, by rw [mk_succ (f := fun k => yn y k && recB t (nd l k)), nd_get Hn.out, Hqy.out]; exact HP9.out⟩)))
 · (
 have hkk : k = l.length := by omega
 subst hkk
 have hO := HO1.out.below hS.z.below HO1.out.lt
 obtain ⟨B1, b1, e1, _, _⟩ := hS.z.r1.shape
 rw [bools_length, hxsl] at e1
 subst e1
 obtain ⟨B2, b2, e2, _, _⟩ := hS.z.r2.shape
 rw [bools_length, mk_len] at e2
 subst e2
 have l0 := hS.z.L.cell 0
 have l1 := hS.z.L.cell 1
 have o0 := hO.cell 0
 have o1 := hO.cell 1
 have f0 := hO.frozen 0
 have f1 := hO.frozen 1
 simp only [Yl] at l0 l1 o0 o1
 have lO := hO.lt
 have lL := hS.z.L.lt
 have hn1 := hS.z.r1.ne_blk hO (by decide)
 have hn2 := hS.z.r2.ne_blk hO (by decide)
 have hBw := HB1.out.size
 have Q1 := hide ((hS.z.r1.far (p := ⟨w.heap.size + 1 + 1, 0, none⟩) hn1 (.slice B1 l.length b1)).far (p := ⟨w.heap.size + 1 + 1, 1, none⟩) hn1 (.slice B2 l.length b2))
 have Q2 := hide ((hS.z.r2.far (p := ⟨w.heap.size + 1 + 1, 0, none⟩) hn2 (.slice B1 l.length b1)).far (p := ⟨w.heap.size + 1 + 1, 1, none⟩) hn2 (.slice B2 l.length b2))
 have HBf := hide (HB1.out.trans (hS.z.below.mono HB1.out.size))
 clear hS hO hn2 hn1
 go_wp2_with fail
 go_tidy
 refine bodyPost_ret (v := .agg #[.slice B1 l.length b1, .slice B2 l.length b2]) (by simp [results, Tryz.results11, go_sem, l0, l1, o0, o1, f0, f1, World.cell?_setCell_same, World.cell?_setCell_other]; try rfl) rfl ?_
 have hG := HG.out
 have hq1 := Q1.out.mono (base' := w.heap.size) (by omega)
 rw [Hxs.out] at hG hq1
 exact ⟨(HBf.out.setCell (by simp <;> omega) _).setCell (by simp <;> omega) _, F, y, _, _, HF.out, hG, rfl, hq1, Q2.out.mono (by omega)⟩)))))))))
end
end Go.Proofs.YtmghkonmfbpjcabGreat
