/- MvB. -/
import Derived.Test.YtmghkonmfbpjcaaGreatDoorGD
import Derived.Deep.DeepCutAuto
import Derived.Deep.RegionHeld3
import Derived.Test.YtmghkonmfbpjcaaGreatDoorGA
set_option linter.unusedVariables false
set_option linter.unusedSimpArgs false
namespace Go.Proofs.YtmghkonmfbpjcaaGreatDoor
section
open Go.RowKit
set_option maxHeartbeats 8000000
attribute [local irreducible] Row madeCells
theorem mk_succ (n : Nat) (f : Nat → Bool) : mk (n + 1) f = mk n f ++ [f n] := by simp [mk, List.range_succ]
theorem bools_snoc (x : List Bool) (b : Bool) : bools (x ++ [b]) = bools x ++ [.bool b] := by simp [bools]
theorem set1_cell {V : World} {a b i : Nat} (h : ¬ (a = b)) (o : Nat) (u : Value) : (V.setCell ⟨b, i, none⟩ u).cell? ⟨a, o, none⟩ = V.cell? ⟨a, o, none⟩ := by simp [World.cell?_setCell_other, h]
structure PlSt (tP tT tL tB : TypeId) (w : World) (regs : Int) (A : Option Addr) (n cap : Nat) (t : Tm) (v1 v2 : Value) (x y : List Bool) (W : World) : Prop where
 p : Blk W w.heap.size tP #[.int .i64 regs, .slice A n cap]
 t : Blk W (w.heap.size + 1) tT (tmA t)
 res : Blk W (w.heap.size + 2) tL #[.slice none 0 0, .slice none 0 0]
 L : Blk W (w.heap.size + 3) tL #[v1, v2]
 r1 : Row W w.heap.size tB v1 (bools x)
 r2 : Row W w.heap.size tB v2 (bools y)
 ne : v1.ownBlock = none ∨ v1.ownBlock ≠ v2.ownBlock
 below : Below w.heap.size w W
 nn : tB ≠ tP ∧ tB ≠ tT ∧ tB ≠ tL
section
variable {tP tT tL tB : TypeId} {w : World} {regs : Int} {A : Option Addr} {n cap : Nat} {t : Tm} {v1 v2 : Value} {x y : List Bool} {W : World}
theorem PlSt.later {W' : World} (h : PlSt tP tT tL tB w regs A n cap t v1 v2 x y W) (hb : Below W.heap.size W W') : PlSt tP tT tL tB w regs A n cap t v1 v2 x y W' :=
 ⟨h.p.below hb h.p.lt, h.t.below hb h.t.lt, h.res.below hb h.res.lt, h.L.below hb h.L.lt, h.r1.below' hb, h.r2.below' hb, h.ne, h.below.trans (hb.mono h.below.size), h.nn⟩
theorem PlSt.put1 {V w9 : World} {v9 : Value} {b : Bool} (h0 : PlSt tP tT tL tB w regs A n cap t v1 v2 x y W) (hb : Below W.heap.size W V) (hr : Row w9 w.heap.size tB v9 (bools x ++ [.bool b])) (hg : V.grownBy w9 v1.ownBlock) (hat : v9.ownBlock = v1.ownBlock ∨ ∀ k, v9.ownBlock = some k → V.heap.size ≤ k) :
 PlSt tP tT tL tB w regs A n cap t v9 v2 (x ++ [b]) y (w9.setCell ⟨w.heap.size + 3, 0, none⟩ v9) := by (
 have h := h0.later hb
 obtain ⟨n1, n2, n3⟩ := h.nn
 have eL := hr.ne_blk (Blk.grown h.L hg (h.r1.ne_blk h.L n3)) n3
 have hne2 : v2.ownBlock = none ∨ v2.ownBlock ≠ v1.ownBlock := by (
 rcases h.ne with e | e
 · (
 rw [e]; rcases h2 : v2.ownBlock with _ | k
 · exact .inl rfl
 · exact .inr (by simp))
 · exact .inr (Ne.symm e))
 have hr2 := Row.kept h.r2 hg hne2
 have hL := Blk.grown h.L hg (h.r1.ne_blk h.L n3)
 refine ⟨(Blk.grown h.p hg (h.r1.ne_blk h.p n1)).far (by simp) _, (Blk.grown h.t hg (h.r1.ne_blk h.t n2)).far (by simp) _, (Blk.grown h.res hg (h.r1.ne_blk h.res n3)).far (by simp) _, hL.set_ 0 _, by rw [bools_snoc]; exact hr.far eL _, hr2.far (hr2.ne_blk hL n3) _, ?_, (h.below.grown hg h.below.size (fun q hq => (h.r1.lt q hq).1)).setCell (by show w.heap.size ≤ w.heap.size + 3; omega) _, h.nn⟩
 rcases hat with e | e
 · rw [e]; exact h.ne
 · (
 rcases h9 : v9.ownBlock with _ | k
 · exact .inl rfl
 · (
 refine .inr fun e2 => ?_
 have := e k h9
 have := (h.r2.lt k e2.symm).2
 omega)))
theorem PlSt.put2 {V w9 : World} {v9 : Value} {b : Bool} (h0 : PlSt tP tT tL tB w regs A n cap t v1 v2 x y W) (hb : Below W.heap.size W V) (hr : Row w9 w.heap.size tB v9 (bools y ++ [.bool b])) (hg : V.grownBy w9 v2.ownBlock) (hat : v9.ownBlock = v2.ownBlock ∨ ∀ k, v9.ownBlock = some k → V.heap.size ≤ k) :
 PlSt tP tT tL tB w regs A n cap t v1 v9 x (y ++ [b]) (w9.setCell ⟨w.heap.size + 3, 1, none⟩ v9) := by (
 have h := h0.later hb
 obtain ⟨n1, n2, n3⟩ := h.nn
 have hL := Blk.grown h.L hg (h.r2.ne_blk h.L n3)
 have eL := hr.ne_blk hL n3
 have hr1 := Row.kept h.r1 hg h.ne
 refine ⟨(Blk.grown h.p hg (h.r2.ne_blk h.p n1)).far (by simp) _, (Blk.grown h.t hg (h.r2.ne_blk h.t n2)).far (by simp) _, (Blk.grown h.res hg (h.r2.ne_blk h.res n3)).far (by simp) _, hL.set_ 1 _, hr1.far (hr1.ne_blk hL n3) _, by rw [bools_snoc]; exact hr.far eL _, ?_, (h.below.grown hg h.below.size (fun q hq => (h.r2.lt q hq).1)).setCell (by show w.heap.size ≤ w.heap.size + 3; omega) _, h.nn⟩
 rcases hat with e | e
 · rw [e]; exact h.ne
 · (
 rcases h1 : v1.ownBlock with _ | k
 · exact .inl rfl
 · (
 refine .inr fun e2 => ?_
 have := e k (by rw [← e2])
 have := (h.r1.lt k h1).2
 omega)))
end
def PlPost (tB : TypeId) (x y : List Bool) (w : World) (e : Ending) (w' : World) : Prop :=
 ∃ v1 v2, e = .returned (.agg #[v1, v2]) ∧ Row w' w.heap.size tB v1 (bools x) ∧ Row w' w.heap.size tB v2 (bools y) ∧ (v1.ownBlock = none ∨ v1.ownBlock ≠ v2.ownBlock) ∧ Below w.heap.size w w'
set_option maxRecDepth 100000 in
theorem places_any (F1 F2 : FuncId) (caps1 caps2 : Array Value) (f g : Nat → Bool) (regs : Int) (A : Option Addr) (l : List Nd) (cap : Nat) (t : Tm) (w : World) (hA : NodesAt w A l) (hl : l.length ≤ 65536)
 (hE1 : ∀ W args, (callFunc F1 args).run Tryz.prog W = .ok (.enter F1 args) W) (hE2 : ∀ W args, (callFunc F2 args).run Tryz.prog W = .ok (.enter F2 args) W)
 (hF1 : ∀ k : Nat, k < l.length → SaysAt Tryz.prog F1 caps1 w k (f k)) (hF2 : ∀ k : Nat, k < l.length → SaysAt Tryz.prog F2 caps2 w k (g k)) :
 Calls Tryz.prog 88 #[.agg #[.int .i64 regs, .slice A l.length cap], .agg (tmA t), .func (.func F1) #[] caps1, .func (.func F2) #[] caps2] w (PlPost 4 (mk l.length f) (mk l.length fun k => rkB t (nd l k) && g k) w) := by (
 obtain ⟨ib, hbi, hbz, hbs, hbb⟩ := info_parts infoBoolG
 have HF1 := hide hF1
 have HF2 := hide hF2
 have HN := hide hA
 clear hF1 hF2 hA
 unfold tmA
 go_enter Tryz.func88, Tryz.ntmps88
 go_wp2_with fail
 go_loopg [15] (l.length) (fun gk i wr => ∃ (k : Nat) (v1 v2 : Value), k ≤ l.length ∧ i = .int .i64 k ∧ gk = l.length - k ∧ PlSt 24 41 76 4 w regs A l.length cap t v1 v2 (mk k f) (mk k fun k => rkB t (nd l k) && g k) wr)
 case atStart => (
 refine ⟨0, .slice none 0 0, .slice none 0 0, Nat.zero_le _, rfl, rfl, ?_⟩
 exact ⟨(by repeat (first | ((with_reducible refine Blk.new' ?_); exact (by (try simp only [Sz]); first | done | omega | (try simp only [Sz] at *); omega)) | (with_reducible refine Blk.drew ?_) | (with_reducible refine Blk.drewN ?_ _) | (with_reducible refine Blk.alloc ?_ _) | with_reducible assumption)), by unfold tmA; exact (by repeat (first | ((with_reducible refine Blk.new' ?_); exact (by (try simp only [Sz]); first | done | omega | (try simp only [Sz] at *); omega)) | (with_reducible refine Blk.drew ?_) | (with_reducible refine Blk.drewN ?_ _) | (with_reducible refine Blk.alloc ?_ _) | with_reducible assumption)), (by repeat (first | ((with_reducible refine Blk.new' ?_); exact (by (try simp only [Sz]); first | done | omega | (try simp only [Sz] at *); omega)) | (with_reducible refine Blk.drew ?_) | (with_reducible refine Blk.drewN ?_ _) | (with_reducible refine Blk.alloc ?_ _) | with_reducible assumption)), (by repeat (first | ((with_reducible refine Blk.new' ?_); exact (by (try simp only [Sz]); first | done | omega | (try simp only [Sz] at *); omega)) | (with_reducible refine Blk.drew ?_) | (with_reducible refine Blk.drewN ?_ _) | (with_reducible refine Blk.alloc ?_ _) | with_reducible assumption)), Row.nil_ _ _ _, Row.nil_ _ _ _, .inl rfl, (by (with_reducible repeat first | apply Qa | assumption | apply Qb | apply Qc | apply Qd | apply Qe | refine Qf ?_ (by assumption) ?_); all_goals (try simp only [Sz]); first | done | omega | (try simp only [Sz] at *); omega), by decide⟩)
 case round => (
 obtain ⟨k, v1, v2, hk, rfl, hgk, hS⟩ := hrel
 have Hgk := hide hgk
 clear hgk
 by_cases hlt : k < l.length
 · (
 obtain ⟨nb, no, nn, rfl, hnb, hn, hnl⟩ := (HN.out.below hS.below).get hlt
 obtain ⟨c0, c1, c2, c3, c4, c5⟩ := hnl
 have p0 := hS.p.cell 0
 have p1 := hS.p.cell 1
 have t0 := hS.t.cell 0
 have t1 := hS.t.cell 1
 have t2 := hS.t.cell 2
 have lp := hS.p.lt
 have ltb := hS.t.lt
 have lL := hS.L.lt
 simp only [tmA, Yl] at p0 p1 t0 t1 t2
 have u0 : (0 : Int) ≤ (k : Int) := by omega
 have u1 : (k : Int) < (l.length : Int) := by omega
 have Hn := hide hn
 have HS0 := hide hS
 clear hS hn
 go_upto_region 5 with fail
 obtain ⟨W, hW⟩ : ∃ W : World, W = wr.alloc (.cells #[.int .i64 nn.op, .int .i64 nn.d, .int .i64 nn.a, .int .i64 nn.b, .int .i64 nn.t, .int .i64 nn.e] 44) := ⟨_, rfl⟩
 have hnB : Blk W wr.heap.size 44 #[.int .i64 nn.op, .int .i64 nn.d, .int .i64 nn.a, .int .i64 nn.b, .int .i64 nn.t, .int .i64 nn.e] := by rw [hW]; exact Blk.new' rfl
 have hS := HS0.out.later (W' := W) (by rw [hW]; exact (Below.refl _ _).alloc (Nat.le_refl _) _)
 rw [← hW]
 obtain ⟨bn, hbn0⟩ : ∃ b, b = wr.heap.size := ⟨_, rfl⟩
 rw [← hbn0] at hnB ⊢
 have hbn : ¬ (bn = w.heap.size + 3) := by omega
 have hml1 : (mk k f).length = k := mk_len _ _
 have hml2 : (mk k fun k => rkB t (nd l k) && g k).length = k := mk_len _ _
 have HS := hide hS
 have HnB := hide hnB
 clear hS hnB HS0 hW hbn0 p0 p1 t0 t1 t2 c0 c1 c2 c3 c4 c5 lp ltb lL
 go_cut [9] (fun s9 wx => s9 = .pointer (some ⟨w.heap.size + 3, 0, none⟩) ∧ ∃ v1', PlSt 24 41 76 4 w regs (some ⟨nb, no, none⟩) l.length cap t v1' v2 (mk (k + 1) f) (mk k fun k => rkB t (nd l k) && g k) wx ∧ Blk wx bn 44 #[.int .i64 nn.op, .int .i64 nn.d, .int .i64 nn.a, .int .i64 nn.b, .int .i64 nn.t, .int .i64 nn.e])
 case first => (
 refine wp_region_held_drew (S := fun w' => True) (by kernel_rfl) ?_ ?_
 · exact trivial
 intro hH
 have hC0 : Below W.heap.size W W.drew := (Below.refl _ _).drew
 generalize W.drew = V0 at hH hC0 ⊢
 refine Up (fun _ _ _ _ _ => id) fun hP => ?_
 refine Vq 0 ?_ rfl (by kernel_rfl) hP (by rfl) ?r hH ?_; case r => intro w'; go_simp; try with_reducible rfl
 try simp only [Nm]
 refine Vq 2 ?_ rfl (by kernel_rfl) hP (by rfl) ?r hH ?_; case r => intro w'; go_simp; try with_reducible rfl
 try simp only [Nm]
 refine Vq 3 ?_ rfl (by kernel_rfl) hP (by rfl) ?r hH ?_; case r => intro w'; go_simp; try with_reducible rfl
 try simp only [Nm]
 refine wpAnyH_ready (rs := [1, 4]) (by kernel_rfl) (by simp) ?_
 refine AllReadyH.cons rfl (fun K hK => ?_) (AllReadyH.cons rfl (fun K hK => ?_) AllReadyH.nil)
 focus (
 have HK1 := hide hK
 clear hK
 have hx := (HS.out.L.below hC0 HS.out.L.lt).cell 0
 simp only [Yl] at hx
 go_simp
 clear hx hH
 refine Shut.out HK1.out _ _ trivial (fun hH => ?_)
 try simp only [Nm]
 clear HK1
 refine Rd 4 (by kernel_rfl) rfl (fun K hK => ?_)
 have HK4 := hide hK
 clear hK
 go_simp
 refine (HF1.out k hlt _ (HS.out.below.trans (hC0.mono HS.out.below.size))).mono ?_
 rintro e V1 ⟨rfl, hbV1⟩
 have hC1 : Below W.heap.size W V1 := hC0.trans (hbV1.mono hC0.size)
 clear hH
 refine Shut.out HK4.out _ _ trivial (fun hH => ?_)
 try simp only [Nm]
 clear HK4
 refine Rd 5 (by kernel_rfl) rfl (fun K hK => ?_)
 have HK5 := hide hK
 clear hK
 go_simp
 obtain ⟨V2, hV2⟩ : ∃ V : World, V = V1.alloc (.cells #[.bool (f k)] 4) := ⟨_, rfl⟩
 rw [← hV2]
 have hC2 : Below W.heap.size W V2 := by rw [hV2]; exact Below.alloc hC1 hC1.size _
 have hv1 : ValsAt V2 (some ⟨V1.heap.size, 0, none⟩) [.bool (f k)] := by rw [hV2]; exact vals_one _ _ _
 clear hH hV2
 refine Shut.out HK5.out _ _ trivial (fun hH => ?_)
 try simp only [Nm]
 clear HK5)
 rotate_left
 focus (
 have HK4 := hide hK
 clear hK
 go_simp
 refine (HF1.out k hlt _ (HS.out.below.trans (hC0.mono HS.out.below.size))).mono ?_
 rintro e V1 ⟨rfl, hbV1⟩
 have hC1 : Below W.heap.size W V1 := hC0.trans (hbV1.mono hC0.size)
 clear hH
 refine Shut.out HK4.out _ _ trivial (fun hH => ?_)
 try simp only [Nm]
 clear HK4
 refine wpAnyH_ready (rs := [1, 5]) (by kernel_rfl) (by simp) ?_
 refine AllReadyH.cons rfl (fun K hK => ?_) (AllReadyH.cons rfl (fun K hK => ?_) AllReadyH.nil)
 focus (
 have HK1 := hide hK
 clear hK
 have hx := (HS.out.L.below hC1 HS.out.L.lt).cell 0
 simp only [Yl] at hx
 go_simp
 clear hx hH
 refine Shut.out HK1.out _ _ trivial (fun hH => ?_)
 try simp only [Nm]
 clear HK1
 refine Rd 5 (by kernel_rfl) rfl (fun K hK => ?_)
 have HK5 := hide hK
 clear hK
 go_simp
 obtain ⟨V2, hV2⟩ : ∃ V : World, V = V1.alloc (.cells #[.bool (f k)] 4) := ⟨_, rfl⟩
 rw [← hV2]
 have hC2 : Below W.heap.size W V2 := by rw [hV2]; exact Below.alloc hC1 hC1.size _
 have hv1 : ValsAt V2 (some ⟨V1.heap.size, 0, none⟩) [.bool (f k)] := by rw [hV2]; exact vals_one _ _ _
 clear hH hV2
 refine Shut.out HK5.out _ _ trivial (fun hH => ?_)
 try simp only [Nm]
 clear HK5)
 rotate_left
 focus (
 have HK5 := hide hK
 clear hK
 go_simp
 obtain ⟨V2, hV2⟩ : ∃ V : World, V = V1.alloc (.cells #[.bool (f k)] 4) := ⟨_, rfl⟩
 rw [← hV2]
 have hC2 : Below W.heap.size W V2 := by rw [hV2]; exact Below.alloc hC1 hC1.size _
 have hv1 : ValsAt V2 (some ⟨V1.heap.size, 0, none⟩) [.bool (f k)] := by rw [hV2]; exact vals_one _ _ _
 clear hH hV2
 refine Shut.out HK5.out _ _ trivial (fun hH => ?_)
 try simp only [Nm]
 clear HK5
 refine Rd 1 (by kernel_rfl) rfl (fun K hK => ?_)
 have HK1 := hide hK
 clear hK
 have hx := (HS.out.L.below hC2 HS.out.L.lt).cell 0
 simp only [Yl] at hx
 go_simp
 clear hx hH
 refine Shut.out HK1.out _ _ trivial (fun hH => ?_)
 try simp only [Nm]
 clear HK1))
 all_goals (
 refine Rd 6 (by kernel_rfl) rfl (fun K hK => ?_)
 have HK6 := hide hK
 clear hK
 refine step_append_row (v := v1) (by rfl) _ _ _ (by rfl) ib _ 1 Tryz.underlying70 hbi hbz hbs hbb rfl (by rfl) (HS.out.r1.below' hC2) (some ⟨_, 0, none⟩) 1 1 [.bool (f k)] (by rfl) (by rfl) hv1 (by simp [Value.oneCell']) (by rw [bools_length]; simp [maxLen]; omega) (by rw [bools_length]; simp; omega) (by have := hC2.size; have := HS.out.below.size; omega) ?_
 intro v9 w9 hr9 hg9 hat9
 obtain ⟨A9, c9', hv9, _, _⟩ := hr9.shape
 subst hv9
 simp only [List.length_append, List.length_singleton, bools_length, hml1, hml2] at hr9 hat9 ⊢
 have hL9 := Blk.grown (HS.out.L.below hC2 HS.out.L.lt) hg9 (HS.out.r1.ne_blk HS.out.L (by decide))
 have hnB9 := Blk.grown (HnB.out.below hC2 HnB.out.lt) hg9 (HS.out.r1.ne_blk HnB.out (by decide))
 have hP9 := HS.out.put1 hC2 hr9 hg9 hat9
 have HP9 := hide hP9
 clear hP9 hr9 hat9 hH
 have X9 : True := trivial
 refine Shut.out HK6.out _ _ X9 (fun hH => ?_)
 try simp only [Nm]
 clear HK6
 refine Vq 7 ?_ rfl (by kernel_rfl) hP (by rfl) ?r hH ?_; case r => intro w'; go_simp; try with_reducible rfl
 try simp only [Nm]
 refine Rd 8 (by kernel_rfl) rfl (fun K hK => ?_)
 have HK8 := hide hK
 clear hK
 have hx := hL9.cell 0
 have fx := hL9.frozen 0
 simp only [Yl] at hx
 go_simp
 refine Shut.out HK8.out _ _ trivial (fun _ => ?_)
 try simp only [Nm]
 clear HK8
 refine wpAnyH_done (by kernel_rfl) ?_ _
 go_wp2_with fail
 go_meet
 go_tidy
 exact ⟨rfl, _, by rw [mk_succ]; exact HP9.out, hnB9.far hbn _⟩))
 case rest => (
 obtain ⟨rfl, v1', hS, hnB⟩ := hcut
 obtain ⟨W, rfl⟩ : ∃ W : World, W = wc := ⟨_, rfl⟩
 clear HS HnB
 have HS := hide hS
 have HnB := hide hnB
 have lN := hnB.lt
 clear hS hnB
 go_upto_region 6 with fail
 have n0 := (HnB.out).cell 0
 have n1 := (HnB.out).cell 1
 have n2 := (HnB.out).cell 2
 have n3 := (HnB.out).cell 3
 have n4 := (HnB.out).cell 4
 have n5 := (HnB.out).cell 5
 have t0 := (HS.out.t).cell 0
 have t1 := (HS.out.t).cell 1
 have t2 := (HS.out.t).cell 2
 simp only [tmA, Yl] at n0 n1 n2 n3 n4 n5 t0 t1 t2
 cases hq : rkB t nn
 case false => (
 have Hq := hide hq
 clear hq
 have HH : ∀ V : World, Below W.heap.size W V → (V.cell? ⟨bn, 0, none⟩ = some (.int .i64 nn.op) ∧ V.cell? ⟨bn, 1, none⟩ = some (.int .i64 nn.d) ∧ V.cell? ⟨bn, 2, none⟩ = some (.int .i64 nn.a) ∧ V.cell? ⟨bn, 3, none⟩ = some (.int .i64 nn.b) ∧ V.cell? ⟨bn, 4, none⟩ = some (.int .i64 nn.t) ∧ V.cell? ⟨bn, 5, none⟩ = some (.int .i64 nn.e) ∧ V.cell? ⟨w.heap.size + 1, 0, none⟩ = some (.int .i64 t.op) ∧ V.cell? ⟨w.heap.size + 1, 1, none⟩ = some (.int .i64 t.a) ∧ V.cell? ⟨w.heap.size + 1, 2, none⟩ = some (.int .i64 t.b)) := by (
 intro V hV
 have n0 := (HnB.out.below hV HnB.out.lt).cell 0
 have n1 := (HnB.out.below hV HnB.out.lt).cell 1
 have n2 := (HnB.out.below hV HnB.out.lt).cell 2
 have n3 := (HnB.out.below hV HnB.out.lt).cell 3
 have n4 := (HnB.out.below hV HnB.out.lt).cell 4
 have n5 := (HnB.out.below hV HnB.out.lt).cell 5
 have t0 := (HS.out.t.below hV HS.out.t.lt).cell 0
 have t1 := (HS.out.t.below hV HS.out.t.lt).cell 1
 have t2 := (HS.out.t.below hV HS.out.t.lt).cell 2
 simp only [tmA, Yl] at n0 n1 n2 n3 n4 n5 t0 t1 t2
 exact ⟨n0, n1, n2, n3, n4, n5, t0, t1, t2⟩)
 have HG : ∀ V w9 : World, Below W.heap.size W V → V.grownBy w9 v2.ownBlock → (w9.cell? ⟨bn, 0, none⟩ = some (.int .i64 nn.op) ∧ w9.cell? ⟨bn, 1, none⟩ = some (.int .i64 nn.d) ∧ w9.cell? ⟨bn, 2, none⟩ = some (.int .i64 nn.a) ∧ w9.cell? ⟨bn, 3, none⟩ = some (.int .i64 nn.b) ∧ w9.cell? ⟨bn, 4, none⟩ = some (.int .i64 nn.t) ∧ w9.cell? ⟨bn, 5, none⟩ = some (.int .i64 nn.e) ∧ w9.cell? ⟨w.heap.size + 1, 0, none⟩ = some (.int .i64 t.op) ∧ w9.cell? ⟨w.heap.size + 1, 1, none⟩ = some (.int .i64 t.a) ∧ w9.cell? ⟨w.heap.size + 1, 2, none⟩ = some (.int .i64 t.b)) := by (
 intro V w9 hV hg9
 have n0 := (Blk.grown (HnB.out.below hV HnB.out.lt) hg9 (HS.out.r2.ne_blk HnB.out (by decide))).cell 0
 have n1 := (Blk.grown (HnB.out.below hV HnB.out.lt) hg9 (HS.out.r2.ne_blk HnB.out (by decide))).cell 1
 have n2 := (Blk.grown (HnB.out.below hV HnB.out.lt) hg9 (HS.out.r2.ne_blk HnB.out (by decide))).cell 2
 have n3 := (Blk.grown (HnB.out.below hV HnB.out.lt) hg9 (HS.out.r2.ne_blk HnB.out (by decide))).cell 3
 have n4 := (Blk.grown (HnB.out.below hV HnB.out.lt) hg9 (HS.out.r2.ne_blk HnB.out (by decide))).cell 4
 have n5 := (Blk.grown (HnB.out.below hV HnB.out.lt) hg9 (HS.out.r2.ne_blk HnB.out (by decide))).cell 5
 have t0 := (Blk.grown (HS.out.t.below hV HS.out.t.lt) hg9 (HS.out.r2.ne_blk HS.out.t (by decide))).cell 0
 have t1 := (Blk.grown (HS.out.t.below hV HS.out.t.lt) hg9 (HS.out.r2.ne_blk HS.out.t (by decide))).cell 1
 have t2 := (Blk.grown (HS.out.t.below hV HS.out.t.lt) hg9 (HS.out.r2.ne_blk HS.out.t (by decide))).cell 2
 simp only [tmA, Yl] at n0 n1 n2 n3 n4 n5 t0 t1 t2
 exact ⟨n0, n1, n2, n3, n4, n5, t0, t1, t2⟩)
 have HZ : ∀ (V : World) (u : Value), (V.cell? ⟨bn, 0, none⟩ = some (.int .i64 nn.op) ∧ V.cell? ⟨bn, 1, none⟩ = some (.int .i64 nn.d) ∧ V.cell? ⟨bn, 2, none⟩ = some (.int .i64 nn.a) ∧ V.cell? ⟨bn, 3, none⟩ = some (.int .i64 nn.b) ∧ V.cell? ⟨bn, 4, none⟩ = some (.int .i64 nn.t) ∧ V.cell? ⟨bn, 5, none⟩ = some (.int .i64 nn.e) ∧ V.cell? ⟨w.heap.size + 1, 0, none⟩ = some (.int .i64 t.op) ∧ V.cell? ⟨w.heap.size + 1, 1, none⟩ = some (.int .i64 t.a) ∧ V.cell? ⟨w.heap.size + 1, 2, none⟩ = some (.int .i64 t.b)) → ((V.setCell ⟨w.heap.size + 3, 1, none⟩ u).cell? ⟨bn, 0, none⟩ = some (.int .i64 nn.op) ∧ (V.setCell ⟨w.heap.size + 3, 1, none⟩ u).cell? ⟨bn, 1, none⟩ = some (.int .i64 nn.d) ∧ (V.setCell ⟨w.heap.size + 3, 1, none⟩ u).cell? ⟨bn, 2, none⟩ = some (.int .i64 nn.a) ∧ (V.setCell ⟨w.heap.size + 3, 1, none⟩ u).cell? ⟨bn, 3, none⟩ = some (.int .i64 nn.b) ∧ (V.setCell ⟨w.heap.size + 3, 1, none⟩ u).cell? ⟨bn, 4, none⟩ = some (.int .i64 nn.t) ∧ (V.setCell ⟨w.heap.size + 3, 1, none⟩ u).cell? ⟨bn, 5, none⟩ = some (.int .i64 nn.e) ∧ (V.setCell ⟨w.heap.size + 3, 1, none⟩ u).cell? ⟨w.heap.size + 1, 0, none⟩ = some (.int .i64 t.op) ∧ (V.setCell ⟨w.heap.size + 3, 1, none⟩ u).cell? ⟨w.heap.size + 1, 1, none⟩ = some (.int .i64 t.a) ∧ (V.setCell ⟨w.heap.size + 3, 1, none⟩ u).cell? ⟨w.heap.size + 1, 2, none⟩ = some (.int .i64 t.b)) := by (
 intro V u ⟨n0, n1, n2, n3, n4, n5, t0, t1, t2⟩
 have hbt : ¬ (w.heap.size + 1 = w.heap.size + 3) := by omega
 exact ⟨(set1_cell hbn _ _).trans n0, (set1_cell hbn _ _).trans n1, (set1_cell hbn _ _).trans n2, (set1_cell hbn _ _).trans n3, (set1_cell hbn _ _).trans n4, (set1_cell hbn _ _).trans n5, (set1_cell hbt _ _).trans t0, (set1_cell hbt _ _).trans t1, (set1_cell hbt _ _).trans t2⟩)
 refine wp_region_held_drew (S := fun w' => (w'.cell? ⟨bn, 0, none⟩ = some (.int .i64 nn.op) ∧ w'.cell? ⟨bn, 1, none⟩ = some (.int .i64 nn.d) ∧ w'.cell? ⟨bn, 2, none⟩ = some (.int .i64 nn.a) ∧ w'.cell? ⟨bn, 3, none⟩ = some (.int .i64 nn.b) ∧ w'.cell? ⟨bn, 4, none⟩ = some (.int .i64 nn.t) ∧ w'.cell? ⟨bn, 5, none⟩ = some (.int .i64 nn.e) ∧ w'.cell? ⟨w.heap.size + 1, 0, none⟩ = some (.int .i64 t.op) ∧ w'.cell? ⟨w.heap.size + 1, 1, none⟩ = some (.int .i64 t.a) ∧ w'.cell? ⟨w.heap.size + 1, 2, none⟩ = some (.int .i64 t.b))) (by kernel_rfl) ?_ ?_
 · exact ⟨n0, n1, n2, n3, n4, n5, t0, t1, t2⟩
 intro hH
 have hC0 : Below W.heap.size W W.drew := (Below.refl _ _).drew
 generalize W.drew = V0 at hH hC0 ⊢
 refine Up (fun _ _ _ _ _ => id) fun hP => ?_
 refine Vq 0 ?_ rfl (by kernel_rfl) hP (by rfl) ?r hH ?_; case r => intro w'; go_simp; try with_reducible rfl
 try simp only [Nm]
 refine Vi 2 ?_ rfl (by kernel_rfl) hP (by rfl) ?r hH ?_; case r => intro w' h; (try dsimp only at h); (try go_split_ands); go_simp; try with_reducible rfl
 try simp only [Nm]
 refine Vi 3 ?_ rfl (by kernel_rfl) hP (by rfl) ?r hH ?_; case r => intro w' h; (try dsimp only at h); (try go_split_ands); go_simp; try with_reducible rfl
 try simp only [Nm]
 refine wpAnyH_ready (rs := [1, 4]) (by kernel_rfl) (by simp) ?_
 refine AllReadyH.cons rfl (fun K hK => ?_) (AllReadyH.cons rfl (fun K hK => ?_) AllReadyH.nil)
 focus (
 have HK1 := hide hK
 clear hK
 have hx := (HS.out.L.below hC0 HS.out.L.lt).cell 1
 simp only [Yl] at hx
 go_simp
 clear hx hH
 refine Shut.out HK1.out _ _ (HH _ hC0) (fun hH => ?_)
 try simp only [Nm]
 clear HK1
 refine Rd 4 (by kernel_rfl) rfl (fun K hK => ?_)
 have HK4 := hide hK
 clear hK
 go_simp
 refine (mvReckons_any nn t _).mono ?_
 rintro e V1 ⟨rfl, hbV1⟩
 rw [Hq.out]
 have hC1 : Below W.heap.size W V1 := hC0.trans (hbV1.mono hC0.size)
 clear hH
 refine Shut.out HK4.out _ _ (HH _ hC1) (fun hH => ?_)
 try simp only [Nm]
 clear HK4
 refine Vq 5 ?_ rfl (by kernel_rfl) hP (by rfl) ?r hH ?_; case r => intro w'; go_simp; try with_reducible rfl
 try simp only [Nm]
 refine Vn 6 rfl (by kernel_rfl) hP (by rfl) hH ?_
 try simp only [Nm]
 refine Vn 7 rfl (by kernel_rfl) hP (by rfl) hH ?_
 try simp only [Nm]
 refine Vn 8 rfl (by kernel_rfl) hP (by rfl) hH ?_
 try simp only [Nm]
 refine Vq 9 ?_ rfl (by kernel_rfl) hP (by rfl) ?r hH ?_; case r => intro w'; go_simp; try with_reducible rfl
 try simp only [Nm]
 refine Rd 10 (by kernel_rfl) rfl (fun K hK => ?_)
 have HK10 := hide hK
 clear hK
 go_simp
 obtain ⟨V2, hV2⟩ : ∃ V : World, V = V1.alloc (.cells #[.bool false] 4) := ⟨_, rfl⟩
 rw [← hV2]
 have hC2 : Below W.heap.size W V2 := by rw [hV2]; exact Below.alloc hC1 hC1.size _
 have hv1 : ValsAt V2 (some ⟨V1.heap.size, 0, none⟩) [.bool false] := by rw [hV2]; exact vals_one _ _ _
 clear hH hV2
 refine Shut.out HK10.out _ _ (HH _ hC2) (fun hH => ?_)
 try simp only [Nm]
 clear HK10)
 rotate_left
 focus (
 have HK4 := hide hK
 clear hK
 go_simp
 refine (mvReckons_any nn t _).mono ?_
 rintro e V1 ⟨rfl, hbV1⟩
 rw [Hq.out]
 have hC1 : Below W.heap.size W V1 := hC0.trans (hbV1.mono hC0.size)
 clear hH
 refine Shut.out HK4.out _ _ (HH _ hC1) (fun hH => ?_)
 try simp only [Nm]
 clear HK4
 refine Vq 5 ?_ rfl (by kernel_rfl) hP (by rfl) ?r hH ?_; case r => intro w'; go_simp; try with_reducible rfl
 try simp only [Nm]
 refine Vn 6 rfl (by kernel_rfl) hP (by rfl) hH ?_
 try simp only [Nm]
 refine Vn 7 rfl (by kernel_rfl) hP (by rfl) hH ?_
 try simp only [Nm]
 refine Vn 8 rfl (by kernel_rfl) hP (by rfl) hH ?_
 try simp only [Nm]
 refine Vq 9 ?_ rfl (by kernel_rfl) hP (by rfl) ?r hH ?_; case r => intro w'; go_simp; try with_reducible rfl
 try simp only [Nm]
 refine wpAnyH_ready (rs := [1, 10]) (by kernel_rfl) (by simp) ?_
 refine AllReadyH.cons rfl (fun K hK => ?_) (AllReadyH.cons rfl (fun K hK => ?_) AllReadyH.nil)
 focus (
 have HK1 := hide hK
 clear hK
 have hx := (HS.out.L.below hC1 HS.out.L.lt).cell 1
 simp only [Yl] at hx
 go_simp
 clear hx hH
 refine Shut.out HK1.out _ _ (HH _ hC1) (fun hH => ?_)
 try simp only [Nm]
 clear HK1
 refine Rd 10 (by kernel_rfl) rfl (fun K hK => ?_)
 have HK10 := hide hK
 clear hK
 go_simp
 obtain ⟨V2, hV2⟩ : ∃ V : World, V = V1.alloc (.cells #[.bool false] 4) := ⟨_, rfl⟩
 rw [← hV2]
 have hC2 : Below W.heap.size W V2 := by rw [hV2]; exact Below.alloc hC1 hC1.size _
 have hv1 : ValsAt V2 (some ⟨V1.heap.size, 0, none⟩) [.bool false] := by rw [hV2]; exact vals_one _ _ _
 clear hH hV2
 refine Shut.out HK10.out _ _ (HH _ hC2) (fun hH => ?_)
 try simp only [Nm]
 clear HK10)
 rotate_left
 focus (
 have HK10 := hide hK
 clear hK
 go_simp
 obtain ⟨V2, hV2⟩ : ∃ V : World, V = V1.alloc (.cells #[.bool false] 4) := ⟨_, rfl⟩
 rw [← hV2]
 have hC2 : Below W.heap.size W V2 := by rw [hV2]; exact Below.alloc hC1 hC1.size _
 have hv1 : ValsAt V2 (some ⟨V1.heap.size, 0, none⟩) [.bool false] := by rw [hV2]; exact vals_one _ _ _
 clear hH hV2
 refine Shut.out HK10.out _ _ (HH _ hC2) (fun hH => ?_)
 try simp only [Nm]
 clear HK10
 refine Rd 1 (by kernel_rfl) rfl (fun K hK => ?_)
 have HK1 := hide hK
 clear hK
 have hx := (HS.out.L.below hC2 HS.out.L.lt).cell 1
 simp only [Yl] at hx
 go_simp
 clear hx hH
 refine Shut.out HK1.out _ _ (HH _ hC2) (fun hH => ?_)
 try simp only [Nm]
 clear HK1))
 all_goals (
 refine Rd 11 (by kernel_rfl) rfl (fun K hK => ?_)
 have HK11 := hide hK
 clear hK
 refine step_append_row (v := v2) (by rfl) _ _ _ (by rfl) ib _ 1 Tryz.underlying70 hbi hbz hbs hbb rfl (by rfl) (HS.out.r2.below' hC2) (some ⟨_, 0, none⟩) 1 1 [.bool false] (by rfl) (by rfl) hv1 (by simp [Value.oneCell']) (by rw [bools_length]; simp [maxLen]; omega) (by rw [bools_length]; simp; omega) (by have := hC2.size; have := HS.out.below.size; omega) ?_
 intro v9 w9 hr9 hg9 hat9
 obtain ⟨A9, c9', hv9, _, _⟩ := hr9.shape
 subst hv9
 simp only [List.length_append, List.length_singleton, bools_length, hml1, hml2] at hr9 hat9 ⊢
 have hL9 := Blk.grown (HS.out.L.below hC2 HS.out.L.lt) hg9 (HS.out.r2.ne_blk HS.out.L (by decide))
 have hnB9 := Blk.grown (HnB.out.below hC2 HnB.out.lt) hg9 (HS.out.r2.ne_blk HnB.out (by decide))
 have hP9 := HS.out.put2 hC2 hr9 hg9 hat9
 have HP9 := hide hP9
 clear hP9 hr9 hat9 hH
 have X9 : (w9.cell? ⟨bn, 0, none⟩ = some (.int .i64 nn.op) ∧ w9.cell? ⟨bn, 1, none⟩ = some (.int .i64 nn.d) ∧ w9.cell? ⟨bn, 2, none⟩ = some (.int .i64 nn.a) ∧ w9.cell? ⟨bn, 3, none⟩ = some (.int .i64 nn.b) ∧ w9.cell? ⟨bn, 4, none⟩ = some (.int .i64 nn.t) ∧ w9.cell? ⟨bn, 5, none⟩ = some (.int .i64 nn.e) ∧ w9.cell? ⟨w.heap.size + 1, 0, none⟩ = some (.int .i64 t.op) ∧ w9.cell? ⟨w.heap.size + 1, 1, none⟩ = some (.int .i64 t.a) ∧ w9.cell? ⟨w.heap.size + 1, 2, none⟩ = some (.int .i64 t.b)) := HG _ _ hC2 hg9
 refine Shut.out HK11.out _ _ X9 (fun hH => ?_)
 try simp only [Nm]
 clear HK11
 refine Vq 12 ?_ rfl (by kernel_rfl) hP (by rfl) ?r hH ?_; case r => intro w'; go_simp; try with_reducible rfl
 try simp only [Nm]
 refine Rd 13 (by kernel_rfl) rfl (fun K hK => ?_)
 have HK13 := hide hK
 clear hK
 have hx := hL9.cell 1
 have fx := hL9.frozen 1
 simp only [Yl] at hx
 go_simp
 refine Shut.out HK13.out _ _ (HZ _ _ X9) (fun _ => ?_)
 try simp only [Nm]
 clear HK13
 refine wpAnyH_done (by kernel_rfl) ?_ _
 go_wp2_with fail
 go_roundg (l.length - (k + 1))
 case measure => have := Hgk.out; omega
 case rel => exact ⟨k + 1, v1', _, by omega, by go_num, rfl, by rw [mk_succ (f := fun k => rkB t (nd l k) && g k), nd_get Hn.out, Hq.out]; exact HP9.out⟩))
 case true => (
 have Hq := hide hq
 clear hq
 have HH : ∀ V : World, Below W.heap.size W V → (V.cell? ⟨bn, 0, none⟩ = some (.int .i64 nn.op) ∧ V.cell? ⟨bn, 1, none⟩ = some (.int .i64 nn.d) ∧ V.cell? ⟨bn, 2, none⟩ = some (.int .i64 nn.a) ∧ V.cell? ⟨bn, 3, none⟩ = some (.int .i64 nn.b) ∧ V.cell? ⟨bn, 4, none⟩ = some (.int .i64 nn.t) ∧ V.cell? ⟨bn, 5, none⟩ = some (.int .i64 nn.e) ∧ V.cell? ⟨w.heap.size + 1, 0, none⟩ = some (.int .i64 t.op) ∧ V.cell? ⟨w.heap.size + 1, 1, none⟩ = some (.int .i64 t.a) ∧ V.cell? ⟨w.heap.size + 1, 2, none⟩ = some (.int .i64 t.b)) := by (
 intro V hV
 have n0 := (HnB.out.below hV HnB.out.lt).cell 0
 have n1 := (HnB.out.below hV HnB.out.lt).cell 1
 have n2 := (HnB.out.below hV HnB.out.lt).cell 2
 have n3 := (HnB.out.below hV HnB.out.lt).cell 3
 have n4 := (HnB.out.below hV HnB.out.lt).cell 4
 have n5 := (HnB.out.below hV HnB.out.lt).cell 5
 have t0 := (HS.out.t.below hV HS.out.t.lt).cell 0
 have t1 := (HS.out.t.below hV HS.out.t.lt).cell 1
 have t2 := (HS.out.t.below hV HS.out.t.lt).cell 2
 simp only [tmA, Yl] at n0 n1 n2 n3 n4 n5 t0 t1 t2
 exact ⟨n0, n1, n2, n3, n4, n5, t0, t1, t2⟩)
 have HG : ∀ V w9 : World, Below W.heap.size W V → V.grownBy w9 v2.ownBlock → (w9.cell? ⟨bn, 0, none⟩ = some (.int .i64 nn.op) ∧ w9.cell? ⟨bn, 1, none⟩ = some (.int .i64 nn.d) ∧ w9.cell? ⟨bn, 2, none⟩ = some (.int .i64 nn.a) ∧ w9.cell? ⟨bn, 3, none⟩ = some (.int .i64 nn.b) ∧ w9.cell? ⟨bn, 4, none⟩ = some (.int .i64 nn.t) ∧ w9.cell? ⟨bn, 5, none⟩ = some (.int .i64 nn.e) ∧ w9.cell? ⟨w.heap.size + 1, 0, none⟩ = some (.int .i64 t.op) ∧ w9.cell? ⟨w.heap.size + 1, 1, none⟩ = some (.int .i64 t.a) ∧ w9.cell? ⟨w.heap.size + 1, 2, none⟩ = some (.int .i64 t.b)) := by (
 intro V w9 hV hg9
 have n0 := (Blk.grown (HnB.out.below hV HnB.out.lt) hg9 (HS.out.r2.ne_blk HnB.out (by decide))).cell 0
 have n1 := (Blk.grown (HnB.out.below hV HnB.out.lt) hg9 (HS.out.r2.ne_blk HnB.out (by decide))).cell 1
 have n2 := (Blk.grown (HnB.out.below hV HnB.out.lt) hg9 (HS.out.r2.ne_blk HnB.out (by decide))).cell 2
 have n3 := (Blk.grown (HnB.out.below hV HnB.out.lt) hg9 (HS.out.r2.ne_blk HnB.out (by decide))).cell 3
 have n4 := (Blk.grown (HnB.out.below hV HnB.out.lt) hg9 (HS.out.r2.ne_blk HnB.out (by decide))).cell 4
 have n5 := (Blk.grown (HnB.out.below hV HnB.out.lt) hg9 (HS.out.r2.ne_blk HnB.out (by decide))).cell 5
 have t0 := (Blk.grown (HS.out.t.below hV HS.out.t.lt) hg9 (HS.out.r2.ne_blk HS.out.t (by decide))).cell 0
 have t1 := (Blk.grown (HS.out.t.below hV HS.out.t.lt) hg9 (HS.out.r2.ne_blk HS.out.t (by decide))).cell 1
 have t2 := (Blk.grown (HS.out.t.below hV HS.out.t.lt) hg9 (HS.out.r2.ne_blk HS.out.t (by decide))).cell 2
 simp only [tmA, Yl] at n0 n1 n2 n3 n4 n5 t0 t1 t2
 exact ⟨n0, n1, n2, n3, n4, n5, t0, t1, t2⟩)
 have HZ : ∀ (V : World) (u : Value), (V.cell? ⟨bn, 0, none⟩ = some (.int .i64 nn.op) ∧ V.cell? ⟨bn, 1, none⟩ = some (.int .i64 nn.d) ∧ V.cell? ⟨bn, 2, none⟩ = some (.int .i64 nn.a) ∧ V.cell? ⟨bn, 3, none⟩ = some (.int .i64 nn.b) ∧ V.cell? ⟨bn, 4, none⟩ = some (.int .i64 nn.t) ∧ V.cell? ⟨bn, 5, none⟩ = some (.int .i64 nn.e) ∧ V.cell? ⟨w.heap.size + 1, 0, none⟩ = some (.int .i64 t.op) ∧ V.cell? ⟨w.heap.size + 1, 1, none⟩ = some (.int .i64 t.a) ∧ V.cell? ⟨w.heap.size + 1, 2, none⟩ = some (.int .i64 t.b)) → ((V.setCell ⟨w.heap.size + 3, 1, none⟩ u).cell? ⟨bn, 0, none⟩ = some (.int .i64 nn.op) ∧ (V.setCell ⟨w.heap.size + 3, 1, none⟩ u).cell? ⟨bn, 1, none⟩ = some (.int .i64 nn.d) ∧ (V.setCell ⟨w.heap.size + 3, 1, none⟩ u).cell? ⟨bn, 2, none⟩ = some (.int .i64 nn.a) ∧ (V.setCell ⟨w.heap.size + 3, 1, none⟩ u).cell? ⟨bn, 3, none⟩ = some (.int .i64 nn.b) ∧ (V.setCell ⟨w.heap.size + 3, 1, none⟩ u).cell? ⟨bn, 4, none⟩ = some (.int .i64 nn.t) ∧ (V.setCell ⟨w.heap.size + 3, 1, none⟩ u).cell? ⟨bn, 5, none⟩ = some (.int .i64 nn.e) ∧ (V.setCell ⟨w.heap.size + 3, 1, none⟩ u).cell? ⟨w.heap.size + 1, 0, none⟩ = some (.int .i64 t.op) ∧ (V.setCell ⟨w.heap.size + 3, 1, none⟩ u).cell? ⟨w.heap.size + 1, 1, none⟩ = some (.int .i64 t.a) ∧ (V.setCell ⟨w.heap.size + 3, 1, none⟩ u).cell? ⟨w.heap.size + 1, 2, none⟩ = some (.int .i64 t.b)) := by (
 intro V u ⟨n0, n1, n2, n3, n4, n5, t0, t1, t2⟩
 have hbt : ¬ (w.heap.size + 1 = w.heap.size + 3) := by omega
 exact ⟨(set1_cell hbn _ _).trans n0, (set1_cell hbn _ _).trans n1, (set1_cell hbn _ _).trans n2, (set1_cell hbn _ _).trans n3, (set1_cell hbn _ _).trans n4, (set1_cell hbn _ _).trans n5, (set1_cell hbt _ _).trans t0, (set1_cell hbt _ _).trans t1, (set1_cell hbt _ _).trans t2⟩)
 refine wp_region_held_drew (S := fun w' => (w'.cell? ⟨bn, 0, none⟩ = some (.int .i64 nn.op) ∧ w'.cell? ⟨bn, 1, none⟩ = some (.int .i64 nn.d) ∧ w'.cell? ⟨bn, 2, none⟩ = some (.int .i64 nn.a) ∧ w'.cell? ⟨bn, 3, none⟩ = some (.int .i64 nn.b) ∧ w'.cell? ⟨bn, 4, none⟩ = some (.int .i64 nn.t) ∧ w'.cell? ⟨bn, 5, none⟩ = some (.int .i64 nn.e) ∧ w'.cell? ⟨w.heap.size + 1, 0, none⟩ = some (.int .i64 t.op) ∧ w'.cell? ⟨w.heap.size + 1, 1, none⟩ = some (.int .i64 t.a) ∧ w'.cell? ⟨w.heap.size + 1, 2, none⟩ = some (.int .i64 t.b))) (by kernel_rfl) ?_ ?_
 · exact ⟨n0, n1, n2, n3, n4, n5, t0, t1, t2⟩
 intro hH
 have hC0 : Below W.heap.size W W.drew := (Below.refl _ _).drew
 generalize W.drew = V0 at hH hC0 ⊢
 refine Up (fun _ _ _ _ _ => id) fun hP => ?_
 refine Vq 0 ?_ rfl (by kernel_rfl) hP (by rfl) ?r hH ?_; case r => intro w'; go_simp; try with_reducible rfl
 try simp only [Nm]
 refine Vi 2 ?_ rfl (by kernel_rfl) hP (by rfl) ?r hH ?_; case r => intro w' h; (try dsimp only at h); (try go_split_ands); go_simp; try with_reducible rfl
 try simp only [Nm]
 refine Vi 3 ?_ rfl (by kernel_rfl) hP (by rfl) ?r hH ?_; case r => intro w' h; (try dsimp only at h); (try go_split_ands); go_simp; try with_reducible rfl
 try simp only [Nm]
 refine wpAnyH_ready (rs := [1, 4]) (by kernel_rfl) (by simp) ?_
 refine AllReadyH.cons rfl (fun K hK => ?_) (AllReadyH.cons rfl (fun K hK => ?_) AllReadyH.nil)
 focus (
 have HK1 := hide hK
 clear hK
 have hx := (HS.out.L.below hC0 HS.out.L.lt).cell 1
 simp only [Yl] at hx
 go_simp
 clear hx hH
 refine Shut.out HK1.out _ _ (HH _ hC0) (fun hH => ?_)
 try simp only [Nm]
 clear HK1
 refine Rd 4 (by kernel_rfl) rfl (fun K hK => ?_)
 have HK4 := hide hK
 clear hK
 go_simp
 refine (mvReckons_any nn t _).mono ?_
 rintro e V1 ⟨rfl, hbV1⟩
 rw [Hq.out]
 have hC1 : Below W.heap.size W V1 := hC0.trans (hbV1.mono hC0.size)
 clear hH
 refine Shut.out HK4.out _ _ (HH _ hC1) (fun hH => ?_)
 try simp only [Nm]
 clear HK4
 refine Vq 5 ?_ rfl (by kernel_rfl) hP (by rfl) ?r hH ?_; case r => intro w'; go_simp; try with_reducible rfl
 try simp only [Nm]
 refine Vq 6 ?_ rfl (by kernel_rfl) hP (by rfl) ?r hH ?_; case r => intro w'; go_simp; try with_reducible rfl
 try simp only [Nm]
 refine Vq 7 ?_ rfl (by kernel_rfl) hP (by rfl) ?r hH ?_; case r => intro w'; go_simp; try with_reducible rfl
 try simp only [Nm]
 refine Rd 8 (by kernel_rfl) rfl (fun K hK => ?_)
 have HK8 := hide hK
 clear hK
 go_simp
 refine (HF2.out k hlt _ (HS.out.below.trans (hC1.mono HS.out.below.size))).mono ?_
 rintro e V2 ⟨rfl, hbV2⟩
 have hC2 : Below W.heap.size W V2 := hC1.trans (hbV2.mono hC1.size)
 clear hH
 refine Shut.out HK8.out _ _ (HH _ hC2) (fun hH => ?_)
 try simp only [Nm]
 clear HK8
 refine Vq 9 ?_ rfl (by kernel_rfl) hP (by rfl) ?r hH ?_; case r => intro w'; go_simp; try with_reducible rfl
 try simp only [Nm]
 refine Rd 10 (by kernel_rfl) rfl (fun K hK => ?_)
 have HK10 := hide hK
 clear hK
 go_simp
 obtain ⟨V3, hV3⟩ : ∃ V : World, V = V2.alloc (.cells #[.bool (g k)] 4) := ⟨_, rfl⟩
 rw [← hV3]
 have hC3 : Below W.heap.size W V3 := by rw [hV3]; exact Below.alloc hC2 hC2.size _
 have hv1 : ValsAt V3 (some ⟨V2.heap.size, 0, none⟩) [.bool (g k)] := by rw [hV3]; exact vals_one _ _ _
 clear hH hV3
 refine Shut.out HK10.out _ _ (HH _ hC3) (fun hH => ?_)
 try simp only [Nm]
 clear HK10)
 rotate_left
 focus (
 have HK4 := hide hK
 clear hK
 go_simp
 refine (mvReckons_any nn t _).mono ?_
 rintro e V1 ⟨rfl, hbV1⟩
 rw [Hq.out]
 have hC1 : Below W.heap.size W V1 := hC0.trans (hbV1.mono hC0.size)
 clear hH
 refine Shut.out HK4.out _ _ (HH _ hC1) (fun hH => ?_)
 try simp only [Nm]
 clear HK4
 refine Vq 5 ?_ rfl (by kernel_rfl) hP (by rfl) ?r hH ?_; case r => intro w'; go_simp; try with_reducible rfl
 try simp only [Nm]
 refine Vq 6 ?_ rfl (by kernel_rfl) hP (by rfl) ?r hH ?_; case r => intro w'; go_simp; try with_reducible rfl
 try simp only [Nm]
 refine Vq 7 ?_ rfl (by kernel_rfl) hP (by rfl) ?r hH ?_; case r => intro w'; go_simp; try with_reducible rfl
 try simp only [Nm]
 refine wpAnyH_ready (rs := [1, 8]) (by kernel_rfl) (by simp) ?_
 refine AllReadyH.cons rfl (fun K hK => ?_) (AllReadyH.cons rfl (fun K hK => ?_) AllReadyH.nil)
 focus (
 have HK1 := hide hK
 clear hK
 have hx := (HS.out.L.below hC1 HS.out.L.lt).cell 1
 simp only [Yl] at hx
 go_simp
 clear hx hH
 refine Shut.out HK1.out _ _ (HH _ hC1) (fun hH => ?_)
 try simp only [Nm]
 clear HK1
 refine Rd 8 (by kernel_rfl) rfl (fun K hK => ?_)
 have HK8 := hide hK
 clear hK
 go_simp
 refine (HF2.out k hlt _ (HS.out.below.trans (hC1.mono HS.out.below.size))).mono ?_
 rintro e V2 ⟨rfl, hbV2⟩
 have hC2 : Below W.heap.size W V2 := hC1.trans (hbV2.mono hC1.size)
 clear hH
 refine Shut.out HK8.out _ _ (HH _ hC2) (fun hH => ?_)
 try simp only [Nm]
 clear HK8
 refine Vq 9 ?_ rfl (by kernel_rfl) hP (by rfl) ?r hH ?_; case r => intro w'; go_simp; try with_reducible rfl
 try simp only [Nm]
 refine Rd 10 (by kernel_rfl) rfl (fun K hK => ?_)
 have HK10 := hide hK
 clear hK
 go_simp
 obtain ⟨V3, hV3⟩ : ∃ V : World, V = V2.alloc (.cells #[.bool (g k)] 4) := ⟨_, rfl⟩
 rw [← hV3]
 have hC3 : Below W.heap.size W V3 := by rw [hV3]; exact Below.alloc hC2 hC2.size _
 have hv1 : ValsAt V3 (some ⟨V2.heap.size, 0, none⟩) [.bool (g k)] := by rw [hV3]; exact vals_one _ _ _
 clear hH hV3
 refine Shut.out HK10.out _ _ (HH _ hC3) (fun hH => ?_)
 try simp only [Nm]
 clear HK10)
 rotate_left
 focus (
 have HK8 := hide hK
 clear hK
 go_simp
 refine (HF2.out k hlt _ (HS.out.below.trans (hC1.mono HS.out.below.size))).mono ?_
 rintro e V2 ⟨rfl, hbV2⟩
 have hC2 : Below W.heap.size W V2 := hC1.trans (hbV2.mono hC1.size)
 clear hH
 refine Shut.out HK8.out _ _ (HH _ hC2) (fun hH => ?_)
 try simp only [Nm]
 clear HK8
 refine Vq 9 ?_ rfl (by kernel_rfl) hP (by rfl) ?r hH ?_; case r => intro w'; go_simp; try with_reducible rfl
 try simp only [Nm]
 refine wpAnyH_ready (rs := [1, 10]) (by kernel_rfl) (by simp) ?_
 refine AllReadyH.cons rfl (fun K hK => ?_) (AllReadyH.cons rfl (fun K hK => ?_) AllReadyH.nil)
 focus (
 have HK1 := hide hK
 clear hK
 have hx := (HS.out.L.below hC2 HS.out.L.lt).cell 1
 simp only [Yl] at hx
 go_simp
 clear hx hH
 refine Shut.out HK1.out _ _ (HH _ hC2) (fun hH => ?_)
 try simp only [Nm]
 clear HK1
 refine Rd 10 (by kernel_rfl) rfl (fun K hK => ?_)
 have HK10 := hide hK
 clear hK
 go_simp
 obtain ⟨V3, hV3⟩ : ∃ V : World, V = V2.alloc (.cells #[.bool (g k)] 4) := ⟨_, rfl⟩
 rw [← hV3]
 have hC3 : Below W.heap.size W V3 := by rw [hV3]; exact Below.alloc hC2 hC2.size _
 have hv1 : ValsAt V3 (some ⟨V2.heap.size, 0, none⟩) [.bool (g k)] := by rw [hV3]; exact vals_one _ _ _
 clear hH hV3
 refine Shut.out HK10.out _ _ (HH _ hC3) (fun hH => ?_)
 try simp only [Nm]
 clear HK10)
 rotate_left
 focus (
 have HK10 := hide hK
 clear hK
 go_simp
 obtain ⟨V3, hV3⟩ : ∃ V : World, V = V2.alloc (.cells #[.bool (g k)] 4) := ⟨_, rfl⟩
 rw [← hV3]
 have hC3 : Below W.heap.size W V3 := by rw [hV3]; exact Below.alloc hC2 hC2.size _
 have hv1 : ValsAt V3 (some ⟨V2.heap.size, 0, none⟩) [.bool (g k)] := by rw [hV3]; exact vals_one _ _ _
 clear hH hV3
 refine Shut.out HK10.out _ _ (HH _ hC3) (fun hH => ?_)
 try simp only [Nm]
 clear HK10
 refine Rd 1 (by kernel_rfl) rfl (fun K hK => ?_)
 have HK1 := hide hK
 clear hK
 have hx := (HS.out.L.below hC3 HS.out.L.lt).cell 1
 simp only [Yl] at hx
 go_simp
 clear hx hH
 refine Shut.out HK1.out _ _ (HH _ hC3) (fun hH => ?_)
 try simp only [Nm]
 clear HK1)))
 all_goals (
 refine Rd 11 (by kernel_rfl) rfl (fun K hK => ?_)
 have HK11 := hide hK
 clear hK
 refine step_append_row (v := v2) (by rfl) _ _ _ (by rfl) ib _ 1 Tryz.underlying70 hbi hbz hbs hbb rfl (by rfl) (HS.out.r2.below' hC3) (some ⟨_, 0, none⟩) 1 1 [.bool (g k)] (by rfl) (by rfl) hv1 (by simp [Value.oneCell']) (by rw [bools_length]; simp [maxLen]; omega) (by rw [bools_length]; simp; omega) (by have := hC3.size; have := HS.out.below.size; omega) ?_
 intro v9 w9 hr9 hg9 hat9
 obtain ⟨A9, c9', hv9, _, _⟩ := hr9.shape
 subst hv9
 simp only [List.length_append, List.length_singleton, bools_length, hml1, hml2] at hr9 hat9 ⊢
 have hL9 := Blk.grown (HS.out.L.below hC3 HS.out.L.lt) hg9 (HS.out.r2.ne_blk HS.out.L (by decide))
 have hnB9 := Blk.grown (HnB.out.below hC3 HnB.out.lt) hg9 (HS.out.r2.ne_blk HnB.out (by decide))
 have hP9 := HS.out.put2 hC3 hr9 hg9 hat9
 have HP9 := hide hP9
 clear hP9 hr9 hat9 hH
 have X9 : (w9.cell? ⟨bn, 0, none⟩ = some (.int .i64 nn.op) ∧ w9.cell? ⟨bn, 1, none⟩ = some (.int .i64 nn.d) ∧ w9.cell? ⟨bn, 2, none⟩ = some (.int .i64 nn.a) ∧ w9.cell? ⟨bn, 3, none⟩ = some (.int .i64 nn.b) ∧ w9.cell? ⟨bn, 4, none⟩ = some (.int .i64 nn.t) ∧ w9.cell? ⟨bn, 5, none⟩ = some (.int .i64 nn.e) ∧ w9.cell? ⟨w.heap.size + 1, 0, none⟩ = some (.int .i64 t.op) ∧ w9.cell? ⟨w.heap.size + 1, 1, none⟩ = some (.int .i64 t.a) ∧ w9.cell? ⟨w.heap.size + 1, 2, none⟩ = some (.int .i64 t.b)) := HG _ _ hC3 hg9
 refine Shut.out HK11.out _ _ X9 (fun hH => ?_)
 try simp only [Nm]
 clear HK11
 refine Vq 12 ?_ rfl (by kernel_rfl) hP (by rfl) ?r hH ?_; case r => intro w'; go_simp; try with_reducible rfl
 try simp only [Nm]
 refine Rd 13 (by kernel_rfl) rfl (fun K hK => ?_)
 have HK13 := hide hK
 clear hK
 have hx := hL9.cell 1
 have fx := hL9.frozen 1
 simp only [Yl] at hx
 go_simp
 refine Shut.out HK13.out _ _ (HZ _ _ X9) (fun _ => ?_)
 try simp only [Nm]
 clear HK13
 refine wpAnyH_done (by kernel_rfl) ?_ _
 go_wp2_with fail
 go_roundg (l.length - (k + 1))
 case measure => have := Hgk.out; omega
 case rel => exact ⟨k + 1, v1', _, by omega, by go_num, rfl, by rw [mk_succ (f := fun k => rkB t (nd l k) && g k), nd_get Hn.out, Hq.out]; exact HP9.out⟩))))
 · (
 have hkk : k = l.length := by omega
 subst hkk
 obtain ⟨A1, c1, hv1, _, _⟩ := hS.r1.shape
 obtain ⟨A2, c2, hv2, _, _⟩ := hS.r2.shape
 rw [bools_length, mk_len] at hv1 hv2
 subst hv1 hv2
 have p0 := hS.L.cell 0
 have p1 := hS.L.cell 1
 have r0 := hS.res.cell 0
 have r1 := hS.res.cell 1
 have f0 := hS.res.frozen 0
 have f1 := hS.res.frozen 1
 simp only [Yl] at p0 p1 r0 r1
 have HS := hide hS
 clear hS
 go_wp2_with fail
 go_tidy
 refine bodyPost_ret (v := .agg #[.slice A1 l.length c1, .slice A2 l.length c2]) (by simp [results, Tryz.results88, go_sem, p0, p1, r0, r1, f0, f1, World.cell?_setCell_same, World.cell?_setCell_other]; try rfl) rfl ?_
 have hS := HS.out
 obtain ⟨_, _, n3⟩ := hS.nn
 exact ⟨_, _, rfl, ((hS.r1.far (hS.r1.ne_blk hS.res n3) _).far (hS.r1.ne_blk hS.res n3) _), ((hS.r2.far (hS.r2.ne_blk hS.res n3) _).far (hS.r2.ne_blk hS.res n3) _), hS.ne, ((hS.below.setCell (by simp <;> omega) _).setCell (by simp <;> omega) _)⟩)))
end
end Go.Proofs.YtmghkonmfbpjcaaGreatDoor
