/- Parts. -/
import Derived.Test.YtmghkonmfbpjcabGreatDoorGD
set_option linter.unusedVariables false
set_option linter.unusedSimpArgs false
set_option maxRecDepth 100000
set_option maxHeartbeats 8000000
namespace Go.Proofs.YtmghkonmfbpjcabGreatDoor
open Go.RowKit
open Go.Proofs.Tryz
section
attribute [local irreducible] Row madeCells
theorem Ys {P : Prop} (h : P := by (
 intro V u ⟨n0, n1, n2, n3, n4, n5, t0, t1, t2⟩
 have hbt : ¬ (w.heap.size + 1 = w.heap.size + 3) := Zb
 exact ⟨(bL hbn _ _).trans n0, (bL hbn _ _).trans n1, (bL hbn _ _).trans n2, (bL hbn _ _).trans n3, (bL hbn _ _).trans n4, (bL hbn _ _).trans n5, (bL hbt _ _).trans t0, (bL hbt _ _).trans t1, (bL hbt _ _).trans t2⟩)) : P := h
theorem Yr {P : Prop} (h : P := by (
 intro V hV
 have n0 := (HnB.o.below hV HnB.o.lt).cell 0
 have n1 := (HnB.o.below hV HnB.o.lt).cell 1
 have n2 := (HnB.o.below hV HnB.o.lt).cell 2
 have n3 := (HnB.o.below hV HnB.o.lt).cell 3
 have n4 := (HnB.o.below hV HnB.o.lt).cell 4
 have n5 := (HnB.o.below hV HnB.o.lt).cell 5
 have t0 := (HS.o.t.below hV HS.o.t.lt).cell 0
 have t1 := (HS.o.t.below hV HS.o.t.lt).cell 1
 have t2 := (HS.o.t.below hV HS.o.t.lt).cell 2
 simp only [tmA, Yl] at n0 n1 n2 n3 n4 n5 t0 t1 t2
 exact ⟨n0, n1, n2, n3, n4, n5, t0, t1, t2⟩)) : P := h
theorem Yq {P : Prop} (h : P := by (
 intro V w9 hV hg9
 have n0 := (Blk.grown (HnB.o.below hV HnB.o.lt) hg9 (HS.o.r2.ne_blk HnB.o Ze)).cell 0
 have n1 := (Blk.grown (HnB.o.below hV HnB.o.lt) hg9 (HS.o.r2.ne_blk HnB.o Ze)).cell 1
 have n2 := (Blk.grown (HnB.o.below hV HnB.o.lt) hg9 (HS.o.r2.ne_blk HnB.o Ze)).cell 2
 have n3 := (Blk.grown (HnB.o.below hV HnB.o.lt) hg9 (HS.o.r2.ne_blk HnB.o Ze)).cell 3
 have n4 := (Blk.grown (HnB.o.below hV HnB.o.lt) hg9 (HS.o.r2.ne_blk HnB.o Ze)).cell 4
 have n5 := (Blk.grown (HnB.o.below hV HnB.o.lt) hg9 (HS.o.r2.ne_blk HnB.o Ze)).cell 5
 have t0 := (Blk.grown (HS.o.t.below hV HS.o.t.lt) hg9 (HS.o.r2.ne_blk HS.o.t Ze)).cell 0
 have t1 := (Blk.grown (HS.o.t.below hV HS.o.t.lt) hg9 (HS.o.r2.ne_blk HS.o.t Ze)).cell 1
 have t2 := (Blk.grown (HS.o.t.below hV HS.o.t.lt) hg9 (HS.o.r2.ne_blk HS.o.t Ze)).cell 2
 simp only [tmA, Yl] at n0 n1 n2 n3 n4 n5 t0 t1 t2
 exact ⟨n0, n1, n2, n3, n4, n5, t0, t1, t2⟩)) : P := h
theorem mE (n : Nat) (f : Nat → Bool) : mk (n + 1) f = mk n f ++ [f n] := by simp [mk, List.range_succ]
theorem oA (x : List Bool) (b : Bool) : bE (x ++ [b]) = bE x ++ [.bool b] := by simp [bE]
theorem bL {V : World} {a b i : Nat} (h : ¬ (a = b)) (o : Nat) (u : Value) : (V.setCell ⟨b, i, none⟩ u).cell? ⟨a, o, none⟩ = V.cell? ⟨a, o, none⟩ := by simp [Vv, h]
structure xG (tP tT tL tB : TypeId) (w : World) (regs : Int) (A : Option Addr) (n cap : Nat) (t : Tm) (v1 v2 : Value) (x y : List Bool) (W : World) : Prop where
 p : Blk W w.heap.size tP #[.int .i64 regs, .slice A n cap]
 t : Blk W (w.heap.size + 1) tT (tmA t)
 res : Blk W (w.heap.size + 2) tL #[.slice none 0 0, .slice none 0 0]
 L : Blk W (w.heap.size + 3) tL #[v1, v2]
 r1 : Row W w.heap.size tB v1 (bE x)
 r2 : Row W w.heap.size tB v2 (bE y)
 ne : v1.ownBlock = none ∨ v1.ownBlock ≠ v2.ownBlock
 below : Below w.heap.size w W
 nn : tB ≠ tP ∧ tB ≠ tT ∧ tB ≠ tL
section
variable {tP tT tL tB : TypeId} {w : World} {regs : Int} {A : Option Addr} {n cap : Nat} {t : Tm} {v1 v2 : Value} {x y : List Bool} {W : World}
theorem xG.later {W' : World} (h : xG tP tT tL tB w regs A n cap t v1 v2 x y W) (hb : Below W.heap.size W W') : xG tP tT tL tB w regs A n cap t v1 v2 x y W' :=
 ⟨h.p.below hb h.p.lt, h.t.below hb h.t.lt, h.res.below hb h.res.lt, h.L.below hb h.L.lt, h.r1.below' hb, h.r2.below' hb, h.ne, h.below.trans (hb.mono h.below.size), h.nn⟩
theorem xG.put1 {V w9 : World} {v9 : Value} {b : Bool} (h0 : xG tP tT tL tB w regs A n cap t v1 v2 x y W) (hb : Below W.heap.size W V) (hr : Row w9 w.heap.size tB v9 (bE x ++ [.bool b])) (hg : V.grownBy w9 v1.ownBlock) (hat : v9.ownBlock = v1.ownBlock ∨ ∀ k, v9.ownBlock = some k → V.heap.size ≤ k) :
 xG tP tT tL tB w regs A n cap t v9 v2 (x ++ [b]) y (w9.setCell ⟨w.heap.size + 3, 0, none⟩ v9) := by (
 have h := h0.later hb
 obtain ⟨n1, n2, n3⟩ := h.nn
 have eL := hr.ne_blk (Blk.grown h.L hg (h.r1.ne_blk h.L n3)) n3
 have hne2 : v2.ownBlock = none ∨ v2.ownBlock ≠ v1.ownBlock := by (
 rcases h.ne with e | e
 · (
 rw [e]; rcases h2 : v2.ownBlock with _ | k
 · exact Jc
 · exact .inr Zf)
 · exact .inr (Ne.symm e))
 have hr2 := Row.kept h.r2 hg hne2
 have hL := Blk.grown h.L hg (h.r1.ne_blk h.L n3)
 refine ⟨(Blk.grown h.p hg (h.r1.ne_blk h.p n1)).far Zf _, (Blk.grown h.t hg (h.r1.ne_blk h.t n2)).far Zf _, (Blk.grown h.res hg (h.r1.ne_blk h.res n3)).far Zf _, hL.set_ 0 _, by rw [oA]; exact hr.far eL _, hr2.far (hr2.ne_blk hL n3) _, ?_, (h.below.grown hg h.below.size (fun q hq => (h.r1.lt q hq).1)).setCell (by show w.heap.size ≤ w.heap.size + 3; omega) _, h.nn⟩
 rcases hat with e | e
 · rw [e]; exact h.ne
 · (
 rcases h9 : v9.ownBlock with _ | k
 · exact Jc
 · (
 refine .inr fun e2 => ?_
 have := e k h9
 have := (h.r2.lt k e2.symm).2
 omega)))
theorem xG.put2 {V w9 : World} {v9 : Value} {b : Bool} (h0 : xG tP tT tL tB w regs A n cap t v1 v2 x y W) (hb : Below W.heap.size W V) (hr : Row w9 w.heap.size tB v9 (bE y ++ [.bool b])) (hg : V.grownBy w9 v2.ownBlock) (hat : v9.ownBlock = v2.ownBlock ∨ ∀ k, v9.ownBlock = some k → V.heap.size ≤ k) :
 xG tP tT tL tB w regs A n cap t v1 v9 x (y ++ [b]) (w9.setCell ⟨w.heap.size + 3, 1, none⟩ v9) := by (
 have h := h0.later hb
 obtain ⟨n1, n2, n3⟩ := h.nn
 have hL := Blk.grown h.L hg (h.r2.ne_blk h.L n3)
 have eL := hr.ne_blk hL n3
 have hr1 := Row.kept h.r1 hg h.ne
 refine ⟨(Blk.grown h.p hg (h.r2.ne_blk h.p n1)).far Zf _, (Blk.grown h.t hg (h.r2.ne_blk h.t n2)).far Zf _, (Blk.grown h.res hg (h.r2.ne_blk h.res n3)).far Zf _, hL.set_ 1 _, hr1.far (hr1.ne_blk hL n3) _, by rw [oA]; exact hr.far eL _, ?_, (h.below.grown hg h.below.size (fun q hq => (h.r2.lt q hq).1)).setCell (by show w.heap.size ≤ w.heap.size + 3; omega) _, h.nn⟩
 rcases hat with e | e
 · rw [e]; exact h.ne
 · (
 rcases h1 : v1.ownBlock with _ | k
 · exact Jc
 · (
 refine .inr fun e2 => ?_
 have := e k (by rw [← e2])
 have := (h.r1.lt k h1).2
 omega)))
end
def bSD (tB : TypeId) (x y : List Bool) (w : World) (e : Ending) (w' : World) : Prop :=
 ∃ v1 v2, e = .returned (.agg #[v1, v2]) ∧ Row w' w.heap.size tB v1 (bE x) ∧ Row w' w.heap.size tB v2 (bE y) ∧ (v1.ownBlock = none ∨ v1.ownBlock ≠ v2.ownBlock) ∧ Below w.heap.size w w'
theorem bGC (F1 F2 : FuncId) (caps1 caps2 : Array Value) (f g : Nat → Bool) (regs : Int) (A : Option Addr) (l : List Nd) (cap : Nat) (t : Tm) (w : World) (hA : bH w A l) (hl : l.length ≤ 65536)
 (hE1 : ∀ W args, (callFunc F1 args).run prog W = .ok (.enter F1 args) W) (hE2 : ∀ W args, (callFunc F2 args).run prog W = .ok (.enter F2 args) W)
 (hF1 : ∀ k : Nat, k < l.length → iA prog F1 caps1 w k (f k)) (hF2 : ∀ k : Nat, k < l.length → iA prog F2 caps2 w k (g k)) :
 Calls prog 142 #[.agg #[.int .i64 regs, .slice A l.length cap], .agg (tmA t), .func (.func F1) #[] caps1, .func (.func F2) #[] caps2] w (bSD 4 (mk l.length f) (mk l.length fun k => rkB t (nd l k) && g k) w) := by (
 obtain ⟨ib, hbi, hbz, hbs, hbb⟩ := info_parts gR
 have HF1 := bA hF1
 have HF2 := bA hF2
 have HN := bA hA
 clear hF1 hF2 hA
 unfold tmA
 go_enter func142, ntmps142
 go_wp2_with fail
 go_loopg [15] (l.length) (fun gk i wr => ∃ (k : Nat) (v1 v2 : Value), k ≤ l.length ∧ i = .int .i64 k ∧ gk = l.length - k ∧ xG 24 56 133 4 w regs A l.length cap t v1 v2 (mk k f) (mk k fun k => rkB t (nd l k) && g k) wr)
 case atStart => (
 refine ⟨0, .slice none 0 0, .slice none 0 0, Nat.zero_le _, rfl, rfl, ?_⟩
 exact ⟨Yd, by unfold tmA; exact Yd, Yd, Yd, Row.nil_ _ _ _, Row.nil_ _ _ _, .inl rfl, Yc, Ze⟩)
 case round => (
 obtain ⟨k, v1, v2, hk, rfl, hgk, hS⟩ := hrel
 have Hgk := bA hgk
 clear hgk
 by_cases hlt : k < l.length
 · (
 obtain ⟨nb, no, nn, rfl, hnb, hn, hnl⟩ := (HN.o.below hS.below).get hlt
 obtain ⟨c0, c1, c2, c3, c4, c5⟩ := hnl
 have p0 := hS.p.cell 0
 have p1 := hS.p.cell 1
 have t0 := hS.t.cell 0
 have t1 := hS.t.cell 1
 have t2 := hS.t.cell 2
 have lp := hS.p.lt
 have ltb := hS.t.lt
 have lL := hS.L.lt
 simp only [tmA, Yl] at p0 p1 t0 t1 t2
 refine Vf fun u0 u1 Hn => ?_
 have HS0 := bA hS
 clear hS hn
 go_upto_region 5 with fail
 obtain ⟨W, hW⟩ := Exq (wr.alloc (.cells #[.int .i64 nn.op, .int .i64 nn.d, .int .i64 nn.a, .int .i64 nn.b, .int .i64 nn.t, .int .i64 nn.e] 39))
 have hnB : Blk W wr.heap.size 39 #[.int .i64 nn.op, .int .i64 nn.d, .int .i64 nn.a, .int .i64 nn.b, .int .i64 nn.t, .int .i64 nn.e] := by rw [hW]; exact Blk.new' rfl
 have hS := HS0.o.later (W' := W) (by rw [hW]; exact (Bnq _ _))
 rw [← hW]
 obtain ⟨bn, hbn0⟩ := Exq wr.heap.size
 rw [← hbn0] at hnB ⊢
 have hbn : ¬ (bn = w.heap.size + 3) := Zb
 have hml1 : (mk k f).length = k := dD _ _
 have hml2 : (mk k fun k => rkB t (nd l k) && g k).length = k := dD _ _
 have HS := bA hS
 have HnB := bA hnB
 clear hS hnB HS0 hW hbn0 p0 p1 t0 t1 t2 c0 c1 c2 c3 c4 c5 lp ltb lL
 go_cut [9] (fun s9 wx => s9 = .pointer (some ⟨w.heap.size + 3, 0, none⟩) ∧ ∃ v1', xG 24 56 133 4 w regs (some ⟨nb, no, none⟩) l.length cap t v1' v2 (mk (k + 1) f) (mk k fun k => rkB t (nd l k) && g k) wx ∧ Blk wx bn 39 #[.int .i64 nn.op, .int .i64 nn.d, .int .i64 nn.a, .int .i64 nn.b, .int .i64 nn.t, .int .i64 nn.e])
 case first => (
 refine wp_region_held_drew (S := fun w' => True) Zc ?_ ?_
 · exact trivial
 intro hH
 have hC0 : Below W.heap.size W W.drew := (Below.refl _ _).drew
 generalize W.drew = V0 at hH hC0 ⊢
 refine Up (fun _ _ _ _ _ => id) fun hP => ?_
 refine Vc 0 _ rfl hP hH ?_
 try simp only [Nm]
 refine Vc 2 _ rfl hP hH ?_
 try simp only [Nm]
 refine Vc 3 _ rfl hP hH ?_
 try simp only [Nm]
 refine wpAnyH_ready (rs := [1, 4]) Zc Zf ?_
 refine Ug rfl (fun K hK => ?_) (Ug rfl (fun K hK => ?_) Uh)
 focus (
 have HK1 := bA hK
 clear hK
 have hx := (HS.o.L.below hC0 HS.o.L.lt).cell 0
 simp only [Yl] at hx
 go_simp
 clear hx hH
 refine Shut.out HK1.o _ _ trivial (fun hH => ?_)
 try simp only [Nm]
 clear HK1
 refine Rd 4 Zc rfl (fun K hK => ?_)
 have HK4 := bA hK
 clear hK
 go_simp
 refine (HF1.o k hlt _ (HS.o.below.trans (hC0.mono HS.o.below.size))).mono ?_
 rintro e V1 ⟨rfl, hbV1⟩
 refine Vr fun hC1 => ?_; clear hH
 refine Shut.out HK4.o _ _ trivial (fun hH => ?_)
 try simp only [Nm]
 clear HK4
 refine Rd 5 Zc rfl (fun K hK => ?_)
 have HK5 := bA hK
 clear hK
 go_simp
 obtain ⟨V2, hV2⟩ := Exq (V1.alloc (.cells #[.bool (f k)] 4))
 rw [← hV2]
 refine Ws fun hC2 hv1 => ?_; clear hH hV2
 refine Shut.out HK5.o _ _ trivial (fun hH => ?_)
 try simp only [Nm]
 clear HK5)
 rotate_left
 focus (
 have HK4 := bA hK
 clear hK
 go_simp
 refine (HF1.o k hlt _ (HS.o.below.trans (hC0.mono HS.o.below.size))).mono ?_
 rintro e V1 ⟨rfl, hbV1⟩
 refine Vr fun hC1 => ?_; clear hH
 refine Shut.out HK4.o _ _ trivial (fun hH => ?_)
 try simp only [Nm]
 clear HK4
 refine wpAnyH_ready (rs := [1, 5]) Zc Zf ?_
 refine Ug rfl (fun K hK => ?_) (Ug rfl (fun K hK => ?_) Uh)
 focus (
 have HK1 := bA hK
 clear hK
 have hx := (HS.o.L.below hC1 HS.o.L.lt).cell 0
 simp only [Yl] at hx
 go_simp
 clear hx hH
 refine Shut.out HK1.o _ _ trivial (fun hH => ?_)
 try simp only [Nm]
 clear HK1
 refine Rd 5 Zc rfl (fun K hK => ?_)
 have HK5 := bA hK
 clear hK
 go_simp
 obtain ⟨V2, hV2⟩ := Exq (V1.alloc (.cells #[.bool (f k)] 4))
 rw [← hV2]
 refine Ws fun hC2 hv1 => ?_; clear hH hV2
 refine Shut.out HK5.o _ _ trivial (fun hH => ?_)
 try simp only [Nm]
 clear HK5)
 rotate_left
 focus (
 have HK5 := bA hK
 clear hK
 go_simp
 obtain ⟨V2, hV2⟩ := Exq (V1.alloc (.cells #[.bool (f k)] 4))
 rw [← hV2]
 refine Ws fun hC2 hv1 => ?_; clear hH hV2
 refine Shut.out HK5.o _ _ trivial (fun hH => ?_)
 try simp only [Nm]
 clear HK5
 refine Rd 1 Zc rfl (fun K hK => ?_)
 have HK1 := bA hK
 clear hK
 have hx := (HS.o.L.below hC2 HS.o.L.lt).cell 0
 simp only [Yl] at hx
 go_simp
 clear hx hH
 refine Shut.out HK1.o _ _ trivial (fun hH => ?_)
 try simp only [Nm]
 clear HK1))
 all_goals (
 refine Rd 6 Zc rfl (fun K hK => ?_)
 have HK6 := bA hK
 clear hK
 refine bP (v := v1) Zj _ _ _ Zj ib _ 1 underlying74 hbi hbz hbs hbb rfl Zj (HS.o.r1.below' hC2) (some ⟨_, 0, none⟩) 1 1 [.bool (f k)] Zj Zj hv1 Zk Xr X4 (by have := hC2.size; have := HS.o.below.size; omega) ?_
 intro v9 w9 hr9 hg9 hat9
 obtain ⟨A9, c9', hv9, _, _⟩ := hr9.shape
 subst hv9
 simp only [Vz, V8, bD, hml1, hml2] at hr9 hat9 ⊢
 have hL9 := Blk.grown (HS.o.L.below hC2 HS.o.L.lt) hg9 (HS.o.r1.ne_blk HS.o.L Ze)
 have hnB9 := Blk.grown (HnB.o.below hC2 HnB.o.lt) hg9 (HS.o.r1.ne_blk HnB.o Ze)
 have hP9 := HS.o.put1 hC2 hr9 hg9 hat9
 have HP9 := bA hP9
 clear hP9 hr9 hat9 hH
 have X9 : True := trivial
 refine Shut.out HK6.o _ _ X9 (fun hH => ?_)
 try simp only [Nm]
 clear HK6
 refine Vc 7 _ rfl hP hH ?_
 try simp only [Nm]
 refine Rd 8 Zc rfl (fun K hK => ?_)
 have HK8 := bA hK
 clear hK
 have hx := hL9.cell 0
 have fx := hL9.frozen 0
 simp only [Yl] at hx
 go_simp
 refine Shut.out HK8.o _ _ trivial (fun _ => ?_)
 try simp only [Nm]
 clear HK8
 refine wpAnyH_done Zc ?_ _
 go_wp2_with fail
 go_meet
 go_tidy
 exact ⟨rfl, _, by rw [mE]; exact HP9.o, hnB9.far hbn _⟩))
 case rest => (
 obtain ⟨rfl, v1', hS, hnB⟩ := hcut
 obtain ⟨W, rfl⟩ := Exq wc
 clear HS HnB
 have HS := bA hS
 have HnB := bA hnB
 have lN := hnB.lt
 clear hS hnB
 go_upto_region 6 with fail
 have n0 := (HnB.o).cell 0
 have n1 := (HnB.o).cell 1
 have n2 := (HnB.o).cell 2
 have n3 := (HnB.o).cell 3
 have n4 := (HnB.o).cell 4
 have n5 := (HnB.o).cell 5
 have t0 := (HS.o.t).cell 0
 have t1 := (HS.o.t).cell 1
 have t2 := (HS.o.t).cell 2
 simp only [tmA, Yl] at n0 n1 n2 n3 n4 n5 t0 t1 t2
 cases hq : rkB t nn
 case false => (
 refine Ku fun Hq HH HG HZ => ?_; clear hq
 refine Ju ?_
 intro hH
 have hC0 : Below W.heap.size W W.drew := (Below.refl _ _).drew
 generalize W.drew = V0 at hH hC0 ⊢
 refine Up (fun _ _ _ _ _ => id) fun hP => ?_
 refine Vc 0 _ rfl hP hH ?_
 try simp only [Nm]
 refine Vb 2 _ rfl hP hH ?_
 try simp only [Nm]
 refine Vb 3 _ rfl hP hH ?_
 try simp only [Nm]
 refine wpAnyH_ready (rs := [1, 4]) Zc Zf ?_
 refine Ug rfl (fun K hK => ?_) (Ug rfl (fun K hK => ?_) Uh)
 focus (
 refine K9 fun HK1 hx => ?_; clear hK
 go_simp
 clear hx hH
 refine Shut.out HK1.o _ _ (HH _ hC0) (fun hH => ?_)
 try simp only [Nm]
 clear HK1
 refine Rd 4 Zc rfl (fun K hK => ?_)
 have HK4 := bA hK
 clear hK
 go_simp
 refine (iF nn t _).mono ?_
 rintro e V1 ⟨rfl, hbV1⟩
 rw [Hq.o]
 refine Vr fun hC1 => ?_; clear hH
 refine Shut.out HK4.o _ _ (HH _ hC1) (fun hH => ?_)
 try simp only [Nm]
 clear HK4
 refine Vc 5 _ rfl hP hH ?_
 try simp only [Nm]
 refine Vd 6 rfl hP hH ?_
 try simp only [Nm]
 refine Vd 7 rfl hP hH ?_
 try simp only [Nm]
 refine Vd 8 rfl hP hH ?_
 try simp only [Nm]
 refine Vc 9 _ rfl hP hH ?_
 try simp only [Nm]
 refine Rd 10 Zc rfl (fun K hK => ?_)
 have HK10 := bA hK
 clear hK
 go_simp
 obtain ⟨V2, hV2⟩ := Exq (V1.alloc (.cells #[.bool false] 4))
 rw [← hV2]
 refine Wt fun hC2 hv1 => ?_; clear hH hV2
 refine Shut.out HK10.o _ _ (HH _ hC2) (fun hH => ?_)
 try simp only [Nm]
 clear HK10)
 rotate_left
 focus (
 have HK4 := bA hK
 clear hK
 go_simp
 refine (iF nn t _).mono ?_
 rintro e V1 ⟨rfl, hbV1⟩
 rw [Hq.o]
 refine Vr fun hC1 => ?_; clear hH
 refine Shut.out HK4.o _ _ (HH _ hC1) (fun hH => ?_)
 try simp only [Nm]
 clear HK4
 refine Vc 5 _ rfl hP hH ?_
 try simp only [Nm]
 refine Vd 6 rfl hP hH ?_
 try simp only [Nm]
 refine Vd 7 rfl hP hH ?_
 try simp only [Nm]
 refine Vd 8 rfl hP hH ?_
 try simp only [Nm]
 refine Vc 9 _ rfl hP hH ?_
 try simp only [Nm]
 refine wpAnyH_ready (rs := [1, 10]) Zc Zf ?_
 refine Ug rfl (fun K hK => ?_) (Ug rfl (fun K hK => ?_) Uh)
 focus (
 refine Wf fun HK1 hx => ?_; clear hK
 go_simp
 clear hx hH
 refine Shut.out HK1.o _ _ (HH _ hC1) (fun hH => ?_)
 try simp only [Nm]
 clear HK1
 refine Rd 10 Zc rfl (fun K hK => ?_)
 have HK10 := bA hK
 clear hK
 go_simp
 obtain ⟨V2, hV2⟩ := Exq (V1.alloc (.cells #[.bool false] 4))
 rw [← hV2]
 refine Wt fun hC2 hv1 => ?_; clear hH hV2
 refine Shut.out HK10.o _ _ (HH _ hC2) (fun hH => ?_)
 try simp only [Nm]
 clear HK10)
 rotate_left
 focus (
 have HK10 := bA hK
 clear hK
 go_simp
 obtain ⟨V2, hV2⟩ := Exq (V1.alloc (.cells #[.bool false] 4))
 rw [← hV2]
 refine Wt fun hC2 hv1 => ?_; clear hH hV2
 refine Shut.out HK10.o _ _ (HH _ hC2) (fun hH => ?_)
 try simp only [Nm]
 clear HK10
 refine Rd 1 Zc rfl (fun K hK => ?_)
 refine Wg fun HK1 hx => ?_; clear hK
 go_simp
 clear hx hH
 refine Shut.out HK1.o _ _ (HH _ hC2) (fun hH => ?_)
 try simp only [Nm]
 clear HK1))
 all_goals (
 refine Rd 11 Zc rfl (fun K hK => ?_)
 have HK11 := bA hK
 clear hK
 refine bP (v := v2) Zj _ _ _ Zj ib _ 1 underlying74 hbi hbz hbs hbb rfl Zj (HS.o.r2.below' hC2) (some ⟨_, 0, none⟩) 1 1 [.bool false] Zj Zj hv1 Zk Xr X4 (by have := hC2.size; have := HS.o.below.size; omega) ?_
 intro v9 w9 hr9 hg9 hat9
 obtain ⟨A9, c9', hv9, _, _⟩ := hr9.shape
 subst hv9
 simp only [Vz, V8, bD, hml1, hml2] at hr9 hat9 ⊢
 have hL9 := Blk.grown (HS.o.L.below hC2 HS.o.L.lt) hg9 (HS.o.r2.ne_blk HS.o.L Ze)
 have hnB9 := Blk.grown (HnB.o.below hC2 HnB.o.lt) hg9 (HS.o.r2.ne_blk HnB.o Ze)
 have hP9 := HS.o.put2 hC2 hr9 hg9 hat9
 have HP9 := bA hP9
 clear hP9 hr9 hat9 hH
 have X9 : (w9.cell? ⟨bn, 0, none⟩ = some (.int .i64 nn.op) ∧ w9.cell? ⟨bn, 1, none⟩ = some (.int .i64 nn.d) ∧ w9.cell? ⟨bn, 2, none⟩ = some (.int .i64 nn.a) ∧ w9.cell? ⟨bn, 3, none⟩ = some (.int .i64 nn.b) ∧ w9.cell? ⟨bn, 4, none⟩ = some (.int .i64 nn.t) ∧ w9.cell? ⟨bn, 5, none⟩ = some (.int .i64 nn.e) ∧ w9.cell? ⟨w.heap.size + 1, 0, none⟩ = some (.int .i64 t.op) ∧ w9.cell? ⟨w.heap.size + 1, 1, none⟩ = some (.int .i64 t.a) ∧ w9.cell? ⟨w.heap.size + 1, 2, none⟩ = some (.int .i64 t.b)) := HG _ _ hC2 hg9
 refine Shut.out HK11.o _ _ X9 (fun hH => ?_)
 try simp only [Nm]
 clear HK11
 refine Vc 12 _ rfl hP hH ?_
 try simp only [Nm]
 refine Rd 13 Zc rfl (fun K hK => ?_)
 have HK13 := bA hK
 clear hK
 have hx := hL9.cell 1
 have fx := hL9.frozen 1
 simp only [Yl] at hx
 go_simp
 refine Shut.out HK13.o _ _ (HZ _ _ X9) (fun _ => ?_)
 try simp only [Nm]
 clear HK13
 refine wpAnyH_done Zc ?_ _
 go_wp2_with fail
 go_roundg (l.length - (k + 1))
 case measure => exact Jg
 case rel => exact ⟨k + 1, v1', _, Zb, by go_num, rfl, by rw [mE (f := fun k => rkB t (nd l k) && g k), dJ Hn.o, Hq.o]; exact HP9.o⟩))
 case true => (
 refine Ku fun Hq HH HG HZ => ?_; clear hq
 refine Ju ?_
 intro hH
 have hC0 : Below W.heap.size W W.drew := (Below.refl _ _).drew
 generalize W.drew = V0 at hH hC0 ⊢
 refine Up (fun _ _ _ _ _ => id) fun hP => ?_
 refine Vc 0 _ rfl hP hH ?_
 try simp only [Nm]
 refine Vb 2 _ rfl hP hH ?_
 try simp only [Nm]
 refine Vb 3 _ rfl hP hH ?_
 try simp only [Nm]
 refine wpAnyH_ready (rs := [1, 4]) Zc Zf ?_
 refine Ug rfl (fun K hK => ?_) (Ug rfl (fun K hK => ?_) Uh)
 focus (
 refine K9 fun HK1 hx => ?_; clear hK
 go_simp
 clear hx hH
 refine Shut.out HK1.o _ _ (HH _ hC0) (fun hH => ?_)
 try simp only [Nm]
 clear HK1
 refine Rd 4 Zc rfl (fun K hK => ?_)
 have HK4 := bA hK
 clear hK
 go_simp
 refine (iF nn t _).mono ?_
 rintro e V1 ⟨rfl, hbV1⟩
 rw [Hq.o]
 refine Vr fun hC1 => ?_; clear hH
 refine Shut.out HK4.o _ _ (HH _ hC1) (fun hH => ?_)
 try simp only [Nm]
 clear HK4
 refine Vc 5 _ rfl hP hH ?_
 try simp only [Nm]
 refine Vc 6 _ rfl hP hH ?_
 try simp only [Nm]
 refine Vc 7 _ rfl hP hH ?_
 try simp only [Nm]
 refine Rd 8 Zc rfl (fun K hK => ?_)
 have HK8 := bA hK
 clear hK
 go_simp
 refine (HF2.o k hlt _ (HS.o.below.trans (hC1.mono HS.o.below.size))).mono ?_
 rintro e V2 ⟨rfl, hbV2⟩
 have hC2 : Below W.heap.size W V2 := hC1.trans (hbV2.mono hC1.size)
 clear hH
 refine Shut.out HK8.o _ _ (HH _ hC2) (fun hH => ?_)
 try simp only [Nm]
 clear HK8
 refine Vc 9 _ rfl hP hH ?_
 try simp only [Nm]
 refine Rd 10 Zc rfl (fun K hK => ?_)
 have HK10 := bA hK
 clear hK
 go_simp
 obtain ⟨V3, hV3⟩ := Exq (V2.alloc (.cells #[.bool (g k)] 4))
 rw [← hV3]
 refine Wm fun hC3 hv1 => ?_; clear hH hV3
 refine Shut.out HK10.o _ _ (HH _ hC3) (fun hH => ?_)
 try simp only [Nm]
 clear HK10)
 rotate_left
 focus (
 have HK4 := bA hK
 clear hK
 go_simp
 refine (iF nn t _).mono ?_
 rintro e V1 ⟨rfl, hbV1⟩
 rw [Hq.o]
 refine Vr fun hC1 => ?_; clear hH
 refine Shut.out HK4.o _ _ (HH _ hC1) (fun hH => ?_)
 try simp only [Nm]
 clear HK4
 refine Vc 5 _ rfl hP hH ?_
 try simp only [Nm]
 refine Vc 6 _ rfl hP hH ?_
 try simp only [Nm]
 refine Vc 7 _ rfl hP hH ?_
 try simp only [Nm]
 refine wpAnyH_ready (rs := [1, 8]) Zc Zf ?_
 refine Ug rfl (fun K hK => ?_) (Ug rfl (fun K hK => ?_) Uh)
 focus (
 refine Wf fun HK1 hx => ?_; clear hK
 go_simp
 clear hx hH
 refine Shut.out HK1.o _ _ (HH _ hC1) (fun hH => ?_)
 try simp only [Nm]
 clear HK1
 refine Rd 8 Zc rfl (fun K hK => ?_)
 have HK8 := bA hK
 clear hK
 go_simp
 refine (HF2.o k hlt _ (HS.o.below.trans (hC1.mono HS.o.below.size))).mono ?_
 rintro e V2 ⟨rfl, hbV2⟩
 have hC2 : Below W.heap.size W V2 := hC1.trans (hbV2.mono hC1.size)
 clear hH
 refine Shut.out HK8.o _ _ (HH _ hC2) (fun hH => ?_)
 try simp only [Nm]
 clear HK8
 refine Vc 9 _ rfl hP hH ?_
 try simp only [Nm]
 refine Rd 10 Zc rfl (fun K hK => ?_)
 have HK10 := bA hK
 clear hK
 go_simp
 obtain ⟨V3, hV3⟩ := Exq (V2.alloc (.cells #[.bool (g k)] 4))
 rw [← hV3]
 refine Wm fun hC3 hv1 => ?_; clear hH hV3
 refine Shut.out HK10.o _ _ (HH _ hC3) (fun hH => ?_)
 try simp only [Nm]
 clear HK10)
 rotate_left
 focus (
 have HK8 := bA hK
 clear hK
 go_simp
 refine (HF2.o k hlt _ (HS.o.below.trans (hC1.mono HS.o.below.size))).mono ?_
 rintro e V2 ⟨rfl, hbV2⟩
 have hC2 : Below W.heap.size W V2 := hC1.trans (hbV2.mono hC1.size)
 clear hH
 refine Shut.out HK8.o _ _ (HH _ hC2) (fun hH => ?_)
 try simp only [Nm]
 clear HK8
 refine Vc 9 _ rfl hP hH ?_
 try simp only [Nm]
 refine wpAnyH_ready (rs := [1, 10]) Zc Zf ?_
 refine Ug rfl (fun K hK => ?_) (Ug rfl (fun K hK => ?_) Uh)
 focus (
 refine Wg fun HK1 hx => ?_; clear hK
 go_simp
 clear hx hH
 refine Shut.out HK1.o _ _ (HH _ hC2) (fun hH => ?_)
 try simp only [Nm]
 clear HK1
 refine Rd 10 Zc rfl (fun K hK => ?_)
 have HK10 := bA hK
 clear hK
 go_simp
 obtain ⟨V3, hV3⟩ := Exq (V2.alloc (.cells #[.bool (g k)] 4))
 rw [← hV3]
 refine Wm fun hC3 hv1 => ?_; clear hH hV3
 refine Shut.out HK10.o _ _ (HH _ hC3) (fun hH => ?_)
 try simp only [Nm]
 clear HK10)
 rotate_left
 focus (
 have HK10 := bA hK
 clear hK
 go_simp
 obtain ⟨V3, hV3⟩ := Exq (V2.alloc (.cells #[.bool (g k)] 4))
 rw [← hV3]
 refine Wm fun hC3 hv1 => ?_; clear hH hV3
 refine Shut.out HK10.o _ _ (HH _ hC3) (fun hH => ?_)
 try simp only [Nm]
 clear HK10
 refine Rd 1 Zc rfl (fun K hK => ?_)
 have HK1 := bA hK
 clear hK
 have hx := (HS.o.L.below hC3 HS.o.L.lt).cell 1
 simp only [Yl] at hx
 go_simp
 clear hx hH
 refine Shut.out HK1.o _ _ (HH _ hC3) (fun hH => ?_)
 try simp only [Nm]
 clear HK1)))
 all_goals (
 refine Rd 11 Zc rfl (fun K hK => ?_)
 have HK11 := bA hK
 clear hK
 refine bP (v := v2) Zj _ _ _ Zj ib _ 1 underlying74 hbi hbz hbs hbb rfl Zj (HS.o.r2.below' hC3) (some ⟨_, 0, none⟩) 1 1 [.bool (g k)] Zj Zj hv1 Zk Xr X4 (by have := hC3.size; have := HS.o.below.size; omega) ?_
 intro v9 w9 hr9 hg9 hat9
 obtain ⟨A9, c9', hv9, _, _⟩ := hr9.shape
 subst hv9
 simp only [Vz, V8, bD, hml1, hml2] at hr9 hat9 ⊢
 have hL9 := Blk.grown (HS.o.L.below hC3 HS.o.L.lt) hg9 (HS.o.r2.ne_blk HS.o.L Ze)
 have hnB9 := Blk.grown (HnB.o.below hC3 HnB.o.lt) hg9 (HS.o.r2.ne_blk HnB.o Ze)
 have hP9 := HS.o.put2 hC3 hr9 hg9 hat9
 have HP9 := bA hP9
 clear hP9 hr9 hat9 hH
 have X9 : (w9.cell? ⟨bn, 0, none⟩ = some (.int .i64 nn.op) ∧ w9.cell? ⟨bn, 1, none⟩ = some (.int .i64 nn.d) ∧ w9.cell? ⟨bn, 2, none⟩ = some (.int .i64 nn.a) ∧ w9.cell? ⟨bn, 3, none⟩ = some (.int .i64 nn.b) ∧ w9.cell? ⟨bn, 4, none⟩ = some (.int .i64 nn.t) ∧ w9.cell? ⟨bn, 5, none⟩ = some (.int .i64 nn.e) ∧ w9.cell? ⟨w.heap.size + 1, 0, none⟩ = some (.int .i64 t.op) ∧ w9.cell? ⟨w.heap.size + 1, 1, none⟩ = some (.int .i64 t.a) ∧ w9.cell? ⟨w.heap.size + 1, 2, none⟩ = some (.int .i64 t.b)) := HG _ _ hC3 hg9
 refine Shut.out HK11.o _ _ X9 (fun hH => ?_)
 try simp only [Nm]
 clear HK11
 refine Vc 12 _ rfl hP hH ?_
 try simp only [Nm]
 refine Rd 13 Zc rfl (fun K hK => ?_)
 have HK13 := bA hK
 clear hK
 have hx := hL9.cell 1
 have fx := hL9.frozen 1
 simp only [Yl] at hx
 go_simp
 refine Shut.out HK13.o _ _ (HZ _ _ X9) (fun _ => ?_)
 try simp only [Nm]
 clear HK13
 refine wpAnyH_done Zc ?_ _
 go_wp2_with fail
 go_roundg (l.length - (k + 1))
 case measure => exact Jg
 case rel => exact ⟨k + 1, v1', _, Zb, by go_num, rfl, by rw [mE (f := fun k => rkB t (nd l k) && g k), dJ Hn.o, Hq.o]; exact HP9.o⟩))))
 · (
 have hkk : k = l.length := Zb
 subst hkk
 obtain ⟨A1, c1, hv1, _, _⟩ := hS.r1.shape
 obtain ⟨A2, c2, hv2, _, _⟩ := hS.r2.shape
 rw [bD, dD] at hv1 hv2
 subst hv1 hv2
 have p0 := hS.L.cell 0
 have p1 := hS.L.cell 1
 have r0 := hS.res.cell 0
 have r1 := hS.res.cell 1
 have f0 := hS.res.frozen 0
 have f1 := hS.res.frozen 1
 simp only [Yl] at p0 p1 r0 r1
 have HS := bA hS
 clear hS
 go_wp2_with fail
 go_tidy
 refine bodyPost_ret (v := .agg #[.slice A1 l.length c1, .slice A2 l.length c2]) (by simp [results, results142, go_sem, p0, p1, r0, r1, f0, f1, Vw, Vv]; try rfl) rfl ?_
 have hS := HS.o
 obtain ⟨_, _, n3⟩ := hS.nn
 exact ⟨_, _, rfl, ((hS.r1.far (hS.r1.ne_blk hS.res n3) _).far (hS.r1.ne_blk hS.res n3) _), ((hS.r2.far (hS.r2.ne_blk hS.res n3) _).far (hS.r2.ne_blk hS.res n3) _), hS.ne, ((hS.below.setCell Zd _).setCell Zd _)⟩)))
end
end Go.Proofs.YtmghkonmfbpjcabGreatDoor
