/- FactC NRow Same MvA FactT SameB FactE FlowC. -/
import Derived.Test.YtmghkonmfbpjcabGreatGB
import Derived.Test.YtmghkonmfbpjcabGreatGA
import Derived.Deep.LoopGhost
import Derived.Deep.QuietTactic
import Derived.BigQuiet
import Derived.WalkSpells
import Derived.Deep.RegionLaw
import Derived.Laws.StructEq
import Derived.Deep.RegionHeld3
import Derived.Test.YtmghkonmfbpjcabGreatCheckP
set_option linter.unusedVariables false
set_option linter.unusedSimpArgs false
set_option maxRecDepth 100000
namespace Go.Proofs.YtmghkonmfbpjcabGreat
section
open Go.RowKit
set_option maxHeartbeats 2000000
attribute [local irreducible] Row madeCells
def tmA (t : Tm) : Array Value := #[.int .i64 t.op, .int .i64 t.a, .int .i64 t.b]
theorem of1_says (regs : Int) (A : Option Addr) (l : List Nd) (cap P T : Nat) (t : Tm) (w : World) (hP : Blk w P 24 #[.int .i64 regs, .slice A l.length cap]) (hT : Blk w T 26 (tmA t)) (hA : NodesAt w A l) {k : Nat} (hk : k < l.length) :
 SaysAt Tryz.prog 57 #[.pointer (some ⟨P, 0, none⟩), .pointer (some ⟨T, 0, none⟩)] w k (recB t (nd l k)) := by (
 intro W hW
 obtain ⟨b, off, n, rfl, hb, hn, hl⟩ := (hA.below hW).get hk
 rw [nd_get hn]
 obtain ⟨c0, c1, c2, c3, c4, c5⟩ := hl
 have hP' := hP.below hW hP.lt
 have hT' := hT.below hW hT.lt
 have p1 := hP'.cell 1
 have t0 := hT'.cell 0
 have t1 := hT'.cell 1
 have t2 := hT'.cell 2
 have lp := hP'.lt
 have lt := hT'.lt
 simp only [tmA, Yl] at p1 t0 t1 t2
 have u0 : (0 : Int) ≤ (k : Int) := by omega
 have u1 : (k : Int) < (l.length : Int) := by omega
 clear hP hT hP' hT' hA hn hW
 show Calls Tryz.prog 57 #[.int .i64 k, .pointer (some ⟨P, 0, none⟩), .pointer (some ⟨T, 0, none⟩)] W _
 unfold recB
 cases h1 : (n.op == t.op)
 · (
 go_enter Tryz.func57, Tryz.ntmps57
 go_wp2_with fail
 go_quiet (fail)
 go_wp2_with fail
 go_ret
 exact ⟨rfl, below_drewN (Below.refl _ _) _⟩)
 · (
 cases h2 : (n.a == t.a)
 · (
 go_enter Tryz.func57, Tryz.ntmps57
 go_wp2_with fail
 go_quiet (fail)
 go_wp2_with fail
 go_ret
 exact ⟨rfl, below_drewN (Below.refl _ _) _⟩)
 · (
 go_enter Tryz.func57, Tryz.ntmps57
 go_wp2_with fail
 go_quiet (fail)
 go_wp2_with fail
 go_ret
 exact ⟨by simp, below_drewN (Below.refl _ _) _⟩)))
theorem of2_says (regs : Int) (A : Option Addr) (l : List Nd) (cap P T : Nat) (t : Tm) (w : World) (hP : Blk w P 24 #[.int .i64 regs, .slice A l.length cap]) (hT : Blk w T 26 (tmA t)) (hA : NodesAt w A l) {k : Nat} (hk : k < l.length) :
 SaysAt Tryz.prog 58 #[.pointer (some ⟨P, 0, none⟩), .pointer (some ⟨T, 0, none⟩)] w k (keepB t (nd l k)) := by (
 intro W hW
 obtain ⟨b, off, n, rfl, hb, hn, hl⟩ := (hA.below hW).get hk
 rw [nd_get hn]
 obtain ⟨c0, c1, c2, c3, c4, c5⟩ := hl
 have hP' := hP.below hW hP.lt
 have hT' := hT.below hW hT.lt
 have p1 := hP'.cell 1
 have t0 := hT'.cell 0
 have t1 := hT'.cell 1
 have t2 := hT'.cell 2
 have lp := hP'.lt
 have lt := hT'.lt
 simp only [tmA, Yl] at p1 t0 t1 t2
 have u0 : (0 : Int) ≤ (k : Int) := by omega
 have u1 : (k : Int) < (l.length : Int) := by omega
 have hd : hasD n.op = !(decide (n.op < 1) || decide (9 < n.op)) := by (
 unfold hasD inB
 rw [Bool.eq_iff_iff]
 simp <;> omega)
 have Hd := hide hd
 clear hP hT hP' hT' hA hn hW hd
 show Calls Tryz.prog 58 #[.int .i64 k, .pointer (some ⟨P, 0, none⟩), .pointer (some ⟨T, 0, none⟩)] W _
 unfold keepB
 rw [Hd.out]
 by_cases h1 : n.op < 1
 · (
 have d1 : decide (n.op < 1) = true := by simp [h1]
 rw [d1]
 clear h1
 go_enter Tryz.func58, Tryz.ntmps58
 go_wp2
 go_ret
 exact ⟨rfl, (by (with_reducible repeat first | apply Qa | assumption | apply Qb | apply Qc | apply Qd | apply Qe | refine Qf ?_ (by assumption) ?_); all_goals (try simp only [Sz]); first | done | omega | (try simp only [Sz] at *); omega)⟩)
 · (
 have d1 : decide (n.op < 1) = false := by simp [h1]
 rw [d1]
 clear h1
 by_cases h2 : 9 < n.op
 · (
 have d2 : decide (9 < n.op) = true := by simp [h2]
 have d3 : decide (n.op > 9) = true := d2
 rw [d2]
 clear h2
 go_enter Tryz.func58, Tryz.ntmps58
 go_wp2
 go_ret
 exact ⟨rfl, (by (with_reducible repeat first | apply Qa | assumption | apply Qb | apply Qc | apply Qd | apply Qe | refine Qf ?_ (by assumption) ?_); all_goals (try simp only [Sz]); first | done | omega | (try simp only [Sz] at *); omega)⟩)
 · (
 have d2 : decide (9 < n.op) = false := by simp [h2]
 have d3 : decide (n.op > 9) = false := d2
 rw [d2]
 clear h2
 cases h3 : (n.d != t.a)
 · (
 go_enter Tryz.func58, Tryz.ntmps58
 go_wp2
 go_ret
 exact ⟨rfl, (by (with_reducible repeat first | apply Qa | assumption | apply Qb | apply Qc | apply Qd | apply Qe | refine Qf ?_ (by assumption) ?_); all_goals (try simp only [Sz]); first | done | omega | (try simp only [Sz] at *); omega)⟩)
 · (
 go_enter Tryz.func58, Tryz.ntmps58
 go_wp2
 go_ret
 exact ⟨by simp, (by (with_reducible repeat first | apply Qa | assumption | apply Qb | apply Qc | apply Qd | apply Qe | refine Qf ?_ (by assumption) ?_); all_goals (try simp only [Sz]); first | done | omega | (try simp only [Sz] at *); omega)⟩))))
theorem of31_says (L : Option Addr) (x : List Bool) (c g : Nat) (w : World) (hG : Blk w g 27 #[.slice L x.length c]) (hL : ValsAt w L (bools x)) {k : Nat} (hk : k < x.length) :
 SaysAt Tryz.prog 60 #[.pointer (some ⟨g, 0, none⟩)] w k (!yn x k) := by (
 intro W hW
 obtain ⟨b, off, rfl, hb, hc⟩ := (hL.below hW).bool hk
 have hG' := hG.below hW hG.lt
 have g0 := hG'.cell 0
 have lg := hG'.lt
 simp only [List.getElem?_toArray, List.getElem?_cons_zero] at g0
 have u0 : (0 : Int) ≤ (k : Int) := by omega
 have u1 : (k : Int) < (x.length : Int) := by omega
 clear hG hG' hL hW
 show Calls Tryz.prog 60 #[.int .i64 k, .pointer (some ⟨g, 0, none⟩)] W _
 go_enter Tryz.func60, Tryz.ntmps60
 go_wp2
 go_ret
 exact ⟨rfl, Below.refl _ _⟩)
theorem enter31 (W : World) (args : Array Value) : (callFunc 60 args).run Tryz.prog W = .ok (.enter 60 args) W := by kernel_rfl
theorem enter1 (W : World) (args : Array Value) : (callFunc 57 args).run Tryz.prog W = .ok (.enter 57 args) W := by kernel_rfl
theorem enter2 (W : World) (args : Array Value) : (callFunc 58 args).run Tryz.prog W = .ok (.enter 58 args) W := by kernel_rfl
theorem enter4 (W : World) (args : Array Value) : (callFunc 61 args).run Tryz.prog W = .ok (.enter 61 args) W := by kernel_rfl
theorem enter5 (W : World) (args : Array Value) : (callFunc 62 args).run Tryz.prog W = .ok (.enter 62 args) W := by kernel_rfl
theorem enter6 (W : World) (args : Array Value) : (callFunc 65 args).run Tryz.prog W = .ok (.enter 65 args) W := by kernel_rfl
theorem of3_any (regs : Int) (A : Option Addr) (n cap P : Nat) (L : Option Addr) (x : List Bool) (c : Nat) (w : World) (hn : n ≤ 65536) (hx : x.length = n) (hP : Blk w P 24 #[.int .i64 regs, .slice A n cap]) (hL : ValsAt w L (bools x)) :
 Calls Tryz.prog 59 #[.slice L n c, .pointer (some ⟨P, 0, none⟩)] w (BoolPost 4 (notL x) w) := by (
 subst hx
 have hE := fun (W : World) (hW : Below w.heap.size w W) (hb : Blk W w.heap.size 27 #[.slice L x.length c]) => each_any 60 #[.pointer (some ⟨w.heap.size, 0, none⟩)] (fun k => !yn x k) regs A x.length cap W hn enter31 (fun k hk => of31_says L x c w.heap.size W hb (hL.below hW) hk)
 have HE := hide hE
 have p0 := hP.cell 0
 have p1 := hP.cell 1
 have lp := hP.lt
 simp only [Yl] at p0 p1
 clear hE hP hL
 go_enter Tryz.func59, Tryz.ntmps59
 go_wp2_with (go_at_call 56; refine (HE.out _ (by (with_reducible repeat first | apply Qa | assumption | apply Qb | apply Qc | apply Qd | apply Qe | refine Qf ?_ (by assumption) ?_); all_goals (try simp only [Sz]); first | done | omega | (try simp only [Sz] at *); omega) (by repeat (first | ((with_reducible refine Blk.new' ?_); exact (by (try simp only [Sz]); first | done | omega | (try simp only [Sz] at *); omega)) | (with_reducible refine Blk.drew ?_) | (with_reducible refine Blk.drewN ?_ _) | (with_reducible refine Blk.alloc ?_ _) | with_reducible assumption))).mono ?_; rintro e w1 ⟨v, rfl, hr, hb⟩)
 go_ret
 exact ⟨_, rfl, hr.mono (by simp), (by (with_reducible repeat first | apply Qa | assumption | apply Qb | apply Qc | apply Qd | apply Qe | refine Qf ?_ (by assumption) ?_); all_goals (try simp only [Sz]); first | done | omega | (try simp only [Sz] at *); omega)⟩)
theorem of4_says (K R : Option Addr) (x y : List Bool) (c d g h : Nat) (w : World) (hG : Blk w g 27 #[.slice K x.length c]) (hH : Blk w h 27 #[.slice R y.length d]) (hK : ValsAt w K (bools x)) (hR : ValsAt w R (bools y)) {k : Nat} (hk : k < x.length) (hk2 : k < y.length) :
 SaysAt Tryz.prog 61 #[.pointer (some ⟨g, 0, none⟩), .pointer (some ⟨h, 0, none⟩)] w k (yn x k && yn y k) := by (
 intro W hW
 obtain ⟨b, off, rfl, hb, hc⟩ := (hK.below hW).bool hk
 obtain ⟨b2, off2, rfl, hb2, hc2⟩ := (hR.below hW).bool hk2
 have hG' := hG.below hW hG.lt
 have hH' := hH.below hW hH.lt
 have g0 := hG'.cell 0
 have h0 := hH'.cell 0
 have lg := hG'.lt
 have lh := hH'.lt
 simp only [List.getElem?_toArray, List.getElem?_cons_zero] at g0 h0
 have u0 : (0 : Int) ≤ (k : Int) := by omega
 have u1 : (k : Int) < (x.length : Int) := by omega
 have u2 : (k : Int) < (y.length : Int) := by omega
 clear hG hG' hH hH' hK hR hW
 show Calls Tryz.prog 61 #[.int .i64 k, .pointer (some ⟨g, 0, none⟩), .pointer (some ⟨h, 0, none⟩)] W _
 cases h1 : yn x k
 · (
 rw [h1] at hc
 go_enter Tryz.func61, Tryz.ntmps61
 go_wp2
 go_ret
 exact ⟨rfl, Below.refl _ _⟩)
 · (
 rw [h1] at hc
 go_enter Tryz.func61, Tryz.ntmps61
 go_wp2
 go_ret
 exact ⟨rfl, Below.refl _ _⟩))
def EdgeTab (w : World) (t : TypeId) (g GA n : Nat) (E : Nat → List Int) : Prop :=
 Blk w g t #[.slice (some ⟨GA, 0, none⟩) n n] ∧ GA < w.heap.size ∧ ∀ k, k < n → ∃ (R : Option Addr) (es : List Int) (c : Nat), w.cell? ⟨GA, k, none⟩ = some (.slice R es.length c) ∧ ValsAt w R (ints es) ∧ es.length ≤ 65536 ∧ ∀ m, m ∈ es ↔ m ∈ E k
theorem EdgeTab.below {w w' : World} {t : TypeId} {g GA n : Nat} {E : Nat → List Int} (h : EdgeTab w t g GA n E) (hb : Below w.heap.size w w') : EdgeTab w' t g GA n E := by (
 obtain ⟨h1, h2, h3⟩ := h
 refine ⟨h1.below hb h1.lt, Nat.lt_of_lt_of_le h2 hb.size, fun k hk => ?_⟩
 obtain ⟨R, es, c, c1, c2, c3⟩ := h3 k hk
 exact ⟨R, es, c, ((bcell hb).1 _ _ h2).trans c1, c2.below hb, c3⟩)
theorem any_same {es es' : List Int} {p : Int → Bool} (h : ∀ m, m ∈ es ↔ m ∈ es') : es.any p = es'.any p := by (
 rw [Bool.eq_iff_iff, List.any_eq_true, List.any_eq_true]
 simp only [h])
theorem len0_same {es es' : List Int} (h : ∀ m, m ∈ es ↔ m ∈ es') : (es.length == 0) = (es'.length == 0) := by (
 rw [Bool.eq_iff_iff]
 simp only [beq_iff_eq, List.length_eq_zero_iff, List.eq_nil_iff_forall_not_mem, h])
theorem of51_says (K D U : Option Addr) (x d u : List Bool) (kc dc uc g f : Nat) (cs : Array Value) (w : World) (hG : Blk w g 27 #[.slice K x.length kc]) (hF : Blk w f 49 cs) (f0 : cs[0]? = some (.slice D d.length dc)) (f1 : cs[1]? = some (.slice U u.length uc))
 (hK : ValsAt w K (bools x)) (hD : ValsAt w D (bools d)) (hU : ValsAt w U (bools u)) {m : Nat} (h1 : m < x.length) (h2 : m < d.length) (h3 : m < u.length) :
 SaysAt Tryz.prog 64 #[.pointer (some ⟨g, 0, none⟩), .pointer (some ⟨f, 0, none⟩)] w m (!yn x m || !yn d m && !yn u m) := by (
 intro W hW
 obtain ⟨b, off, rfl, hb, hc⟩ := (hK.below hW).bool h1
 obtain ⟨b2, off2, rfl, hb2, hc2⟩ := (hD.below hW).bool h2
 obtain ⟨b3, off3, rfl, hb3, hc3⟩ := (hU.below hW).bool h3
 have hG' := hG.below hW hG.lt
 have hF' := hF.below hW hF.lt
 have g0 := hG'.cell 0
 have q0 := (hF'.cell 0).trans f0
 have q1 := (hF'.cell 1).trans f1
 have lg := hG'.lt
 have lf := hF'.lt
 simp only [List.getElem?_toArray, List.getElem?_cons_zero] at g0
 have u0 : (0 : Int) ≤ (m : Int) := by omega
 have u1 : (m : Int) < (x.length : Int) := by omega
 have u2 : (m : Int) < (d.length : Int) := by omega
 have u3 : (m : Int) < (u.length : Int) := by omega
 clear hG hG' hF hF' hK hD hU hW f0 f1
 show Calls Tryz.prog 64 #[.int .i64 m, .pointer (some ⟨g, 0, none⟩), .pointer (some ⟨f, 0, none⟩)] W _
 cases e1 : yn x m
 · (
 rw [e1] at hc
 go_enter Tryz.func64, Tryz.ntmps64
 go_wp2
 go_ret
 exact ⟨rfl, Below.refl _ _⟩)
 · (
 rw [e1] at hc
 cases e2 : yn d m
 · (
 rw [e2] at hc2
 go_enter Tryz.func64, Tryz.ntmps64
 go_wp2
 go_ret
 exact ⟨rfl, Below.refl _ _⟩)
 · (
 rw [e2] at hc2
 go_enter Tryz.func64, Tryz.ntmps64
 go_wp2
 go_ret
 exact ⟨rfl, Below.refl _ _⟩)))
theorem of61_says (D : Option Addr) (d : List Bool) (dc f : Nat) (cs : Array Value) (w : World) (hF : Blk w f 49 cs) (f3 : cs[3]? = some (.slice D d.length dc)) (hD : ValsAt w D (bools d)) {m : Nat} (h2 : m < d.length) :
 SaysAt Tryz.prog 66 #[.pointer (some ⟨f, 0, none⟩)] w m (!yn d m) := by (
 intro W hW
 obtain ⟨b2, off2, rfl, hb2, hc2⟩ := (hD.below hW).bool h2
 have hF' := hF.below hW hF.lt
 have q0 := (hF'.cell 3).trans f3
 have lf := hF'.lt
 have u0 : (0 : Int) ≤ (m : Int) := by omega
 have u2 : (m : Int) < (d.length : Int) := by omega
 clear hF hF' hD hW f3
 show Calls Tryz.prog 66 #[.int .i64 m, .pointer (some ⟨f, 0, none⟩)] W _
 go_enter Tryz.func66, Tryz.ntmps66
 go_wp2
 go_ret
 exact ⟨rfl, Below.refl _ _⟩)
theorem enter51 (W : World) (args : Array Value) : (callFunc 64 args).run Tryz.prog W = .ok (.enter 64 args) W := by kernel_rfl
theorem enter61 (W : World) (args : Array Value) : (callFunc 66 args).run Tryz.prog W = .ok (.enter 66 args) W := by kernel_rfl
theorem of5_says (K D U : Option Addr) (x d u : List Bool) (kc dc uc g f a GA n : Nat) (E : Nat → List Int) (cs : Array Value) (w : World) (hG : Blk w g 27 #[.slice K x.length kc]) (hF : Blk w f 49 cs) (f0 : cs[0]? = some (.slice D d.length dc)) (f1 : cs[1]? = some (.slice U u.length uc))
 (hA : EdgeTab w 64 a GA n E) (hK : ValsAt w K (bools x)) (hD : ValsAt w D (bools d)) (hU : ValsAt w U (bools u)) (h1 : x.length = n) (h2 : d.length = n) (h3 : u.length = n) (hE : ∀ k m, m ∈ E k → 0 ≤ m ∧ m < (n : Int)) {k : Nat} (hk : k < n) :
 SaysAt Tryz.prog 62 #[.pointer (some ⟨f, 0, none⟩), .pointer (some ⟨a, 0, none⟩), .pointer (some ⟨g, 0, none⟩)] w k (yn d k && ((E k).length == 0 || (E k).any fun m => !yn x m.toNat || !yn d m.toNat && !yn u m.toNat)) := by (
 intro W hW
 obtain ⟨hB, hGA, hT⟩ := hA.below hW
 obtain ⟨R, es, c, hc, hR, hes, hsame⟩ := hT k hk
 have HD := hide (hD.below hW)
 obtain ⟨b2, off2, eD, hb2, hc2⟩ := HD.out.bool (k := k) (by omega)
 subst eD
 have hG' := hG.below hW hG.lt
 have hF' := hF.below hW hF.lt
 have q0 := (hF'.cell 0).trans f0
 have a0 := hB.cell 0
 have lf := hF'.lt
 have la := hB.lt
 simp only [List.getElem?_toArray, List.getElem?_cons_zero] at a0
 have u0 : (0 : Int) ≤ (k : Int) := by omega
 have u1 : (k : Int) < (n : Int) := by omega
 have u2 : (k : Int) < (d.length : Int) := by omega
 rw [← any_same hsame, ← len0_same hsame]
 have hS := some_any 64 #[.pointer (some ⟨g, 0, none⟩), .pointer (some ⟨f, 0, none⟩)] (fun m => !yn x m.toNat || !yn d m.toNat && !yn u m.toNat) R es c W (by unfold maxLen; omega) hR enter51 (fun m hm => by
  obtain ⟨m0, m1⟩ := hE k m ((hsame m).1 hm)
  obtain ⟨q, rfl⟩ := Int.eq_ofNat_of_zero_le m0
  exact of51_says K _ U x d u kc dc uc g f cs W hG' hF' f0 f1 (hK.below hW) HD.out (hU.below hW) (by omega) (by omega) (by omega))
 have HS := hide hS
 generalize (es.any fun m => !yn x m.toNat || !yn d m.toNat && !yn u m.toNat) = q at *
 clear hG hG' hF hF' hK hU hW f0 f1 hT hA hsame hB hS hD HD hE hR
 show Calls Tryz.prog 62 #[.int .i64 k, .pointer (some ⟨f, 0, none⟩), .pointer (some ⟨a, 0, none⟩), .pointer (some ⟨g, 0, none⟩)] W _
 cases e2 : yn d k
 · (
 rw [e2] at hc2
 go_enter Tryz.func62, Tryz.ntmps62
 go_wp2_with fail
 go_ret
 exact ⟨rfl, Below.refl _ _⟩)
 · (
 rw [e2] at hc2
 cases e3 : ((es.length : Int) == 0)
 · (
 have e4 : (es.length == 0) = false := by simp at e3 ⊢; exact e3
 rw [e4]
 go_enter Tryz.func62, Tryz.ntmps62
 go_wp2_with (go_at_call 63; refine (HS.out).mono ?_; rintro e w1 ⟨rfl, hb1⟩)
 go_ret
 exact ⟨by simp, hb1⟩)
 · (
 have e4 : (es.length == 0) = true := by simp at e3 ⊢; exact e3
 rw [e4]
 go_enter Tryz.func62, Tryz.ntmps62
 go_wp2_with fail
 go_ret
 exact ⟨rfl, Below.refl _ _⟩)))
theorem of6_says (D R0 : Option Addr) (d y : List Bool) (dc yc h f a GA n : Nat) (E : Nat → List Int) (cs : Array Value) (w : World) (hH : Blk w h 27 #[.slice R0 y.length yc]) (hF : Blk w f 49 cs) (f3 : cs[3]? = some (.slice D d.length dc))
 (hA : EdgeTab w 64 a GA n E) (hY : ValsAt w R0 (bools y)) (hD : ValsAt w D (bools d)) (h1 : y.length = n) (h2 : d.length = n) (hE : ∀ k m, m ∈ E k → 0 ≤ m ∧ m < (n : Int)) {k : Nat} (hk : k < n) :
 SaysAt Tryz.prog 65 #[.pointer (some ⟨f, 0, none⟩), .pointer (some ⟨h, 0, none⟩), .pointer (some ⟨a, 0, none⟩)] w k (yn d k && (yn y k || (E k).any fun m => !yn d m.toNat)) := by (
 intro W hW
 obtain ⟨hB, hGA, hT⟩ := hA.below hW
 obtain ⟨R, es, c, hc, hR, hes, hsame⟩ := hT k hk
 have HD := hide (hD.below hW)
 obtain ⟨b2, off2, eD, hb2, hc2⟩ := HD.out.bool (k := k) (by omega)
 subst eD
 obtain ⟨b3, off3, rfl, hb3, hc3⟩ := (hY.below hW).bool (k := k) (by omega)
 have hH' := hH.below hW hH.lt
 have hF' := hF.below hW hF.lt
 have q0 := (hF'.cell 3).trans f3
 have a0 := hB.cell 0
 have h0 := hH'.cell 0
 have lf := hF'.lt
 have la := hB.lt
 have lh := hH'.lt
 simp only [List.getElem?_toArray, List.getElem?_cons_zero] at a0 h0
 have u0 : (0 : Int) ≤ (k : Int) := by omega
 have u1 : (k : Int) < (n : Int) := by omega
 have u2 : (k : Int) < (d.length : Int) := by omega
 have u3 : (k : Int) < (y.length : Int) := by omega
 rw [← any_same hsame]
 have hS := some_any 66 #[.pointer (some ⟨f, 0, none⟩)] (fun m => !yn d m.toNat) R es c W (by unfold maxLen; omega) hR enter61 (fun m hm => by
  obtain ⟨m0, m1⟩ := hE k m ((hsame m).1 hm)
  obtain ⟨q, rfl⟩ := Int.eq_ofNat_of_zero_le m0
  exact of61_says _ d dc f cs W hF' f3 HD.out (by omega))
 have HS := hide hS
 generalize (es.any fun m => !yn d m.toNat) = q at *
 clear hF hF' hH hH' hW f3 hT hA hsame hB hS hD HD hE hR hY
 show Calls Tryz.prog 65 #[.int .i64 k, .pointer (some ⟨f, 0, none⟩), .pointer (some ⟨h, 0, none⟩), .pointer (some ⟨a, 0, none⟩)] W _
 cases e2 : yn d k
 · (
 rw [e2] at hc2
 go_enter Tryz.func65, Tryz.ntmps65
 go_wp2_with fail
 go_ret
 exact ⟨rfl, Below.refl _ _⟩)
 · (
 rw [e2] at hc2
 cases e3 : yn y k
 · (
 rw [e3] at hc3
 go_enter Tryz.func65, Tryz.ntmps65
 go_wp2_with (go_at_call 63; refine (HS.out).mono ?_; rintro e w1 ⟨rfl, hb1⟩)
 go_ret
 exact ⟨by simp, hb1⟩)
 · (
 rw [e3] at hc3
 go_enter Tryz.func65, Tryz.ntmps65
 go_wp2_with fail
 go_ret
 exact ⟨rfl, Below.refl _ _⟩)))
end
section
open Go.RowKit
def ncells : List Nd → List Value
 | [] => []
 | n :: l => n.cells ++ ncells l
theorem Nd.cells_len (n : Nd) : n.cells.length = 6 := rfl
theorem ncells_len (l : List Nd) : (ncells l).length = l.length * 6 := by (
 induction l with
 | nil => rfl
 | cons n l ih => simp only [ncells, List.length_append, Nd.cells_len, ih, List.length_cons]; omega)
theorem ncells_append (a b : List Nd) : ncells (a ++ b) = ncells a ++ ncells b := by (
 induction a with
 | nil => rfl
 | cons n a ih => simp only [List.cons_append, ncells, ih, List.append_assoc])
theorem ncells_get : ∀ (l : List Nd) (i j : Nat), j < 6 → (ncells l)[i * 6 + j]? = (l[i]?).bind fun n => n.cells[j]?
 | [], i, j, hj => by simp [ncells]
 | n :: l, 0, j, hj => by (
 simp only [ncells, Nat.zero_mul, Nat.zero_add, List.getElem?_cons_zero, Option.bind_some]
 rw [List.getElem?_append_left (by rw [Nd.cells_len]; exact hj)])
 | n :: l, i + 1, j, hj => by (
 simp only [ncells, List.getElem?_cons_succ]
 rw [List.getElem?_append_right (by rw [Nd.cells_len]; omega), Nd.cells_len, show (i + 1) * 6 + j - 6 = i * 6 + j by omega]
 exact ncells_get l i j hj)
theorem ncells_one (l : List Nd) : ∀ u ∈ ncells l, u.oneCell' = true := by (
 induction l with
 | nil => intro u hu; cases hu
 | cons n l ih =>
  intro u hu
  simp only [ncells, List.mem_append] at hu
  rcases hu with hu | hu
  · (
 simp only [Nd.cells, List.mem_cons, List.not_mem_nil, or_false] at hu
 rcases hu with rfl | rfl | rfl | rfl | rfl | rfl <;> rfl)
  · exact ih u hu)
def Nd.put (n : Nd) : Nat → Int → Nd
 | 0, x => { n with op := x }
 | 1, x => { n with d := x }
 | 2, x => { n with a := x }
 | 3, x => { n with b := x }
 | 4, x => { n with t := x }
 | _, x => { n with e := x }
theorem Nd.put_cells (n : Nd) (j : Nat) (x : Int) (hj : j < 6) : (n.put j x).cells = n.cells.set j (.int .i64 x) := by (
 rcases j with _ | _ | _ | _ | _ | _ | j <;> first | rfl | omega)
theorem lies_iff {n : Nd} {w : World} {b off : Nat} : n.lies w b off ↔ ∀ j, j < 6 → w.cell? ⟨b, off + j, none⟩ = n.cells[j]? := by (
 constructor
 · (
 rintro ⟨h0, h1, h2, h3, h4, h5⟩ j hj
 match j, hj with
 | 0, _ => exact h0
 | 1, _ => exact h1
 | 2, _ => exact h2
 | 3, _ => exact h3
 | 4, _ => exact h4
 | 5, _ => exact h5)
 · (
 intro h
 exact ⟨h 0 (by omega), h 1 (by omega), h 2 (by omega), h 3 (by omega), h 4 (by omega), h 5 (by omega)⟩))
theorem NodesAt.cell {w : World} {b off : Nat} {l : List Nd} (h : NodesAt w (some ⟨b, off, none⟩) l) (k : Nat) (hk : k < l.length * 6) : w.cell? ⟨b, off + k, none⟩ = (ncells l)[k]? := by (
 have hd : k / 6 < l.length := by omega
 obtain ⟨b', off', n, e, _, hn, hl⟩ := h.get hd
 injection e with e
 injection e with e1 e2
 subst e1 e2
 have h6 : k % 6 < 6 := Nat.mod_lt _ (by omega)
 have := lies_iff.1 hl (k % 6) h6
 rw [show off + k / 6 * 6 + k % 6 = off + k by omega] at this
 have hg := ncells_get l (k / 6) (k % 6) h6
 rw [show k / 6 * 6 + k % 6 = k by omega, hn] at hg
 rw [this, hg]
 rfl)
def NRow (w : World) (base : Nat) (e : TypeId) (v : Value) (l : List Nd) : Prop := w.ownsRow base e 6 v l.length (ncells l)
section
variable {w w' : World} {base : Nat} {e : TypeId} {v : Value} {l : List Nd}
theorem NRow.nil_ (w : World) (base : Nat) (e : TypeId) : NRow w base e (.slice none 0 0) [] := ⟨rfl, .inl ⟨rfl, rfl⟩⟩
theorem NRow.open (h : NRow w base e v l) : (v = .slice none 0 0 ∧ l = []) ∨ ∃ g cap cur, v = .slice (some ⟨g, 0, none⟩) l.length cap ∧ base ≤ g ∧ w.heap[g]? = some (.cells cur e (0, 0)) ∧ l.length ≤ cap ∧ cap ≤ maxLen ∧ cur.size = cap * 6 ∧
 ∀ k, k < l.length * 6 → cur[k]? = (ncells l)[k]? := by (
 obtain ⟨hl, ⟨hv, hn⟩ | ⟨g, cap, cur, hv, hb, hh, h1, h2, h3, h4⟩⟩ := h
 · exact .inl ⟨hv, List.eq_nil_of_length_eq_zero hn⟩
 · (
 refine .inr ⟨g, cap, cur, hv, hb, hh, h1, h2, h3, fun k hk => ?_⟩
 rw [← h4, List.getElem?_take, if_pos hk, Array.getElem?_toList]))
theorem NRow.close {g cap : Nat} {cur : Array Value} (hb : base ≤ g) (hh : w.heap[g]? = some (.cells cur e (0, 0))) (h1 : l.length ≤ cap) (h2 : cap ≤ maxLen) (h3 : cur.size = cap * 6)
 (h4 : ∀ k, k < l.length * 6 → cur[k]? = (ncells l)[k]?) : NRow w base e (.slice (some ⟨g, 0, none⟩) l.length cap) l := by (
 refine ⟨ncells_len l, .inr ⟨g, cap, cur, rfl, hb, hh, h1, h2, h3, ?_⟩⟩
 refine List.ext_getElem? fun k => ?_
 rw [List.getElem?_take]
 split
 · (
 rename_i hk
 rw [Array.getElem?_toList]
 exact h4 k hk)
 · (
 rename_i hk
 rw [List.getElem?_eq_none (by rw [ncells_len]; omega)]))
theorem NRow.lt (h : NRow w base e v l) : ∀ k, v.ownBlock = some k → base ≤ k ∧ k < w.heap.size := by (
 rintro k hk
 rcases h.open with ⟨rfl, _⟩ | ⟨g, cap, cur, rfl, hb, hh, _⟩
 · simp [Value.ownBlock] at hk
 · (
 simp [Value.ownBlock] at hk
 subst hk
 exact ⟨hb, lt_of_heap hh⟩))
theorem NRow.of_block (h : NRow w base e v l) (hk : ∀ k, v.ownBlock = some k → w'.heap[k]? = w.heap[k]?) : NRow w' base e v l := by (
 obtain ⟨hl, ⟨hv, hn⟩ | ⟨g, cap, cur, hv, hb, hh, r⟩⟩ := h
 · exact ⟨hl, .inl ⟨hv, hn⟩⟩
 · exact ⟨hl, .inr ⟨g, cap, cur, hv, hb, (hk g (by rw [hv]; rfl)).trans hh, r⟩⟩)
theorem NRow.kept {row : Option Nat} (h : NRow w base e v l) (hg : w.grownBy w' row) (hne : v.ownBlock = none ∨ v.ownBlock ≠ row) : NRow w' base e v l :=
 h.of_block fun k hk => hg.block k (h.lt k hk).2 (by
  rcases hne with hn | hn
  · rw [hn] at hk; cases hk
  · rw [← hk]; exact hn)
theorem NRow.below {B : Nat} (h : NRow w base e v l) (hb : Below B w w') (hB : ∀ k, v.ownBlock = some k → k < B) : NRow w' base e v l := h.of_block fun k hk => hb.block k (hB k hk)
theorem NRow.below' (h : NRow w base e v l) (hb : Below w.heap.size w w') : NRow w' base e v l := h.of_block fun k hk => hb.block k (h.lt k hk).2
theorem NRow.alloc (h : NRow w base e v l) (o : Obj) : NRow (w.alloc o) base e v l := h.of_block fun k hk => Below.heap_alloc w o k (h.lt k hk).2
theorem NRow.drew (h : NRow w base e v l) : NRow w.drew base e v l := h
theorem NRow.drewN (h : NRow w base e v l) (n : Nat) : NRow (w.drewN n) base e v l := h
theorem NRow.far (h : NRow w base e v l) {p : Addr} (hp : v.ownBlock ≠ some p.block) (u : Value) : NRow (w.setCell p u) base e v l :=
 h.of_block fun k hk => Below.heap_setCell w p u k (by rintro rfl; exact hp hk)
theorem NRow.mono {base' : Nat} (h : NRow w base e v l) (hb : base' ≤ base) : NRow w base' e v l := by (
 obtain ⟨hl, h | ⟨g, cap, cur, hv, hg, r⟩⟩ := h
 · exact ⟨hl, .inl h⟩
 · exact ⟨hl, .inr ⟨g, cap, cur, hv, Nat.le_trans hb hg, r⟩⟩)
theorem NRow.shape (h : NRow w base e v l) : ∃ A cap, v = .slice A l.length cap ∧ l.length ≤ cap ∧ cap ≤ maxLen := by (
 rcases h.open with ⟨rfl, rfl⟩ | ⟨g, cap, cur, rfl, _, _, hc, hm, _⟩
 · exact ⟨none, 0, rfl, Nat.le_refl _, Nat.zero_le _⟩
 · exact ⟨_, cap, rfl, hc, hm⟩)
theorem NRow.nodes {A : Option Addr} {n cap : Nat} (h : NRow w base e (.slice A n cap) l) : NodesAt w A l := fun hn => by (
 rcases h.open with ⟨_, rfl⟩ | ⟨g, cap, cur, hv, hb, hh, _, _, _, hc⟩
 · exact absurd rfl hn
 · (
 injection hv with hA
 subst hA
 refine ⟨g, 0, rfl, lt_of_heap hh, fun i n hi => lies_iff.2 fun j hj => ?_⟩
 have hlt : i < l.length := (List.getElem?_eq_some_iff.1 hi).1
 have := hc (i * 6 + j) (by omega)
 rw [ncells_get l i j hj, hi] at this
 rw [Nat.zero_add]
 simp only [World.cell?, hh, this]
 simp))
theorem NRow.get (h : NRow w base e v l) {k : Nat} (hk : k < l.length) :
 ∃ g cap n, v = .slice (some ⟨g, 0, none⟩) l.length cap ∧ base ≤ g ∧ g < w.heap.size ∧ l[k]? = some n ∧ n.lies w g (k * 6) ∧ ∀ j, j < l.length * 6 → w.frozen? ⟨g, j, none⟩ = false := by (
 have hN := h.shape
 rcases h.open with ⟨_, rfl⟩ | ⟨g, cap, cur, rfl, hb, hh, hcl, hcm, hcs, hc⟩
 · simp at hk
 · (
 have hn := (h.nodes).get hk
 obtain ⟨b, off, n, e1, _, hn, hl⟩ := hn
 injection e1 with e1
 injection e1 with e1 e2
 subst e1 e2
 rw [Nat.zero_add] at hl
 exact ⟨g, cap, n, rfl, hb, lt_of_heap hh, hn, hl, fun j hj => by simp [World.frozen?, hh]⟩))
theorem NRow.store {g n cap : Nat} (h : NRow w base e (.slice (some ⟨g, 0, none⟩) n cap) l) {k j : Nat} {x : Nd} (hk : l[k]? = some x) (hj : j < 6) (z : Int) :
 NRow (w.setCell ⟨g, k * 6 + j, none⟩ (.int .i64 z)) base e (.slice (some ⟨g, 0, none⟩) n cap) (l.set k (x.put j z)) := by (
 have hlt : k < l.length := (List.getElem?_eq_some_iff.1 hk).1
 rcases h.open with ⟨hv, _⟩ | ⟨g', cap', cur, hv, hb, hh, h1, h2, h3, hc⟩
 · cases hv
 · (
 injection hv with hA hn hcp
 injection hA with hA
 injection hA with hg _
 subst hg hn hcp
 have := NRow.close (w := w.setCell ⟨g, k * 6 + j, none⟩ (.int .i64 z)) (base := base) (e := e) (g := g) (cap := cap) (l := l.set k (x.put j z)) hb (heap_setCell_own hh _) (by simpa using h1) h2 (by simpa using h3) (fun i hi => ?_)
 · rwa [List.length_set] at this
 · (
 rw [List.length_set] at hi
 rw [Array.getElem?_setIfInBounds]
 have e6 : i % 6 < 6 := Nat.mod_lt _ (by omega)
 have ei : i = i / 6 * 6 + i % 6 := by omega
 have hget : (ncells (l.set k (x.put j z)))[i]? = ((l.set k (x.put j z))[i / 6]?).bind fun n => n.cells[i % 6]? := by (
 have := ncells_get (l.set k (x.put j z)) (i / 6) (i % 6) e6
 rwa [← ei] at this)
 have hold : cur[i]? = (l[i / 6]?).bind fun n => n.cells[i % 6]? := by (
 rw [hc i hi]
 have := ncells_get l (i / 6) (i % 6) e6
 rwa [← ei] at this)
 rw [hget, List.getElem?_set]
 by_cases hik : k = i / 6
 · (
 rw [if_pos hik, if_pos hlt, Option.bind_some, Nd.put_cells _ _ _ hj, List.getElem?_set]
 by_cases hij : j = i % 6
 · rw [if_pos (show k * 6 + j = i by omega), if_pos (show k * 6 + j < cur.size by omega), if_pos hij, if_pos (by rw [Nd.cells_len]; exact hj)]
 · (
 rw [if_neg hij, if_neg (by omega), hold, ← hik, hk]
 rfl))
 · rw [if_neg hik, if_neg (by omega), hold])))
theorem NRow.put6 {g n cap : Nat} (h : NRow w base e (.slice (some ⟨g, 0, none⟩) n cap) l) {k : Nat} {x : Nd} (hk : l[k]? = some x) (y : Nd) :
 NRow ((((((w.setCell ⟨g, k * 6, none⟩ (.int .i64 y.op)).setCell ⟨g, k * 6 + 1, none⟩ (.int .i64 y.d)).setCell ⟨g, k * 6 + 2, none⟩ (.int .i64 y.a)).setCell ⟨g, k * 6 + 3, none⟩ (.int .i64 y.b)).setCell ⟨g, k * 6 + 4, none⟩ (.int .i64 y.t)).setCell ⟨g, k * 6 + 5, none⟩ (.int .i64 y.e))
  base e (.slice (some ⟨g, 0, none⟩) n cap) (l.set k y) := by (
 have hlt : k < l.length := (List.getElem?_eq_some_iff.1 hk).1
 have hs : ∀ (z : Nd), (l.set k z)[k]? = some z := fun z => by rw [List.getElem?_set]; simp [hlt]
 have h0 := h.store hk (show 0 < 6 by omega) y.op
 rw [Nat.add_zero] at h0
 have h1 := h0.store (hs _) (show 1 < 6 by omega) y.d
 rw [List.set_set] at h1
 have h2 := h1.store (hs _) (show 2 < 6 by omega) y.a
 rw [List.set_set] at h2
 have h3 := h2.store (hs _) (show 3 < 6 by omega) y.b
 rw [List.set_set] at h3
 have h4 := h3.store (hs _) (show 4 < 6 by omega) y.t
 rw [List.set_set] at h4
 have h5 := h4.store (hs _) (show 5 < 6 by omega) y.e
 rw [List.set_set] at h5
 exact h5)
theorem NRow.ne_blk {g : Nat} {t : TypeId} {cs : Array Value} (h : NRow w base e v l) (hg : Blk w g t cs) (hne : e ≠ t) : v.ownBlock ≠ some g := by (
 rcases h.open with ⟨rfl, _⟩ | ⟨g', cap, cur, rfl, _, hh, _⟩
 · simp [Value.ownBlock]
 · (
 intro he
 simp [Value.ownBlock] at he
 subst he
 have hB : Blk w g' e cur := by unfold Blk; exact hh
 exact hB.ne_ hg hne rfl))
theorem NRow.ne_row {base' : Nat} {e' : TypeId} {u : Value} {ys : List Value} (h : NRow w base e v l) (h' : Row w base' e' u ys) (hne : e ≠ e') : v.ownBlock = none ∨ v.ownBlock ≠ u.ownBlock := by (
 rcases h' with ⟨rfl, _⟩ | ⟨g', o, cap, cur, rfl, _, hh, _⟩
 · (
 rcases hv : v.ownBlock with _ | k
 · exact .inl rfl
 · exact .inr (by simp [Value.ownBlock]))
 · exact .inr (h.ne_blk (cs := cur) (t := e') (by unfold Blk; exact hh) hne))
theorem NRow.empty {g : Nat} (hg : g = w.heap.size) (hb : base ≤ w.heap.size) : NRow (w.alloc (.cells #[] e)) base e (.slice (some ⟨g, 0, none⟩) 0 0) [] := by (
 subst hg
 exact NRow.close (l := []) (cap := 0) hb (heap_alloc_new w _) (by simp) (by simp) rfl (fun k hk => by simp at hk))
theorem run_append_nodes {P : Program} (t ty : TypeId) (i : TypeInfo) (z : Value) (bytes : Nat) (ht : P.underlying t = some (.slice e)) (hi : P.info? e = some i) (hz : i.zero = some z)
 (hsize : i.size = 6) (hby : i.bytes = bytes) (hzs : z.cells.size = 6) (hr : NRow w base e v l) (A : Option Addr) (c : Nat) (news : List Nd) (hn : NodesAt w A news)
 (h63 : l.length + news.length ≤ maxLen) (hbytes : (l.length + news.length) * bytes ≤ 140737488355328) (hbase : base ≤ w.heap.size) :
 ∃ v' w', (Builtin.append_ #[t, t] ty #[v, .slice A news.length c]).run P w = .ok v' w' ∧ NRow w' base e v' (l ++ news) ∧ w.grownBy w' v.ownBlock ∧ (v'.ownBlock = v.ownBlock ∨ ∀ k, v'.ownBlock = some k → w.heap.size ≤ k) := by (
 by_cases hne : news = []
 · (
 subst hne
 refine ⟨v, w, ?_, by simpa using hr, World.grownBy.refl w _, .inl rfl⟩
 rcases hr.open with ⟨rfl, rfl⟩ | ⟨g, cap, cur, rfl, _, _, hnc, _⟩
 · rcases A with _ | A <;> simp [Builtin.append_, run_underlying ht, sizeOf, typeInfo, hi, hsize, Builtin.lenOf, Builtin.firstCells, loadCells, loadCellsFrom]
 · rcases A with _ | A <;> simp [Builtin.append_, run_underlying ht, sizeOf, typeInfo, hi, hsize, Builtin.lenOf, Builtin.firstCells, loadCells, loadCellsFrom, hnc, storeCells])
 · (
 obtain ⟨b, off, rfl, hb, hcell⟩ := hn hne
 have hnews : ∀ j u, (ncells news)[j]? = some u → w.cell? ((⟨b, off, none⟩ : Addr).add j) = some u := fun j u hj => by (
 rw [Addr.add_lit, ← hj]
 exact NodesAt.cell hn j (by rw [← ncells_len]; exact (List.getElem?_eq_some_iff.1 hj).1))
 obtain ⟨v', w', hrun, h2, h3, h4, h5⟩ := run_append_own_at (P := P) w base t ty e i z 6 bytes ht hi hz hsize hby hzs (by omega) v l.length (ncells l) hr ⟨b, off, none⟩ news.length c (ncells news) (ncells_len _) hnews (ncells_one _) h63 hbytes hbase
 refine ⟨v', w', hrun, ?_, h3, h5.imp id fun h k hk => by rw [h] at hk; injection hk with hk; omega⟩
 show w'.ownsRow base e 6 v' (l ++ news).length (ncells (l ++ news))
 rw [List.length_append, ncells_append]
 exact h2))
theorem wp_append_nodes {P : Program} {o : Oper} {a : Act} {K : Act → World → Prop} {Q : Exit → Act → World → Prop} (s x : Operand) (t : TypeId)
 (ho : o.op = .call { callee := .builtin .append, args := #[s, x], argTypes := #[t, t] })
 (i : TypeInfo) (z : Value) (bytes : Nat) (ht : P.underlying t = some (.slice e)) (hi : P.info? e = some i) (hz : i.zero = some z)
 (hsize : i.size = 6) (hby : i.bytes = bytes) (hzs : z.cells.size = 6) (hs : a.eval s = v) (hr : NRow w base e v l) (A : Option Addr) (n c : Nat) (news : List Nd) (hx : a.eval x = .slice A n c)
 (hnl : n = news.length) (hn : NodesAt w A news)
 (h63 : l.length + news.length ≤ maxLen) (hbytes : (l.length + news.length) * bytes ≤ 140737488355328) (hbase : base ≤ w.heap.size)
 (h : ∀ v' w', NRow w' base e v' (l ++ news) → w.grownBy w' v.ownBlock → (v'.ownBlock = v.ownBlock ∨ ∀ k, v'.ownBlock = some k → w.heap.size ≤ k) → K (a.put o.dst v') w') : o.wp P a w K Q := by (
 subst hnl
 obtain ⟨v', w', hrun, h2, h3, h4⟩ := run_append_nodes (P := P) t o.type i z bytes ht hi hz hsize hby hzs hr A c news hn h63 hbytes hbase
 unfold Oper.wp execOp
 simp only [ho, resolve, invoke, builtin, Sem.run_bind, Sem.run_pure, Result.andThen_ok, List.map_toArray, List.map_cons, List.map_nil, hs, hx, hrun]
 exact h v' w' h2 h3 h4)
theorem wpList_append_nodes {P : Program} {ops : Array Oper} {rest : List Oper} {o : Oper} {a : Act} {Q : Exit → Act → World → Prop} (hgd : o.guard = none) (s x : Operand) (t : TypeId)
 (ho : o.op = .call { callee := .builtin .append, args := #[s, x], argTypes := #[t, t] })
 (i : TypeInfo) (z : Value) (bytes : Nat) (ht : P.underlying t = some (.slice e)) (hi : P.info? e = some i) (hz : i.zero = some z)
 (hsize : i.size = 6) (hby : i.bytes = bytes) (hzs : z.cells.size = 6) (hs : a.eval s = v) (hr : NRow w base e v l) (A : Option Addr) (n c : Nat) (news : List Nd) (hx : a.eval x = .slice A n c)
 (hnl : n = news.length) (hn : NodesAt w A news)
 (h63 : l.length + news.length ≤ maxLen) (hbytes : (l.length + news.length) * bytes ≤ 140737488355328) (hbase : base ≤ w.heap.size)
 (h : ∀ v' w', NRow w' base e v' (l ++ news) → w.grownBy w' v.ownBlock → (v'.ownBlock = v.ownBlock ∨ ∀ k, v'.ownBlock = some k → w.heap.size ≤ k) → wpList P ops Q rest (a.put o.dst v') w') :
 wpList P ops Q (o :: rest) a w :=
 wpList_plain hgd fun _ hK => wp_append_nodes s x t ho i z bytes ht hi hz hsize hby hzs hs hr A n c news hx hnl hn h63 hbytes hbase fun v' w' h2 h3 h4=> hK _ _ (h v' w' h2 h3 h4)
theorem step_append_nodes {P : Program} {ops : Array Oper} {o : Oper} {a : Act} {K : Act → World → Prop} {Q : Exit → Act → World → Prop} {E : Prop} (hgd : o.guard = none) (s x : Operand) (t : TypeId)
 (ho : o.op = .call { callee := .builtin .append, args := #[s, x], argTypes := #[t, t] })
 (i : TypeInfo) (z : Value) (bytes : Nat) (ht : P.underlying t = some (.slice e)) (hi : P.info? e = some i) (hz : i.zero = some z)
 (hsize : i.size = 6) (hby : i.bytes = bytes) (hzs : z.cells.size = 6) (hs : a.eval s = v) (hr : NRow w base e v l) (A : Option Addr) (n c : Nat) (news : List Nd) (hx : a.eval x = .slice A n c)
 (hnl : n = news.length) (hn : NodesAt w A news)
 (h63 : l.length + news.length ≤ maxLen) (hbytes : (l.length + news.length) * bytes ≤ 140737488355328) (hbase : base ≤ w.heap.size)
 (h : ∀ v' w', NRow w' base e v' (l ++ news) → w.grownBy w' v.ownBlock → (v'.ownBlock = v.ownBlock ∨ ∀ k, v'.ownBlock = some k → w.heap.size ≤ k) → K (a.put o.dst v') w') :
 if Region.wanted o (yielded ops a.tmps) = true then Oper.wp P o a w K Q else E := by (
 have hw : Region.wanted o (yielded ops a.tmps) = true := by simp [Region.wanted, hgd]
 rw [if_pos hw]
 exact wp_append_nodes s x t ho i z bytes ht hi hz hsize hby hzs hs hr A n c news hx hnl hn h63 hbytes hbase h)
theorem nodes_one' {w : World} {n : Nd} {t : TypeId} {g : Nat} (h : g = w.heap.size) : NodesAt (w.alloc (.cells #[.int .i64 n.op, .int .i64 n.d, .int .i64 n.a, .int .i64 n.b, .int .i64 n.t, .int .i64 n.e] t)) (some ⟨g, 0, none⟩) [n] := by (
 subst h
 refine NodesAt.mk (by simp) fun i m hi => ?_
 rcases i with _ | i
 · (
 simp at hi
 subst hi
 simp [Nd.lies])
 · simp at hi)
end
theorem NodesAt.nil {w : World} {A : Option Addr} : NodesAt w A [] := fun h => absurd rfl h
end
section
open Go.RowKit
set_option maxHeartbeats 2000000
theorem ext_get {α : Type} {x y : List α} (hl : x.length = y.length) (h : ∀ (i : Nat), i < x.length → x[i]? = y[i]?) : x = y := by (
 apply List.ext_getElem?
 intro i
 by_cases hi : i < x.length
 · exact h i hi
 · rw [List.getElem?_eq_none (by omega), List.getElem?_eq_none (by omega)])
theorem ValsAt.int {w : World} {A : Option Addr} {l : List Int} (h : ValsAt w A (ints l)) {k : Nat} (hk : k < l.length) :
 ∃ b off z, A = some ⟨b, off, none⟩ ∧ b < w.heap.size ∧ l[k]? = some z ∧ w.cell? ⟨b, off + k, none⟩ = some (.int .i64 z) := by (
 obtain ⟨b, off, v, e, hb, hv, hc⟩ := h.get (k := k) (by rw [ints_length]; exact hk)
 rw [ints_get, List.getElem?_eq_getElem hk] at hv
 simp at hv
 subst hv
 exact ⟨b, off, l[k], e, hb, List.getElem?_eq_getElem hk, hc⟩)
theorem infoNode : (Tryz.prog.info? 57).map (fun i => (i.zero, i.size, i.bytes)) = some (some (.agg #[.int .i64 0, .int .i64 0, .int .i64 0, .int .i64 0, .int .i64 0, .int .i64 0]), 6, 48) := by kernel_rfl
def NRowPost (B : Nat) (t : TypeId) (l : List Nd) (w : World) (e : Ending) (w' : World) : Prop := ∃ v, e = .returned v ∧ NRow w' B t v l ∧ Below w.heap.size w w'
theorem Clone_any (A : Option Addr) (l : List Nd) (cap : Nat) (w : World) (hA : NodesAt w A l) (hl : 1 ≤ l.length) (hl2 : l.length ≤ 65536) :
 Calls Tryz.prog 43 #[.slice A l.length cap] w (NRowPost w.heap.size 57 l w) := by (
 obtain ⟨i3, h3i, h3z, h3s, h3b⟩ := info_parts infoNode
 obtain ⟨b, off, n0, rfl, hb, hn0, hlie⟩ := hA.get (k := 0) (by omega)
 have HN := hide hn0
 clear hn0 hlie
 have hne := fun W => Lib.run_eql_slice_nil (P := Tryz.prog) W
 go_enter Tryz.func43, Tryz.ntmps43
 go_wp2_with (at_builtin; refine wpList_append_nodes (v := .slice (some ⟨w.heap.size, 0, none⟩) 0 0) (l := []) (base := w.heap.size) rfl _ _ _ rfl i3 _ 48 Tryz.underlying22 h3i h3z h3s h3b rfl rfl (NRow.empty rfl (Nat.le_refl _)) (some ⟨b, off, none⟩) l.length cap l rfl rfl (hA.below (by (with_reducible repeat first | apply Qa | assumption | apply Qb | apply Qc | apply Qd | apply Qe | refine Qf ?_ (by assumption) ?_); all_goals (try simp only [Sz]); first | done | omega | (try simp only [Sz] at *); omega)) (by simp [maxLen]; omega) (by simp; omega) (by simp) ?_; intro v2 w2 hr2 hg2 hat2)
 go_ret
 exact ⟨_, rfl, by simpa using hr2, ((Below.refl _ _).alloc (Nat.le_refl _) _).grown hg2 (by simp) (by simp [Value.ownBlock])⟩)
def ProgPost (B : Nat) (t : TypeId) (regs : Int) (l : List Nd) (w : World) (e : Ending) (w' : World) : Prop := ∃ v, e = .returned (.agg #[.int .i64 regs, v]) ∧ NRow w' B t v l ∧ Below w.heap.size w w'
theorem OwnProg_any (regs : Int) (A : Option Addr) (l : List Nd) (cap : Nat) (w : World) (hA : NodesAt w A l) (hl2 : l.length ≤ 65536) :
 Calls Tryz.prog 53 #[.agg #[.int .i64 regs, .slice A l.length cap]] w (ProgPost w.heap.size 57 regs l w) := by (
 obtain ⟨i3, h3i, h3z, h3s, h3b⟩ := info_parts infoNode
 go_enter Tryz.func53, Tryz.ntmps53
 go_wp2_with fail
 go_region_law ((refine step_append_nodes (v := .slice (some ⟨w.heap.size + 1 + 1, 0, none⟩) 0 0) (l := []) (base := w.heap.size) (by rfl) _ _ _ (by rfl) i3 _ 48 Tryz.underlying22 h3i h3z h3s h3b rfl (by rfl) (NRow.drew (NRow.empty (by simp) (by simp <;> omega))) A l.length cap l (by rfl) (by rfl) (hA.below (by (with_reducible repeat first | apply Qa | assumption | apply Qb | apply Qc | apply Qd | apply Qe | refine Qf ?_ (by assumption) ?_); all_goals (try simp only [Sz]); first | done | omega | (try simp only [Sz] at *); omega)) (by simp [maxLen] <;> omega) (by simp <;> omega) (by simp <;> omega) ?_; intro v2 w2 hr2 hg2 hat2; obtain ⟨A2, c2, hv2, _, _⟩ := hr2.shape; subst hv2; simp only [List.nil_append] at hr2 hat2 ⊢; have hQ2 : Blk w2 (w.heap.size + 1) 24 #[.int .i64 0, .slice none 0 0] := Blk.grown (by repeat (first | ((with_reducible refine Blk.new' ?_); exact (by (try simp only [Sz]); first | done | omega | (try simp only [Sz] at *); omega)) | (with_reducible refine Blk.drew ?_) | (with_reducible refine Blk.drewN ?_ _) | (with_reducible refine Blk.alloc ?_ _) | with_reducible assumption)) hg2 (by simp [Value.ownBlock] <;> omega); have hP2 : Blk w2 w.heap.size 24 #[.int .i64 regs, .slice A l.length cap] := Blk.grown (by repeat (first | ((with_reducible refine Blk.new' ?_); exact (by (try simp only [Sz]); first | done | omega | (try simp only [Sz] at *); omega)) | (with_reducible refine Blk.drew ?_) | (with_reducible refine Blk.drewN ?_ _) | (with_reducible refine Blk.alloc ?_ _) | with_reducible assumption)) hg2 (by simp [Value.ownBlock] <;> omega); have r0 := hQ2.cell 0; have r1 := hQ2.cell 1; have f0 := hQ2.frozen 0; have f1 := hQ2.frozen 1; have q0 := hP2.cell 0; have q1 := hP2.cell 1; simp only [Yl] at r0 r1 q0 q1))
 all_goals go_wp2_with fail
 all_goals go_tidy
 all_goals (refine bodyPost_ret (v := .agg #[.int .i64 regs, .slice A2 l.length c2]) (by simp [results, Tryz.results53, go_sem, r0, r1, World.cell?_setCell_same, World.cell?_setCell_other]) rfl ?_)
 all_goals (refine ⟨_, rfl, NRow.far (NRow.far hr2 (hr2.ne_blk hQ2 (by decide)) _) (hr2.ne_blk hQ2 (by decide)) _, ?_⟩)
 all_goals (have hB2 : Below w.heap.size w w2 := Below.grown (by (with_reducible repeat first | apply Qa | assumption | apply Qb | apply Qc | apply Qd | apply Qe | refine Qf ?_ (by assumption) ?_); all_goals (try simp only [Sz]); first | done | omega | (try simp only [Sz] at *); omega) hg2 (by simp <;> omega) (by simp [Value.ownBlock] <;> omega))
 all_goals exact (by (with_reducible repeat first | apply Qa | assumption | apply Qb | apply Qc | apply Qd | apply Qe | refine Qf ?_ (by assumption) ?_); all_goals (try simp only [Sz]); first | done | omega | (try simp only [Sz] at *); omega))
def Nd.val (n : Nd) : Value := .agg #[.int .i64 n.op, .int .i64 n.d, .int .i64 n.a, .int .i64 n.b, .int .i64 n.t, .int .i64 n.e]
theorem run_eq_node (x y : Nd) (w : World) : (Op.equalIn 10000 57 x.val y.val).run Tryz.prog w = .ok (x == y) w := by (
 have u3 := Tryz.underlying3
 have a3 : ∀ w, (isAgg 3).run Tryz.prog w = .ok false w := fun w => by kernel_rfl
 have z3 : ∀ w, (sizeOf 3).run Tryz.prog w = .ok 1 w := fun w => by kernel_rfl
 have hS : Tryz.prog.underlying 57 = some (.struct (Tryz.prog.fieldsOf 57)) := by kernel_rfl
 have hp : Tryz.prog.stoodInHeld 57 = false := by kernel_rfl
 obtain ⟨x0, x1, x2, x3, x4, x5⟩ := x
 obtain ⟨y0, y1, y2, y3, y4, y5⟩ := y
 simp only [Nd.val]
 rw [show (10000 : Nat) = 9999 + 1 from rfl, run_equalIn_agg w 9999 57 _ _ hS hp]
 simp only [Program.fieldsOf, Tryz.underlying57]
 go_simp
 have hb : ((⟨x0, x1, x2, x3, x4, x5⟩ : Nd) == ⟨y0, y1, y2, y3, y4, y5⟩) = (x0 == y0 && (x1 == y1 && (x2 == y2 && (x3 == y3 && (x4 == y4 && x5 == y5))))) := by (
 rw [Bool.eq_iff_iff]
 simp)
 rw [hb]
 by_cases h0 : x0 = y0 <;> by_cases h1 : x1 = y1 <;> by_cases h2 : x2 = y2 <;> by_cases h3 : x3 = y3 <;> by_cases h4 : x4 = y4 <;> by_cases h5 : x5 = y5 <;> simp [h0, h1, h2, h3, h4, h5])
theorem guardNode : Tryz.prog.eqGuardType Tryz.prog.depth 57 = false := by kernel_rfl
theorem SameProgs_any (r1 r2 : Int) (A B : Option Addr) (l m : List Nd) (ac bc : Nat) (w : World) (hA : NodesAt w A l) (hB : NodesAt w B m) (hl : l.length ≤ maxLen) (hm : m.length ≤ maxLen) :
 Calls Tryz.prog 21 #[.agg #[.int .i64 r1, .slice A l.length ac], .agg #[.int .i64 r2, .slice B m.length bc]] w fun e w' => e = .returned (.bool (r1 == r2 && l == m)) ∧ Below w.heap.size w w' := by (
 unfold maxLen at hl hm
 by_cases hr : r1 = r2
 · (
 have h0 : (r1 != r2) = false := by simp [hr]
 by_cases hll : l.length = m.length
 · (
 have Hl := hide hll
 have Hr := hide hr
 have h1 : ((l.length : Int) != (m.length : Int)) = false := by simp [hll]
 clear hll hr
 go_enter Tryz.func21, Tryz.ntmps21
 go_wp2_with fail
 go_loopg [5] (l.length) (fun gk i wr => ∃ k : Nat, k ≤ l.length ∧ i = .int .i64 k ∧ gk = l.length - k ∧ (∀ j, j < k → l[j]? = m[j]?) ∧ Blk wr w.heap.size 24 #[.int .i64 r1, .slice A l.length ac] ∧ Blk wr (w.heap.size + 1) 24 #[.int .i64 r2, .slice B m.length bc] ∧ Below w.heap.size w wr)
 case atStart => exact ⟨0, Nat.zero_le _, rfl, by omega, fun j hj => by omega, (by repeat (first | ((with_reducible refine Blk.new' ?_); exact (by (try simp only [Sz]); first | done | omega | (try simp only [Sz] at *); omega)) | (with_reducible refine Blk.drew ?_) | (with_reducible refine Blk.drewN ?_ _) | (with_reducible refine Blk.alloc ?_ _) | with_reducible assumption)), (by repeat (first | ((with_reducible refine Blk.new' ?_); exact (by (try simp only [Sz]); first | done | omega | (try simp only [Sz] at *); omega)) | (with_reducible refine Blk.drew ?_) | (with_reducible refine Blk.drewN ?_ _) | (with_reducible refine Blk.alloc ?_ _) | with_reducible assumption)), (by (with_reducible repeat first | apply Qa | assumption | apply Qb | apply Qc | apply Qd | apply Qe | refine Qf ?_ (by assumption) ?_); all_goals (try simp only [Sz]); first | done | omega | (try simp only [Sz] at *); omega)⟩
 case round => (
 obtain ⟨k, hk, rfl, hgk, hno, hP, hQ, hBl⟩ := hrel
 have Hgk := hide hgk
 have Hno := hide hno
 clear hgk hno
 have hz := hBl.size
 have p0 := hP.cell 0
 have p1 := hP.cell 1
 have q0 := hQ.cell 0
 have q1 := hQ.cell 1
 simp only [Yl] at p0 p1 q0 q1
 by_cases hlt : k < l.length
 · (
 have hlt2 : k < m.length := by rw [← Hl.out]; exact hlt
 obtain ⟨ab, ao, x, rfl, hab, hx, hxl⟩ := (hA.below hBl).get hlt
 obtain ⟨bb, bo, y, rfl, hbb, hy, hyl⟩ := (hB.below hBl).get hlt2
 have Hx := hide hx
 have Hy := hide hy
 have k0 : (0 : Int) ≤ (k : Int) := by omega
 have k1 : (k : Int) < (l.length : Int) := by omega
 have k2 : (k : Int) < (m.length : Int) := by omega
 obtain ⟨c0, c1, c2, c3, c4, c5⟩ := hxl
 obtain ⟨d0, d1, d2, d3, d4, d5⟩ := hyl
 have HP := hide hP
 have HQ := hide hQ
 have hgd := guardNode
 have hEq := fun W => run_eq_node x y W
 unfold Nd.val at hEq
 cases hq : (x == y)
 case false => (
 rw [hq] at hEq
 have Hq := hq
 have hf : (l == m) = false := by (
 rw [beq_eq_false_iff_ne]
 rintro rfl
 have := Hx.out.symm.trans Hy.out
 injection this with this
 subst this
 simp at Hq)
 have HQ1 := hide hq
 have HP' := hide hP
 have HQ' := hide hQ
 have Hf := hide hf
 clear hA hB hx hy hP hQ hq Hq hf
 go_wp2_with fail
 go_quiet (fail)
 go_wp2_with fail
 go_ret
 exact ⟨by rw [Hf.out]; simp, (by (with_reducible repeat first | apply Qa | assumption | apply Qb | apply Qc | apply Qd | apply Qe | refine Qf ?_ (by assumption) ?_); all_goals (try simp only [Sz]); first | done | omega | (try simp only [Sz] at *); omega)⟩)
 case true => (
 rw [hq] at hEq
 clear hA hB hx hy hP hQ
 have Hq := hide hq
 clear hq
 go_wp2_with fail
 go_quiet (fail)
 go_wp2_with fail
 go_roundg (l.length - (k + 1))
 case measure => have := Hgk.out; omega
 case rel => (
 refine ⟨k + 1, by omega, by go_num, rfl, fun j hj => ?_, HP.out.drewN _, HQ.out.drewN _, (by (with_reducible repeat first | apply Qa | assumption | apply Qb | apply Qc | apply Qd | apply Qe | refine Qf ?_ (by assumption) ?_); all_goals (try simp only [Sz]); first | done | omega | (try simp only [Sz] at *); omega)⟩
 by_cases hjk : j = k
 · (
 subst hjk
 rw [Hx.out, Hy.out]
 have := Hq.out
 rw [beq_iff_eq] at this
 rw [this])
 · exact Hno.out j (by omega))))
 · (
 have hf : (l == m) = true := by (
 rw [beq_iff_eq]
 exact ext_get Hl.out fun i hi => Hno.out i (by omega))
 have hf2 : (r1 == r2) = true := by rw [beq_iff_eq]; exact Hr.out
 have Hf := hide hf
 have Hf2 := hide hf2
 clear hf hf2 hP hQ hA hB
 go_wp2_with fail
 go_ret
 exact ⟨by rw [Hf.out, Hf2.out]; rfl, hBl⟩)))
 · (
 have hf : (l == m) = false := by (
 rw [beq_eq_false_iff_ne]
 intro e
 exact hll (by rw [e]))
 rw [hf]
 have h1 : ((l.length : Int) != (m.length : Int)) = true := by simp; omega
 clear hf hll hr
 go_enter Tryz.func21, Tryz.ntmps21
 go_wp2_with fail
 go_ret
 exact ⟨by simp, (by (with_reducible repeat first | apply Qa | assumption | apply Qb | apply Qc | apply Qd | apply Qe | refine Qf ?_ (by assumption) ?_); all_goals (try simp only [Sz]); first | done | omega | (try simp only [Sz] at *); omega)⟩))
 · (
 have h0 : (r1 != r2) = true := by simp [hr]
 have hf : (r1 == r2) = false := by simp [hr]
 rw [hf]
 clear hf hr
 go_enter Tryz.func21, Tryz.ntmps21
 go_wp2_with fail
 go_ret
 exact ⟨by simp, (by (with_reducible repeat first | apply Qa | assumption | apply Qb | apply Qc | apply Qd | apply Qe | refine Qf ?_ (by assumption) ?_); all_goals (try simp only [Sz]); first | done | omega | (try simp only [Sz] at *); omega)⟩))
end
section
open Go.RowKit
set_option maxHeartbeats 4000000
attribute [local irreducible] Row madeCells
def rkB (t : Tm) (n : Nd) : Bool := n == ⟨t.op, n.d, t.a, t.b, n.t, 0⟩
theorem rkB_eq {regs : Int} {l : List Nd} (hR : Right regs l) {n : Nd} (hn : n ∈ l) {t : Tm} (ht : 3 ≤ t.op ∧ t.op ≤ 8) : rkB t n = recB t n := by (
 have hf := hR.frm n hn
 obtain ⟨op, d, a, b, th, e⟩ := n
 rw [Bool.eq_iff_iff]
 simp only [rkB, recB, beq_iff_eq, Nd.mk.injEq, Bool.and_eq_true, true_and]
 constructor
 · (
 rintro ⟨h1, h2, h3, h4⟩
 exact ⟨⟨h1, h2⟩, h3⟩)
 · (
 rintro ⟨⟨h1, h2⟩, h3⟩
 refine ⟨h1, h2, h3, ?_⟩
 simp only [badF, Bool.or_eq_false_iff, Bool.not_eq_false'] at hf
 have h5 := hf.2
 have : hasE op = false := by simp [hasE]; omega
 simpa [okF, this] using h5))
theorem mvReckons_any (n : Nd) (t : Tm) (w : World) : Calls Tryz.prog 44 #[.agg #[.int .i64 n.op, .int .i64 n.d, .int .i64 n.a, .int .i64 n.b, .int .i64 n.t, .int .i64 n.e], .agg (tmA t)] w fun e w' => e = .returned (.bool (rkB t n)) ∧ Below w.heap.size w w' := by (
 have hEq := fun W => run_eq_node n ⟨t.op, n.d, t.a, t.b, n.t, 0⟩ W
 unfold Nd.val at hEq
 have hgd := guardNode
 unfold tmA rkB
 generalize (n == ⟨t.op, n.d, t.a, t.b, n.t, 0⟩) = q at *
 go_enter Tryz.func44, Tryz.ntmps44
 go_wp2_with fail
 go_ret
 exact ⟨rfl, (by (with_reducible repeat first | apply Qa | assumption | apply Qb | apply Qc | apply Qd | apply Qe | refine Qf ?_ (by assumption) ?_); all_goals (try simp only [Sz]); first | done | omega | (try simp only [Sz] at *); omega)⟩)
structure FxBox (tF : TypeId) (fb n : Nat) (A0 A1 A2 A3 A4 A5 : Option Addr) (c0 c1 c2 c3 c4 c5 : Nat) (F : Fx) (W : World) : Prop where
 box : Blk W fb tF #[.slice A0 n c0, .slice A1 n c1, .slice A2 n c2, .slice A3 n c3, .slice A4 n c4, .slice A5 n c5]
 down : ValsAt W A0 (bools F.down) ∧ F.down.length = n
 early : ValsAt W A2 (bools F.early) ∧ F.early.length = n
 late : ValsAt W A4 (bools F.late) ∧ F.late.length = n
 alone : ValsAt W A5 (bools F.alone) ∧ F.alone.length = n
theorem FxBox.later {tF : TypeId} {fb n : Nat} {A0 A1 A2 A3 A4 A5 : Option Addr} {c0 c1 c2 c3 c4 c5 : Nat} {F : Fx} {W W' : World} (h : FxBox tF fb n A0 A1 A2 A3 A4 A5 c0 c1 c2 c3 c4 c5 F W) (hb : Below W.heap.size W W') : FxBox tF fb n A0 A1 A2 A3 A4 A5 c0 c1 c2 c3 c4 c5 F W' :=
 ⟨h.box.below hb h.box.lt, ⟨h.down.1.below hb, h.down.2⟩, ⟨h.early.1.below hb, h.early.2⟩, ⟨h.late.1.below hb, h.late.2⟩, ⟨h.alone.1.below hb, h.alone.2⟩⟩
section
variable {fb n : Nat} {A0 A1 A2 A3 A4 A5 : Option Addr} {c0 c1 c2 c3 c4 c5 : Nat} {F : Fx} {w : World} {k : Nat}
theorem lazy1_says (h : FxBox 49 fb n A0 A1 A2 A3 A4 A5 c0 c1 c2 c3 c4 c5 F w) (hk : k < n) : SaysAt Tryz.prog 24 #[.pointer (some ⟨fb, 0, none⟩)] w k (yn F.late k && !yn F.alone k) := by (
 intro W hW
 have h := h.later hW
 obtain ⟨b4, o4, rfl, l4, e4⟩ := h.late.1.bool (k := k) (by rw [h.late.2]; exact hk)
 obtain ⟨b5, o5, rfl, l5, e5⟩ := h.alone.1.bool (k := k) (by rw [h.alone.2]; exact hk)
 have q4 := h.box.cell 4
 have q5 := h.box.cell 5
 have lq := h.box.lt
 simp only [Yl] at q4 q5
 have u0 : (0 : Int) ≤ (k : Int) := by omega
 have u1 : (k : Int) < (n : Int) := by omega
 clear h
 show Calls Tryz.prog 24 #[.int .i64 k, .pointer (some ⟨fb, 0, none⟩)] W _
 generalize yn F.late k = p at *
 generalize yn F.alone k = q at *
 cases p
 · (
 go_enter Tryz.func24, Tryz.ntmps24
 go_wp2_with fail
 go_ret
 exact ⟨rfl, Below.refl _ _⟩)
 · (
 go_enter Tryz.func24, Tryz.ntmps24
 go_wp2_with fail
 go_ret
 exact ⟨rfl, Below.refl _ _⟩))
theorem lazy2_says (h : FxBox 49 fb n A0 A1 A2 A3 A4 A5 c0 c1 c2 c3 c4 c5 F w) (hk : k < n) : SaysAt Tryz.prog 25 #[.pointer (some ⟨fb, 0, none⟩)] w k (!yn F.late k || !yn F.alone k) := by (
 intro W hW
 have h := h.later hW
 obtain ⟨b4, o4, rfl, l4, e4⟩ := h.late.1.bool (k := k) (by rw [h.late.2]; exact hk)
 obtain ⟨b5, o5, rfl, l5, e5⟩ := h.alone.1.bool (k := k) (by rw [h.alone.2]; exact hk)
 have q4 := h.box.cell 4
 have q5 := h.box.cell 5
 have lq := h.box.lt
 simp only [Yl] at q4 q5
 have u0 : (0 : Int) ≤ (k : Int) := by omega
 have u1 : (k : Int) < (n : Int) := by omega
 clear h
 show Calls Tryz.prog 25 #[.int .i64 k, .pointer (some ⟨fb, 0, none⟩)] W _
 generalize yn F.late k = p at *
 generalize yn F.alone k = q at *
 cases p
 · (
 go_enter Tryz.func25, Tryz.ntmps25
 go_wp2_with fail
 go_ret
 exact ⟨rfl, Below.refl _ _⟩)
 · (
 go_enter Tryz.func25, Tryz.ntmps25
 go_wp2_with fail
 go_ret
 exact ⟨rfl, Below.refl _ _⟩))
theorem busy1_says (h : FxBox 49 fb n A0 A1 A2 A3 A4 A5 c0 c1 c2 c3 c4 c5 F w) (hk : k < n) : SaysAt Tryz.prog 26 #[.pointer (some ⟨fb, 0, none⟩)] w k (yn F.early k) := by (
 intro W hW
 have h := h.later hW
 obtain ⟨b2, o2, rfl, l2, e2⟩ := h.early.1.bool (k := k) (by rw [h.early.2]; exact hk)
 have q2 := h.box.cell 2
 have lq := h.box.lt
 simp only [Yl] at q2
 have u0 : (0 : Int) ≤ (k : Int) := by omega
 have u1 : (k : Int) < (n : Int) := by omega
 clear h
 show Calls Tryz.prog 26 #[.int .i64 k, .pointer (some ⟨fb, 0, none⟩)] W _
 generalize yn F.early k = p at *
 go_enter Tryz.func26, Tryz.ntmps26
 go_wp2_with fail
 go_ret
 exact ⟨rfl, Below.refl _ _⟩)
theorem busy2_says : SaysAt Tryz.prog 27 #[] w k true := by (
 intro W hW
 show Calls Tryz.prog 27 #[.int .i64 k] W _
 go_enter Tryz.func27, Tryz.ntmps27
 go_wp2_with fail
 go_ret
 exact ⟨rfl, Below.refl _ _⟩)
end
end
section
open Go.RowKit
abbrev nil6 : Array Value := #[.slice none 0 0, .slice none 0 0, .slice none 0 0, .slice none 0 0, .slice none 0 0, .slice none 0 0]
abbrev Box := Nat × TypeId × Array Value
structure FTab (tS tI : TypeId) (B : Nat) (w : World) (GA GB n : Nat) (ks : List Box) (wr : World) (vs : Nat → Value) (ys : Nat → List Value) : Prop where
 ra : Row wr B tS (.slice (some ⟨GA, 0, none⟩) n n) ((List.range n).map vs)
 rb : Row wr B tS (.slice (some ⟨GB, 0, none⟩) n n) ((List.range n).map fun i => vs (n + i))
 tab : Tab wr B tI (2 * n) vs ys
 kept : ∀ q ∈ ks, Blk wr q.1 q.2.1 q.2.2 ∧ q.2.1 ≠ tI ∧ q.2.1 ≠ tS
 ne : GA ≠ GB
 below : Below B w wr
 sz : B ≤ wr.heap.size
section
variable {tS tI : TypeId} {B : Nat} {w : World} {GA GB n : Nat} {ks : List Box} {wr wr1 w2 : World} {vs : Nat → Value} {ys : Nat → List Value} {v1 : Value} {zs : List Value}
theorem FTab.blk (h : FTab tS tI B w GA GB n ks wr vs ys) {g : Nat} {t : TypeId} {cs : Array Value} (hq : (g, t, cs) ∈ ks) : Blk wr g t cs := (h.kept _ hq).1
theorem FTab.later (h : FTab tS tI B w GA GB n ks wr vs ys) (hb : Below wr.heap.size wr wr1) : FTab tS tI B w GA GB n ks wr1 vs ys :=
 ⟨h.ra.below' hb, h.rb.below' hb, h.tab.below hb, fun q hq => ⟨(h.kept q hq).1.below hb (h.kept q hq).1.lt, (h.kept q hq).2⟩, h.ne, h.below.trans (hb.mono h.sz), Nat.le_trans h.sz hb.size⟩
theorem FTab.cons (h : FTab tS tI B w GA GB n ks wr vs ys) {g : Nat} {t : TypeId} {cs : Array Value} (hb : Blk wr g t cs) (n1 : t ≠ tI) (n2 : t ≠ tS) : FTab tS tI B w GA GB n ((g, t, cs) :: ks) wr vs ys :=
 ⟨h.ra, h.rb, h.tab, fun q hq => by
  rcases List.mem_cons.1 hq with rfl | hq
  · exact ⟨hb, n1, n2⟩
  · exact h.kept q hq, h.ne, h.below, h.sz⟩
theorem FTab.tail {q : Box} (h : FTab tS tI B w GA GB n (q :: ks) wr vs ys) : FTab tS tI B w GA GB n ks wr vs ys :=
 ⟨h.ra, h.rb, h.tab, fun q hq => h.kept q (List.mem_cons_of_mem _ hq), h.ne, h.below, h.sz⟩
theorem FTab.grow (h : FTab tS tI B w GA GB n ks wr vs ys) (n2 : tI ≠ tS) {i : Nat} (hi : i < 2 * n) (hr : Row w2 B tI v1 zs) (hg : wr.grownBy w2 (vs i).ownBlock)
 (hat : v1.ownBlock = (vs i).ownBlock ∨ ∀ k, v1.ownBlock = some k → wr.heap.size ≤ k) :
 Row w2 B tS (.slice (some ⟨GA, 0, none⟩) n n) ((List.range n).map vs) ∧ Row w2 B tS (.slice (some ⟨GB, 0, none⟩) n n) ((List.range n).map fun i => vs (n + i)) ∧ Tab w2 B tI (2 * n) (upd vs i v1) (upd ys i zs) ∧
  (∀ q ∈ ks, Blk w2 q.1 q.2.1 q.2.2) ∧ Below B w w2 ∧ B ≤ w2.heap.size := by (
 have hri := h.tab.row hi
 obtain ⟨ca, hca⟩ := h.ra.blk
 obtain ⟨cb, hcb⟩ := h.rb.blk
 have a3 : (vs i).ownBlock ≠ some GA := hri.ne_blk hca n2
 have a4 : (vs i).ownBlock ≠ some GB := hri.ne_blk hcb n2
 exact ⟨h.ra.kept hg (.inr (by simp [Value.ownBlock]; exact fun e => a3 e.symm)), h.rb.kept hg (.inr (by simp [Value.ownBlock]; exact fun e => a4 e.symm)), h.tab.put hi hr hg hat,
  fun q hq => (h.kept q hq).1.grown hg (hri.ne_blk (h.kept q hq).1 (Ne.symm (h.kept q hq).2.1)), h.below.grown hg h.sz fun k hk => (hri.lt k hk).1, Nat.le_trans h.sz hg.size⟩)
theorem FTab.putA (h : FTab tS tI B w GA GB n ks wr vs ys) (n2 : tI ≠ tS) {i : Nat} (hi : i < n) (hr : Row w2 B tI v1 zs) (hg : wr.grownBy w2 (vs i).ownBlock)
 (hat : v1.ownBlock = (vs i).ownBlock ∨ ∀ k, v1.ownBlock = some k → wr.heap.size ≤ k) :
 FTab tS tI B w GA GB n ks (w2.setCell ⟨GA, i, none⟩ v1) (upd vs i v1) (upd ys i zs) := by (
 obtain ⟨ra', rb', tab', kept', below', sz'⟩ := h.grow n2 (by omega) hr hg hat
 obtain ⟨ca, hca⟩ := ra'.blk
 have hB := rowge h.ra
 refine ⟨?_, ?_, tab'.far (p := ⟨GA, i, none⟩) hca n2 _, fun q hq => ⟨(kept' q hq).far (Blk.ne_ (kept' q hq) hca (h.kept q hq).2.2) _, (h.kept q hq).2⟩, h.ne, below'.setCell hB _, by simpa using sz'⟩
 · (
 have := ra'.store i v1
 rw [Nat.zero_add] at this
 rwa [map_range_set _ _ hi] at this)
 · (
 have := rb'.far (p := ⟨GA, i, none⟩) (by simp [Value.ownBlock]; exact fun e => h.ne e.symm) v1
 rwa [show ((List.range n).map fun j => upd vs i v1 (n + j)) = (List.range n).map fun j => vs (n + j) from List.map_congr_left fun j hj => upd_other _ _ (by omega)]))
theorem FTab.putB (h : FTab tS tI B w GA GB n ks wr vs ys) (n2 : tI ≠ tS) {i : Nat} (hi : i < n) (hr : Row w2 B tI v1 zs) (hg : wr.grownBy w2 (vs (n + i)).ownBlock)
 (hat : v1.ownBlock = (vs (n + i)).ownBlock ∨ ∀ k, v1.ownBlock = some k → wr.heap.size ≤ k) :
 FTab tS tI B w GA GB n ks (w2.setCell ⟨GB, i, none⟩ v1) (upd vs (n + i) v1) (upd ys (n + i) zs) := by (
 obtain ⟨ra', rb', tab', kept', below', sz'⟩ := h.grow n2 (i := n + i) (by omega) hr hg hat
 obtain ⟨cb, hcb⟩ := rb'.blk
 have hB := rowge h.rb
 refine ⟨?_, ?_, tab'.far (p := ⟨GB, i, none⟩) hcb n2 _, fun q hq => ⟨(kept' q hq).far (Blk.ne_ (kept' q hq) hcb (h.kept q hq).2.2) _, (h.kept q hq).2⟩, h.ne, below'.setCell hB _, by simpa using sz'⟩
 · (
 have := ra'.far (p := ⟨GB, i, none⟩) (by simp [Value.ownBlock]; exact h.ne) v1
 rwa [show (List.range n).map (upd vs (n + i) v1) = (List.range n).map vs from List.map_congr_left fun j hj => upd_other _ _ (by have := List.mem_range.1 hj; omega)])
 · (
 have := rb'.store i v1
 rw [Nat.zero_add] at this
 rwa [map_range_set' _ _ hi] at this))
end
def nxL (l : List Nd) (k i : Nat) : List Int := if i < k then exitsL (nd l i) else []
def ahL (l : List Nd) (k m : Nat) : List Int := sel (aheadP l m) k
def ahJ (l : List Nd) (n : Nd) (k j m : Nat) : List Int := ahL l k m ++ (if (m : Int) ∈ (exitsL n).take j then [(k : Int)] else [])
def tabL (l : List Nd) (N : Nat) (A B : Nat → List Int) (i : Nat) : List Value := ints (if i < N then A i else B (i - N))
theorem nxL_succ {l : List Nd} {k : Nat} {n : Nd} (hn : l[k]? = some n) (i : Nat) : nxL l (k + 1) i = if i = k then exitsL n else nxL l k i := by (
 unfold nxL
 by_cases h : i = k
 · subst h; rw [if_pos (by omega), if_pos rfl, nd_get hn]
 · (
 rw [if_neg h]
 by_cases h2 : i < k
 · rw [if_pos (by omega), if_pos h2]
 · rw [if_neg (by omega), if_neg h2]))
theorem exitsL_leads (n : Nd) (m : Int) : m ∈ exitsL n ↔ leadsB n m = true := by (
 unfold exitsL leadsB
 by_cases h12 : n.op = 12
 · simp [h12]
 · (
 by_cases h11 : n.op = 11
 · (
 by_cases he : n.e = n.t
 · (
 simp [h11, he]
 exact eq_comm)
 · (
 simp [h11, he]
 exact or_congr eq_comm eq_comm))
 · (
 simp [h12, h11]
 exact eq_comm)))
theorem ahJ_zero (l : List Nd) (n : Nd) (k m : Nat) : ahJ l n k 0 m = ahL l k m := by simp [ahJ]
theorem ahJ_all {l : List Nd} {k : Nat} {n : Nd} (hn : l[k]? = some n) (m : Nat) {j : Nat} (hj : (exitsL n).length ≤ j) : ahJ l n k j m = ahL l (k + 1) m := by (
 unfold ahJ ahL
 rw [List.take_of_length_le hj]
 have hp : aheadP l m k = leadsB n m := aheadP_eq hn
 by_cases h : (m : Int) ∈ exitsL n
 · rw [if_pos h, sel_succ_true (by rw [hp]; exact (exitsL_leads n m).1 h)]
 · rw [if_neg h, List.append_nil, sel_succ_false (by rw [hp]; cases hq : leadsB n m with | false => rfl | true => exact absurd ((exitsL_leads n m).2 hq) h)])
theorem exitsL_nodup (n : Nd) : (exitsL n).Nodup := by (
 unfold exitsL
 split
 · simp
 · (
 split
 · rename_i h; simp; exact fun e => h.2 e.symm
 · simp))
theorem ahJ_step {l : List Nd} {n : Nd} {k j mm : Nat} (hj : (exitsL n)[j]? = some (mm : Int)) (m : Nat) : ahJ l n k (j + 1) m = if m = mm then ahJ l n k j m ++ [(k : Int)] else ahJ l n k j m := by (
 unfold ahJ
 have hnd := exitsL_nodup n
 obtain ⟨hjl, hje⟩ := List.getElem?_eq_some_iff.1 hj
 rw [List.take_add_one, hj]
 by_cases h : m = mm
 · (
 subst h
 have hno : ¬ (m : Int) ∈ (exitsL n).take j := by (
 intro hm
 obtain ⟨i, hi, he⟩ := List.mem_iff_getElem.1 hm
 rw [List.length_take] at hi
 rw [List.getElem_take] at he
 exact List.pairwise_iff_getElem.1 hnd i j (by omega) hjl (by omega) (he.trans hje.symm))
 simp [hno])
 · (
 have h2 : ¬ (m : Int) = (mm : Int) := by omega
 simp [h, h2]))
theorem ahJ_len (l : List Nd) (n : Nd) (k j m : Nat) : (ahJ l n k j m).length ≤ k + 1 := by (
 unfold ahJ ahL
 rw [List.length_append]
 have := sel_len (aheadP l m) k
 split <;> simp <;> omega)
theorem exits_edges {l : List Nd} {k : Nat} {n : Nd} (hn : l[k]? = some n) (hT : ∀ m ∈ exitsL n, 0 ≤ m ∧ m < (l.length : Int)) (m : Int) : m ∈ exitsL n ↔ m ∈ edgesOf true l k := by (
 unfold edgesOf
 simp only [if_true]
 rw [mem_sel]
 constructor
 · (
 intro h
 obtain ⟨h0, h1⟩ := hT m h
 obtain ⟨q, rfl⟩ := Int.eq_ofNat_of_zero_le h0
 exact ⟨q, by omega, by rw [nextP_eq hn]; exact (exitsL_leads n q).1 h, rfl⟩)
 · (
 rintro ⟨q, hq, hp, rfl⟩
 rw [nextP_eq hn] at hp
 exact (exitsL_leads n q).2 hp))
end
section
open Go.RowKit
set_option maxHeartbeats 2000000
end
section
open Go.RowKit
set_option maxHeartbeats 2000000
def fxE (regs : Int) (l : List Nd) (t : Tm) : Int :=
 if chk regs l ≠ 0 then chk regs l else if inB t.op 3 8 = false then 4 else if inB t.a 0 (regs - 1) = false ∨ inB t.b 0 (regs - 1) = false then 3 else 0
def tmV (t : Tm) : Value := .agg (tmA t)
theorem fcheckT_any (regs : Int) (A : Option Addr) (l : List Nd) (cap : Nat) (t : Tm) (w : World) (hl : l.length ≤ maxLen) (hA : NodesAt w A l) :
 Calls Tryz.prog 55 #[.agg #[.int .i64 regs, .slice A l.length cap], .agg #[.int .i64 t.op, .int .i64 t.a, .int .i64 t.b]] w fun e w' => e = .returned (.int .i64 (fxE regs l t)) ∧ Below w.heap.size w w' := by (
 have hC := fun W (hW : Below w.heap.size w W) => Check_any regs A l cap W hl (hA.below hW)
 have HC := hide hC
 clear hC
 unfold fxE
 by_cases hc : chk regs l = 0
 · (
 have h0 : (chk regs l != 0) = false := by simp [hc]
 have hR := right_of_chk hc
 have hr := hR.rlo
 have hr2 := hR.rhi
 rw [if_neg (by simp [hc])]
 clear hR
 have Hc := hide hc
 clear hc
 have hop : inB t.op 3 8 = !(decide (t.op < 3) || decide (8 < t.op)) := by (
 unfold inB; rw [Bool.eq_iff_iff]; simp <;> omega)
 rw [hop]
 clear hop
 by_cases h1 : t.op < 3
 · (
 have d1 : decide (t.op < 3) = true := by simp [h1]
 rw [d1]
 clear h1
 go_enter Tryz.func55, Tryz.ntmps55
 go_wp2_with (go_at_call 74; refine (HC.out _ (by (with_reducible repeat first | apply Qa | assumption | apply Qb | apply Qc | apply Qd | apply Qe | refine Qf ?_ (by assumption) ?_); all_goals (try simp only [Sz]); first | done | omega | (try simp only [Sz] at *); omega)).mono ?_; rintro e w1 ⟨rfl, hb1⟩; have hT1 : Blk w1 (w.heap.size + 1) 26 #[.int .i64 t.op, .int .i64 t.a, .int .i64 t.b] := Blk.below (Blk.new' (by simp)) hb1 (by simp); have lt := hT1.lt; have t0 := hT1.cell 0; simp only [List.getElem?_toArray, List.getElem?_cons_zero] at t0)
 go_ret
 exact ⟨by simp, (by (with_reducible repeat first | apply Qa | assumption | apply Qb | apply Qc | apply Qd | apply Qe | refine Qf ?_ (by assumption) ?_); all_goals (try simp only [Sz]); first | done | omega | (try simp only [Sz] at *); omega)⟩)
 · (
 have d1 : decide (t.op < 3) = false := by simp [h1]
 rw [d1]
 clear h1
 by_cases h2 : 8 < t.op
 · (
 have d2 : decide (8 < t.op) = true := by simp [h2]
 have d3 : decide (t.op > 8) = true := d2
 rw [d2]
 clear h2
 go_enter Tryz.func55, Tryz.ntmps55
 go_wp2_with (go_at_call 74; refine (HC.out _ (by (with_reducible repeat first | apply Qa | assumption | apply Qb | apply Qc | apply Qd | apply Qe | refine Qf ?_ (by assumption) ?_); all_goals (try simp only [Sz]); first | done | omega | (try simp only [Sz] at *); omega)).mono ?_; rintro e w1 ⟨rfl, hb1⟩; have hT1 : Blk w1 (w.heap.size + 1) 26 #[.int .i64 t.op, .int .i64 t.a, .int .i64 t.b] := Blk.below (Blk.new' (by simp)) hb1 (by simp); have lt := hT1.lt; have t0 := hT1.cell 0; simp only [List.getElem?_toArray, List.getElem?_cons_zero] at t0)
 go_ret
 exact ⟨by simp, (by (with_reducible repeat first | apply Qa | assumption | apply Qb | apply Qc | apply Qd | apply Qe | refine Qf ?_ (by assumption) ?_); all_goals (try simp only [Sz]); first | done | omega | (try simp only [Sz] at *); omega)⟩)
 · (
 have d2 : decide (8 < t.op) = false := by simp [h2]
 have d3 : decide (t.op > 8) = false := d2
 rw [d2]
 clear h2
 have hab : (inB t.a 0 (regs - 1) = false ∨ inB t.b 0 (regs - 1) = false) ↔ (min t.a t.b < 0 ∨ max t.a t.b ≥ regs) := by (
 unfold inB
 simp only [Bool.and_eq_false_iff, decide_eq_false_iff_not]
 omega)
 simp only [hab, Bool.false_or, Bool.not_false, Bool.true_eq_false, if_false]
 clear hab
 go_enter Tryz.func55, Tryz.ntmps55
 go_wp2_with (go_at_call 74; refine (HC.out _ (by (with_reducible repeat first | apply Qa | assumption | apply Qb | apply Qc | apply Qd | apply Qe | refine Qf ?_ (by assumption) ?_); all_goals (try simp only [Sz]); first | done | omega | (try simp only [Sz] at *); omega)).mono ?_; rintro e w1 ⟨rfl, hb1⟩; have hT1 : Blk w1 (w.heap.size + 1) 26 #[.int .i64 t.op, .int .i64 t.a, .int .i64 t.b] := Blk.below (Blk.new' (by simp)) hb1 (by simp); have hP1 : Blk w1 w.heap.size 24 #[.int .i64 regs, .slice A l.length cap] := Blk.below ((Blk.new' rfl).alloc _) hb1 (by simp <;> omega); have lt := hT1.lt; have lp := hP1.lt; have t0 := hT1.cell 0; have t1 := hT1.cell 1; have t2 := hT1.cell 2; have p0 := hP1.cell 0; simp only [Yl] at t0 t1 t2 p0)
 all_goals go_tidy
 all_goals go_ret
 all_goals refine ⟨?_, (by (with_reducible repeat first | apply Qa | assumption | apply Qb | apply Qc | apply Qd | apply Qe | refine Qf ?_ (by assumption) ?_); all_goals (try simp only [Sz]); first | done | omega | (try simp only [Sz] at *); omega)⟩
 all_goals (first | rfl | (rw [if_pos (by omega)]; rfl) | (rw [if_neg (by omega)]; rfl)))))
 · (
 have h0 : (chk regs l != 0) = true := by simp [hc]
 rw [if_pos hc]
 clear hc
 go_enter Tryz.func55, Tryz.ntmps55
 go_wp2_with (go_at_call 74; refine (HC.out _ (by (with_reducible repeat first | apply Qa | assumption | apply Qb | apply Qc | apply Qd | apply Qe | refine Qf ?_ (by assumption) ?_); all_goals (try simp only [Sz]); first | done | omega | (try simp only [Sz] at *); omega)).mono ?_; rintro e w1 ⟨rfl, hb1⟩)
 go_ret
 exact ⟨rfl, (by (with_reducible repeat first | apply Qa | assumption | apply Qb | apply Qc | apply Qd | apply Qe | refine Qf ?_ (by assumption) ?_); all_goals (try simp only [Sz]); first | done | omega | (try simp only [Sz] at *); omega)⟩))
theorem factsError_any (regs : Int) (A : Option Addr) (l : List Nd) (cap : Nat) (t : Tm) (w : World) (hA : NodesAt w A l) :
 Calls Tryz.prog 8 #[.agg #[.int .i64 regs, .slice A l.length cap], .agg #[.int .i64 t.op, .int .i64 t.a, .int .i64 t.b]] w fun e w' => e = .returned (.int .i64 (fxE regs l t)) ∧ Below w.heap.size w w' := by (
 have hC := fun W (hW : Below w.heap.size w W) => CheckProg_any regs A l cap W (hA.below hW)
 have HC := hide hC
 clear hC
 unfold fxE
 by_cases hc : chk regs l = 0
 · (
 have h0 : (chk regs l != 0) = false := by simp [hc]
 have hR := right_of_chk hc
 have hr := hR.rlo
 have hr2 := hR.rhi
 rw [if_neg (by simp [hc])]
 clear hR
 have Hc := hide hc
 clear hc
 have hop : inB t.op 3 8 = hasB t.op := rfl
 rw [hop]
 cases h1 : hasB t.op
 · (
 go_enter Tryz.func8, Tryz.ntmps8
 go_wp2_with (first | (go_at_call 31; refine (HC.out _ (by (with_reducible repeat first | apply Qa | assumption | apply Qb | apply Qc | apply Qd | apply Qe | refine Qf ?_ (by assumption) ?_); all_goals (try simp only [Sz]); first | done | omega | (try simp only [Sz] at *); omega)).mono ?_; rintro e w1 ⟨rfl, hb1⟩; have hT1 : Blk w1 (w.heap.size + 1) 26 #[.int .i64 t.op, .int .i64 t.a, .int .i64 t.b] := Blk.below (Blk.new' (by simp)) hb1 (by simp); have hP1 : Blk w1 w.heap.size 24 #[.int .i64 regs, .slice A l.length cap] := Blk.below ((Blk.new' rfl).alloc _) hb1 (by simp <;> omega); have lt := hT1.lt; have lp := hP1.lt; have t0 := hT1.cell 0; have t1 := hT1.cell 1; have t2 := hT1.cell 2; have p0 := hP1.cell 0; simp only [Yl] at t0 t1 t2 p0) | (go_at_call 32; refine (reckons_any _ _).mono ?_; rw [h1]; rintro e w2 ⟨rfl, rfl⟩))
 go_ret
 exact ⟨by simp, (by (with_reducible repeat first | apply Qa | assumption | apply Qb | apply Qc | apply Qd | apply Qe | refine Qf ?_ (by assumption) ?_); all_goals (try simp only [Sz]); first | done | omega | (try simp only [Sz] at *); omega)⟩)
 · (
 cases h2 : inB t.a 0 (regs - 1)
 · (
 go_enter Tryz.func8, Tryz.ntmps8
 go_wp2_with (first | (go_at_call 31; refine (HC.out _ (by (with_reducible repeat first | apply Qa | assumption | apply Qb | apply Qc | apply Qd | apply Qe | refine Qf ?_ (by assumption) ?_); all_goals (try simp only [Sz]); first | done | omega | (try simp only [Sz] at *); omega)).mono ?_; rintro e w1 ⟨rfl, hb1⟩; have hT1 : Blk w1 (w.heap.size + 1) 26 #[.int .i64 t.op, .int .i64 t.a, .int .i64 t.b] := Blk.below (Blk.new' (by simp)) hb1 (by simp); have hP1 : Blk w1 w.heap.size 24 #[.int .i64 regs, .slice A l.length cap] := Blk.below ((Blk.new' rfl).alloc _) hb1 (by simp <;> omega); have lt := hT1.lt; have lp := hP1.lt; have t0 := hT1.cell 0; have t1 := hT1.cell 1; have t2 := hT1.cell 2; have p0 := hP1.cell 0; simp only [Yl] at t0 t1 t2 p0) | (go_at_call 32; refine (reckons_any _ _).mono ?_; rw [h1]; rintro e w2 ⟨rfl, rfl⟩) | (go_at_call 33; refine (within_any _ _ _ _).mono ?_; (first | rw [h2]); rintro e w2 ⟨rfl, rfl⟩))
 go_ret
 exact ⟨by simp, (by (with_reducible repeat first | apply Qa | assumption | apply Qb | apply Qc | apply Qd | apply Qe | refine Qf ?_ (by assumption) ?_); all_goals (try simp only [Sz]); first | done | omega | (try simp only [Sz] at *); omega)⟩)
 · (
 cases h3 : inB t.b 0 (regs - 1)
 · (
 go_enter Tryz.func8, Tryz.ntmps8
 go_wp2_with (first | (go_at_call 31; refine (HC.out _ (by (with_reducible repeat first | apply Qa | assumption | apply Qb | apply Qc | apply Qd | apply Qe | refine Qf ?_ (by assumption) ?_); all_goals (try simp only [Sz]); first | done | omega | (try simp only [Sz] at *); omega)).mono ?_; rintro e w1 ⟨rfl, hb1⟩; have hT1 : Blk w1 (w.heap.size + 1) 26 #[.int .i64 t.op, .int .i64 t.a, .int .i64 t.b] := Blk.below (Blk.new' (by simp)) hb1 (by simp); have hP1 : Blk w1 w.heap.size 24 #[.int .i64 regs, .slice A l.length cap] := Blk.below ((Blk.new' rfl).alloc _) hb1 (by simp <;> omega); have lt := hT1.lt; have lp := hP1.lt; have t0 := hT1.cell 0; have t1 := hT1.cell 1; have t2 := hT1.cell 2; have p0 := hP1.cell 0; simp only [Yl] at t0 t1 t2 p0) | (go_at_call 32; refine (reckons_any _ _).mono ?_; rw [h1]; rintro e w2 ⟨rfl, rfl⟩) | (go_at_call 33; refine (within_any _ _ _ _).mono ?_; (first | rw [h2] | rw [h3]); rintro e w2 ⟨rfl, rfl⟩))
 go_ret
 exact ⟨by simp, (by (with_reducible repeat first | apply Qa | assumption | apply Qb | apply Qc | apply Qd | apply Qe | refine Qf ?_ (by assumption) ?_); all_goals (try simp only [Sz]); first | done | omega | (try simp only [Sz] at *); omega)⟩)
 · (
 go_enter Tryz.func8, Tryz.ntmps8
 go_wp2_with (first | (go_at_call 31; refine (HC.out _ (by (with_reducible repeat first | apply Qa | assumption | apply Qb | apply Qc | apply Qd | apply Qe | refine Qf ?_ (by assumption) ?_); all_goals (try simp only [Sz]); first | done | omega | (try simp only [Sz] at *); omega)).mono ?_; rintro e w1 ⟨rfl, hb1⟩; have hT1 : Blk w1 (w.heap.size + 1) 26 #[.int .i64 t.op, .int .i64 t.a, .int .i64 t.b] := Blk.below (Blk.new' (by simp)) hb1 (by simp); have hP1 : Blk w1 w.heap.size 24 #[.int .i64 regs, .slice A l.length cap] := Blk.below ((Blk.new' rfl).alloc _) hb1 (by simp <;> omega); have lt := hT1.lt; have lp := hP1.lt; have t0 := hT1.cell 0; have t1 := hT1.cell 1; have t2 := hT1.cell 2; have p0 := hP1.cell 0; simp only [Yl] at t0 t1 t2 p0) | (go_at_call 32; refine (reckons_any _ _).mono ?_; rw [h1]; rintro e w2 ⟨rfl, rfl⟩) | (go_at_call 33; refine (within_any _ _ _ _).mono ?_; (first | rw [h2] | rw [h3]); rintro e w2 ⟨rfl, rfl⟩))
 go_ret
 exact ⟨by simp, (by (with_reducible repeat first | apply Qa | assumption | apply Qb | apply Qc | apply Qd | apply Qe | refine Qf ?_ (by assumption) ?_); all_goals (try simp only [Sz]); first | done | omega | (try simp only [Sz] at *); omega)⟩))))
 · (
 have h0 : (chk regs l != 0) = true := by simp [hc]
 rw [if_pos hc]
 clear hc
 go_enter Tryz.func8, Tryz.ntmps8
 go_wp2_with (go_at_call 31; refine (HC.out _ (by (with_reducible repeat first | apply Qa | assumption | apply Qb | apply Qc | apply Qd | apply Qe | refine Qf ?_ (by assumption) ?_); all_goals (try simp only [Sz]); first | done | omega | (try simp only [Sz] at *); omega)).mono ?_; rintro e w1 ⟨rfl, hb1⟩)
 go_ret
 exact ⟨rfl, (by (with_reducible repeat first | apply Qa | assumption | apply Qb | apply Qc | apply Qd | apply Qe | refine Qf ?_ (by assumption) ?_); all_goals (try simp only [Sz]); first | done | omega | (try simp only [Sz] at *); omega)⟩))
def ndV (n : Nd) : Value := .agg #[.int .i64 n.op, .int .i64 n.d, .int .i64 n.a, .int .i64 n.b, .int .i64 n.t, .int .i64 n.e]
theorem reckonsIt_any (n : Nd) (t : Tm) (w : World) :
 Calls Tryz.prog 35 #[.agg #[.int .i64 n.op, .int .i64 n.d, .int .i64 n.a, .int .i64 n.b, .int .i64 n.t, .int .i64 n.e], .agg #[.int .i64 t.op, .int .i64 t.a, .int .i64 t.b]] w fun e w' => e = .returned (.bool (recB t n)) ∧ Below w.heap.size w w' := by (
 unfold recB
 cases h1 : (n.op == t.op)
 · (
 go_enter Tryz.func35, Tryz.ntmps35
 go_wp2
 go_ret
 exact ⟨rfl, (by (with_reducible repeat first | apply Qa | assumption | apply Qb | apply Qc | apply Qd | apply Qe | refine Qf ?_ (by assumption) ?_); all_goals (try simp only [Sz]); first | done | omega | (try simp only [Sz] at *); omega)⟩)
 · (
 cases h2 : (n.a == t.a)
 · (
 go_enter Tryz.func35, Tryz.ntmps35
 go_wp2
 go_ret
 exact ⟨rfl, (by (with_reducible repeat first | apply Qa | assumption | apply Qb | apply Qc | apply Qd | apply Qe | refine Qf ?_ (by assumption) ?_); all_goals (try simp only [Sz]); first | done | omega | (try simp only [Sz] at *); omega)⟩)
 · (
 go_enter Tryz.func35, Tryz.ntmps35
 go_wp2
 go_ret
 exact ⟨by simp, (by (with_reducible repeat first | apply Qa | assumption | apply Qb | apply Qc | apply Qd | apply Qe | refine Qf ?_ (by assumption) ?_); all_goals (try simp only [Sz]); first | done | omega | (try simp only [Sz] at *); omega)⟩)))
theorem keepsIt_any (n : Nd) (t : Tm) (w : World) :
 Calls Tryz.prog 37 #[.agg #[.int .i64 n.op, .int .i64 n.d, .int .i64 n.a, .int .i64 n.b, .int .i64 n.t, .int .i64 n.e], .agg #[.int .i64 t.op, .int .i64 t.a, .int .i64 t.b]] w fun e w' => e = .returned (.bool (keepB t n)) ∧ Below w.heap.size w w' := by (
 unfold keepB
 cases h1 : hasD n.op
 · (
 go_enter Tryz.func37, Tryz.ntmps37
 go_wp2_with (go_at_call 70; refine (fields_any _ _).mono ?_; rw [h1]; rintro e w1 ⟨rfl, rfl⟩)
 go_ret
 exact ⟨rfl, (by (with_reducible repeat first | apply Qa | assumption | apply Qb | apply Qc | apply Qd | apply Qe | refine Qf ?_ (by assumption) ?_); all_goals (try simp only [Sz]); first | done | omega | (try simp only [Sz] at *); omega)⟩)
 · (
 cases h2 : (n.d != t.a)
 · (
 go_enter Tryz.func37, Tryz.ntmps37
 go_wp2_with (go_at_call 70; refine (fields_any _ _).mono ?_; rw [h1]; rintro e w1 ⟨rfl, rfl⟩)
 go_ret
 exact ⟨rfl, (by (with_reducible repeat first | apply Qa | assumption | apply Qb | apply Qc | apply Qd | apply Qe | refine Qf ?_ (by assumption) ?_); all_goals (try simp only [Sz]); first | done | omega | (try simp only [Sz] at *); omega)⟩)
 · (
 go_enter Tryz.func37, Tryz.ntmps37
 go_wp2_with (go_at_call 70; refine (fields_any _ _).mono ?_; rw [h1]; rintro e w1 ⟨rfl, rfl⟩)
 go_ret
 exact ⟨by simp, (by (with_reducible repeat first | apply Qa | assumption | apply Qb | apply Qc | apply Qd | apply Qe | refine Qf ?_ (by assumption) ?_); all_goals (try simp only [Sz]); first | done | omega | (try simp only [Sz] at *); omega)⟩)))
theorem sum_any (w : World) : Calls Tryz.prog 39 #[] w fun e w' => e = .returned (.agg #[.int .i64 3, .int .i64 0, .int .i64 1]) ∧ Below w.heap.size w w' := by (
 go_enter Tryz.func39, Tryz.ntmps39
 go_wp2
 refine bodyPost_ret (v := .agg #[.int .i64 3, .int .i64 0, .int .i64 1]) (by simp [results, Tryz.results39, go_sem]) rfl ⟨rfl, (by (with_reducible repeat first | apply Qa | assumption | apply Qb | apply Qc | apply Qd | apply Qe | refine Qf ?_ (by assumption) ?_); all_goals (try simp only [Sz]); first | done | omega | (try simp only [Sz] at *); omega)⟩)
end
section
open Go.RowKit
set_option maxHeartbeats 2000000
theorem fcheck1_any (S A : Option Addr) (n m len cap : Nat) (g : Nat) (w : World) (h0 : w.cell? ⟨g, 1, none⟩ = some (.slice A len cap)) :
 Calls Tryz.prog 87 #[.slice S n m, .pointer (some ⟨g, 0, none⟩)] w fun e w' => e = .returned (.bool ((n : Int) != (len : Int))) ∧ w = w' := by (
 go_enter Tryz.func87, Tryz.ntmps87
 go_wp2
 go_ret
 exact ⟨rfl, rfl⟩)
def slv (s : Option Addr × Nat × Nat) : Value := .slice s.1 s.2.1 s.2.2
theorem idxBools_any (S A : Option Addr) (ss : List (Option Addr × Nat × Nat)) (cap len cp : Nat) (g : Nat) (w : World) (hl : ss.length ≤ maxLen) (hS : ValsAt w S (ss.map slv))
 (hg : g < w.heap.size) (h0 : w.cell? ⟨g, 1, none⟩ = some (.slice A len cp)) :
 Calls Tryz.prog 102 #[.slice S ss.length cap, .func (.func 87) #[] #[.pointer (some ⟨g, 0, none⟩)]] w
  (IdxPost (ss.any fun s => (s.2.1 : Int) != (len : Int)) w) := by (
 unfold maxLen at hl
 go_enter Tryz.func102, Tryz.ntmps102
 go_wp2
 go_loopw [8] (fun i wr => ∃ k : Nat, k ≤ ss.length ∧ i = .int .i64 k ∧ (ss.take k).any (fun s => (s.2.1 : Int) != (len : Int)) = false ∧ Below w.heap.size w wr) (fun i _ => ss.length - (intOf i).toNat)
 case atStart => exact ⟨0, Nat.zero_le _, rfl, by simp, Below.refl _ _⟩
 case round => (
 obtain ⟨k, hk, rfl, hno, hbr⟩ := hrel
 have hzr := hbr.size
 have Hno := hide hno
 clear hno
 by_cases hlt : k < ss.length
 · (
 obtain ⟨b, off, v, rfl, hbl, hkn, hn⟩ := hS.get (k := k) (by simpa using hlt)
 obtain ⟨s, hs, hv⟩ : ∃ s, ss[k]? = some s ∧ slv s = v := by simpa using hkn
 subst hv
 clear hkn
 have Hkn := hide hs
 clear hs
 have c0 := ((bcell hbr).1 _ _ hbl).trans hn
 unfold slv at c0
 have g0 := ((bcell hbr).1 _ 1 hg).trans h0
 have hp := fcheck1_any s.1 A s.2.1 s.2.2 len cp g wr g0
 have Hp := hide hp
 clear hp
 have hbw : b < wr.heap.size := by omega
 cases ho : ((s.2.1 : Int) != (len : Int))
 · (
 rw [ho] at Hp
 go_wp2_with (go_at_call 87; refine (Hp.out).mono ?_; rintro e w1 ⟨rfl, rfl⟩)
 go_roundw
 case rel => exact ⟨k + 1, by omega, by go_num, by rw [any_take_succ _ ss k s Hkn.out, Hno.out]; simp [ho], hbr⟩
 case measure => simp [intOf]; omega)
 · (
 rw [ho] at Hp
 go_wp2_with (go_at_call 87; refine (Hp.out).mono ?_; rintro e w1 ⟨rfl, rfl⟩)
 go_ret
 exact ⟨k, rfl, by rw [any_of_take _ ss k s Hkn.out ho]; simp, hbr⟩))
 · (
 go_wp2
 go_ret
 exact ⟨-1, rfl, by rw [← any_take_all _ ss k hlt, Hno.out]; rfl, hbr⟩)))
theorem anyBools_any (S A : Option Addr) (ss : List (Option Addr × Nat × Nat)) (cap len cp : Nat) (g : Nat) (w : World) (hl : ss.length ≤ maxLen) (hS : ValsAt w S (ss.map slv))
 (hg : g < w.heap.size) (h0 : w.cell? ⟨g, 1, none⟩ = some (.slice A len cp)) :
 Calls Tryz.prog 86 #[.slice S ss.length cap, .func (.func 87) #[] #[.pointer (some ⟨g, 0, none⟩)]] w
  fun e w' => e = .returned (.bool (ss.any fun s => (s.2.1 : Int) != (len : Int))) ∧ Below w.heap.size w w' := by (
 have h := idxBools_any S A ss cap len cp g w hl hS hg h0
 have H := hide h
 clear h h0
 generalize (ss.any fun s => (s.2.1 : Int) != (len : Int)) = q at *
 go_enter Tryz.func86, Tryz.ntmps86
 go_wp2_with (go_at_call 102; refine (H.out).mono ?_; rintro e w1 ⟨r, rfl, hr, hb1⟩)
 go_ret
 exact ⟨by rw [← hr]; rfl, hb1⟩)
def okLens (n g p q t : Nat) : Bool := ((g : Int) == n) && ((p : Int) == n) && ((q : Int) == n) && ((t : Int) == n)
def fchk (regs : Int) (l : List Nd) (g p q t : Nat) : Int :=
 if chk regs l ≠ 0 then chk regs l else if okLens l.length g p q t = true then 0 else 1
theorem FCheck_any (regs : Int) (A : Option Addr) (l : List Nd) (cap : Nat) (bk em : Bool) (G P Q T : Option Addr) (g p q t gc pc qc tc : Nat) (w : World) (hl : l.length ≤ maxLen) (hA : NodesAt w A l) :
 Calls Tryz.prog 67 #[.agg #[.int .i64 regs, .slice A l.length cap], .agg #[.bool bk, .bool em, .slice G g gc, .slice P p pc, .slice Q q qc, .slice T t tc]] w
  fun e w' => e = .returned (.int .i64 (fchk regs l g p q t)) ∧ Below w.heap.size w w' := by (
 by_cases h : chk regs l = 0
 · (
 have hf : fchk regs l g p q t = if okLens l.length g p q t = true then 0 else 1 := by unfold fchk; simp [h]
 have hq : (([(G, g, gc), (P, p, pc), (Q, q, qc), (T, t, tc)] : List (Option Addr × Nat × Nat)).any fun s => (s.2.1 : Int) != (l.length : Int)) = !okLens l.length g p q t := by (
 simp only [List.any_cons, List.any_nil, okLens, bne, Bool.not_and, Bool.or_assoc, Bool.or_false])
 have H := hide h
 have Hf := hide hf
 have Hq := hide hq
 clear h hf hq
 generalize hokl : okLens l.length g p q t = ok at *
 have Hok := hide hokl
 clear hokl
 go_enter Tryz.func67, Tryz.ntmps67
 go_wp2_with (first
  | (go_at_call 74; refine (Check_any _ _ _ _ _ hl (hA.below (by (with_reducible repeat first | apply Qa | assumption | apply Qb | apply Qc | apply Qd | apply Qe | refine Qf ?_ (by assumption) ?_); all_goals (try simp only [Sz]); first | done | omega | (try simp only [Sz] at *); omega))).mono ?_; rw [H.out]; rintro e w1 ⟨rfl, hb1⟩; obtain ⟨hc1, hf1⟩ := bcell hb1; have hz1 := hb1.size; simp only [World.size_alloc] at hz1 hc1 hf1; have hy1 := Nat.lt_of_succ_le hz1; have hx1 := Nat.lt_of_succ_lt hy1)
  )
 have hV : ValsAt (w1.alloc (.cells #[.slice G g gc, .slice P p pc, .slice Q q qc, .slice T t tc] 27)) (some ⟨w1.heap.size, 0, none⟩) (([(G, g, gc), (P, p, pc), (Q, q, qc), (T, t, tc)] : List (Option Addr × Nat × Nat)).map slv) := by (
 refine ValsAt.mk (by simp) ?_
 intro i v hi
 rcases i with _ | _ | _ | _ | i <;> simp [slv] at hi ⊢ <;> exact hi)
 have g0 : (w1.alloc (.cells #[.slice G g gc, .slice P p pc, .slice Q q qc, .slice T t tc] 27)).cell? ⟨w.heap.size, 1, none⟩ = some (.slice A l.length cap) := by (
 rw [cpast hx1, hc1 _ _ (by omega), cpast (by simp)]
 simp)
 refine (anyBools_any _ A _ _ l.length cap _ _ (by simp [maxLen]) hV (by simp; omega) g0).mono ?_
 rw [Hq.out]
 rintro e w2 ⟨rfl, hb2⟩
 have hz2 := hb2.size
 simp only [World.size_alloc] at hz2
 have hB : Below w.heap.size w w2 := (by (with_reducible repeat first | apply Qa | assumption | apply Qb | apply Qc | apply Qd | apply Qe | refine Qf ?_ (by assumption) ?_); all_goals (try simp only [Sz]); first | done | omega | (try simp only [Sz] at *); omega)
 clear hb2 hb1 hV g0 hc1 hf1
 cases ok
 · (
 go_wp2_with fail
 go_ret
 exact ⟨by rw [Hf.out]; rfl, hB⟩)
 · (
 go_wp2_with fail
 go_ret
 exact ⟨by rw [Hf.out]; rfl, hB⟩))
 · (
 have hf : fchk regs l g p q t = chk regs l := by unfold fchk; simp [h]
 rw [hf]
 clear hf
 generalize hq : chk regs l = q' at *
 have Hq := hide hq
 clear hq
 go_enter Tryz.func67, Tryz.ntmps67
 go_wp2_with (go_at_call 74; refine (Check_any _ _ _ _ _ hl (hA.below (by (with_reducible repeat first | apply Qa | assumption | apply Qb | apply Qc | apply Qd | apply Qe | refine Qf ?_ (by assumption) ?_); all_goals (try simp only [Sz]); first | done | omega | (try simp only [Sz] at *); omega))).mono ?_; rw [Hq.out]; rintro e w1 ⟨rfl, hb1⟩; obtain ⟨hc1, hf1⟩ := bcell hb1; have hz1 := hb1.size; simp only [World.size_alloc] at hz1 hc1 hf1)
 go_ret
 exact ⟨rfl, (by (with_reducible repeat first | apply Qa | assumption | apply Qb | apply Qc | apply Qd | apply Qe | refine Qf ?_ (by assumption) ?_); all_goals (try simp only [Sz]); first | done | omega | (try simp only [Sz] at *); omega)⟩))
end
end Go.Proofs.YtmghkonmfbpjcabGreat
