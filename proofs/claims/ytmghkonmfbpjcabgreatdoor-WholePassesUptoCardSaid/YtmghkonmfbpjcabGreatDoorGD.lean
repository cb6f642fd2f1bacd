/- Parts. -/
import Derived.WalkSpells
import Derived.Test.YtmghkonmfbpjcabGreatDoorCheckP
import Derived.Test.YtmghkonmfbpjcabGreatDoorFlowOf
set_option linter.unusedVariables false
set_option linter.unusedSimpArgs false
set_option maxRecDepth 100000
set_option maxHeartbeats 4000000
namespace Go.Proofs.YtmghkonmfbpjcabGreatDoor
open Go.RowKit
open Go.Proofs.Tryz
section
attribute [local irreducible] Row madeCells
theorem Yp {P : Prop} (h : P := by (
 go_enter func131, ntmps131
 go_wp2_with fail
 go_quiet (fail)
 go_wp2_with fail
 go_ret
 exact ⟨rfl, bZ (Below.refl _ _) _⟩)) : P := h
def tmA (t : Tm) : Array Value := #[.int .i64 t.op, .int .i64 t.a, .int .i64 t.b]
theorem bMV (regs : Int) (A : Option Addr) (l : List Nd) (cap P T : Nat) (t : Tm) (w : World) (hP : Blk w P 24 #[.int .i64 regs, .slice A l.length cap]) (hT : Blk w T 56 (tmA t)) (hA : bH w A l) {k : Nat} (hk : k < l.length) :
 iA prog 131 #[.pointer (some ⟨P, 0, none⟩), .pointer (some ⟨T, 0, none⟩)] w k (fJ t (nd l k)) := by (
 intro W hW
 obtain ⟨b, off, n, rfl, hb, hn, hl⟩ := (hA.below hW).get hk
 rw [dJ hn]
 obtain ⟨c0, c1, c2, c3, c4, c5⟩ := hl
 have hP' := hP.below hW hP.lt
 have hT' := hT.below hW hT.lt
 have p1 := hP'.cell 1
 have t0 := hT'.cell 0
 have t1 := hT'.cell 1
 have t2 := hT'.cell 2
 have lp := hP'.lt
 have lt := hT'.lt
 simp only [tmA, Yl] at p1 t0 t1 t2
 refine Vk fun u0 u1 => ?_
 clear hP hT hP' hT' hA hn hW
 show Calls prog 131 #[.int .i64 k, .pointer (some ⟨P, 0, none⟩), .pointer (some ⟨T, 0, none⟩)] W _
 unfold fJ
 cases h1 : (n.op == t.op)
 · exact Yp
 · (
 cases h2 : (n.a == t.a)
 · exact Yp
 · (
 go_enter func131, ntmps131
 go_wp2_with fail
 go_quiet (fail)
 go_wp2_with fail
 go_ret
 exact ⟨Zf, bZ (Below.refl _ _) _⟩)))
theorem bMU (regs : Int) (A : Option Addr) (l : List Nd) (cap P T : Nat) (t : Tm) (w : World) (hP : Blk w P 24 #[.int .i64 regs, .slice A l.length cap]) (hT : Blk w T 56 (tmA t)) (hA : bH w A l) {k : Nat} (hk : k < l.length) :
 iA prog 132 #[.pointer (some ⟨P, 0, none⟩), .pointer (some ⟨T, 0, none⟩)] w k (lM t (nd l k)) := by (
 intro W hW
 obtain ⟨b, off, n, rfl, hb, hn, hl⟩ := (hA.below hW).get hk
 rw [dJ hn]
 obtain ⟨c0, c1, c2, c3, c4, c5⟩ := hl
 have hP' := hP.below hW hP.lt
 have hT' := hT.below hW hT.lt
 have p1 := hP'.cell 1
 have t0 := hT'.cell 0
 have t1 := hT'.cell 1
 have t2 := hT'.cell 2
 have lp := hP'.lt
 have lt := hT'.lt
 simp only [tmA, Yl] at p1 t0 t1 t2
 refine Vk fun u0 u1 => ?_
 have hd : dE n.op = !(decide (n.op < 1) || decide (9 < n.op)) := by (
 unfold dE inB
 rw [Bool.eq_iff_iff]
 simp <;> omega)
 have Hd := bA hd
 clear hP hT hP' hT' hA hn hW hd
 show Calls prog 132 #[.int .i64 k, .pointer (some ⟨P, 0, none⟩), .pointer (some ⟨T, 0, none⟩)] W _
 unfold lM
 rw [Hd.o]
 by_cases h1 : n.op < 1
 · (
 have d1 : decide (n.op < 1) = true := by simp [h1]
 rw [d1]
 clear h1
 go_enter func132, ntmps132
 go_wp2
 go_ret
 exact ⟨rfl, Yc⟩)
 · (
 have d1 : decide (n.op < 1) = false := by simp [h1]
 rw [d1]
 clear h1
 by_cases h2 : 9 < n.op
 · (
 have d2 : decide (9 < n.op) = true := by simp [h2]
 have d3 : decide (n.op > 9) = true := d2
 rw [d2]
 clear h2
 go_enter func132, ntmps132
 go_wp2
 go_ret
 exact ⟨rfl, Yc⟩)
 · (
 have d2 : decide (9 < n.op) = false := by simp [h2]
 have d3 : decide (n.op > 9) = false := d2
 rw [d2]
 clear h2
 cases h3 : (n.d != t.a)
 · (
 go_enter func132, ntmps132
 go_wp2
 go_ret
 exact ⟨rfl, Yc⟩)
 · (
 go_enter func132, ntmps132
 go_wp2
 go_ret
 exact ⟨Zf, Yc⟩))))
theorem bJT (L : Option Addr) (x : List Bool) (c g : Nat) (w : World) (hG : Blk w g 74 #[.slice L x.length c]) (hL : bG w L (bE x)) {k : Nat} (hk : k < x.length) :
 iA prog 134 #[.pointer (some ⟨g, 0, none⟩)] w k (!yn x k) := by (
 intro W hW
 obtain ⟨b, off, rfl, hb, hc⟩ := (hL.below hW).bool hk
 have hG' := hG.below hW hG.lt
 have g0 := hG'.cell 0
 have lg := hG'.lt
 simp only [List.getElem?_toArray, List.getElem?_cons_zero] at g0
 obtain ⟨u0, u1⟩ := Ikq (k := k) (n := x.length) (by omega)
 clear hG hG' hL hW
 show Calls prog 134 #[.int .i64 k, .pointer (some ⟨g, 0, none⟩)] W _
 go_enter func134, ntmps134
 go_wp2
 go_ret
 exact ⟨rfl, Below.refl _ _⟩)
theorem bQA (W : World) (args : Array Value) : (callFunc 134 args).run prog W = .ok (.enter 134 args) W := Zc
theorem bRY (W : World) (args : Array Value) : (callFunc 131 args).run prog W = .ok (.enter 131 args) W := Zc
theorem bRX (W : World) (args : Array Value) : (callFunc 132 args).run prog W = .ok (.enter 132 args) W := Zc
theorem bRW (W : World) (args : Array Value) : (callFunc 136 args).run prog W = .ok (.enter 136 args) W := Zc
theorem bRV (W : World) (args : Array Value) : (callFunc 137 args).run prog W = .ok (.enter 137 args) W := Zc
theorem bRU (W : World) (args : Array Value) : (callFunc 140 args).run prog W = .ok (.enter 140 args) W := Zc
theorem bAH (regs : Int) (A : Option Addr) (n cap P : Nat) (L : Option Addr) (x : List Bool) (c : Nat) (w : World) (hn : n ≤ 65536) (hx : x.length = n) (hP : Blk w P 24 #[.int .i64 regs, .slice A n cap]) (hL : bG w L (bE x)) :
 Calls prog 133 #[.slice L n c, .pointer (some ⟨P, 0, none⟩)] w (sM 4 (cX x) w) := by (
 subst hx
 have hE := fun (W : World) (hW : Below w.heap.size w W) (hb : Blk W w.heap.size 74 #[.slice L x.length c]) => nM 134 #[.pointer (some ⟨w.heap.size, 0, none⟩)] (fun k => !yn x k) regs A x.length cap W hn bQA (fun k hk => bJT L x c w.heap.size W hb (hL.below hW) hk)
 have HE := bA hE
 have p0 := hP.cell 0
 have p1 := hP.cell 1
 have lp := hP.lt
 simp only [Yl] at p0 p1
 clear hE hP hL
 go_enter func133, ntmps133
 go_wp2_with (go_at_call 130; refine (HE.o _ Yc Yd).mono ?_; rintro e w1 ⟨v, rfl, hr, hb⟩)
 go_ret
 exact ⟨_, rfl, hr.mono Zf, Yc⟩)
theorem bMT (K R : Option Addr) (x y : List Bool) (c d g h : Nat) (w : World) (hG : Blk w g 74 #[.slice K x.length c]) (hH : Blk w h 74 #[.slice R y.length d]) (hK : bG w K (bE x)) (hR : bG w R (bE y)) {k : Nat} (hk : k < x.length) (hk2 : k < y.length) :
 iA prog 136 #[.pointer (some ⟨g, 0, none⟩), .pointer (some ⟨h, 0, none⟩)] w k (yn x k && yn y k) := by (
 intro W hW
 obtain ⟨b, off, rfl, hb, hc⟩ := (hK.below hW).bool hk
 obtain ⟨b2, off2, rfl, hb2, hc2⟩ := (hR.below hW).bool hk2
 have hG' := hG.below hW hG.lt
 have hH' := hH.below hW hH.lt
 have g0 := hG'.cell 0
 have h0 := hH'.cell 0
 have lg := hG'.lt
 have lh := hH'.lt
 simp only [List.getElem?_toArray, List.getElem?_cons_zero] at g0 h0
 obtain ⟨u0, u1⟩ := Ikq (k := k) (n := x.length) (by omega)
 have u2 : (k : Int) < (y.length : Int) := Zb
 clear hG hG' hH hH' hK hR hW
 show Calls prog 136 #[.int .i64 k, .pointer (some ⟨g, 0, none⟩), .pointer (some ⟨h, 0, none⟩)] W _
 cases h1 : yn x k
 · (
 rw [h1] at hc
 go_enter func136, ntmps136
 go_wp2
 go_ret
 exact ⟨rfl, Below.refl _ _⟩)
 · (
 rw [h1] at hc
 go_enter func136, ntmps136
 go_wp2
 go_ret
 exact ⟨rfl, Below.refl _ _⟩))
def oI (w : World) (t : TypeId) (g GA n : Nat) (E : Nat → List Int) : Prop :=
 Blk w g t #[.slice (some ⟨GA, 0, none⟩) n n] ∧ GA < w.heap.size ∧ ∀ k, k < n → ∃ (R : Option Addr) (es : List Int) (c : Nat), w.cell? ⟨GA, k, none⟩ = some (.slice R es.length c) ∧ bG w R (bN es) ∧ es.length ≤ 65536 ∧ ∀ m, m ∈ es ↔ m ∈ E k
theorem oI.below {w w' : World} {t : TypeId} {g GA n : Nat} {E : Nat → List Int} (h : oI w t g GA n E) (hb : Below w.heap.size w w') : oI w' t g GA n E := by (
 obtain ⟨h1, h2, h3⟩ := h
 refine ⟨h1.below hb h1.lt, V6 h2 hb.size, fun k hk => ?_⟩
 obtain ⟨R, es, c, c1, c2, c3⟩ := h3 k hk
 exact ⟨R, es, c, ((bB hb).1 _ _ h2).trans c1, c2.below hb, c3⟩)
theorem bEN {es es' : List Int} {p : Int → Bool} (h : ∀ m, m ∈ es ↔ m ∈ es') : es.any p = es'.any p := by (
 rw [Bool.eq_iff_iff, List.any_eq_true, List.any_eq_true]
 simp only [h])
theorem bJY {es es' : List Int} (h : ∀ m, m ∈ es ↔ m ∈ es') : (es.length == 0) = (es'.length == 0) := by (
 rw [Bool.eq_iff_iff]
 simp only [beq_iff_eq, List.length_eq_zero_iff, List.eq_nil_iff_forall_not_mem, h])
theorem bJS (K D U : Option Addr) (x d u : List Bool) (kc dc uc g f : Nat) (cs : Array Value) (w : World) (hG : Blk w g 74 #[.slice K x.length kc]) (hF : Blk w f 152 cs) (f0 : cs[0]? = some (.slice D d.length dc)) (f1 : cs[1]? = some (.slice U u.length uc))
 (hK : bG w K (bE x)) (hD : bG w D (bE d)) (hU : bG w U (bE u)) {m : Nat} (h1 : m < x.length) (h2 : m < d.length) (h3 : m < u.length) :
 iA prog 139 #[.pointer (some ⟨g, 0, none⟩), .pointer (some ⟨f, 0, none⟩)] w m (!yn x m || !yn d m && !yn u m) := by (
 intro W hW
 obtain ⟨b, off, rfl, hb, hc⟩ := (hK.below hW).bool h1
 obtain ⟨b2, off2, rfl, hb2, hc2⟩ := (hD.below hW).bool h2
 obtain ⟨b3, off3, rfl, hb3, hc3⟩ := (hU.below hW).bool h3
 have hG' := hG.below hW hG.lt
 have hF' := hF.below hW hF.lt
 have g0 := hG'.cell 0
 have q0 := (hF'.cell 0).trans f0
 have q1 := (hF'.cell 1).trans f1
 have lg := hG'.lt
 have lf := hF'.lt
 simp only [List.getElem?_toArray, List.getElem?_cons_zero] at g0
 obtain ⟨u0, u1⟩ := Ikq (k := m) (n := x.length) (by omega)
 have u2 : (m : Int) < (d.length : Int) := Zb
 have u3 : (m : Int) < (u.length : Int) := Zb
 clear hG hG' hF hF' hK hD hU hW f0 f1
 show Calls prog 139 #[.int .i64 m, .pointer (some ⟨g, 0, none⟩), .pointer (some ⟨f, 0, none⟩)] W _
 cases e1 : yn x m
 · (
 rw [e1] at hc
 go_enter func139, ntmps139
 go_wp2
 go_ret
 exact ⟨rfl, Below.refl _ _⟩)
 · (
 rw [e1] at hc
 cases e2 : yn d m
 · (
 rw [e2] at hc2
 go_enter func139, ntmps139
 go_wp2
 go_ret
 exact ⟨rfl, Below.refl _ _⟩)
 · (
 rw [e2] at hc2
 go_enter func139, ntmps139
 go_wp2
 go_ret
 exact ⟨rfl, Below.refl _ _⟩)))
theorem bJR (D : Option Addr) (d : List Bool) (dc f : Nat) (cs : Array Value) (w : World) (hF : Blk w f 152 cs) (f3 : cs[3]? = some (.slice D d.length dc)) (hD : bG w D (bE d)) {m : Nat} (h2 : m < d.length) :
 iA prog 141 #[.pointer (some ⟨f, 0, none⟩)] w m (!yn d m) := by (
 intro W hW
 obtain ⟨b2, off2, rfl, hb2, hc2⟩ := (hD.below hW).bool h2
 have hF' := hF.below hW hF.lt
 have q0 := (hF'.cell 3).trans f3
 have lf := hF'.lt
 obtain ⟨u0, u2⟩ := Ikq (k := m) (n := d.length) (by omega)
 clear hF hF' hD hW f3
 show Calls prog 141 #[.int .i64 m, .pointer (some ⟨f, 0, none⟩)] W _
 go_enter func141, ntmps141
 go_wp2
 go_ret
 exact ⟨rfl, Below.refl _ _⟩)
theorem bPZ (W : World) (args : Array Value) : (callFunc 139 args).run prog W = .ok (.enter 139 args) W := Zc
theorem bPY (W : World) (args : Array Value) : (callFunc 141 args).run prog W = .ok (.enter 141 args) W := Zc
theorem bMS (K D U : Option Addr) (x d u : List Bool) (kc dc uc g f a GA n : Nat) (E : Nat → List Int) (cs : Array Value) (w : World) (hG : Blk w g 74 #[.slice K x.length kc]) (hF : Blk w f 152 cs) (f0 : cs[0]? = some (.slice D d.length dc)) (f1 : cs[1]? = some (.slice U u.length uc))
 (hA : oI w 72 a GA n E) (hK : bG w K (bE x)) (hD : bG w D (bE d)) (hU : bG w U (bE u)) (h1 : x.length = n) (h2 : d.length = n) (h3 : u.length = n) (hE : ∀ k m, m ∈ E k → 0 ≤ m ∧ m < (n : Int)) {k : Nat} (hk : k < n) :
 iA prog 137 #[.pointer (some ⟨f, 0, none⟩), .pointer (some ⟨a, 0, none⟩), .pointer (some ⟨g, 0, none⟩)] w k (yn d k && ((E k).length == 0 || (E k).any fun m => !yn x m.toNat || !yn d m.toNat && !yn u m.toNat)) := by (
 intro W hW
 obtain ⟨hB, hGA, hT⟩ := hA.below hW
 obtain ⟨R, es, c, hc, hR, hes, hsame⟩ := hT k hk
 have HD := bA (hD.below hW)
 obtain ⟨b2, off2, eD, hb2, hc2⟩ := HD.o.bool (k := k) Zb
 subst eD
 have hG' := hG.below hW hG.lt
 have hF' := hF.below hW hF.lt
 have q0 := (hF'.cell 0).trans f0
 have a0 := hB.cell 0
 have lf := hF'.lt
 have la := hB.lt
 simp only [List.getElem?_toArray, List.getElem?_cons_zero] at a0
 refine Vs fun u0 u1 => ?_
 have u2 : (k : Int) < (d.length : Int) := Zb
 rw [← bEN hsame, ← bJY hsame]
 have hS := bBY 139 #[.pointer (some ⟨g, 0, none⟩), .pointer (some ⟨f, 0, none⟩)] (fun m => !yn x m.toNat || !yn d m.toNat && !yn u m.toNat) R es c W Zw hR bPZ (fun m hm => by
  obtain ⟨m0, m1⟩ := hE k m ((hsame m).1 hm)
  obtain ⟨q, rfl⟩ := V7 m0
  exact bJS K _ U x d u kc dc uc g f cs W hG' hF' f0 f1 (hK.below hW) HD.o (hU.below hW) Zb Zb Zb)
 have HS := bA hS
 generalize (es.any fun m => !yn x m.toNat || !yn d m.toNat && !yn u m.toNat) = q at *
 clear hG hG' hF hF' hK hU hW f0 f1 hT hA hsame hB hS hD HD hE hR
 show Calls prog 137 #[.int .i64 k, .pointer (some ⟨f, 0, none⟩), .pointer (some ⟨a, 0, none⟩), .pointer (some ⟨g, 0, none⟩)] W _
 cases e2 : yn d k
 · (
 rw [e2] at hc2
 go_enter func137, ntmps137
 go_wp2_with fail
 go_ret
 exact ⟨rfl, Below.refl _ _⟩)
 · (
 rw [e2] at hc2
 cases e3 : ((es.length : Int) == 0)
 · (
 have e4 : (es.length == 0) = false := by simp at e3 ⊢; exact e3
 rw [e4]
 go_enter func137, ntmps137
 go_wp2_with (go_at_call 138; refine (HS.o).mono ?_; rintro e w1 ⟨rfl, hb1⟩)
 go_ret
 exact ⟨Zf, hb1⟩)
 · (
 have e4 : (es.length == 0) = true := by simp at e3 ⊢; exact e3
 rw [e4]
 go_enter func137, ntmps137
 go_wp2_with fail
 go_ret
 exact ⟨rfl, Below.refl _ _⟩)))
theorem bMR (D R0 : Option Addr) (d y : List Bool) (dc yc h f a GA n : Nat) (E : Nat → List Int) (cs : Array Value) (w : World) (hH : Blk w h 74 #[.slice R0 y.length yc]) (hF : Blk w f 152 cs) (f3 : cs[3]? = some (.slice D d.length dc))
 (hA : oI w 72 a GA n E) (hY : bG w R0 (bE y)) (hD : bG w D (bE d)) (h1 : y.length = n) (h2 : d.length = n) (hE : ∀ k m, m ∈ E k → 0 ≤ m ∧ m < (n : Int)) {k : Nat} (hk : k < n) :
 iA prog 140 #[.pointer (some ⟨f, 0, none⟩), .pointer (some ⟨h, 0, none⟩), .pointer (some ⟨a, 0, none⟩)] w k (yn d k && (yn y k || (E k).any fun m => !yn d m.toNat)) := by (
 intro W hW
 obtain ⟨hB, hGA, hT⟩ := hA.below hW
 obtain ⟨R, es, c, hc, hR, hes, hsame⟩ := hT k hk
 have HD := bA (hD.below hW)
 obtain ⟨b2, off2, eD, hb2, hc2⟩ := HD.o.bool (k := k) Zb
 subst eD
 obtain ⟨b3, off3, rfl, hb3, hc3⟩ := (hY.below hW).bool (k := k) Zb
 have hH' := hH.below hW hH.lt
 have hF' := hF.below hW hF.lt
 have q0 := (hF'.cell 3).trans f3
 have a0 := hB.cell 0
 have h0 := hH'.cell 0
 have lf := hF'.lt
 have la := hB.lt
 have lh := hH'.lt
 simp only [List.getElem?_toArray, List.getElem?_cons_zero] at a0 h0
 refine Vs fun u0 u1 => ?_
 have u2 : (k : Int) < (d.length : Int) := Zb
 have u3 : (k : Int) < (y.length : Int) := Zb
 rw [← bEN hsame]
 have hS := bBY 141 #[.pointer (some ⟨f, 0, none⟩)] (fun m => !yn d m.toNat) R es c W Zw hR bPY (fun m hm => by
  obtain ⟨m0, m1⟩ := hE k m ((hsame m).1 hm)
  obtain ⟨q, rfl⟩ := V7 m0
  exact bJR _ d dc f cs W hF' f3 HD.o Zb)
 have HS := bA hS
 generalize (es.any fun m => !yn d m.toNat) = q at *
 clear hF hF' hH hH' hW f3 hT hA hsame hB hS hD HD hE hR hY
 show Calls prog 140 #[.int .i64 k, .pointer (some ⟨f, 0, none⟩), .pointer (some ⟨h, 0, none⟩), .pointer (some ⟨a, 0, none⟩)] W _
 cases e2 : yn d k
 · (
 rw [e2] at hc2
 go_enter func140, ntmps140
 go_wp2_with fail
 go_ret
 exact ⟨rfl, Below.refl _ _⟩)
 · (
 rw [e2] at hc2
 cases e3 : yn y k
 · (
 rw [e3] at hc3
 go_enter func140, ntmps140
 go_wp2_with (go_at_call 138; refine (HS.o).mono ?_; rintro e w1 ⟨rfl, hb1⟩)
 go_ret
 exact ⟨Zf, hb1⟩)
 · (
 rw [e3] at hc3
 go_enter func140, ntmps140
 go_wp2_with fail
 go_ret
 exact ⟨rfl, Below.refl _ _⟩)))
end
theorem bIP {α : Type} {x y : List α} (hl : x.length = y.length) (h : ∀ (i : Nat), i < x.length → x[i]? = y[i]?) : x = y := by (
 apply List.ext_getElem?
 intro i
 by_cases hi : i < x.length
 · exact h i hi
 · rw [List.getElem?_eq_none Zb, List.getElem?_eq_none Zb])
theorem bG.int {w : World} {A : Option Addr} {l : List Int} (h : bG w A (bN l)) {k : Nat} (hk : k < l.length) :
 ∃ b off z, A = some ⟨b, off, none⟩ ∧ b < w.heap.size ∧ l[k]? = some z ∧ w.cell? ⟨b, off + k, none⟩ = some (.int .i64 z) := by (
 obtain ⟨b, off, v, e, hb, hv, hc⟩ := h.get (k := k) (by rw [bJ]; exact hk)
 rw [kC, Vx hk] at hv
 simp at hv
 subst hv
 exact ⟨b, off, l[k], e, hb, Vx hk, hc⟩)
theorem bBG (X Y : Option Addr) (xc yc : Nat) (x y : List Int) (w : World) (hX : bG w X (bN x)) (hY : bG w Y (bN y)) (hx : x.length ≤ maxLen) (hy : y.length ≤ maxLen) :
 Calls prog 26 #[.slice X x.length xc, .slice Y y.length yc] w fun e w' => e = .returned (.bool (x == y)) ∧ ∃ d, w' = w.drewN d := by (
 unfold maxLen at hx hy
 by_cases hl : x.length = y.length
 · (
 have Hl := bA hl
 have h1 : ((x.length : Int) != (y.length : Int)) = false := by simp [hl]
 clear hl
 go_enter func26, ntmps26
 go_wp2_with fail
 go_loopg [5] (x.length) (fun gk i wr => ∃ k : Nat, k ≤ x.length ∧ i = .int .i64 k ∧ gk = x.length - k ∧ (∀ j, j < k → x[j]? = y[j]?) ∧ ∃ d, wr = w.drewN d)
 case atStart => exact ⟨0, Nat.zero_le _, rfl, Zb, fun j hj => by omega, 0, rfl⟩
 case round => (
 obtain ⟨k, hk, rfl, hgk, hno, d, rfl⟩ := hrel
 have Hgk := bA hgk
 have Hno := bA hno
 clear hgk hno
 by_cases hlt : k < x.length
 · (
 have hlt2 : k < y.length := by rw [← Hl.o]; exact hlt
 obtain ⟨xb, xo, u, rfl, hxb, hu, cx⟩ := hX.int hlt
 obtain ⟨yb, yo, v, rfl, hyb, hv, cy⟩ := hY.int hlt2
 have Hu := bA hu
 have Hv := bA hv
 obtain ⟨k0, k1⟩ := Ikq (k := k) (n := x.length) (by omega)
 have k2 : (k : Int) < (y.length : Int) := Zb
 clear hX hY hu hv
 cases hq : (u != v)
 case true => (
 have hf : (x == y) = false := by (
 rw [beq_eq_false_iff_ne]
 rintro rfl
 have := Hu.o.symm.trans Hv.o
 injection this with this
 subst this
 simp at hq)
 have Hf := bA hf
 clear hf
 go_wp2_with fail
 go_quiet (fail)
 go_wp2_with fail
 go_ret
 exact ⟨by rw [Hf.o]; rfl, d + nq, Zf⟩)
 case false => (
 have Hq := bA hq
 go_wp2_with fail
 go_quiet (fail)
 go_wp2_with fail
 go_roundg (x.length - (k + 1))
 case measure => exact Jg
 case rel => (
 refine ⟨k + 1, Zb, by go_num, rfl, fun j hj => ?_, d + nq, Zf⟩
 by_cases hjk : j = k
 · (
 subst hjk
 rw [Hu.o, Hv.o]
 have := Hq.o
 simp at this
 rw [this])
 · exact Hno.o j Zb)))
 · (
 have hf : (x == y) = true := by (
 rw [beq_iff_eq]
 exact bIP Hl.o fun i hi => Hno.o i Zb)
 have Hf := bA hf
 clear hf
 go_wp2_with fail
 go_ret
 exact ⟨by rw [Hf.o]; rfl, _, rfl⟩)))
 · (
 have hf : (x == y) = false := by (
 rw [beq_eq_false_iff_ne]
 intro e
 exact hl (by rw [e]))
 rw [hf]
 have h1 : ((x.length : Int) != (y.length : Int)) = true := by simp; omega
 clear hf hl
 go_enter func26, ntmps26
 go_wp2_with fail
 go_ret
 exact ⟨rfl, 0, rfl⟩))
theorem iG : (prog.info? 39).map (fun i => (i.zero, i.size, i.bytes)) = some (some (.agg #[.int .i64 0, .int .i64 0, .int .i64 0, .int .i64 0, .int .i64 0, .int .i64 0]), 6, 48) := Zc
def bOQ (B : Nat) (t : TypeId) (l : List Nd) (w : World) (e : Ending) (w' : World) : Prop := ∃ v, e = .returned v ∧ cO w' B t v l ∧ Below w.heap.size w w'
theorem kU (A : Option Addr) (l : List Nd) (cap : Nat) (w : World) (hA : bH w A l) (hl : 1 ≤ l.length) (hl2 : l.length ≤ 65536) :
 Calls prog 12 #[.slice A l.length cap] w (bOQ w.heap.size 39 l w) := by (
 obtain ⟨i3, h3i, h3z, h3s, h3b⟩ := info_parts iG
 obtain ⟨b, off, n0, rfl, hb, hn0, hlie⟩ := hA.get (k := 0) Zb
 have HN := bA hn0
 clear hn0 hlie
 have hne := fun W => Lib.run_eql_slice_nil (P := prog) W
 go_enter func12, ntmps12
 go_wp2_with (at_builtin; refine bK (v := .slice (some ⟨w.heap.size, 0, none⟩) 0 0) (l := []) (base := w.heap.size) rfl _ _ _ rfl i3 _ 48 underlying22 h3i h3z h3s h3b rfl rfl (bO.empty rfl (Nat.le_refl _)) (some ⟨b, off, none⟩) l.length cap l rfl rfl (hA.below Yc) Zq Zh Zf ?_; intro v2 w2 hr2 hg2 hat2)
 go_ret
 exact ⟨_, rfl, by simpa using hr2, ((Bnq _ _)).grown hg2 Zf X5⟩)
def sI (B : Nat) (t : TypeId) (regs : Int) (l : List Nd) (w : World) (e : Ending) (w' : World) : Prop := ∃ v, e = .returned (.agg #[.int .i64 regs, v]) ∧ cO w' B t v l ∧ Below w.heap.size w w'
theorem bFE (regs : Int) (A : Option Addr) (l : List Nd) (cap : Nat) (w : World) (hA : bH w A l) (hl2 : l.length * 48 ≤ 140737488355328) :
 Calls prog 15 #[.agg #[.int .i64 regs, .slice A l.length cap]] w (sI w.heap.size 39 regs l w) := by (
 obtain ⟨i3, h3i, h3z, h3s, h3b⟩ := info_parts iG
 go_enter func15, ntmps15
 go_wp2_with fail
 go_region_law ((refine iT (v := .slice (some ⟨w.heap.size + 1 + 1, 0, none⟩) 0 0) (l := []) (base := w.heap.size) Zj _ _ _ Zj i3 _ 48 underlying22 h3i h3z h3s h3b rfl Zj (bO.drew (bO.empty Zf Zd)) A l.length cap l Zj Zj (hA.below Yc) Zr Zd Zd ?_; intro v2 w2 hr2 hg2 hat2; obtain ⟨A2, c2, hv2, _, _⟩ := hr2.shape; subst hv2; simp only [List.nil_append] at hr2 hat2 ⊢; have hQ2 : Blk w2 (w.heap.size + 1) 24 #[.int .i64 0, .slice none 0 0] := Blk.grown Yd hg2 Zt; have hP2 : Blk w2 w.heap.size 24 #[.int .i64 regs, .slice A l.length cap] := Blk.grown Yd hg2 Zt; have r0 := hQ2.cell 0; have r1 := hQ2.cell 1; have f0 := hQ2.frozen 0; have f1 := hQ2.frozen 1; have q0 := hP2.cell 0; have q1 := hP2.cell 1; simp only [Yl] at r0 r1 q0 q1))
 all_goals go_wp2_with fail
 all_goals go_tidy
 all_goals (refine bodyPost_ret (v := .agg #[.int .i64 regs, .slice A2 l.length c2]) (by simp [results, results15, go_sem, r0, r1, Vw, Vv]) rfl ?_)
 all_goals (refine ⟨_, rfl, bO.far (bO.far hr2 (hr2.ne_blk hQ2 Ze) _) (hr2.ne_blk hQ2 Ze) _, ?_⟩)
 all_goals (have hB2 : Below w.heap.size w w2 := Below.grown Yc hg2 Zd Zt)
 all_goals exact Yc)
theorem kG (regs : Int) (A : Option Addr) (l : List Nd) (cap : Nat) (w : World) (hA : bH w A l) (hl2 : l.length ≤ 65536) :
 Calls prog 15 #[.agg #[.int .i64 regs, .slice A l.length cap]] w (sI w.heap.size 39 regs l w) := bFE
    regs A l cap w hA Zb
def Nd.val (n : Nd) : Value := .agg #[.int .i64 n.op, .int .i64 n.d, .int .i64 n.a, .int .i64 n.b, .int .i64 n.t, .int .i64 n.e]
theorem uD (x y : Nd) (w : World) : (Op.equalIn 10000 39 x.val y.val).run prog w = .ok (x == y) w := by (
 have u3 := underlying3
 have a3 : ∀ w, (isAgg 3).run prog w = .ok false w := fun w => by kernel_rfl
 have z3 : ∀ w, (sizeOf 3).run prog w = .ok 1 w := fun w => by kernel_rfl
 have hS : prog.underlying 39 = some (.struct (prog.fieldsOf 39)) := Zc
 have hp : prog.stoodInHeld 39 = false := Zc
 obtain ⟨x0, x1, x2, x3, x4, x5⟩ := x
 obtain ⟨y0, y1, y2, y3, y4, y5⟩ := y
 simp only [Nd.val]
 rw [show (10000 : Nat) = 9999 + 1 from rfl, run_equalIn_agg w 9999 39 _ _ hS hp]
 simp only [Program.fieldsOf, underlying39]
 go_simp
 have hb : ((⟨x0, x1, x2, x3, x4, x5⟩ : Nd) == ⟨y0, y1, y2, y3, y4, y5⟩) = (x0 == y0 && (x1 == y1 && (x2 == y2 && (x3 == y3 && (x4 == y4 && x5 == y5))))) := by (
 rw [Bool.eq_iff_iff]
 simp)
 rw [hb]
 by_cases h0 : x0 = y0 <;> by_cases h1 : x1 = y1 <;> by_cases h2 : x2 = y2 <;> by_cases h3 : x3 = y3 <;> by_cases h4 : x4 = y4 <;> by_cases h5 : x5 = y5 <;> simp [h0, h1, h2, h3, h4, h5])
theorem zM : prog.eqGuardType prog.depth 39 = false := Zc
theorem yD (r1 r2 : Int) (A B : Option Addr) (l m : List Nd) (ac bc : Nat) (w : World) (hA : bH w A l) (hB : bH w B m) (hl : l.length ≤ maxLen) (hm : m.length ≤ maxLen) :
 Calls prog 9 #[.agg #[.int .i64 r1, .slice A l.length ac], .agg #[.int .i64 r2, .slice B m.length bc]] w fun e w' => e = .returned (.bool (r1 == r2 && l == m)) ∧ Below w.heap.size w w' := by (
 unfold maxLen at hl hm
 by_cases hr : r1 = r2
 · (
 have h0 : (r1 != r2) = false := by simp [hr]
 by_cases hll : l.length = m.length
 · (
 have Hl := bA hll
 have Hr := bA hr
 have h1 : ((l.length : Int) != (m.length : Int)) = false := by simp [hll]
 clear hll hr
 go_enter func9, ntmps9
 go_wp2_with fail
 go_loopg [5] (l.length) (fun gk i wr => ∃ k : Nat, k ≤ l.length ∧ i = .int .i64 k ∧ gk = l.length - k ∧ (∀ j, j < k → l[j]? = m[j]?) ∧ Blk wr w.heap.size 24 #[.int .i64 r1, .slice A l.length ac] ∧ Blk wr (w.heap.size + 1) 24 #[.int .i64 r2, .slice B m.length bc] ∧ Below w.heap.size w wr)
 case atStart => exact ⟨0, Nat.zero_le _, rfl, Zb, fun j hj => by omega, Yd, Yd, Yc⟩
 case round => (
 obtain ⟨k, hk, rfl, hgk, hno, hP, hQ, hBl⟩ := hrel
 have Hgk := bA hgk
 have Hno := bA hno
 clear hgk hno
 have hz := hBl.size
 have p0 := hP.cell 0
 have p1 := hP.cell 1
 have q0 := hQ.cell 0
 have q1 := hQ.cell 1
 simp only [Yl] at p0 p1 q0 q1
 by_cases hlt : k < l.length
 · (
 have hlt2 : k < m.length := by rw [← Hl.o]; exact hlt
 obtain ⟨ab, ao, x, rfl, hab, hx, hxl⟩ := (hA.below hBl).get hlt
 obtain ⟨bb, bo, y, rfl, hbb, hy, hyl⟩ := (hB.below hBl).get hlt2
 have Hx := bA hx
 have Hy := bA hy
 obtain ⟨k0, k1⟩ := Ikq (k := k) (n := l.length) (by omega)
 have k2 : (k : Int) < (m.length : Int) := Zb
 obtain ⟨c0, c1, c2, c3, c4, c5⟩ := hxl
 obtain ⟨d0, d1, d2, d3, d4, d5⟩ := hyl
 have HP := bA hP
 have HQ := bA hQ
 have hgd := zM
 have hEq := fun W => uD x y W
 unfold Nd.val at hEq
 cases hq : (x == y)
 case false => (
 rw [hq] at hEq
 have Hq := hq
 have hf : (l == m) = false := by (
 rw [beq_eq_false_iff_ne]
 rintro rfl
 have := Hx.o.symm.trans Hy.o
 injection this with this
 subst this
 simp at Hq)
 have HQ1 := bA hq
 have HP' := bA hP
 have HQ' := bA hQ
 have Hf := bA hf
 clear hA hB hx hy hP hQ hq Hq hf
 go_wp2_with fail
 go_quiet (fail)
 go_wp2_with fail
 go_ret
 exact ⟨by rw [Hf.o]; simp, Yc⟩)
 case true => (
 rw [hq] at hEq
 clear hA hB hx hy hP hQ
 have Hq := bA hq
 clear hq
 go_wp2_with fail
 go_quiet (fail)
 go_wp2_with fail
 go_roundg (l.length - (k + 1))
 case measure => exact Jg
 case rel => (
 refine ⟨k + 1, Zb, by go_num, rfl, fun j hj => ?_, HP.o.drewN _, HQ.o.drewN _, Yc⟩
 by_cases hjk : j = k
 · (
 subst hjk
 rw [Hx.o, Hy.o]
 have := Hq.o
 rw [beq_iff_eq] at this
 rw [this])
 · exact Hno.o j Zb)))
 · (
 have hf : (l == m) = true := by (
 rw [beq_iff_eq]
 exact bIP Hl.o fun i hi => Hno.o i Zb)
 have hf2 : (r1 == r2) = true := by rw [beq_iff_eq]; exact Hr.o
 have Hf := bA hf
 have Hf2 := bA hf2
 clear hf hf2 hP hQ hA hB
 go_wp2_with fail
 go_ret
 exact ⟨by rw [Hf.o, Hf2.o]; rfl, hBl⟩)))
 · (
 have hf : (l == m) = false := by (
 rw [beq_eq_false_iff_ne]
 intro e
 exact hll (by rw [e]))
 rw [hf]
 have h1 : ((l.length : Int) != (m.length : Int)) = true := by simp; omega
 clear hf hll hr
 go_enter func9, ntmps9
 go_wp2_with fail
 go_ret
 exact ⟨Zf, Yc⟩))
 · (
 have h0 : (r1 != r2) = true := by simp [hr]
 have hf : (r1 == r2) = false := by simp [hr]
 rw [hf]
 clear hf hr
 go_enter func9, ntmps9
 go_wp2_with fail
 go_ret
 exact ⟨Zf, Yc⟩))
section
attribute [local irreducible] Row madeCells
def rkB (t : Tm) (n : Nd) : Bool := n == ⟨t.op, n.d, t.a, t.b, n.t, 0⟩
theorem bFY {regs : Int} {l : List Nd} (hR : bM regs l) {n : Nd} (hn : n ∈ l) {t : Tm} (ht : 3 ≤ t.op ∧ t.op ≤ 8) : rkB t n = fJ t n := by (
 have hf := hR.frm n hn
 obtain ⟨op, d, a, b, th, e⟩ := n
 rw [Bool.eq_iff_iff]
 simp only [rkB, fJ, beq_iff_eq, Nd.mk.injEq, V9, true_and]
 constructor
 · (
 rintro ⟨h1, h2, h3, h4⟩
 exact ⟨⟨h1, h2⟩, h3⟩)
 · (
 rintro ⟨⟨h1, h2⟩, h3⟩
 refine ⟨h1, h2, h3, ?_⟩
 simp only [badF, Uf, Bool.not_eq_false'] at hf
 have h5 := hf.2
 have : fL op = false := by simp [fL]; omega
 simpa [okF, this] using h5))
theorem iF (n : Nd) (t : Tm) (w : World) : Calls prog 147 #[.agg #[.int .i64 n.op, .int .i64 n.d, .int .i64 n.a, .int .i64 n.b, .int .i64 n.t, .int .i64 n.e], .agg (tmA t)] w fun e w' => e = .returned (.bool (rkB t n)) ∧ Below w.heap.size w w' := by (
 have hEq := fun W => uD n ⟨t.op, n.d, t.a, t.b, n.t, 0⟩ W
 unfold Nd.val at hEq
 have hgd := zM
 unfold tmA rkB
 generalize (n == ⟨t.op, n.d, t.a, t.b, n.t, 0⟩) = q at *
 go_enter func147, ntmps147
 go_wp2_with fail
 go_ret
 exact ⟨rfl, Yc⟩)
structure xL (tF : TypeId) (fb n : Nat) (A0 A1 A2 A3 A4 A5 : Option Addr) (c0 c1 c2 c3 c4 c5 : Nat) (F : Fx) (W : World) : Prop where
 box : Blk W fb tF #[.slice A0 n c0, .slice A1 n c1, .slice A2 n c2, .slice A3 n c3, .slice A4 n c4, .slice A5 n c5]
 down : bG W A0 (bE F.down) ∧ F.down.length = n
 early : bG W A2 (bE F.early) ∧ F.early.length = n
 late : bG W A4 (bE F.late) ∧ F.late.length = n
 alone : bG W A5 (bE F.alone) ∧ F.alone.length = n
theorem xL.later {tF : TypeId} {fb n : Nat} {A0 A1 A2 A3 A4 A5 : Option Addr} {c0 c1 c2 c3 c4 c5 : Nat} {F : Fx} {W W' : World} (h : xL tF fb n A0 A1 A2 A3 A4 A5 c0 c1 c2 c3 c4 c5 F W) (hb : Below W.heap.size W W') : xL tF fb n A0 A1 A2 A3 A4 A5 c0 c1 c2 c3 c4 c5 F W' :=
 ⟨h.box.below hb h.box.lt, ⟨h.down.1.below hb, h.down.2⟩, ⟨h.early.1.below hb, h.early.2⟩, ⟨h.late.1.below hb, h.late.2⟩, ⟨h.alone.1.below hb, h.alone.2⟩⟩
section
variable {fb n : Nat} {A0 A1 A2 A3 A4 A5 : Option Addr} {c0 c1 c2 c3 c4 c5 : Nat} {F : Fx} {w : World} {k : Nat}
theorem bGM (h : xL 152 fb n A0 A1 A2 A3 A4 A5 c0 c1 c2 c3 c4 c5 F w) (hk : k < n) : iA prog 143 #[.pointer (some ⟨fb, 0, none⟩)] w k (yn F.late k && !yn F.alone k) := by (
 intro W hW
 have h := h.later hW
 obtain ⟨b4, o4, rfl, l4, e4⟩ := h.late.1.bool (k := k) (by rw [h.late.2]; exact hk)
 obtain ⟨b5, o5, rfl, l5, e5⟩ := h.alone.1.bool (k := k) (by rw [h.alone.2]; exact hk)
 have q4 := h.box.cell 4
 have q5 := h.box.cell 5
 have lq := h.box.lt
 simp only [Yl] at q4 q5
 refine Vs fun u0 u1 => ?_
 clear h
 show Calls prog 143 #[.int .i64 k, .pointer (some ⟨fb, 0, none⟩)] W _
 generalize yn F.late k = p at *
 generalize yn F.alone k = q at *
 cases p
 · (
 go_enter func143, ntmps143
 go_wp2_with fail
 go_ret
 exact ⟨rfl, Below.refl _ _⟩)
 · (
 go_enter func143, ntmps143
 go_wp2_with fail
 go_ret
 exact ⟨rfl, Below.refl _ _⟩))
theorem bGL (h : xL 152 fb n A0 A1 A2 A3 A4 A5 c0 c1 c2 c3 c4 c5 F w) (hk : k < n) : iA prog 144 #[.pointer (some ⟨fb, 0, none⟩)] w k (!yn F.late k || !yn F.alone k) := by (
 intro W hW
 have h := h.later hW
 obtain ⟨b4, o4, rfl, l4, e4⟩ := h.late.1.bool (k := k) (by rw [h.late.2]; exact hk)
 obtain ⟨b5, o5, rfl, l5, e5⟩ := h.alone.1.bool (k := k) (by rw [h.alone.2]; exact hk)
 have q4 := h.box.cell 4
 have q5 := h.box.cell 5
 have lq := h.box.lt
 simp only [Yl] at q4 q5
 refine Vs fun u0 u1 => ?_
 clear h
 show Calls prog 144 #[.int .i64 k, .pointer (some ⟨fb, 0, none⟩)] W _
 generalize yn F.late k = p at *
 generalize yn F.alone k = q at *
 cases p
 · (
 go_enter func144, ntmps144
 go_wp2_with fail
 go_ret
 exact ⟨rfl, Below.refl _ _⟩)
 · (
 go_enter func144, ntmps144
 go_wp2_with fail
 go_ret
 exact ⟨rfl, Below.refl _ _⟩))
end
end
section
abbrev nil6 : Array Value := #[.slice none 0 0, .slice none 0 0, .slice none 0 0, .slice none 0 0, .slice none 0 0, .slice none 0 0]
abbrev Box := Nat × TypeId × Array Value
structure kJ (tS tI : TypeId) (B : Nat) (w : World) (GA GB n : Nat) (ks : List Box) (wr : World) (vs : Nat → Value) (ys : Nat → List Value) : Prop where
 ra : Row wr B tS (.slice (some ⟨GA, 0, none⟩) n n) ((List.range n).map vs)
 rb : Row wr B tS (.slice (some ⟨GB, 0, none⟩) n n) ((List.range n).map fun i => vs (n + i))
 tab : Tab wr B tI (2 * n) vs ys
 kept : ∀ q ∈ ks, Blk wr q.1 q.2.1 q.2.2 ∧ q.2.1 ≠ tI ∧ q.2.1 ≠ tS
 ne : GA ≠ GB
 below : Below B w wr
 sz : B ≤ wr.heap.size
section
variable {tS tI : TypeId} {B : Nat} {w : World} {GA GB n : Nat} {ks : List Box} {wr wr1 w2 : World} {vs : Nat → Value} {ys : Nat → List Value} {v1 : Value} {zs : List Value}
theorem kJ.blk (h : kJ tS tI B w GA GB n ks wr vs ys) {g : Nat} {t : TypeId} {cs : Array Value} (hq : (g, t, cs) ∈ ks) : Blk wr g t cs := (h.kept _ hq).1
theorem kJ.later (h : kJ tS tI B w GA GB n ks wr vs ys) (hb : Below wr.heap.size wr wr1) : kJ tS tI B w GA GB n ks wr1 vs ys :=
 ⟨h.ra.below' hb, h.rb.below' hb, h.tab.below hb, fun q hq => ⟨(h.kept q hq).1.below hb (h.kept q hq).1.lt, (h.kept q hq).2⟩, h.ne, h.below.trans (hb.mono h.sz), Nat.le_trans h.sz hb.size⟩
theorem kJ.cons (h : kJ tS tI B w GA GB n ks wr vs ys) {g : Nat} {t : TypeId} {cs : Array Value} (hb : Blk wr g t cs) (n1 : t ≠ tI) (n2 : t ≠ tS) : kJ tS tI B w GA GB n ((g, t, cs) :: ks) wr vs ys :=
 ⟨h.ra, h.rb, h.tab, fun q hq => by
  rcases List.mem_cons.1 hq with rfl | hq
  · exact ⟨hb, n1, n2⟩
  · exact h.kept q hq, h.ne, h.below, h.sz⟩
theorem kJ.tail {q : Box} (h : kJ tS tI B w GA GB n (q :: ks) wr vs ys) : kJ tS tI B w GA GB n ks wr vs ys :=
 ⟨h.ra, h.rb, h.tab, fun q hq => h.kept q (List.mem_cons_of_mem _ hq), h.ne, h.below, h.sz⟩
theorem kJ.grow (h : kJ tS tI B w GA GB n ks wr vs ys) (n2 : tI ≠ tS) {i : Nat} (hi : i < 2 * n) (hr : Row w2 B tI v1 zs) (hg : wr.grownBy w2 (vs i).ownBlock)
 (hat : v1.ownBlock = (vs i).ownBlock ∨ ∀ k, v1.ownBlock = some k → wr.heap.size ≤ k) :
 Row w2 B tS (.slice (some ⟨GA, 0, none⟩) n n) ((List.range n).map vs) ∧ Row w2 B tS (.slice (some ⟨GB, 0, none⟩) n n) ((List.range n).map fun i => vs (n + i)) ∧ Tab w2 B tI (2 * n) (upd vs i v1) (upd ys i zs) ∧
  (∀ q ∈ ks, Blk w2 q.1 q.2.1 q.2.2) ∧ Below B w w2 ∧ B ≤ w2.heap.size := by (
 have hri := h.tab.row hi
 obtain ⟨ca, hca⟩ := h.ra.blk
 obtain ⟨cb, hcb⟩ := h.rb.blk
 have a3 : (vs i).ownBlock ≠ some GA := hri.ne_blk hca n2
 have a4 : (vs i).ownBlock ≠ some GB := hri.ne_blk hcb n2
 exact ⟨h.ra.kept hg (.inr Xg), h.rb.kept hg (.inr Xh), h.tab.put hi hr hg hat,
  fun q hq => (h.kept q hq).1.grown hg (hri.ne_blk (h.kept q hq).1 (Ne.symm (h.kept q hq).2.1)), h.below.grown hg h.sz fun k hk => (hri.lt k hk).1, Nat.le_trans h.sz hg.size⟩)
theorem kJ.putA (h : kJ tS tI B w GA GB n ks wr vs ys) (n2 : tI ≠ tS) {i : Nat} (hi : i < n) (hr : Row w2 B tI v1 zs) (hg : wr.grownBy w2 (vs i).ownBlock)
 (hat : v1.ownBlock = (vs i).ownBlock ∨ ∀ k, v1.ownBlock = some k → wr.heap.size ≤ k) :
 kJ tS tI B w GA GB n ks (w2.setCell ⟨GA, i, none⟩ v1) (upd vs i v1) (upd ys i zs) := by (
 obtain ⟨ra', rb', tab', kept', below', sz'⟩ := h.grow n2 Zb hr hg hat
 obtain ⟨ca, hca⟩ := ra'.blk
 have hB := qQ h.ra
 refine ⟨?_, ?_, tab'.far (p := ⟨GA, i, none⟩) hca n2 _, fun q hq => ⟨(kept' q hq).far (Blk.ne_ (kept' q hq) hca (h.kept q hq).2.2) _, (h.kept q hq).2⟩, h.ne, below'.setCell hB _, by simpa using sz'⟩
 · (
 have := ra'.store i v1
 rw [Nat.zero_add] at this
 rwa [fY _ _ hi] at this)
 · (
 have := rb'.far (p := ⟨GA, i, none⟩) (by simp [Value.ownBlock]; exact fun e => h.ne e.symm) v1
 rwa [show ((List.range n).map fun j => upd vs i v1 (n + j)) = (List.range n).map fun j => vs (n + j) from List.map_congr_left fun j hj => bC _ _ Zb]))
theorem kJ.putB (h : kJ tS tI B w GA GB n ks wr vs ys) (n2 : tI ≠ tS) {i : Nat} (hi : i < n) (hr : Row w2 B tI v1 zs) (hg : wr.grownBy w2 (vs (n + i)).ownBlock)
 (hat : v1.ownBlock = (vs (n + i)).ownBlock ∨ ∀ k, v1.ownBlock = some k → wr.heap.size ≤ k) :
 kJ tS tI B w GA GB n ks (w2.setCell ⟨GB, i, none⟩ v1) (upd vs (n + i) v1) (upd ys (n + i) zs) := by (
 obtain ⟨ra', rb', tab', kept', below', sz'⟩ := h.grow n2 (i := n + i) Zb hr hg hat
 obtain ⟨cb, hcb⟩ := rb'.blk
 have hB := qQ h.rb
 refine ⟨?_, ?_, tab'.far (p := ⟨GB, i, none⟩) hcb n2 _, fun q hq => ⟨(kept' q hq).far (Blk.ne_ (kept' q hq) hcb (h.kept q hq).2.2) _, (h.kept q hq).2⟩, h.ne, below'.setCell hB _, by simpa using sz'⟩
 · (
 have := ra'.far (p := ⟨GB, i, none⟩) (by simp [Value.ownBlock]; exact h.ne) v1
 rwa [show (List.range n).map (upd vs (n + i) v1) = (List.range n).map vs from List.map_congr_left fun j hj => bC _ _ (by have := List.mem_range.1 hj; omega)])
 · (
 have := rb'.store i v1
 rw [Nat.zero_add] at this
 rwa [pI _ _ hi] at this))
end
def nxL (l : List Nd) (k i : Nat) : List Int := if i < k then bT (nd l i) else []
def ahL (l : List Nd) (k m : Nat) : List Int := sel (fO l m) k
def ahJ (l : List Nd) (n : Nd) (k j m : Nat) : List Int := ahL l k m ++ (if (m : Int) ∈ (bT n).take j then [(k : Int)] else [])
theorem bMW {l : List Nd} {k : Nat} {n : Nd} (hn : l[k]? = some n) (i : Nat) : nxL l (k + 1) i = if i = k then bT n else nxL l k i := by (
 unfold nxL
 by_cases h : i = k
 · subst h; rw [if_pos Zb, if_pos rfl, dJ hn]
 · (
 rw [if_neg h]
 by_cases h2 : i < k
 · rw [if_pos Zb, if_pos h2]
 · rw [if_neg Zb, if_neg h2]))
theorem kQ (n : Nd) (m : Int) : m ∈ bT n ↔ bU n m = true := by (
 unfold bT bU
 by_cases h12 : n.op = 12
 · simp [h12]
 · (
 by_cases h11 : n.op = 11
 · (
 by_cases he : n.e = n.t
 · (
 simp [h11, he]
 exact eq_comm)
 · (
 simp [h11, he]
 exact or_congr eq_comm eq_comm))
 · (
 simp [h12, h11]
 exact eq_comm)))
theorem bOE (l : List Nd) (n : Nd) (k m : Nat) : ahJ l n k 0 m = ahL l k m := by simp [ahJ]
theorem bQH {l : List Nd} {k : Nat} {n : Nd} (hn : l[k]? = some n) (m : Nat) {j : Nat} (hj : (bT n).length ≤ j) : ahJ l n k j m = ahL l (k + 1) m := by (
 unfold ahJ ahL
 rw [List.take_of_length_le hj]
 have hp : fO l m k = bU n m := kS hn
 by_cases h : (m : Int) ∈ bT n
 · rw [if_pos h, iC (by rw [hp]; exact (kQ n m).1 h)]
 · rw [if_neg h, List.append_nil, gF (by rw [hp]; cases hq : bU n m with | false => rfl | true => exact absurd ((kQ n m).2 hq) h)])
theorem bAT (n : Nd) : (bT n).Nodup := by (
 unfold bT
 split
 · simp
 · (
 split
 · rename_i h; simp; exact fun e => h.2 e.symm
 · simp))
theorem bOF {l : List Nd} {n : Nd} {k j mm : Nat} (hj : (bT n)[j]? = some (mm : Int)) (m : Nat) : ahJ l n k (j + 1) m = if m = mm then ahJ l n k j m ++ [(k : Int)] else ahJ l n k j m := by (
 unfold ahJ
 have hnd := bAT n
 obtain ⟨hjl, hje⟩ := List.getElem?_eq_some_iff.1 hj
 rw [List.take_add_one, hj]
 by_cases h : m = mm
 · (
 subst h
 have hno : ¬ (m : Int) ∈ (bT n).take j := by (
 intro hm
 obtain ⟨i, hi, he⟩ := List.mem_iff_getElem.1 hm
 rw [List.length_take] at hi
 rw [List.getElem_take] at he
 exact List.pairwise_iff_getElem.1 hnd i j Zb hjl Zb (he.trans hje.symm))
 simp [hno])
 · (
 have h2 : ¬ (m : Int) = (mm : Int) := Zb
 simp [h, h2]))
theorem bQG (l : List Nd) (n : Nd) (k j m : Nat) : (ahJ l n k j m).length ≤ k + 1 := by (
 unfold ahJ ahL
 rw [Vz]
 have := kP (fO l m) k
 split <;> simp <;> omega)
theorem bDQ {l : List Nd} {k : Nat} {n : Nd} (hn : l[k]? = some n) (hT : ∀ m ∈ bT n, 0 ≤ m ∧ m < (l.length : Int)) (m : Int) : m ∈ bT n ↔ m ∈ bF true l k := by (
 unfold bF
 simp only [if_true]
 rw [jS]
 constructor
 · (
 intro h
 obtain ⟨h0, h1⟩ := hT m h
 obtain ⟨q, rfl⟩ := V7 h0
 exact ⟨q, Zb, by rw [nI hn]; exact (kQ n q).1 h, rfl⟩)
 · (
 rintro ⟨q, hq, hp, rfl⟩
 rw [nI hn] at hp
 exact (kQ n q).2 hp))
end
theorem Yu {P : Prop} (h : P := by (
 go_enter func150, ntmps150
 go_wp2_with (go_at_call 39; refine (gL _ _).mono ?_; rw [h1]; rintro e w1 ⟨rfl, rfl⟩)
 go_ret
 exact ⟨rfl, Yc⟩)) : P := h
theorem Yt {P : Prop} (h : P := by (
 go_enter func74, ntmps74
 go_wp2_with (first | (go_at_call 13; refine (HC.o _ Yc).mono ?_; rintro e w1 ⟨rfl, hb1⟩; have hT1 : Blk w1 (w.heap.size + 1) 56 #[.int .i64 t.op, .int .i64 t.a, .int .i64 t.b] := Blk.below (Blk.new' Zf) hb1 Zf; have hP1 : Blk w1 w.heap.size 24 #[.int .i64 regs, .slice A l.length cap] := Blk.below ((Blk.new' rfl).alloc _) hb1 Zd; have lt := hT1.lt; have lp := hP1.lt; have t0 := hT1.cell 0; have t1 := hT1.cell 1; have t2 := hT1.cell 2; have p0 := hP1.cell 0; simp only [Yl] at t0 t1 t2 p0) | (go_at_call 73; refine (mD _ _).mono ?_; rw [h1]; rintro e w2 ⟨rfl, rfl⟩) | (go_at_call 14; refine (dZ _ _ _ _).mono ?_; (first | rw [h2] | rw [h3]); rintro e w2 ⟨rfl, rfl⟩))
 go_ret
 exact ⟨Zf, Yc⟩)) : P := h
def fxE (regs : Int) (l : List Nd) (t : Tm) : Int :=
 if chk regs l ≠ 0 then chk regs l else if inB t.op 3 8 = false then 4 else if inB t.a 0 (regs - 1) = false ∨ inB t.b 0 (regs - 1) = false then 3 else 0
theorem bDN (regs : Int) (A : Option Addr) (l : List Nd) (cap : Nat) (t : Tm) (w : World) (hl : l.length ≤ maxLen) (hA : bH w A l) :
 Calls prog 129 #[.agg #[.int .i64 regs, .slice A l.length cap], .agg #[.int .i64 t.op, .int .i64 t.a, .int .i64 t.b]] w fun e w' => e = .returned (.int .i64 (fxE regs l t)) ∧ Below w.heap.size w w' := by (
 refine Vp fun hC HC => ?_
 clear hC
 unfold fxE
 by_cases hc : chk regs l = 0
 · (
 have h0 : (chk regs l != 0) = false := by simp [hc]
 have hR := bS hc
 have hr := hR.rlo
 have hr2 := hR.rhi
 rw [if_neg (by simp [hc])]
 clear hR
 have Hc := bA hc
 clear hc
 have hop : inB t.op 3 8 = !(decide (t.op < 3) || decide (8 < t.op)) := by (
 unfold inB; rw [Bool.eq_iff_iff]; simp <;> omega)
 rw [hop]
 clear hop
 by_cases h1 : t.op < 3
 · (
 have d1 : decide (t.op < 3) = true := by simp [h1]
 rw [d1]
 clear h1
 go_enter func129, ntmps129
 go_wp2_with (go_at_call 10; refine (HC.o _ Yc).mono ?_; rintro e w1 ⟨rfl, hb1⟩; have hT1 : Blk w1 (w.heap.size + 1) 56 #[.int .i64 t.op, .int .i64 t.a, .int .i64 t.b] := Blk.below (Blk.new' Zf) hb1 Zf; have lt := hT1.lt; have t0 := hT1.cell 0; simp only [List.getElem?_toArray, List.getElem?_cons_zero] at t0)
 go_ret
 exact ⟨Zf, Yc⟩)
 · (
 have d1 : decide (t.op < 3) = false := by simp [h1]
 rw [d1]
 clear h1
 by_cases h2 : 8 < t.op
 · (
 have d2 : decide (8 < t.op) = true := by simp [h2]
 have d3 : decide (t.op > 8) = true := d2
 rw [d2]
 clear h2
 go_enter func129, ntmps129
 go_wp2_with (go_at_call 10; refine (HC.o _ Yc).mono ?_; rintro e w1 ⟨rfl, hb1⟩; have hT1 : Blk w1 (w.heap.size + 1) 56 #[.int .i64 t.op, .int .i64 t.a, .int .i64 t.b] := Blk.below (Blk.new' Zf) hb1 Zf; have lt := hT1.lt; have t0 := hT1.cell 0; simp only [List.getElem?_toArray, List.getElem?_cons_zero] at t0)
 go_ret
 exact ⟨Zf, Yc⟩)
 · (
 have d2 : decide (8 < t.op) = false := by simp [h2]
 have d3 : decide (t.op > 8) = false := d2
 rw [d2]
 clear h2
 have hab : (inB t.a 0 (regs - 1) = false ∨ inB t.b 0 (regs - 1) = false) ↔ (min t.a t.b < 0 ∨ max t.a t.b ≥ regs) := by (
 unfold inB
 simp only [Bool.and_eq_false_iff, decide_eq_false_iff_not]
 omega)
 simp only [hab, Bool.false_or, Bool.not_false, Bool.true_eq_false, if_false]
 clear hab
 go_enter func129, ntmps129
 go_wp2_with (go_at_call 10; refine (HC.o _ Yc).mono ?_; rintro e w1 ⟨rfl, hb1⟩; have hT1 : Blk w1 (w.heap.size + 1) 56 #[.int .i64 t.op, .int .i64 t.a, .int .i64 t.b] := Blk.below (Blk.new' Zf) hb1 Zf; have hP1 : Blk w1 w.heap.size 24 #[.int .i64 regs, .slice A l.length cap] := Blk.below ((Blk.new' rfl).alloc _) hb1 Zd; have lt := hT1.lt; have lp := hP1.lt; have t0 := hT1.cell 0; have t1 := hT1.cell 1; have t2 := hT1.cell 2; have p0 := hP1.cell 0; simp only [Yl] at t0 t1 t2 p0)
 all_goals go_tidy
 all_goals go_ret
 all_goals refine ⟨?_, Yc⟩
 all_goals (first | rfl | (rw [if_pos Zb]; rfl) | (rw [if_neg Zb]; rfl)))))
 · (
 have h0 : (chk regs l != 0) = true := by simp [hc]
 rw [if_pos hc]
 clear hc
 go_enter func129, ntmps129
 go_wp2_with (go_at_call 10; refine (HC.o _ Yc).mono ?_; rintro e w1 ⟨rfl, hb1⟩)
 go_ret
 exact ⟨rfl, Yc⟩))
theorem iX (regs : Int) (A : Option Addr) (l : List Nd) (cap : Nat) (t : Tm) (w : World) (hA : bH w A l) :
 Calls prog 74 #[.agg #[.int .i64 regs, .slice A l.length cap], .agg #[.int .i64 t.op, .int .i64 t.a, .int .i64 t.b]] w fun e w' => e = .returned (.int .i64 (fxE regs l t)) ∧ Below w.heap.size w w' := by (
 have hC := fun W (hW : Below w.heap.size w W) => jU regs A l cap W (hA.below hW)
 have HC := bA hC
 clear hC
 unfold fxE
 by_cases hc : chk regs l = 0
 · (
 have h0 : (chk regs l != 0) = false := by simp [hc]
 have hR := bS hc
 have hr := hR.rlo
 have hr2 := hR.rhi
 rw [if_neg (by simp [hc])]
 clear hR
 have Hc := bA hc
 clear hc
 have hop : inB t.op 3 8 = cG t.op := rfl
 rw [hop]
 cases h1 : cG t.op
 · (
 go_enter func74, ntmps74
 go_wp2_with (first | (go_at_call 13; refine (HC.o _ Yc).mono ?_; rintro e w1 ⟨rfl, hb1⟩; have hT1 : Blk w1 (w.heap.size + 1) 56 #[.int .i64 t.op, .int .i64 t.a, .int .i64 t.b] := Blk.below (Blk.new' Zf) hb1 Zf; have hP1 : Blk w1 w.heap.size 24 #[.int .i64 regs, .slice A l.length cap] := Blk.below ((Blk.new' rfl).alloc _) hb1 Zd; have lt := hT1.lt; have lp := hP1.lt; have t0 := hT1.cell 0; have t1 := hT1.cell 1; have t2 := hT1.cell 2; have p0 := hP1.cell 0; simp only [Yl] at t0 t1 t2 p0) | (go_at_call 73; refine (mD _ _).mono ?_; rw [h1]; rintro e w2 ⟨rfl, rfl⟩))
 go_ret
 exact ⟨Zf, Yc⟩)
 · (
 cases h2 : inB t.a 0 (regs - 1)
 · (
 go_enter func74, ntmps74
 go_wp2_with (first | (go_at_call 13; refine (HC.o _ Yc).mono ?_; rintro e w1 ⟨rfl, hb1⟩; have hT1 : Blk w1 (w.heap.size + 1) 56 #[.int .i64 t.op, .int .i64 t.a, .int .i64 t.b] := Blk.below (Blk.new' Zf) hb1 Zf; have hP1 : Blk w1 w.heap.size 24 #[.int .i64 regs, .slice A l.length cap] := Blk.below ((Blk.new' rfl).alloc _) hb1 Zd; have lt := hT1.lt; have lp := hP1.lt; have t0 := hT1.cell 0; have t1 := hT1.cell 1; have t2 := hT1.cell 2; have p0 := hP1.cell 0; simp only [Yl] at t0 t1 t2 p0) | (go_at_call 73; refine (mD _ _).mono ?_; rw [h1]; rintro e w2 ⟨rfl, rfl⟩) | (go_at_call 14; refine (dZ _ _ _ _).mono ?_; (first | rw [h2]); rintro e w2 ⟨rfl, rfl⟩))
 go_ret
 exact ⟨Zf, Yc⟩)
 · (
 cases h3 : inB t.b 0 (regs - 1)
 · exact Yt
 · exact Yt)))
 · (
 have h0 : (chk regs l != 0) = true := by simp [hc]
 rw [if_pos hc]
 clear hc
 go_enter func74, ntmps74
 go_wp2_with (go_at_call 13; refine (HC.o _ Yc).mono ?_; rintro e w1 ⟨rfl, hb1⟩)
 go_ret
 exact ⟨rfl, Yc⟩))
theorem bW (n : Nd) (t : Tm) (w : World) :
 Calls prog 105 #[.agg #[.int .i64 n.op, .int .i64 n.d, .int .i64 n.a, .int .i64 n.b, .int .i64 n.t, .int .i64 n.e], .agg #[.int .i64 t.op, .int .i64 t.a, .int .i64 t.b]] w fun e w' => e = .returned (.bool (fJ t n)) ∧ Below w.heap.size w w' := by (
 unfold fJ
 cases h1 : (n.op == t.op)
 · (
 go_enter func105, ntmps105
 go_wp2
 go_ret
 exact ⟨rfl, Yc⟩)
 · (
 cases h2 : (n.a == t.a)
 · (
 go_enter func105, ntmps105
 go_wp2
 go_ret
 exact ⟨rfl, Yc⟩)
 · (
 go_enter func105, ntmps105
 go_wp2
 go_ret
 exact ⟨Zf, Yc⟩)))
theorem fE (n : Nd) (t : Tm) (w : World) :
 Calls prog 150 #[.agg #[.int .i64 n.op, .int .i64 n.d, .int .i64 n.a, .int .i64 n.b, .int .i64 n.t, .int .i64 n.e], .agg #[.int .i64 t.op, .int .i64 t.a, .int .i64 t.b]] w fun e w' => e = .returned (.bool (lM t n)) ∧ Below w.heap.size w w' := by (
 unfold lM
 cases h1 : dE n.op
 · exact Yu
 · (
 cases h2 : (n.d != t.a)
 · exact Yu
 · (
 go_enter func150, ntmps150
 go_wp2_with (go_at_call 39; refine (gL _ _).mono ?_; rw [h1]; rintro e w1 ⟨rfl, rfl⟩)
 go_ret
 exact ⟨Zf, Yc⟩)))
theorem bDO (S A : Option Addr) (n m len cap : Nat) (g : Nat) (w : World) (h0 : w.cell? ⟨g, 1, none⟩ = some (.slice A len cap)) :
 Calls prog 187 #[.slice S n m, .pointer (some ⟨g, 0, none⟩)] w fun e w' => e = .returned (.bool ((n : Int) != (len : Int))) ∧ w = w' := by (
 go_enter func187, ntmps187
 go_wp2
 go_ret
 exact ⟨rfl, rfl⟩)
def slv (s : Option Addr × Nat × Nat) : Value := .slice s.1 s.2.1 s.2.2
theorem bAQ (S A : Option Addr) (ss : List (Option Addr × Nat × Nat)) (cap len cp : Nat) (g : Nat) (w : World) (hl : ss.length ≤ maxLen) (hS : bG w S (ss.map slv))
 (hg : g < w.heap.size) (h0 : w.cell? ⟨g, 1, none⟩ = some (.slice A len cp)) :
 Calls prog 194 #[.slice S ss.length cap, .func (.func 187) #[] #[.pointer (some ⟨g, 0, none⟩)]] w
  (bBK (ss.any fun s => (s.2.1 : Int) != (len : Int)) w) := by (
 unfold maxLen at hl
 go_enter func194, ntmps194
 go_wp2
 go_loopw [8] (fun i wr => ∃ k : Nat, k ≤ ss.length ∧ i = .int .i64 k ∧ (ss.take k).any (fun s => (s.2.1 : Int) != (len : Int)) = false ∧ Below w.heap.size w wr) (fun i _ => ss.length - (intOf i).toNat)
 case atStart => exact Jd
 case round => (
 obtain ⟨k, hk, rfl, hno, hbr⟩ := hrel
 have hzr := hbr.size
 have Hno := bA hno
 clear hno
 by_cases hlt : k < ss.length
 · (
 obtain ⟨b, off, v, rfl, hbl, hkn, hn⟩ := hS.get (k := k) (by simpa using hlt)
 obtain ⟨s, hs, hv⟩ : ∃ s, ss[k]? = some s ∧ slv s = v := by simpa using hkn
 subst hv
 clear hkn
 have Hkn := bA hs
 clear hs
 have c0 := ((bB hbr).1 _ _ hbl).trans hn
 unfold slv at c0
 have g0 := ((bB hbr).1 _ 1 hg).trans h0
 have hp := bDO s.1 A s.2.1 s.2.2 len cp g wr g0
 have Hp := bA hp
 clear hp
 have hbw : b < wr.heap.size := Zb
 cases ho : ((s.2.1 : Int) != (len : Int))
 · (
 rw [ho] at Hp
 go_wp2_with (go_at_call 187; refine (Hp.o).mono ?_; rintro e w1 ⟨rfl, rfl⟩)
 go_roundw
 case rel => exact ⟨k + 1, Zb, by go_num, by rw [dQ _ ss k s Hkn.o, Hno.o]; simp [ho], hbr⟩
 case measure => simp [intOf]; omega)
 · (
 rw [ho] at Hp
 go_wp2_with (go_at_call 187; refine (Hp.o).mono ?_; rintro e w1 ⟨rfl, rfl⟩)
 go_ret
 exact ⟨k, rfl, by rw [fQ _ ss k s Hkn.o ho]; simp, hbr⟩))
 · (
 go_wp2
 go_ret
 exact ⟨-1, rfl, by rw [← eF _ ss k hlt, Hno.o]; rfl, hbr⟩)))
theorem bBB (S A : Option Addr) (ss : List (Option Addr × Nat × Nat)) (cap len cp : Nat) (g : Nat) (w : World) (hl : ss.length ≤ maxLen) (hS : bG w S (ss.map slv))
 (hg : g < w.heap.size) (h0 : w.cell? ⟨g, 1, none⟩ = some (.slice A len cp)) :
 Calls prog 186 #[.slice S ss.length cap, .func (.func 187) #[] #[.pointer (some ⟨g, 0, none⟩)]] w
  fun e w' => e = .returned (.bool (ss.any fun s => (s.2.1 : Int) != (len : Int))) ∧ Below w.heap.size w w' := by (
 have h := bAQ S A ss cap len cp g w hl hS hg h0
 have H := bA h
 clear h h0
 generalize (ss.any fun s => (s.2.1 : Int) != (len : Int)) = q at *
 go_enter func186, ntmps186
 go_wp2_with (go_at_call 194; refine (H.o).mono ?_; rintro e w1 ⟨r, rfl, hr, hb1⟩)
 go_ret
 exact ⟨by rw [← hr]; rfl, hb1⟩)
def rF (n g p q t : Nat) : Bool := ((g : Int) == n) && ((p : Int) == n) && ((q : Int) == n) && ((t : Int) == n)
def xZ (regs : Int) (l : List Nd) (g p q t : Nat) : Int :=
 if chk regs l ≠ 0 then chk regs l else if rF l.length g p q t = true then 0 else 1
theorem bHW (regs : Int) (A : Option Addr) (l : List Nd) (cap : Nat) (bk em : Bool) (G P Q T : Option Addr) (g p q t gc pc qc tc : Nat) (w : World) (hl : l.length ≤ maxLen) (hA : bH w A l) :
 Calls prog 170 #[.agg #[.int .i64 regs, .slice A l.length cap], .agg #[.bool bk, .bool em, .slice G g gc, .slice P p pc, .slice Q q qc, .slice T t tc]] w
  fun e w' => e = .returned (.int .i64 (xZ regs l g p q t)) ∧ Below w.heap.size w w' := by (
 by_cases h : chk regs l = 0
 · (
 have hf : xZ regs l g p q t = if rF l.length g p q t = true then 0 else 1 := by unfold xZ; simp [h]
 have hq : (([(G, g, gc), (P, p, pc), (Q, q, qc), (T, t, tc)] : List (Option Addr × Nat × Nat)).any fun s => (s.2.1 : Int) != (l.length : Int)) = !rF l.length g p q t := by (
 simp only [List.any_cons, List.any_nil, rF, bne, Bool.not_and, Bool.or_assoc, Bool.or_false])
 have H := bA h
 have Hf := bA hf
 have Hq := bA hq
 clear h hf hq
 generalize hokl : rF l.length g p q t = ok at *
 have Hok := bA hokl
 clear hokl
 go_enter func170, ntmps170
 go_wp2_with (first
  | (go_at_call 10; refine (fZ _ _ _ _ _ hl (hA.below Yc)).mono ?_; rw [H.o]; rintro e w1 ⟨rfl, hb1⟩; obtain ⟨hc1, hf1⟩ := bB hb1; have hz1 := hb1.size; simp only [World.size_alloc] at hz1 hc1 hf1; have hy1 := Nat.lt_of_succ_le hz1; have hx1 := Nat.lt_of_succ_lt hy1)
  )
 have hV : bG (w1.alloc (.cells #[.slice G g gc, .slice P p pc, .slice Q q qc, .slice T t tc] 74)) (some ⟨w1.heap.size, 0, none⟩) (([(G, g, gc), (P, p, pc), (Q, q, qc), (T, t, tc)] : List (Option Addr × Nat × Nat)).map slv) := by (
 refine bG.mk Zf ?_
 intro i v hi
 rcases i with _ | _ | _ | _ | i <;> simp [slv] at hi ⊢ <;> exact hi)
 have g0 : (w1.alloc (.cells #[.slice G g gc, .slice P p pc, .slice Q q qc, .slice T t tc] 74)).cell? ⟨w.heap.size, 1, none⟩ = some (.slice A l.length cap) := by (
 rw [oN hx1, hc1 _ _ Zb, oN Zf]
 simp)
 refine (bBB _ A _ _ l.length cap _ _ Xu hV Zh g0).mono ?_
 rw [Hq.o]
 rintro e w2 ⟨rfl, hb2⟩
 have hz2 := hb2.size
 simp only [World.size_alloc] at hz2
 have hB : Below w.heap.size w w2 := Yc
 clear hb2 hb1 hV g0 hc1 hf1
 cases ok
 · (
 go_wp2_with fail
 go_ret
 exact ⟨by rw [Hf.o]; rfl, hB⟩)
 · (
 go_wp2_with fail
 go_ret
 exact ⟨by rw [Hf.o]; rfl, hB⟩))
 · (
 have hf : xZ regs l g p q t = chk regs l := by unfold xZ; simp [h]
 rw [hf]
 clear hf
 generalize hq : chk regs l = q' at *
 have Hq := bA hq
 clear hq
 go_enter func170, ntmps170
 go_wp2_with (go_at_call 10; refine (fZ _ _ _ _ _ hl (hA.below Yc)).mono ?_; rw [Hq.o]; rintro e w1 ⟨rfl, hb1⟩; obtain ⟨hc1, hf1⟩ := bB hb1; have hz1 := hb1.size; simp only [World.size_alloc] at hz1 hc1 hf1)
 go_ret
 exact ⟨rfl, Yc⟩))
theorem bCY {tS tI : TypeId} {B GA GB : Nat} {bk : Bool} {l : List Nd} {wr : World} {vs : Nat → Value} {xs : Nat → List Int} (h : xK tS tI B GA GB bk l.length (PEk l l.length) wr vs xs)
 (hT : ∀ (k : Nat) (n : Nd), l[k]? = some n → ∀ m ∈ bT n, 0 ≤ m ∧ m < l.length) {a : Nat} (ha : a < l.length) (b : Int) : b ∈ xs a ↔ b ∈ bF bk l a := by (
 rw [h.edges.asks a ha b]
 unfold bF PEk
 rw [jS]
 cases bk
 · (
 simp only [fst, snd, Bool.false_eq_true, ↓reduceIte]
 constructor
 · (
 rintro ⟨i, m, ⟨hi, n, hn, hm⟩, rfl, rfl⟩
 exact ⟨i, hi, by rw [kS hn]; exact lJ.1 hm, rfl⟩)
 · (
 rintro ⟨i, hi, hp, rfl⟩
 have hn : l[i]? = some l[i] := Vx hi
 rw [kS hn] at hp
 exact ⟨i, a, ⟨hi, _, hn, lJ.2 hp⟩, rfl, rfl⟩))
 · (
 simp only [fst, snd, ↓reduceIte]
 have hn : l[a]? = some l[a] := Vx ha
 constructor
 · (
 rintro ⟨i, m, ⟨hi, n, hn', hm⟩, hai, rfl⟩
 have hai' : i = a := Zb
 subst hai'
 have hr := hT _ _ hn' b hm
 obtain ⟨mm, rfl⟩ := V7 hr.1
 exact ⟨mm, Zb, by rw [nI hn']; exact lJ.1 hm, rfl⟩)
 · (
 rintro ⟨i, hi, hp, rfl⟩
 rw [nI hn] at hp
 exact ⟨a, i, ⟨ha, _, hn, lJ.2 hp⟩, rfl, rfl⟩)))
theorem bGX (bk em : Bool) (G P Q T X : Option Addr) (g p q t xn gc pc qc tc xc : Nat) (gen pass plus lt x : List Bool) (l : List Nd) (B GA GB n : Nat) (vs : Nat → Value) (xs : Nat → List Int) (w W : World)
 (hG : bG W G (bE gen)) (hP : bG W P (bE pass)) (hQ : bG W Q (bE plus)) (hT : bG W T (bE lt)) (hX : bG W X (bE x))
 (hg : gen.length = g) (hp : pass.length = p) (hq : plus.length = q) (ht : lt.length = t) (hx : x.length = xn)
 (eg : g = l.length) (ep : p = l.length) (eq_ : q = l.length) (et : t = l.length) (ex : xn = l.length) (hl : l.length ≤ 256)
 (hgr : xK 25 3 B GA GB bk l.length (PEk l l.length) w vs xs) (hb : Below w.heap.size w W) (hn : n < l.length)
 (hE : ∀ (k : Nat) (n : Nd), l[k]? = some n → ∀ m ∈ bT n, 0 ≤ m ∧ m < l.length) :
 Calls prog 172 #[.agg #[.slice (some ⟨GA, 0, none⟩) l.length l.length, .slice (some ⟨GB, 0, none⟩) l.length l.length], .agg #[.bool bk, .bool em, .slice G g gc, .slice P p pc, .slice Q q qc, .slice T t tc], .slice X xn xc, .int .i64 n] W
  fun e w' => e = .returned (.bool (cU bk em gen pass plus lt l x n)) ∧ Below W.heap.size W w' := by (
 have hrow := (hgr.tab.row (i := n) Zb).below' hb
 obtain ⟨R, rc, hv, _, _⟩ := hrow.shape
 rw [bJ] at hv
 have hcell := fB hgr.ra hn
 have hlt := cZ hgr.ra
 have hc := ((bB hb).1 _ 0 hlt)
 have hcell' : W.cell? ⟨GA, n, none⟩ = some (vs n) := ((bB hb).1 _ _ hlt).trans hcell
 rw [hv] at hcell'
 rw [hv] at hrow
 have hlen := hgr.len n Zb
 have hmem := bCY hgr hE hn
 have h := bMG bk em G P Q T X R (some ⟨GB, 0, none⟩) g p q t xn gc pc qc tc xc rc l.length l.length gen pass plus lt x (xs n) GA l.length n W hG hP hQ hT hX hg hp hq ht hx hcell'
  (V6 hlt hb.size) hn Zb Zb hrow.vals (fun r hr => by
   obtain ⟨i, h1, _, rfl⟩ := jS.1 ((hmem r).1 hr)
   omega) Zb Zb Zb
 rw [bCE (rs' := bF bk l n) hmem] at h
 exact h)
theorem bKK {regs : Int} {l : List Nd} {g p q t : Nat} (h : xZ regs l g p q t = 0) : bM regs l ∧ g = l.length ∧ p = l.length ∧ q = l.length ∧ t = l.length := by (
 unfold xZ at h
 split at h
 · rename_i h1; exact absurd h h1
 · (
 rename_i h1
 split at h
 · (
 rename_i h2
 refine ⟨bS (by simpa using h1), ?_⟩
 simp only [rF, V9, beq_iff_eq] at h2
 omega)
 · cases h))
section
attribute [local irreducible] Row madeCells
theorem bNO : (prog.info? 4).map (fun i => (i.zero, i.size, i.bytes)) = some (some (.bool false), 1, 1) := Zc
end
end Go.Proofs.YtmghkonmfbpjcabGreatDoor
