/- Parts. -/
import Derived.Test.YtmghkonmfbpjcaaGreatDoorMvO
import Derived.Shelf.Spec.TrailingZeros
import Derived.Shelf.Spec.SlicesGrow
set_option linter.unusedVariables false
set_option linter.unusedSimpArgs false
set_option maxRecDepth 100000
set_option maxHeartbeats 4000000
namespace Go.Proofs.YtmghkonmfbpjcaaGreatDoor
open Go.Proofs.Tryz
section
open Go.RowKit
def gK : List Tm → Int → List Nd → Int × Int × List Nd
 | [], r, l => (0, r, l)
 | t :: ts, r, l => if fU r l t ≠ 0 then (fU r l t, 0, []) else gK ts (oK r l t) (oL r l t)
theorem wP {ts : List Tm} {k : Nat} {t : Tm} (h : ts[k]? = some t) (r : Int) (l : List Nd) :
 gK (ts.drop k) r l = if fU r l t ≠ 0 then (fU r l t, 0, []) else gK (ts.drop (k + 1)) (oK r l t) (oL r l t) := by (
 obtain ⟨hk, rfl⟩ := List.getElem?_eq_some_iff.1 h
 rw [List.drop_eq_getElem_cons hk]
 rfl)
def tD (l : List Nd) : List Tm := eQ l l.length
def mJ (regs : Int) (l : List Nd) : Int := if chk regs l ≠ 0 then chk regs l else (gK (tD l) regs l).1
def bIB (tN : TypeId) (regs : Int) (l : List Nd) (w : World) (e : Ending) (w' : World) : Prop :=
 Below w.heap.size w w' ∧ ((mJ regs l ≠ 0 ∧ e = .returned (.tuple #[.agg #[.int .i64 0, .slice none 0 0], .int .i64 (mJ regs l)])) ∨
  (mJ regs l = 0 ∧ ∃ v, e = .returned (.tuple #[.agg #[.int .i64 (gK (tD l) regs l).2.1, v], .int .i64 0]) ∧ bK w' w.heap.size tN v (gK (tD l) regs l).2.2))
structure xX (W0 : World) (B qb : Nat) (r : Int) (v : Value) (ls : List Nd) (W : World) : Prop where
 box : Blk W qb 24 #[.int .i64 r, v]
 row : bK W B 44 v ls
 below : Below W0.heap.size W0 W
 low : W0.heap.size ≤ qb
section
variable {W0 : World} {B qb : Nat} {r r' : Int} {v v' : Value} {ls ls' : List Nd} {W : World}
theorem xX.later {W' : World} (h : xX W0 B qb r v ls W) (hb : Below W.heap.size W W') : xX W0 B qb r v ls W' := ⟨h.box.below hb h.box.lt, h.row.below' hb, h.below.trans (hb.mono h.below.size), h.low⟩
theorem xX.put {V : World} (h : xX W0 B qb r v ls W) (hb : Below W.heap.size W V) (hr : bK V B 44 v' ls') :
 xX W0 B qb r' v' ls' ((V.setCell ⟨qb, 0, none⟩ (.int .i64 r')).setCell ⟨qb, 1, none⟩ v') := by (
 have hx := h.box.below hb h.box.lt
 have hn := hr.ne_blk hx Ze
 exact ⟨(hx.set_ 0 _).set_ 1 _, (hr.far (p := ⟨qb, 0, none⟩) hn _).far (p := ⟨qb, 1, none⟩) hn _, ((h.later hb).below.setCell h.low _).setCell h.low _, h.low⟩)
end
end
section
open Go.RowKit
section
variable {regs : Int} {t : Tm} {l : List Nd} {pt tk th : List Bool} {inp : List Int}
theorem bDU (h : Int) (t : Tm) (pt tk : List Bool) (l : List Nd) : (dE h t pt tk l).length = l.length + rk pt l.length := wO h t pt tk l
theorem vP (h : fU regs l t = 0) : fxE regs l t = 0 ∧ (eI l).length ≤ 256 ∧ (mD t l = true → maE regs (eI l) t (iA t l) (gZ t l) = 0) := by
 unfold fU at h
 by_cases h0 : fxE regs l t = 0
 ·rw [if_neg (by simp [h0])] at h
  by_cases h1 : 256 < (eI l).length
  ·rw [if_pos h1] at h; cases h
  ·rw [if_neg h1] at h
   refine ⟨h0, Zb, fun h2 => ?_⟩
   rwa [if_pos h2] at h
 ·rw [if_pos h0] at h
  exact absurd h h0
theorem bJC (h : maE regs l t pt tk = 0) : fxE regs l t = 0 ∧ pt.length = l.length ∧ tk.length = l.length ∧ (∀ k, k < l.length → yn tk k = true → rkB t (nd l k) = true) ∧ (dE regs t pt tk l).length ≤ 256 ∧ regs + 1 ≤ 64 := by
 unfold maE at h
 by_cases h0 : fxE regs l t = 0
 ·rw [if_neg (by simp [h0])] at h
  split at h
  ·cases h
  ·rename_i h1
   split at h
   ·cases h
   ·rename_i h2
    split at h
    ·cases h
    ·rename_i h3
     refine ⟨h0, Zb, Zb, fun k hk e => ?_, Zb, Zb⟩
     have h4 : mA t tk l = false := yno h2
     unfold mA at h4
     rw [List.any_eq_false] at h4
     have := h4 k (List.mem_range.2 hk)
     simpa [e] using this
 ·rw [if_pos h0] at h
  exact absurd h h0
theorem bGU {h : Int} {n : Nd} (hn : n ∈ dE h t pt tk l) : ∃ i, i < l.length ∧ ((yn pt i = true ∧ n = vL h t (l.length + rk pt i)) ∨ n = iT h tk l i) := by
 rw [rY] at hn
 rcases List.mem_append.1 hn with h1 | h1
 ·unfold dU at h1
  obtain ⟨i, hi, rfl⟩ := List.mem_map.1 h1
  refine ⟨i, List.mem_range.1 hi, ?_⟩
  by_cases e : yn pt i = true
  ·rw [if_pos e]; exact .inl ⟨e, rfl⟩
  ·rw [if_neg e]; exact .inr rfl
 ·unfold gR at h1
  obtain ⟨i, hi, rfl⟩ := List.mem_map.1 h1
  exact ⟨i, List.mem_range.1 (List.mem_filter.1 hi).1, .inr rfl⟩
theorem bDT (hR : bN regs l) (h : maE regs l t pt tk = 0) : bN (regs + 1) (dE regs t pt tk l) := by
 obtain ⟨h0, h1, h2, h3, h4, h5⟩ := bJC h
 have hT := bQB h0
 have hlo := hR.lo
 have hr := hR.rlo
 have hlen := bDU regs t pt tk l
 have hB := hT.hasB
 have hop := hT.op
 have hta := hT.a
 have htb := hT.b
 have hold : ∀ {i : Nat}, i < l.length → gH (nd l i).op = true ∧ jU (regs + 1) (dE regs t pt tk l).length (nd l i) = false ∧ badF (nd l i) = false := fun {i} hi => by
  have hm := bFL hi
  refine ⟨hR.ok _ hm, ?_, hR.frm _ hm⟩
  have hb := hR.rng _ hm
  have e1 : ∀ (x : Int) (b : Bool), okR regs x b = true → okR (regs + 1) x b = true := fun x b e => by
   cases b
   ·rfl
   ·simp only [okR, Bool.not_true, Bool.false_or, V4, decide_eq_true_eq] at *
    omega
  have e2 : ∀ (x : Int) (b : Bool), okN l.length x b = true → okN (dE regs t pt tk l).length x b = true := fun x b e => by
   cases b
   ·rfl
   ·simp only [okN, Bool.not_true, Bool.false_or, V4, decide_eq_true_eq] at *
    omega
  simp only [jU, V6, Bool.not_eq_false'] at hb ⊢
  obtain ⟨⟨⟨⟨b1, b2⟩, b3⟩, b4⟩, b5⟩ := hb
  exact ⟨⟨⟨⟨e1 _ _ b1, e1 _ _ b2⟩, e1 _ _ b3⟩, e2 _ _ b4⟩, e2 _ _ b5⟩
 have hall : ∀ n ∈ dE regs t pt tk l, gH n.op = true ∧ jU (regs + 1) (dE regs t pt tk l).length n = false ∧ badF n = false := fun n hn => by
  obtain ⟨i, hi, ⟨hp, rfl⟩ | rfl⟩ := bGU hn
  ·have := bPH hi hp
   have o1 : dI t.op = true := (bGC hB).2.1
   have o2 : dD t.op = true := (bGC hB).1
   have o3 : gH t.op = true := by simp [gH, inB]; omega
   have o4 : shT t.op = true := by simp [shT, o3]; omega
   have o5 : fN t.op = false := by simp [fN]; omega
   refine ⟨o3, ?_, ?_⟩
   ·have a1 : ∀ x : Int, 0 ≤ x → x < regs + 1 → okR (regs + 1) x true = true := fun x g1 g2 => by simp only [okR, Bool.not_true, Bool.false_or, V4, decide_eq_true_eq]; omega
    have a2 : okN (dE regs t pt tk l).length ((l.length + rk pt i : Nat) : Int) true = true := by simp only [okN, Bool.not_true, Bool.false_or, V4, decide_eq_true_eq]; omega
    show (!okR (regs + 1) regs (dI t.op) || !okR (regs + 1) t.a (dD t.op) || !okR (regs + 1) t.b (Go.Proofs.YtmghkonmfbpjcaaGreatDoor.cF t.op) || !okN _ _ (shT t.op) || !okN _ 0 (fN t.op)) = false
    rw [o1, o2, hB, o4, o5, a1 regs Zb Zb, a1 t.a Zb Zb, a1 t.b Zb Zb]
    rw [show okN ((dE regs t pt tk l).length : Int) (vL regs t (l.length + rk pt i)).t true = true from a2]
    rfl
   ·simp [badF, vL, okF, o1, o2, hB, o4, o5]
  ·unfold iT
   by_cases e : yn tk i = true
   ·rw [if_pos e]
    have hk := h3 i hi e
    rw [rkb hR hop hi] at hk
    unfold fJ at hk
    simp only [V4, beq_iff_eq] at hk
    have hm := bFL hi
    have hd := (hR.regA hm).1 (by rw [hk.1.1]; exact (bGC hB).2.1)
    have ht := hR.then_ hm Zb
    refine ⟨rfl, ?_, ?_⟩
    ·have a1 : okR (regs + 1) (nd l i).d true = true := by simp only [okR, Bool.not_true, Bool.false_or, V4, decide_eq_true_eq]; omega
     have a2 : okR (regs + 1) regs true = true := by simp only [okR, Bool.not_true, Bool.false_or, V4, decide_eq_true_eq]; omega
     have a3 : okN (dE regs t pt tk l).length (nd l i).t true = true := by simp only [okN, Bool.not_true, Bool.false_or, V4, decide_eq_true_eq]; omega
     show (!okR (regs + 1) (nd l i).d true || !okR (regs + 1) regs true || !okR (regs + 1) 0 false || !okN _ (nd l i).t true || !okN _ 0 false) = false
     rw [a1, a2, a3]
     rfl
    ·rfl
   ·rw [if_neg e]
    exact hold hi
 exact ⟨Zb, h4, Zb, h5, fun n hn => (hall n hn).1, fun n hn => (hall n hn).2.1, fun n hn => (hall n hn).2.2⟩
theorem One.right (h : fU regs l t = 0) : bN (oK regs l t) (oL regs l t) := by
 obtain ⟨h0, h1, h2⟩ := vP h
 unfold oK oL
 by_cases ha : mD t l = true
 ·rw [if_pos ha, if_pos ha]
  exact bDT (qV (lS h0) h1) (h2 ha)
 ·rw [if_neg ha, if_neg ha]
  exact bS (lS h0)
end
end
section
open Go.RowKit
def xK (n : Nd) : Nd := ⟨0, 0, 0, 0, n.t, 0⟩
inductive Lv (l : List Nd) (r : Int) : Int → Prop
 | use (i : Nat) (n : Nd) (hn : l[i]? = some n) (hu : ((dD n.op && n.a == r) || (cF n.op && n.b == r)) = true) : Lv l r i
 | then_ (i : Nat) (n : Nd) (hn : l[i]? = some n) (hs : (dI n.op && n.d == r) = false) (hop : n.op ≠ 12) (h : Lv l r n.t) : Lv l r i
 | else_ (i : Nat) (n : Nd) (hn : l[i]? = some n) (hs : (dI n.op && n.d == r) = false) (hop : n.op = 11) (h : Lv l r n.e) : Lv l r i
def fQ (l : List Nd) (i : Nat) : Prop := ∃ n, l[i]? = some n ∧ 1 ≤ n.op ∧ n.op ≤ 8 ∧ ¬ Lv l n.d n.t
def eM (l : List Nd) (i : Nat) : List Nd := l.set i (xK (l.getD i default))
theorem eK {l : List Nd} {i j : Nat} {n : Nd} (hn : l[i]? = some n) : (eM l i)[j]? = if j = i then some (xK n) else l[j]? := by
 have hlt : i < l.length := (List.getElem?_eq_some_iff.1 hn).1
 have hg : l.getD i default = n := by rw [Vt, hn]; rfl
 unfold eM
 rw [hg, List.getElem?_set]
 by_cases h : i = j
 ·subst h; simp [hlt]
 ·rw [if_neg h, if_neg (fun e => h e.symm)]
theorem Lv.of_hush {l : List Nd} {i : Nat} {r j : Int} (hd : fQ l i) (h : Lv (eM l i) r j) : Lv l r j := by
 obtain ⟨n, hn, h1, h8, hlv⟩ := hd
 induction h with
 | use k m hm hu =>
  rw [eK hn] at hm
  by_cases hk : k = i
  ·rw [if_pos hk] at hm
   cases hm
   simp [xK, dD, cF, inB] at hu
  ·rw [if_neg hk] at hm
   exact .use k m hm hu
 | then_ k m hm hs hop _ ih =>
  rw [eK hn] at hm
  by_cases hk : k = i
  ·rw [if_pos hk] at hm
   cases hm
   subst hk
   have ih' : Lv l r n.t := ih
   have hs' : (dI n.op && n.d == r) = false := by
    cases hq : (dI n.op && n.d == r) with
    | false => rfl
    | true =>
     have : n.d = r := beq_iff_eq.1 (Bool.and_eq_true_iff.1 hq).2
     rw [this] at hlv
     exact absurd ih' hlv
   exact .then_ k n hn hs' Zb ih'
  ·rw [if_neg hk] at hm
   exact .then_ k m hm hs hop ih
 | else_ k m hm hs hop _ ih =>
  rw [eK hn] at hm
  by_cases hk : k = i
  ·rw [if_pos hk] at hm
   cases hm
   simp [xK] at hop
  ·rw [if_neg hk] at hm
   exact .else_ k m hm hs hop ih
theorem fQ.still {l : List Nd} {i j : Nat} (hi : fQ l i) (hj : fQ l j) (hne : j ≠ i) : fQ (eM l i) j := by
 obtain ⟨m, hm, h1, h8, hlv⟩ := hj
 obtain ⟨n, hn, _⟩ := id hi
 exact ⟨m, by rw [eK hn, if_neg hne]; exact hm, h1, h8, fun h => hlv (h.of_hush hi)⟩
theorem bCS {l : List Nd} {i j : Nat} (hi : fQ l i) (hj : fQ l j) : eM (eM l i) j = eM (eM l j) i := by
 by_cases h : i = j
 ·subst h; rfl
 ·obtain ⟨n, hn, _⟩ := hi
  obtain ⟨m, hm, _⟩ := hj
  refine List.ext_getElem? fun k => ?_
  rw [eK (n := m) (by rw [eK hn, if_neg (fun e => h e.symm)]; exact hm), eK hn, eK (l := eM l j) (n := n) (by rw [eK hm, if_neg h]; exact hn), eK hm]
  by_cases h1 : k = j <;> by_cases h2 : k = i <;> simp [h1, h2] <;> omega
inductive eO : List Nd → List Nd → Prop
 | nil (l : List Nd) : eO l l
 | one (l l' : List Nd) (i : Nat) (hd : fQ l i) (h : eO (eM l i) l') : eO l l'
theorem eO.snoc {l l' : List Nd} (h : eO l l') {i : Nat} (hd : fQ l' i) : eO l (eM l' i) := by
 induction h with
 | nil l => exact .one _ _ i hd (.nil _)
 | one l l' j hj _ ih => exact .one _ _ j hj (ih hd)
theorem eO.past {l l2 : List Nd} (h : eO l l2) (hn : ∀ i, ¬ fQ l2 i) {i : Nat} (hi : fQ l i) : eO (eM l i) l2 := by
 induction h generalizing i with
 | nil l => exact absurd hi (hn i)
 | one l l' j hj h' ih =>
  by_cases hij : i = j
  ·subst hij; exact h'
  ·have := ih hn (hj.still hi hij)
   rw [bCS hj hi] at this
   exact .one _ _ j (hi.still hj (fun e => hij e.symm)) this
theorem eO.unique {l l1 l2 : List Nd} (h1 : eO l l1) (n1 : ∀ i, ¬ fQ l1 i) (h2 : eO l l2) (n2 : ∀ i, ¬ fQ l2 i) : l1 = l2 := by
 induction h1 with
 | nil l =>
  cases h2 with
  | nil => rfl
  | one _ _ i hd _ => exact absurd hd (n1 i)
 | one l l' j hj h' ih => exact ih n1 (h2.past n2 hj)
def rJ (n : Nd) (r : Int) : Bool := (dD n.op && n.a == r) || (cF n.op && n.b == r)
def mF (n : Nd) (r : Int) : Bool := dI n.op && n.d == r
def eP (n : Nd) (x : List Bool) : Bool := (n.op != 12 && yn x n.t.toNat) || (n.op == 11 && yn x n.e.toNat)
def fB (l : List Nd) (r : Int) (x : List Bool) (i : Nat) : Bool := rJ (l.getD i default) r || (!mF (l.getD i default) r && eP (l.getD i default) x)
theorem qY (l : List Nd) (r : Int) : jG (fB l r) := fun x y i h hs => by
 unfold fB eP at *
 simp only [Bool.or_eq_true, V4] at *
 exact hs.imp id fun ⟨h1, h2⟩ => ⟨h1, h2.imp (fun ⟨a, b⟩ => ⟨a, h _ b⟩) fun ⟨a, b⟩ => ⟨a, h _ b⟩⟩
def Ways (l : List Nd) : Prop := ∀ (i : Nat) (n : Nd), l[i]? = some n → (n.op ≠ 12 → 0 ≤ n.t ∧ n.t < l.length) ∧ (n.op = 11 → 0 ≤ n.e ∧ n.e < l.length)
theorem mB.lv {l : List Nd} {r : Int} {x : List Bool} (h : mB (fB l r) l.length x) (hw : Ways l) {i : Nat} (hi : i < l.length) : yn x i = true ↔ Lv l r i := by
 constructor
 ·intro hx
  classical
  let z : List Bool := (List.range l.length).map fun j => decide (Lv l r (j : Nat))
  have hz : ∀ j : Nat, j < l.length → yn z j = decide (Lv l r (j : Int)) := fun j hj => by simp [z, yn, hj]
  have hc : jI (fB l r) l.length z := ⟨by simp [z], fun j hj hs => by
   rw [hz j hj, decide_eq_true_iff]
   have hn : l[j]? = some l[j] := Vs hj
   have hg : l.getD j default = l[j] := by rw [Vt, hn]; rfl
   unfold fB at hs
   rw [hg] at hs
   obtain ⟨w1, w2⟩ := hw j _ hn
   simp only [Bool.or_eq_true, V4, Bool.not_eq_true', eP, bne_iff_ne, beq_iff_eq] at hs
   rcases hs with hu | ⟨hm, ⟨ho, ht⟩ | ⟨ho, he⟩⟩
   ·exact .use j _ hn hu
   ·obtain ⟨a, b⟩ := w1 ho
    rw [hz _ Zb, decide_eq_true_iff, V5 a] at ht
    exact .then_ j _ hn hm ho ht
   ·obtain ⟨a, b⟩ := w2 ho
    rw [hz _ Zb, decide_eq_true_iff, V5 a] at he
    exact .else_ j _ hn hm ho he⟩
  have := h.2.2 z hc i hx
  rwa [hz i hi, decide_eq_true_iff] at this
 ·intro hl
  have key : ∀ j : Int, Lv l r j → yn x j.toNat = true := by
   intro j hj
   induction hj with
   | use k m hm hu =>
    have hk : k < l.length := (List.getElem?_eq_some_iff.1 hm).1
    have hg : l.getD k default = m := by rw [Vt, hm]; rfl
    have := h.1.2 k hk
    rw [show ((k : Int)).toNat = k by omega, this]
    unfold fB rJ
    rw [hg, hu]; rfl
   | then_ k m hm hs hop _ ih =>
    have hk : k < l.length := (List.getElem?_eq_some_iff.1 hm).1
    have hg : l.getD k default = m := by rw [Vt, hm]; rfl
    have := h.1.2 k hk
    rw [show ((k : Int)).toNat = k by omega, this]
    unfold fB mF eP
    rw [hg, hs, ih]
    simp [hop]
   | else_ k m hm hs hop _ ih =>
    have hk : k < l.length := (List.getElem?_eq_some_iff.1 hm).1
    have hg : l.getD k default = m := by rw [Vt, hm]; rfl
    have := h.1.2 k hk
    rw [show ((k : Int)).toNat = k by omega, this]
    unfold fB mF eP
    rw [hg, hs, ih]
    simp [hop]
  have := key i hl
  rwa [show ((i : Int)).toNat = i by omega] at this
/-! Sets of registers, a bit each. -/
def gB (r : Nat) (ats : List Nat) : List Bool := ats.map fun z => z.testBit r
theorem bGR (r k z : Nat) (ats : List Nat) : gB r (ats.set k z) = (gB r ats).set k (z.testBit r) := List.map_set
theorem iY (r k : Nat) (ats : List Nat) : yn (gB r ats) k = (ats.getD k 0).testBit r := by
 unfold yn gB
 rw [Vt, Vt, List.getElem?_map]
 cases ats[k]? <;> simp
theorem vQ {a b : Nat} (h : ∀ r, a.testBit r = true → b.testBit r = true) : a ≤ b := by
 have : a &&& b = a := Nat.eq_of_testBit_eq fun r => by
  rw [Nat.testBit_and]
  cases ha : a.testBit r with
  | true => rw [h r ha]; rfl
  | false => rfl
 rw [← this]
 exact Nat.and_le_right
def wZ (l : List Nd) (ats : List Nat) : Prop := ats.length = l.length ∧ (∀ z ∈ ats, z < 2 ^ 64) ∧ ∀ r : Nat, r < 64 → bEJ (fB l r) l.length (gB r ats) ∧ iI (fB l r) l.length (gB r ats)
theorem wZ.start (l : List Nd) : wZ l (List.replicate l.length 0) := by
 have h0 : ∀ r i, yn (gB r (List.replicate l.length 0)) i = false := fun r i => by
  rw [iY]
  simp [Vt, List.getElem?_replicate]
  split <;> simp
 refine ⟨Zf, fun z hz => by rw [List.eq_of_mem_replicate hz]; decide, fun r _ => ?_⟩
 have := mK.start (S := fB l r) (n := l.length) (x := gB r (List.replicate l.length 0)) (by simp [gB]) (h0 r)
 exact ⟨this.1, this.2.1⟩
theorem wZ.put {l : List Nd} {ats : List Nat} (h : wZ l ats) {k z : Nat} (hk : k < l.length) (hz : z < 2 ^ 64) (hb : ∀ r : Nat, r < 64 → z.testBit r = fB l r (gB r ats) k) :
  wZ l (ats.set k z) ∧ ats.getD k 0 ≤ z := by
 obtain ⟨hl, hlt, hr⟩ := h
 refine ⟨⟨by simpa using hl, fun y hy => ?_, fun r h64 => ?_⟩, vQ fun r ht => ?_⟩
 ·rcases List.mem_or_eq_of_mem_set hy with h | rfl
  ·exact hlt y h
  ·exact hz
 ·rw [bGR, hb r h64]
  exact ⟨(hr r h64).1.put (qY l r) hk, (hr r h64).2.put (qY l r) hk⟩
 ·by_cases h64 : r < 64
  ·rw [hb r h64]
   exact (hr r h64).1.2 k hk (by rw [iY]; exact ht)
  ·have hk' : k < ats.length := Zb
   have : ats.getD k 0 < 2 ^ r := Vx (by rw [Vt, Vs hk']; exact hlt _ (List.getElem_mem hk')) (Nat.pow_le_pow_right Zb Zb)
   rw [Nat.testBit_lt_two_pow this] at ht
   cases ht
theorem wZ.done {l : List Nd} {ats : List Nat} (h : wZ l ats) (he : ∀ k r : Nat, k < l.length → r < 64 → (ats.getD k 0).testBit r = fB l r (gB r ats) k) {r : Nat} (h64 : r < 64) : mB (fB l r) l.length (gB r ats) :=
 ⟨⟨(h.2.2 r h64).1.1, fun i hi => by rw [iY]; exact he i r hi h64⟩, (h.2.2 r h64).2⟩
theorem bNX {ats : List Nat} {k z : Nat} (hk : k < ats.length) : (ats.set k z).sum + ats.getD k 0 = ats.sum + z := by
 induction ats generalizing k with
 | nil => simp at hk
 | cons a ats ih =>
  cases k with
  | zero => simp; omega
  | succ k =>
   have := ih (k := k) Yb
   simp only [List.set_cons_succ, List.sum_cons, List.getD_cons_succ]
   omega
theorem bPP {ats : List Nat} {b : Nat} (h : ∀ z ∈ ats, z ≤ b) : ats.sum ≤ ats.length * b := by
 induction ats with
 | nil => simp
 | cons a ats ih =>
  have h1 := h a Zf
  have h2 := ih fun z hz => h z (by simp [hz])
  simp only [List.sum_cons, List.length_cons, Nat.succ_mul]
  omega
end
section
open Go.RowKit
theorem bBA (a b : Nat) (ha : a < 18446744073709551616) (hb : b < 18446744073709551616) : bits .andNot .u64 (a : Int) (b : Int) = ((a &&& (18446744073709551615 - b) : Nat) : Int) := by (
 have e : ∀ c : Nat, c < 18446744073709551616 → (BitVec.ofInt 64 (c : Int)).toNat = c := fun c hc => by (
 rw [BitVec.ofInt_natCast, BitVec.toNat_ofNat]; exact Nat.mod_eq_of_lt hc)
 have hx : a &&& (18446744073709551615 - b) ≤ a := Nat.and_le_left
 show IntKind.u64.wrap ((BitVec.ofInt 64 (a : Int) &&& ~~~ BitVec.ofInt 64 (b : Int)).toNat : Int) = _
 rw [BitVec.toNat_and, BitVec.toNat_not, e a ha, e b hb, IntKind.wrap_u64]
 have : 2 ^ 64 - 1 - b = 18446744073709551615 - b := Zb
 rw [this]
 omega)
theorem bDP {b r : Nat} (hb : b < 18446744073709551616) (hr : r < 64) : (18446744073709551615 - b).testBit r = !b.testBit r := by (
 have := Nat.testBit_two_pow_sub_succ (n := 64) (x := b) Zb r
 rw [show 2 ^ 64 - (b + 1) = 18446744073709551615 - b by omega] at this
 rw [this]
 simp [hr])
theorem bAJ (k r : Nat) : (2 ^ k).testBit r = decide (k = r) := Nat.testBit_two_pow
end
section
open Go.RowKit
def mN (n : Nd) : Nat := if cF n.op = true then 2 ^ n.a.toNat ||| 2 ^ n.b.toNat else if dD n.op = true then 2 ^ n.a.toNat else 0
def pC (n : Nd) : Nat := if dI n.op = true then 2 ^ n.d.toNat else 0
def gQ (n : Nd) (ats : List Nat) : Nat := if n.op = 12 then 0 else if n.op = 11 then ats.getD n.t.toNat 0 ||| ats.getD n.e.toNat 0 else ats.getD n.t.toNat 0
def xI (n : Nd) (ats : List Nat) : Nat := mN n ||| (gQ n ats &&& (18446744073709551615 - pC n))
def pI (n : Nd) : Prop := (dI n.op = true → 0 ≤ n.d ∧ n.d < 64) ∧ (dD n.op = true → 0 ≤ n.a ∧ n.a < 64) ∧ (cF n.op = true → 0 ≤ n.b ∧ n.b < 64)
theorem bN.regs64 {regs : Int} {l : List Nd} (h : bN regs l) {n : Nd} (hn : n ∈ l) : pI n := by
 have h1 := h.rng n hn
 have hr := h.rhi
 simp only [jU, V6, Bool.not_eq_false'] at h1
 obtain ⟨⟨⟨⟨h2, h3⟩, h4⟩, _⟩, _⟩ := h1
 refine ⟨fun hh => ?_, fun hh => ?_, fun hh => ?_⟩
 ·simp [okR, hh] at h2; omega
 ·simp [okR, hh] at h3; omega
 ·simp [okR, hh] at h4; omega
theorem kJ {k : Nat} (h : k < 64) : 2 ^ k < 18446744073709551616 := by
 have : 2 ^ k < 2 ^ 64 := Nat.pow_lt_pow_right Zb h
 simpa using this
theorem bLS {a b : Nat} (ha : a < 18446744073709551616) (hb : b < 18446744073709551616) : a ||| b < 18446744073709551616 := by
 have := Nat.or_lt_two_pow (x := a) (y := b) (n := 64) (by simpa using ha) (by simpa using hb)
 simpa using this
theorem bAY {n : Nd} (h : pI n) : mN n < 18446744073709551616 := by
 obtain ⟨_, h2, h3⟩ := h
 unfold mN
 split
 ·rename_i hb
  have ha : dD n.op = true := by simp [cF, dD, inB] at *; omega
  exact bLS (kJ (by have := h2 ha; omega)) (kJ (by have := h3 hb; omega))
 ·split
  ·rename_i ha
   exact kJ (by have := h2 ha; omega)
  ·omega
theorem bCK {n : Nd} (h : pI n) : pC n < 18446744073709551616 := by
 unfold pC
 split
 ·rename_i hd; exact kJ (by have := h.1 hd; omega)
 ·omega
theorem pW {ats : List Nat} (h : ∀ z ∈ ats, z < 2 ^ 64) (k : Nat) : ats.getD k 0 < 18446744073709551616 := by
 rw [Vt]
 rcases hk : ats[k]? with _ | z
 ·simp
 ·have := h z (Vv hk)
  simpa using this
theorem rD {n : Nd} {ats : List Nat} (h : ∀ z ∈ ats, z < 2 ^ 64) : gQ n ats < 18446744073709551616 := by
 unfold gQ
 split
 ·omega
 ·split
  ·exact bLS (pW h _) (pW h _)
  ·exact pW h _
theorem bOE {n : Nd} {ats : List Nat} (hn : pI n) (h : ∀ z ∈ ats, z < 2 ^ 64) : xI n ats < 18446744073709551616 :=
 bLS (bAY hn) (Nat.lt_of_le_of_lt Nat.and_le_left (rD h))
theorem bAK {z : Int} {r : Nat} (h : 0 ≤ z) : (2 ^ z.toNat).testBit r = (z == (r : Int)) := by
 rw [bAJ, Bool.eq_iff_iff, decide_eq_true_iff, beq_iff_eq]
 omega
theorem bMB {n : Nd} {ats : List Nat} (hn : pI n) {r : Nat} (hr : r < 64) :
  (xI n ats).testBit r = (rJ n r || (!mF n r && eP n (gB r ats))) := by
 have hu : (mN n).testBit r = rJ n r := by
  obtain ⟨_, h2, h3⟩ := hn
  unfold mN rJ
  split
  ·rename_i hb
   have ha : dD n.op = true := by simp [cF, dD, inB] at *; omega
   rw [Nat.testBit_or, bAK (h2 ha).1, bAK (h3 hb).1, ha, hb]
   simp
  ·rename_i hb
   have hb' : cF n.op = false := by simpa using hb
   split
   ·rename_i ha
    rw [bAK (h2 ha).1, ha, hb']
    simp
   ·rename_i ha
    have ha' : dD n.op = false := by simpa using ha
    rw [ha', hb']
    simp
 have hm : (pC n).testBit r = mF n r := by
  unfold pC mF
  split
  ·rename_i hd
   rw [bAK (hn.1 hd).1, hd]
   simp
  ·rename_i hd
   have hd' : dI n.op = false := by simpa using hd
   rw [hd']
   simp
 have hb : (gQ n ats).testBit r = eP n (gB r ats) := by
  unfold gQ eP
  by_cases h12 : n.op = 12
  ·simp [h12]
  ·rw [if_neg h12]
   by_cases h11 : n.op = 11
   ·rw [if_pos h11, Nat.testBit_or, iY, iY]
    simp [h11]
   ·have e1 : (n.op != 12) = true := by simp [h12]
    have e2 : (n.op == 11) = false := by simp [h11]
    rw [if_neg h11, iY, e1, e2]
    simp
 unfold xI
 rw [Nat.testBit_or, Nat.testBit_and, hu, hb, bDP (bCK hn) hr, hm]
 cases rJ n r <;> cases mF n r <;> cases eP n (gB r ats) <;> rfl
def sJ (l : List Nat) : List Value := l.map fun (z : Nat) => .int .u64 (z : Int)
theorem lF (l : List Nat) : (sJ l).length = l.length := V9 _
theorem bAZ (a : List Nat) (k : Nat) : (sJ a)[k]? = a[k]?.map fun (z : Nat) => .int .u64 (z : Int) := List.getElem?_map
theorem bKP (x : List Nat) (k z : Nat) : (sJ x).set k (.int .u64 (z : Int)) = sJ (x.set k z) := (List.map_set).symm
theorem bH.u64 {w : World} {A : Option Addr} {l : List Nat} (h : bH w A (sJ l)) {k : Nat} (hk : k < l.length) :
  ∃ b off, A = some ⟨b, off, none⟩ ∧ b < w.heap.size ∧ w.cell? ⟨b, off + k, none⟩ = some (.int .u64 ((l.getD k 0 : Nat) : Int)) := by
 obtain ⟨b, off, v, e, hb, hv, hc⟩ := h.get (k := k) (by rw [lF]; exact hk)
 rw [bAZ, Vs hk] at hv
 simp at hv
 subst hv
 exact ⟨b, off, e, hb, by rw [hc]; simp [hk]⟩
theorem Row.u64 {w : World} {B : Nat} {e : TypeId} {v : Value} {x : List Nat} (h : Row w B e v (sJ x)) {k : Nat} (hk : k < x.length) :
  ∃ g o cap, v = .slice (some ⟨g, o, none⟩) x.length cap ∧ B ≤ g ∧ g < w.heap.size ∧ w.cell? ⟨g, o + k, none⟩ = some (.int .u64 ((x.getD k 0 : Nat) : Int)) ∧ w.frozen? ⟨g, o + k, none⟩ = false := by
 obtain ⟨g, o, cap, u, e1, hb, hl, hu, hc, hf⟩ := h.get (k := k) (by rw [lF]; exact hk)
 rw [bAZ, Vs hk] at hu
 simp at hu
 subst hu
 rw [lF] at e1
 exact ⟨g, o, cap, e1, hb, hl, by rw [hc]; simp [hk], hf⟩
end
section
open Go.RowKit
def lvx (l : List Nd) (r : Nat) : List Bool := zX (fB l r) l.length
theorem pS (l : List Nd) (r : Nat) : mB (fB l r) l.length (lvx l r) := iN (qY l r) l.length
def gI (regs : Nat) (l : List Nd) (i : Nat) : List Int := sel (fun r => yn (lvx l r) i) regs
end
section
open Go.RowKit
theorem bN.ways {regs : Int} {l : List Nd} (h : bN regs l) : Ways l := fun i n hn =>
 ⟨fun h12 => by have := h.then_ (Vv hn) h12; omega, fun h11 => by have := h.else_ (Vv hn) h11; omega⟩
theorem bN.set {regs : Int} {l : List Nd} (h : bN regs l) (i : Nat) {n : Nd} (h1 : gH n.op = true) (h2 : jU regs l.length n = false) (h3 : badF n = false) : bN regs (l.set i n) := by
 refine ⟨by simpa using h.lo, by simpa using h.hi, h.rlo, h.rhi, fun m hm => ?_, fun m hm => ?_, fun m hm => ?_⟩
 ·rcases List.mem_or_eq_of_mem_set hm with h' | rfl
  ·exact h.ok m h'
  ·exact h1
 ·rw [List.length_set]
  rcases List.mem_or_eq_of_mem_set hm with h' | rfl
  ·exact h.rng m h'
  ·exact h2
 ·rcases List.mem_or_eq_of_mem_set hm with h' | rfl
  ·exact h.frm m h'
  ·exact h3
theorem pU {l : List Nd} {i : Nat} {n : Nd} (hn : l[i]? = some n) : eM l i = l.set i (xK n) := by
 unfold eM
 rw [Vt, hn]
 rfl
theorem bN.hush {regs : Int} {l : List Nd} (h : bN regs l) {i : Nat} {n : Nd} (hn : l[i]? = some n) (h12 : n.op ≠ 12) : bN regs (eM l i) := by
 rw [pU hn]
 have ht := h.then_ (Vv hn) h12
 refine h.set i (by simp [Go.Proofs.YtmghkonmfbpjcaaGreatDoor.xK, gH, inB]) ?_ ?_
 ·simp [jU, Go.Proofs.YtmghkonmfbpjcaaGreatDoor.xK, okR, okN, dI, dD, cF, fN, shT, gH, inB]
  exact ⟨decide_eq_true Zb, decide_eq_true Zb⟩
 ·simp [badF, Go.Proofs.YtmghkonmfbpjcaaGreatDoor.xK, okF, shT, gH, inB]
def oG (l : List Nd) : Nat := l.countP fun n => n.op != 0
theorem wK {l : List Nd} {i : Nat} {n : Nd} (hn : l[i]? = some n) (h0 : n.op ≠ 0) : oG (eM l i) < oG l := by
 rw [pU hn]
 have hi : i < l.length := (List.getElem?_eq_some_iff.1 hn).1
 have he : l[i] = n := (List.getElem?_eq_some_iff.1 hn).2
 unfold oG
 rw [List.countP_set (h := hi)]
 have h1 : (l[i].op != 0) = true := by rw [he]; simpa using h0
 have h2 : 0 < l.countP fun n => n.op != 0 := List.countP_pos_iff.2 ⟨l[i], List.getElem_mem hi, h1⟩
 have h3 : ((Go.Proofs.YtmghkonmfbpjcaaGreatDoor.xK n).op != 0) = false := by simp [Go.Proofs.YtmghkonmfbpjcaaGreatDoor.xK]
 simp only [h1, h3]
 simp
 omega
theorem wA (l : List Nd) (i : Nat) : (eM l i).length = l.length := by simp [eM]
theorem bAI {x d : Nat} : (((x &&& 2 ^ d : Nat) : Int) == 0) = !x.testBit d := by
 rw [Bool.eq_iff_iff]
 simp only [beq_iff_eq, Bool.not_eq_true', Int.natCast_eq_zero]
 constructor
 ·intro h
  have := congrArg (fun z => z.testBit d) h
  simpa [Nat.testBit_and, bAJ] using this
 ·intro h
  refine Nat.eq_of_testBit_eq fun r => ?_
  rw [Nat.testBit_and, bAJ, Nat.zero_testBit]
  by_cases hr : d = r
  ·subst hr; simp [h]
  ·simp [hr]
def wH (l : List Nd) (n : Nd) : Bool := (decide (1 ≤ n.op) && decide (n.op ≤ 8)) && !yn (lvx l n.d.toNat) n.t.toNat
theorem qA {regs : Int} {l : List Nd} (hR : bN regs l) {i : Nat} {n : Nd} (hn : l[i]? = some n) : wH l n = true ↔ fQ l i := by
 have hm := Vv hn
 have hreg := hR.regs64 hm
 unfold wH
 simp only [V4, decide_eq_true_iff, Bool.not_eq_true']
 constructor
 ·rintro ⟨⟨h1, h8⟩, hy⟩
  refine ⟨n, hn, h1, h8, fun hlv => ?_⟩
  have hd := hreg.1 X5
  have ht := hR.then_ hm Zb
  have := (mB.lv (pS l n.d.toNat) hR.ways (i := n.t.toNat) Zb).2 (by rw [V5 hd.1, V5 Zb]; exact hlv)
  rw [hy] at this
  cases this
 ·rintro ⟨m, hm', h1, h8, hlv⟩
  rw [hn] at hm'
  injection hm' with hm'
  subst hm'
  have hd := hreg.1 X5
  have ht := hR.then_ hm Zb
  refine ⟨⟨h1, h8⟩, ?_⟩
  cases hy : yn (lvx l n.d.toNat) n.t.toNat with
  | false => rfl
  | true =>
   have := (mB.lv (pS l n.d.toNat) hR.ways (i := n.t.toNat) Zb).1 hy
   rw [V5 hd.1, V5 Zb] at this
   exact absurd this hlv
def tJ (l l' : List Nd) : Prop := eO l l' ∧ ∀ i, ¬ fQ l' i
theorem tJ.unique {l a b : List Nd} (ha : tJ l a) (hb : tJ l b) : a = b := eO.unique ha.1 ha.2 hb.1 hb.2
theorem bCA {regs : Int} {l : List Nd} (hR : bN regs l) (h : ∀ n ∈ l, wH l n = false) (i : Nat) : ¬ fQ l i := fun hd => by
 obtain ⟨n, hn, _⟩ := id hd
 have := (qA hR hn).2 hd
 rw [h n (Vv hn)] at this
 cases this
structure jL (regs : Int) (l l0 l1 : List Nd) (n : Nat) (c : Bool) : Prop where
 right : bN regs l1
 len : l1.length = l.length
 hush : eO l l1
 same : ∀ j, n ≤ j → l1[j]? = l0[j]?
 dead : ∀ j, n ≤ j → fQ l0 j → fQ l1 j
 idle : c = false → l1 = l0 ∧ ∀ j, j < n → ¬ fQ l0 j
 busy : c = true → oG l1 < oG l0
 le : oG l1 ≤ oG l0
theorem jL.start {regs : Int} {l l0 : List Nd} (h : bN regs l0) (hl : l0.length = l.length) (hh : eO l l0) : jL regs l l0 l0 0 false :=
 ⟨h, hl, hh, fun _ _ => rfl, fun _ _ h => h, fun _ => ⟨rfl, fun j hj => absurd hj Zb⟩, fun h => (by cases h), Nat.le_refl _⟩
theorem jL.pass {regs : Int} {l l0 l1 : List Nd} {n : Nat} {c : Bool} (h : jL regs l l0 l1 n c) (hd : ¬ fQ l0 n) : jL regs l l0 l1 (n + 1) c :=
 ⟨h.right, h.len, h.hush, fun j hj => h.same j Zb, fun j hj => h.dead j Zb, fun hc => ⟨(h.idle hc).1, fun j hj => by
  by_cases hjn : j = n
  ·subst hjn; exact hd
  ·exact (h.idle hc).2 j Zb⟩, h.busy, h.le⟩
theorem jL.step {regs : Int} {l l0 l1 : List Nd} {n : Nat} {c : Bool} (h : jL regs l l0 l1 n c) (hd : fQ l0 n) : jL regs l l0 (eM l1 n) (n + 1) true := by
 have hd1 := h.dead n (Nat.le_refl _) hd
 obtain ⟨x, hx, h1, h8, _⟩ := id hd1
 have hb := wK hx Zb
 refine ⟨h.right.hush hx Zb, by rw [wA]; exact h.len, h.hush.snoc hd1, fun j hj => ?_, fun j hj hdj => hd1.still (h.dead j Zb hdj) Zb, fun hc => (by cases hc), fun _ => Vx hb h.le, Nat.le_trans (Nat.le_of_lt hb) h.le⟩
 rw [eK hx, if_neg Zb]
 exact h.same j Zb
theorem bMZ {regs : Nat} {l : List Nd} {i : Nat} {d : Int} (h0 : 0 ≤ d) (h1 : d < regs) : (gI regs l i).any (fun z => z == d) = yn (lvx l d.toNat) i := by
 rw [Bool.eq_iff_iff, List.any_eq_true]
 constructor
 ·rintro ⟨z, hz, hzd⟩
  rw [beq_iff_eq] at hzd
  subst hzd
  obtain ⟨r, hr, hp, rfl⟩ := jK.1 hz
  exact hp
 ·intro hy
  exact ⟨d, jK.2 ⟨d.toNat, Zb, hy, Zb⟩, Zf⟩
end
theorem uF : ∀ (ts : List Tm) {r : Int} {l : List Nd}, bN r l → (gK ts r l).1 = 0 → bN (gK ts r l).2.1 (gK ts r l).2.2
 | [], r, l, hR, h => hR
 | t :: ts, r, l, hR, h => by
  unfold gK at h ⊢
  by_cases h0 : fU r l t = 0
  ·rw [if_neg (by simp [h0])] at h ⊢
   exact uF ts (One.right h0) h
  ·rw [if_pos h0] at h
   exact absurd h h0
theorem eO.right {r : Int} {l l' : List Nd} (h : eO l l') : bN r l → bN r l' := by
 induction h with
 | nil => exact id
 | one l l' i hd h ih =>
  intro hR
  obtain ⟨n, hn, h1, h8, _⟩ := id hd
  exact ih (hR.hush hn Zb)
def iG (n r : Int) (l : List Nd) (c r' : Int) (l' : List Nd) : Prop :=
 (n = 1 ∧ ((256 < (gA l).length ∧ c = 2 ∧ r' = 0 ∧ l' = []) ∨ ((gA l).length ≤ 256 ∧ c = 0 ∧ r' = r ∧ l' = gA l))) ∨
 (n = 2 ∧ ((mJ r l ≠ 0 ∧ c = mJ r l ∧ r' = 0 ∧ l' = []) ∨ (mJ r l = 0 ∧ c = 0 ∧ r' = (gK (tD l) r l).2.1 ∧ l' = (gK (tD l) r l).2.2))) ∨
 (n = 3 ∧ c = 0 ∧ r' = r ∧ tJ l l') ∨ (n = 4 ∧ c = 0 ∧ r' = r ∧ l' = iL l)
theorem iG.right {n r : Int} {l : List Nd} {r' : Int} {l' : List Nd} (h : iG n r l 0 r' l') (hR : bN r l) : bN r' l' := by
 rcases h with ⟨_, ⟨_, h, _⟩ | ⟨h1, _, rfl, rfl⟩⟩ | ⟨_, ⟨h1, h2, _⟩ | ⟨h1, _, rfl, rfl⟩⟩ | ⟨_, _, rfl, h⟩ | ⟨_, _, rfl, rfl⟩
 ·cases h
 ·exact hR.split h1
 ·exact absurd h2.symm h1
 ·refine uF _ hR ?_
  unfold mJ at h1
  rw [if_neg (by rw [hR.chk]; simp)] at h1
  exact h1
 ·exact h.1.right hR
 ·exact hR.trim
theorem iG.same {n r : Int} {l : List Nd} {c1 r1 c2 r2 : Int} {l1 l2 : List Nd} (h : iG n r l c1 r1 l1) (h' : iG n r l c2 r2 l2) : c1 = c2 ∧ r1 = r2 ∧ l1 = l2 := by
 rcases h with ⟨e, h⟩ | ⟨e, h⟩ | ⟨e, h1, h2, h3⟩ | ⟨e, h1, h2, h3⟩ <;> rcases h' with ⟨e', h'⟩ | ⟨e', h'⟩ | ⟨e', h1', h2', h3'⟩ | ⟨e', h1', h2', h3'⟩ <;> try (exfalso; omega)
 ·rcases h with ⟨a, b, c, d⟩ | ⟨a, b, c, d⟩ <;> rcases h' with ⟨a', b', c', d'⟩ | ⟨a', b', c', d'⟩
  ·exact Js
  ·omega
  ·omega
  ·exact Js
 ·rcases h with ⟨a, b, c, d⟩ | ⟨a, b, c, d⟩ <;> rcases h' with ⟨a', b', c', d'⟩ | ⟨a', b', c', d'⟩
  ·exact Js
  ·exact absurd a' a
  ·exact absurd a a'
  ·exact Js
 ·exact ⟨h1.trans h1'.symm, h2.trans h2'.symm, h3.unique h3'⟩
 ·exact ⟨h1.trans h1'.symm, h2.trans h2'.symm, h3.trans h3'.symm⟩
theorem iG.no {n r : Int} {l : List Nd} {c r' : Int} {l' : List Nd} (h : iG n r l c r' l') (hc : c ≠ 0) : r' = 0 ∧ l' = [] := by
 rcases h with ⟨e, ⟨_, _, h1, h2⟩ | ⟨_, h, _⟩⟩ | ⟨e, ⟨_, _, h1, h2⟩ | ⟨_, h, _⟩⟩ | ⟨e, h, _⟩ | ⟨e, h, _⟩
 ·exact ⟨h1, h2⟩
 ·exact absurd h hc
 ·exact ⟨h1, h2⟩
 ·exact absurd h hc
 ·exact absurd h hc
 ·exact absurd h hc
inductive Psq : List Int → Int → List Nd → Int → Int → List Nd → Prop
 | nil {r : Int} {l : List Nd} : Psq [] r l 0 r l
 | bad {n : Int} {ns : List Int} {r : Int} {l : List Nd} {c : Int} : iG n r l c 0 [] → c ≠ 0 → Psq (n :: ns) r l c 0 []
 | next {n : Int} {ns : List Int} {r : Int} {l : List Nd} {r1 : Int} {l1 : List Nd} {c r2 : Int} {l2 : List Nd} : iG n r l 0 r1 l1 → Psq ns r1 l1 c r2 l2 → Psq (n :: ns) r l c r2 l2
theorem Psq.same {ns : List Int} {r : Int} {l : List Nd} {c1 r1 c2 r2 : Int} {l1 l2 : List Nd} (h : Psq ns r l c1 r1 l1) : Psq ns r l c2 r2 l2 → c1 = c2 ∧ r1 = r2 ∧ l1 = l2 := by
 induction h generalizing c2 r2 l2 with
 | nil => intro h; cases h; exact ⟨rfl, rfl, rfl⟩
 | bad h hc =>
  intro h'
  cases h' with
  | bad h1 hc1 => exact h.same h1
  | next h1 h2 => exact absurd (h.same h1).1 hc
 | next h h2 ih =>
  intro h'
  cases h' with
  | bad h1 hc1 => exact absurd (h1.same h).1 hc1
  | next h1 h3 =>
   obtain ⟨_, e1, e2⟩ := h.same h1
   subst e1 e2
   exact ih h3
theorem Psq.right {ns : List Int} {r : Int} {l : List Nd} {c r' : Int} {l' : List Nd} (h : Psq ns r l c r' l') : c = 0 → bN r l → bN r' l' := by
 induction h with
 | nil => exact fun _ h => h
 | bad h hc => exact fun e _ => absurd e hc
 | next h h2 ih => exact fun e hR => ih e (h.right hR)
def jR (r : Int) (l : List Nd) (ns : List Int) (c r' : Int) (l' : List Nd) : Prop :=
 (chk r l ≠ 0 ∧ c = chk r l ∧ r' = 0 ∧ l' = []) ∨ (chk r l = 0 ∧ 16 < ns.length ∧ c = 2 ∧ r' = 0 ∧ l' = []) ∨
 (chk r l = 0 ∧ ns.length ≤ 16 ∧ (∃ n ∈ ns, ¬ (1 ≤ n ∧ n ≤ 4)) ∧ c = 4 ∧ r' = 0 ∧ l' = []) ∨ (chk r l = 0 ∧ ns.length ≤ 16 ∧ (∀ n ∈ ns, 1 ≤ n ∧ n ≤ 4) ∧ Psq ns r l c r' l')
theorem jR.same {r : Int} {l : List Nd} {ns : List Int} {c1 r1 c2 r2 : Int} {l1 l2 : List Nd} (h : jR r l ns c1 r1 l1) (h' : jR r l ns c2 r2 l2) : c1 = c2 ∧ r1 = r2 ∧ l1 = l2 := by
 rcases h with ⟨a, b, c, d⟩ | ⟨a, a2, b, c, d⟩ | ⟨a, a2, ⟨n, hn, a3⟩, b, c, d⟩ | ⟨a, a2, a3, b⟩ <;> rcases h' with ⟨a', b', c', d'⟩ | ⟨a', a2', b', c', d'⟩ | ⟨a', a2', ⟨n', hn', a3'⟩, b', c', d'⟩ | ⟨a', a2', a3', b'⟩
 all_goals first
  | exact ⟨b.trans b'.symm, c.trans c'.symm, d.trans d'.symm⟩
  | exact absurd a' a
  | exact absurd a a'
  | (exfalso; omega)
  | exact absurd (a3' n hn) a3
  | exact absurd (a3 n' hn') a3'
  | exact b.same b'
section
open Go.RowKit
theorem bKL (n : Nd) (r : Int) (w : World) :
  Calls prog 159 #[.agg #[.int .i64 n.op, .int .i64 n.d, .int .i64 n.a, .int .i64 n.b, .int .i64 n.t, .int .i64 n.e], .int .i64 r] w
   fun e w' => e = .returned (.bool ((dD n.op && n.a == r) || (cF n.op && n.b == r))) ∧ Below w.heap.size w w' := by
 cases ha : dD n.op <;> cases hb : cF n.op <;> cases h1 : (n.a == r) <;> cases h2 : (n.b == r) <;>
 ·go_enter func159, ntmps159
  go_wp2_with (go_at_call 95; refine (jB _ _).mono ?_; rw [ha, hb]; rintro e w1 ⟨rfl, rfl⟩)
  all_goals go_tidy
  all_goals go_ret
  all_goals exact ⟨by simp_all, Ye⟩
theorem bLH (n : Nd) (r : Int) (w : World) :
  Calls prog 160 #[.agg #[.int .i64 n.op, .int .i64 n.d, .int .i64 n.a, .int .i64 n.b, .int .i64 n.t, .int .i64 n.e], .int .i64 r] w
   fun e w' => e = .returned (.bool (dI n.op && n.d == r)) ∧ Below w.heap.size w w' := by
 cases ha : dI n.op <;> cases h1 : (n.d == r) <;>
 ·go_enter func160, ntmps160
  go_wp2_with (go_at_call 95; refine (jB _ _).mono ?_; rw [ha]; rintro e w1 ⟨rfl, rfl⟩)
  all_goals go_tidy
  all_goals go_ret
  all_goals exact ⟨by simp_all, Ye⟩
theorem rP (k : Nat) (hk : k < 64) (w : World) :
  Calls prog 107 #[.int .i64 k] w fun e w' => e = .returned (.int .u64 ((2 ^ k : Nat) : Int)) ∧ w' = w := by
 have hw : IntKind.u64.wrap (2 ^ k) = ((2 ^ k : Nat) : Int) := by
  have h1 : (2 : Int) ^ k = ((2 ^ k : Nat) : Int) := Zf
  have h2 : 2 ^ k < 2 ^ 64 := Nat.pow_lt_pow_right Zb hk
  rw [h1, IntKind.wrap_u64]
  generalize (2 ^ k : Nat) = z at h2
  omega
 have Hw := bA hw
 clear hw
 go_enter func107, ntmps107
 go_wp2
 all_goals go_ret
 all_goals exact ⟨by rw [← Hw.o]; rfl, rfl⟩
theorem bME (n : Nd) (w : World) (hd : dI n.op = true → 0 ≤ n.d ∧ n.d < 64) :
  Calls prog 138 #[.agg #[.int .i64 n.op, .int .i64 n.d, .int .i64 n.a, .int .i64 n.b, .int .i64 n.t, .int .i64 n.e]] w
   fun e w' => e = .returned (.int .u64 (pC n : Int)) ∧ Below w.heap.size w w' := by
 cases h : dI n.op with
 | true =>
  obtain ⟨d0, d1⟩ := hd h
  have hone := fun W => rP n.d.toNat Zb W
  rw [V5 d0] at hone
  have hm : pC n = 2 ^ n.d.toNat := by simp [pC, h]
  rw [hm]
  generalize (2 ^ n.d.toNat : Nat) = z at *
  have o1 : 1 ≤ n.op := by simp [dI, inB] at h; omega
  have o2 : n.op ≤ 9 := by simp [dI, inB] at h; omega
  have H1 := bA hone
  clear hone hm hd h
  go_enter func138, ntmps138
  go_wp2_with (go_at_call 107; refine (H1.o _).mono ?_; rintro e w1 ⟨rfl, rfl⟩)
  all_goals go_tidy
  all_goals go_ret
  all_goals exact ⟨rfl, Ye⟩
 | false =>
  have hm : pC n = 0 := by simp [pC, h]
  rw [hm]
  have o1 : ¬ (1 ≤ n.op ∧ n.op ≤ 9) := by simp [dI, inB] at h; omega
  clear hm hd h
  by_cases o2 : 1 ≤ n.op
  ·have o3 : ¬ n.op ≤ 9 := Zb
   clear o1
   go_enter func138, ntmps138
   go_wp2
   all_goals go_tidy
   all_goals go_ret
   all_goals exact ⟨rfl, Ye⟩
  ·clear o1
   go_enter func138, ntmps138
   go_wp2
   all_goals go_tidy
   all_goals go_ret
   all_goals exact ⟨rfl, Ye⟩
end
section
open Go.RowKit
theorem bKM (n : Nd) (w : World) (h1 : dD n.op = true → 0 ≤ n.a ∧ n.a < 64) (h2 : cF n.op = true → 0 ≤ n.b ∧ n.b < 64) :
  Calls prog 136 #[.agg #[.int .i64 n.op, .int .i64 n.d, .int .i64 n.a, .int .i64 n.b, .int .i64 n.t, .int .i64 n.e]] w
   fun e w' => e = .returned (.int .u64 (mN n : Int)) ∧ Below w.heap.size w w' := by
 cases hb : cF n.op with
 | true =>
  have ho : 3 ≤ n.op ∧ n.op ≤ 8 := by simp [cF, inB] at hb; omega
  obtain ⟨o1, o2⟩ := ho
  obtain ⟨a0, a1⟩ := h1 (by simp [dD, inB]; omega)
  obtain ⟨b0, b1⟩ := h2 hb
  have ca := fun W => rP n.a.toNat Zb W
  have cb := fun W => rP n.b.toNat Zb W
  rw [V5 a0] at ca
  rw [V5 b0] at cb
  have hm : mN n = 2 ^ n.a.toNat ||| 2 ^ n.b.toNat := by simp [mN, hb]
  have hx : 2 ^ n.a.toNat < 2 ^ 64 := Nat.pow_lt_pow_right Zb Zb
  have hy : 2 ^ n.b.toNat < 2 ^ 64 := Nat.pow_lt_pow_right Zb Zb
  rw [hm]
  generalize (2 ^ n.a.toNat : Nat) = x at *
  generalize (2 ^ n.b.toNat : Nat) = y at *
  have hor := bits_or_u64_nat x y Zb Zb
  have CA := bA ca
  have CB := bA cb
  have HO := bA hor
  clear ca cb hor hm hb h1 h2 hx hy
  go_enter func136, ntmps136
  go_wp2_with fail
  go_quiet ((go_at_call 107; first | exact Calls.quiet_of_same (CA.out _) | exact Calls.quiet_of_same (CB.out _)))
  go_wp2_with fail
  go_ret
  exact ⟨by rw [← HO.o]; rfl, Ye⟩
 | false =>
  have hn : ¬ (3 ≤ n.op ∧ n.op ≤ 8) := by simp [cF, inB] at hb; omega
  cases ha : dD n.op with
  | true =>
   obtain ⟨a0, a1⟩ := h1 ha
   have ca := fun W => rP n.a.toNat Zb W
   rw [V5 a0] at ca
   have hm : mN n = 2 ^ n.a.toNat := by simp [mN, hb, ha]
   rw [hm]
   generalize (2 ^ n.a.toNat : Nat) = x at *
   have CA := bA ca
   have ho : n.op = 2 ∨ n.op = 10 ∨ n.op = 11 ∨ n.op = 12 := by simp [dD, inB] at ha; omega
   obtain ⟨op, d, a, b, t, e⟩ := n
   simp only at *
   clear ca hm hb ha h1 h2 hn
   rcases ho with rfl | rfl | rfl | rfl <;>
   ·go_enter func136, ntmps136
    go_wp2_with (go_at_call 107; refine (CA.out _).mono ?_; rintro e w1 ⟨rfl, rfl⟩)
    all_goals go_tidy
    all_goals go_ret
    all_goals exact ⟨rfl, Ye⟩
  | false =>
   have hm : mN n = 0 := by simp [mN, hb, ha]
   rw [hm]
   have q2 : (n.op == 2) = false := by simp [dD, inB] at ha; simp; omega
   have q10 : (n.op == 10) = false := by simp [dD, inB] at ha; simp; omega
   have q11 : (n.op == 11) = false := by simp [dD, inB] at ha; simp; omega
   have q12 : (n.op == 12) = false := by simp [dD, inB] at ha; simp; omega
   have q3 : (decide (3 ≤ n.op) && decide (n.op ≤ 8)) = false := by simp; omega
   clear hm hb ha h1 h2 
   by_cases h3 : 3 ≤ n.op
   ·have h8 : ¬ n.op ≤ 8 := Zb
    clear hn q3
    go_enter func136, ntmps136
    go_wp2
    all_goals go_tidy
    all_goals go_ret
    all_goals exact ⟨rfl, Ye⟩
   ·clear hn q3
    go_enter func136, ntmps136
    go_wp2
    all_goals go_tidy
    all_goals go_ret
    all_goals exact ⟨rfl, Ye⟩
end
section
open Go.RowKit
theorem bGT (n : Nd) (S : Option Addr) (ats : List Nat) (cap : Nat) (w : World) (hS : bH w S (sJ ats)) (hl : ats.length ≤ 256) (hz : ∀ z ∈ ats, z < 2 ^ 64)
  (ht : n.op ≠ 12 → 0 ≤ n.t ∧ n.t < ats.length) (he : n.op = 11 → 0 ≤ n.e ∧ n.e < ats.length) :
  Calls prog 137 #[.agg #[.int .i64 n.op, .int .i64 n.d, .int .i64 n.a, .int .i64 n.b, .int .i64 n.t, .int .i64 n.e], .slice S ats.length cap] w
   fun e w' => e = .returned (.int .u64 (gQ n ats : Int)) ∧ Below w.heap.size w w' := by
 by_cases h12 : n.op = 12
 ·have hm : gQ n ats = 0 := by simp [gQ, h12]
  have q12 : (n.op == 12) = true := by simp [h12]
  rw [hm]
  clear hm h12 ht he
  go_enter func137, ntmps137
  go_wp2
  all_goals go_tidy
  all_goals go_ret
  all_goals exact ⟨rfl, Ye⟩
 ·obtain ⟨t0, t1⟩ := ht h12
  obtain ⟨tt, htt⟩ := Vy t0
  obtain ⟨b, off, rfl, hb, ct⟩ := hS.u64 (k := tt) Zb
  have q12 : (n.op == 12) = false := by simp [h12]
  have xt := pW hz tt
  by_cases h11 : n.op = 11
  ·obtain ⟨e0, e1⟩ := he h11
   obtain ⟨ee, hee⟩ := Vy e0
   obtain ⟨b', off', e', _, ce⟩ := hS.u64 (k := ee) Zb
   injection e' with e'
   injection e' with e1' e2'
   subst e1' e2'
   have q11 : (n.op == 11) = true := by simp [h11]
   have xe := pW hz ee
   have hm : gQ n ats = ats.getD tt 0 ||| ats.getD ee 0 := by simp [gQ, h11, htt, hee]
   rw [hm]
   generalize ats.getD tt 0 = x at *
   generalize ats.getD ee 0 = y at *
   have hor := bits_or_u64_nat x y xt xe
   obtain ⟨op, d, a, b0, t, e⟩ := n
   simp only at *
   subst htt hee
   have HO := bA hor
   clear hor hm h12 h11 ht he hz hS xt xe
   go_enter func137, ntmps137
   go_wp2_with fail
   go_quiet (fail)
   go_wp2_with fail
   go_ret
   exact ⟨by rw [← HO.o]; rfl, Ye⟩
  ·have q11 : (n.op == 11) = false := by simp [h11]
   have hm : gQ n ats = ats.getD tt 0 := by simp [gQ, h11, h12, htt]
   rw [hm]
   generalize ats.getD tt 0 = x at *
   obtain ⟨op, d, a, b0, t, e⟩ := n
   simp only at *
   subst htt
   clear hm h12 h11 ht he hz hS xt
   go_enter func137, ntmps137
   go_wp2
   all_goals go_tidy
   all_goals go_ret
   all_goals exact ⟨rfl, Ye⟩
end
section
open Go.RowKit
def pL (W w : World) : Prop := Below W.heap.size W w
theorem pL.refl (W : World) : pL W W := Below.refl _ _
theorem pL.step {W w w' : World} (h : pL W w) (hb : Below w.heap.size w w') : pL W w' := Below.trans h (hb.mono h.size)
theorem pL.drew {W w : World} (h : pL W w) : pL W w.drew := Below.drew h
end
theorem oN {P : Program} {a : Act} {w : World} {Q : Exit → Act → World → Prop} {c rest : Code} (l : Nat) (I : Nat → Act → World → Prop) (hf : findLabel c l = some (Code.skip.seq rest))
 (pass : ∀ n a w, I n a w → rest.wp P (Exit.jump l (fun a' w' => ∃ k, k < n ∧ I k a' w') Q) a w)
 (first : (∀ n a w, I n a w → rest.wp P (Exit.jump l (fun a' w' => ∃ k, I k a' w') Q) a w) → c.wp P (Exit.jump l (fun a' w' => ∃ k, I k a' w') Q) a w) : (Code.scope c).wp P Q a w := by (
 refine wp_scope_jumps l (fun a w => ∃ n, I n a w) (fun a w => leastOf (fun n => I n a w)) hf (first fun n a w h => wp_mono (pass n a w h) ?_) ?_
 · (
 intro e a' w' hq
 cases e with
 | goto t => exact ⟨hq.1, hq.2.elim fun k h => ⟨k, h.2⟩⟩
 | normal => exact hq
 | exit id => exact hq
 | ret => exact hq
 | panic ch => exact hq
 | outgrown => exact hq)
 · (
 intro a w hI
 refine wp_seq (wp_skip ?_)
 refine wp_mono (pass _ a w (leastOf_spec hI).1) ?_
 intro e a' w' hq
 cases e with
 | goto t =>
  obtain ⟨h1, k, hlt, hk⟩ := hq
  exact ⟨h1, ⟨k, hk⟩, Nat.lt_of_le_of_lt ((leastOf_spec ⟨k, hk⟩).2 k hk) hlt⟩
 | normal => exact hq
 | exit id => exact hq
 | ret => exact hq
 | panic ch => exact hq
 | outgrown => exact hq))
section
open Go.RowKit
attribute [local irreducible] Row madeCells
theorem bOO : (prog.info? 159).map (fun i => (i.zero, i.size, i.bytes)) = some (some (.int .u64 0), 1, 8) := Zc
def bCU (n : Nat) (ats : List Nat) : Nat := n * 2 ^ 64 - ats.sum
theorem bMQ {l : List Nd} {ats : List Nat} (h : wZ l ats) {k z : Nat} (hk : k < l.length) (hz : z < 2 ^ 64) (hle : ats.getD k 0 ≤ z) (hne : ats.getD k 0 ≠ z) (hb : wZ l (ats.set k z)) :
  bCU l.length (ats.set k z) < bCU l.length ats := by
 have h1 := bNX (ats := ats) (k := k) (z := z) (by rw [h.1]; exact hk)
 have h2 := bPP (ats := ats.set k z) (b := 2 ^ 64) (fun y hy => Nat.le_of_lt (hb.2.1 y hy))
 rw [hb.1] at h2
 unfold bCU
 generalize l.length * 2 ^ 64 = q at *
 omega
def bNG (l : List Nd) (B : Nat) (t : TypeId) (w : World) (e : Ending) (w' : World) : Prop :=
 ∃ ats v, (ats.length = l.length ∧ (∀ z ∈ ats, z < 2 ^ 64) ∧ ∀ r : Nat, r < 64 → mB (fB l r) l.length (gB r ats)) ∧ e = .returned v ∧ Row w' B t v (sJ ats) ∧ Below w.heap.size w w'
theorem bHJ {l : List Nd} {ats : List Nat} {k : Nat} {x : Nd} (hx : l[k]? = some x) (hr : pI x) (r : Nat) (h64 : r < 64) : (xI x ats).testBit r = fB l r (gB r ats) k := by
 have hg : l.getD k default = x := by rw [Vt, hx]; rfl
 rw [bMB hr h64]
 unfold fB
 rw [hg]
theorem bLG (regs : Int) (A : Option Addr) (l : List Nd) (cap : Nat) (w : World) (hA : bG w A l) (hR : bN regs l) :
  Calls prog 105 #[.agg #[.int .i64 regs, .slice A l.length cap]] w (bNG l w.heap.size 159 w) := by
 have hlo := hR.lo
 have hhi := hR.hi
 have HRr := bA hR
 clear hR
 obtain ⟨ib, hbi, hbz, hbs, hbb⟩ := info_parts bOO
 have hmk := dK (P := prog) 156 159 ib _ 8 underlying156 hbi hbz hbs hbb Zb rfl l.length Zb
 go_enter func105, ntmps105
 go_wp2_with fail
 refine oN 0 (fun g a' w' => ∃ (ats : List Nat) (u4 u5 u6 u11 u12 u13 u14 u15 u16 u17 u18 u19 u20 u21 u22 u23 u24 u25 u26 u27 u28 u29 u30 u31 u32 u33 u34 u35 u36 u37 u38 u39 u40 u41 u42 : Value), a' = { tmps := #[.agg #[.int .i64 regs, .slice A l.length cap], .pointer (some ⟨w.heap.size, 0, none⟩), .slice none 0 0, .slice (some ⟨w.heap.size + 1, 0, none⟩) l.length l.length, u4, u5, u6, .pointer (some ⟨w.heap.size, 1, none⟩), .slice A l.length cap, .int .i64 l.length, .slice (some ⟨w.heap.size + 1, 0, none⟩) l.length l.length, u11, u12, u13, u14, u15, u16, u17, u18, u19, u20, u21, u22, u23, u24, u25, u26, u27, u28, u29, u30, u31, u32, u33, u34, u35, u36, u37, u38, u39, u40, u41, u42], defers := [] } ∧ g = bCU l.length ats ∧ wZ l ats ∧
  Row w' w.heap.size 159 (.slice (some ⟨w.heap.size + 1, 0, none⟩) l.length l.length) (sJ ats) ∧ Blk w' w.heap.size 24 #[.int .i64 regs, .slice A l.length cap] ∧ Below w.heap.size w w') rfl ?pass ?first
 case first =>
  intro again
  have Again := bA again
  clear again
  go_wp2_with fail
  go_step3
  rename_i K hK
  refine hK _ _ ?_
  refine Again.out _ _ _ ⟨List.replicate l.length 0, _, _, _, _, _, _, _, _, _, _, _, _, _, _, _, _, _, _, _, _, _, _, _, _, _, _, _, _, _, _, _, _, _, _, _, rfl, rfl, wZ.start l, ?_, Yf, Ye⟩
  rw [sJ, List.map_replicate]
  show Row _ _ _ _ (List.replicate l.length (.int .u64 0))
  exact Yh
 case pass =>
  rintro g a' wr ⟨ats, u4, u5, u6, u11, u12, u13, u14, u15, u16, u17, u18, u19, u20, u21, u22, u23, u24, u25, u26, u27, u28, u29, u30, u31, u32, u33, u34, u35, u36, u37, u38, u39, u40, u41, u42, rfl, hg, hbt, hRow, hP, hB⟩
  have Hg := bA hg
  have Hbt := bA hbt
  have hal := hbt.1
  have Hal := bA hal
  have HRow := bA hRow
  have HP := bA hP
  clear hg hbt hal hRow hP hmk
  go_wp2_with fail
  obtain ⟨wb, rfl⟩ := Exq wr
  go_loopg [4] (l.length) (fun gk i wr => ∃ k : Nat, k ≤ l.length ∧ i = .int .i64 ((k : Int) - 1) ∧ gk = k ∧ (∀ j x, k ≤ j → l[j]? = some x → xI x ats = ats.getD j 0) ∧
   Row wr w.heap.size 159 (.slice (some ⟨w.heap.size + 1, 0, none⟩) l.length l.length) (sJ ats) ∧ Blk wr w.heap.size 24 #[.int .i64 regs, .slice A l.length cap] ∧ Below w.heap.size w wr)
  case atStart => exact ⟨l.length, Nat.le_refl _, rfl, rfl, fun j x hj hx => absurd (List.getElem?_eq_some_iff.1 hx).1 Zb, HRow.o, HP.o, hB⟩
  case round =>
   clear HRow HP hB
   obtain ⟨k, hk, rfl, hgk, hno, hRow, hP, hB⟩ := hrel
   have Hgk := bA hgk
   have Hno := bA hno
   clear hgk hno
   have hz := hB.size
   refine Wm fun p0 p1 => ?_
   have hxlt := (hRow.lt _ rfl).2
   have lp := hP.lt
   cases k with
   | zero =>
    have HRow := bA hRow
    have HP := bA hP
    clear hRow hP
    have k1 : (((0 : Nat) : Int) - 1) = -1 := Zb
    rw [k1]
    clear k1
    go_wp2_with fail
    simp only [Exit.jump]
    go_ret
    refine ⟨ats, _, ⟨Hal.o, Hbt.o.2.1, fun r h64 => Hbt.o.done (fun j r' hj hr' => ?_) h64⟩, rfl, HRow.o, hB⟩
    obtain ⟨x, hx⟩ : ∃ x, l[j]? = some x := ⟨_, Vs hj⟩
    rw [← Hno.o j x (Nat.zero_le _) hx]
    exact bHJ hx (HRr.o.regs64 (Vv hx)) r' hr'
   | succ k =>
    obtain ⟨x, hx⟩ : ∃ x, l[k]? = some x := ⟨_, Vs Zb⟩
    have Hx := bA hx
    obtain ⟨xb, xo, x', rfl, hxb, hx', hxl⟩ := (hA.below hB).get (k := k) Zb
    rw [hx] at hx'
    injection hx' with hx'
    subst hx'
    obtain ⟨c0, c1, c2, c3, c4, c5⟩ := hxl
    obtain ⟨g0, o0, cp0, e0, _, _, cx, fx⟩ := hRow.u64 (k := k) (by rw [Hal.o]; omega)
    injection e0 with e0 e1 e2
    injection e0 with e0
    injection e0 with e0 e3
    subst e0 e3
    simp only [Nat.zero_add] at cx fx
    clear e1 e2 hx
    have hz64 := Hbt.o.2.1
    have hreg := HRr.o.regs64 (Vv Hx.o)
    have hway : (x.op ≠ 12 → 0 ≤ x.t ∧ x.t < ats.length) ∧ (x.op = 11 → 0 ≤ x.e ∧ x.e < ats.length) := by
     rw [Hal.o]
     exact ⟨fun h => by have := HRr.o.then_ (Vv Hx.o) h; omega, fun h => by have := HRr.o.else_ (Vv Hx.o) h; omega⟩
    have hU := fun W => bKM x W hreg.2.1 hreg.2.2
    have hM := fun W => bME x W hreg.1
    have hBh := fun W (hW : pL wr W) => bGT x (some ⟨w.heap.size + 1, 0, none⟩) ats l.length W (hRow.below' hW).vals (by rw [Hal.o]; omega) hz64 hway.1 hway.2
    rw [Hal.o] at hBh
    have eN : bits .or .u64 (mN x : Int) (bits .andNot .u64 (gQ x ats : Int) (pC x : Int)) = ((xI x ats : Nat) : Int) := by
     rw [bBA _ _ (rD hz64) (bCK hreg)]
     exact bits_or_u64_nat _ _ (bAY hreg) (Nat.lt_of_le_of_lt Nat.and_le_left (rD hz64))
    have HU := bA hU
    have HM := bA hM
    have HBh := bA hBh
    have EN := bA eN
    have HRow := bA hRow
    have HP := bA hP
    have Hreg := bA hreg
    have k1 : (((k + 1 : Nat) : Int) - 1) = (k : Int) := Zb
    rw [k1]
    clear k1 hU hM hBh eN hRow hP hreg hway hz64 hA
    refine Vo fun q0 q1 => ?_
    have lxw : wr.heap.size < (wr.alloc (.cells #[.int .i64 x.op, .int .i64 x.d, .int .i64 x.a, .int .i64 x.b, .int .i64 x.t, .int .i64 x.e] 44)).heap.size := Zf
    go_upto_region 6 with fail
    go_cut [6] (fun s6 wx => s6 = .int .u64 (xI x ats : Int) ∧ pL wr wx)
    case first =>
     obtain ⟨w6, hw6⟩ := Exq (wr.alloc (.cells #[.int .i64 x.op, .int .i64 x.d, .int .i64 x.a, .int .i64 x.b, .int .i64 x.t, .int .i64 x.e] 44))
     have hX6 : Blk w6 wr.heap.size 44 #[.int .i64 x.op, .int .i64 x.d, .int .i64 x.a, .int .i64 x.b, .int .i64 x.t, .int .i64 x.e] := by rw [hw6]; exact Yf
     have hL6 : pL wr w6 := by rw [hw6]; exact Below.alloc (Below.refl _ _) (Nat.le_refl _) _
     have hL66 := pL.refl w6
     rw [← hw6]
     have b0 := hX6.cell 0
     have b1 := hX6.cell 1
     have b2 := hX6.cell 2
     have b3 := hX6.cell 3
     have b4 := hX6.cell 4
     have b5 := hX6.cell 5
     simp only [Yl] at b0 b1 b2 b3 b4 b5
     have hll : wr.heap.size < w6.heap.size := hX6.lt
     clear hw6 hX6 c0 c1 c2 c3 c4 c5 p0 p1 cx fx lxw hxb hB HRow HP
     go_region_held3 (fun w' => w'.cell? ⟨wr.heap.size, 0, none⟩ = some (.int .i64 x.op) ∧ w'.cell? ⟨wr.heap.size, 1, none⟩ = some (.int .i64 x.d) ∧ w'.cell? ⟨wr.heap.size, 2, none⟩ = some (.int .i64 x.a) ∧
       w'.cell? ⟨wr.heap.size, 3, none⟩ = some (.int .i64 x.b) ∧ w'.cell? ⟨wr.heap.size, 4, none⟩ = some (.int .i64 x.t) ∧ w'.cell? ⟨wr.heap.size, 5, none⟩ = some (.int .i64 x.e) ∧ pL wr w' ∧ pL w6 w')
      (((try go_split_ands); (try dsimp only); (repeat' apply And.intro) <;> (first | assumption | go_keep | (exact pL.drew Zg) | (exact pL.step Zg Zg) | (rw [hc3 _ _ (Vx hll (Below.size (by assumption : pL w6 _)))]; assumption))))
      (first
       | (go_at_call 136; refine (HU.o _).mono ?_; rintro e w3 ⟨rfl, hb3⟩; obtain ⟨hc3, hf3⟩ := bB hb3)
       | (go_at_call 138; refine (HM.o _).mono ?_; rintro e w3 ⟨rfl, hb3⟩; obtain ⟨hc3, hf3⟩ := bB hb3)
       | (go_at_call 137; (try go_split_ands); refine (HBh.o _ Zg).mono ?_; rintro e w3 ⟨rfl, hb3⟩; obtain ⟨hc3, hf3⟩ := bB hb3))
     all_goals (try go_split_ands)
     all_goals (go_wp2_with fail)
     all_goals go_meet
     all_goals go_tidy
     all_goals exact ⟨by rw [← EN.out], Zg⟩
    case rest =>
     obtain ⟨rfl, hL⟩ := hcut
     obtain ⟨wx, rfl⟩ := Exq wc
     have cx' := ((bB hL).1 _ _ hxlt).trans cx
     have fx' := ((bB hL).2 _ _ hxlt).trans fx
     have hn64 : xI x ats < 2 ^ 64 := bOE Hreg.o Hbt.o.2.1
     have hput := Hbt.o.put (k := k) (z := xI x ats) Zb hn64 (fun r h64 => bHJ Hx.o Hreg.o r h64)
     have HL := bA hL
     have Hput := bA hput
     have Hn64 := bA hn64
     have hz2 := hL.size
     clear cx fx c0 c1 c2 c3 c4 c5 p0 p1 hL lxw hput hn64
     generalize hzz : xI x ats = z at *
     generalize hyy : ats.getD k 0 = y at *
     have Hzz := bA hzz
     have Hyy := bA hyy
     clear hzz hyy
     cases hq : ((z : Int) != (y : Int))
     case true =>
      have Hq := bA hq
      go_wp2_with fail
      go_step3
      refine ⟨rfl, bCU l.length (ats.set k z), ?_, ats.set k z, _, _, _, _, _, _, _, _, _, _, _, _, _, _, _, _, _, _, _, _, _, _, _, _, _, _, _, _, _, _, _, _, _, _, _, rfl, rfl, Hput.o.1, ?_, (HP.o.below HL.o lp).far Zf _, (Below.trans hB (Below.mono HL.o hz)).setCell Zd _⟩
      ·rw [Hg.o]
       have hq' := Hq.o
       simp at hq'
       exact bMQ Hbt.o Zb Hn64.o (by rw [Hyy.o]; exact Hput.o.2) (by rw [Hyy.o]; omega) Hput.o.1
      ·have := (HRow.o.below' HL.o).store k (.int .u64 (z : Int))
       rw [bKP, Nat.zero_add] at this
       exact this
     case false =>
      have Hq := bA hq
      go_wp2_with fail
      go_roundg k
      case measure => exact Jl
      case rel =>
       refine ⟨k, Zb, by go_num, rfl, fun j y hj hy => ?_, HRow.o.below' HL.o, HP.o.below HL.o lp, Below.trans hB (Below.mono HL.o hz)⟩
       by_cases hjk : j = k
       ·subst hjk
        rw [Hx.o] at hy
        injection hy with hy
        subst hy
        have := Hq.o
        simp at this
        rw [Hzz.o, Hyy.o]
        omega
       ·exact Hno.o j y Zb hy
end
section
open Go.RowKit
attribute [local irreducible] Row madeCells
def gD (B : Nat) (tS tI : TypeId) (n : Nat) (xs : Nat → List Int) (v : Value) (w : World) : Prop :=
 ∃ vs : Nat → Value, Row w B tS v ((List.range n).map vs) ∧ Tab w B tI n vs (fun i => bO (xs i))
end
section
open Go.RowKit
theorem gD.row {B : Nat} {tS tI : TypeId} {n : Nat} {xs : Nat → List Int} {v : Value} {w : World} (h : gD B tS tI n xs v w) {i : Nat} (hi : i < n) :
 ∃ g o cap A c, v = .slice (some ⟨g, o, none⟩) n cap ∧ g < w.heap.size ∧ w.cell? ⟨g, o + i, none⟩ = some (.slice A (xs i).length c) ∧ bH w A (bO (xs i)) := by (
 obtain ⟨vs, hO, hT⟩ := h
 obtain ⟨g, o, cap, x, e, _, hl, hx, hc, _⟩ := hO.get (k := i) (by simpa using hi)
 have hr := hT.row hi
 obtain ⟨A, c, hv, _, _⟩ := hr.shape
 rw [bJ] at hv
 simp [hi] at hx
 subst hx
 rw [hv] at hc hr
 rw [V9, List.length_range] at e
 exact ⟨g, o, cap, A, c, e, hl, hc, hr.vals⟩)
theorem gD.of {B : Nat} {tS tI : TypeId} {n : Nat} {xs : Nat → List Int} {v : Value} {w w' : World} (h : gD B tS tI n xs v w) (hb : ∀ k, B ≤ k → k < w.heap.size → (∃ cs, Blk w k tS cs ∨ Blk w k tI cs) → w'.heap[k]? = w.heap[k]?) : gD B tS tI n xs v w' := by (
 obtain ⟨vs, hO, hT⟩ := h
 refine ⟨vs, hO.of_block fun k hk => ?_, hT.of_blocks fun i k hi hk => ?_⟩
 · (
 have h2 := hO.lt k hk
 refine hb k h2.1 h2.2 ?_
 obtain ⟨A, cap, hv, _, _⟩ := hO.shape
 subst hv
 rcases A with _ | ⟨g, o, sp⟩
 · simp [Value.ownBlock] at hk
 · (
 simp [Value.ownBlock] at hk
 subst hk
 rcases hO with ⟨he, _⟩ | ⟨g', o', cp, cur, he, _, hh, _⟩
 · cases he
 · (
 injection he with he
 injection he with he
 injection he with he
 subst he
 exact ⟨cur, .inl Xj⟩)))
 · (
 have hr := hT.row hi
 have h2 := hr.lt k hk
 refine hb k h2.1 h2.2 ?_
 rcases hr with ⟨he, _⟩ | ⟨g', o', cp, cur, he, _, hh, _⟩
 · rw [he] at hk; simp [Value.ownBlock] at hk
 · (
 rw [he] at hk
 simp [Value.ownBlock] at hk
 subst hk
 exact ⟨cur, .inr Xj⟩)))
theorem gD.below {B : Nat} {tS tI : TypeId} {n : Nat} {xs : Nat → List Int} {v : Value} {w w' : World} (h : gD B tS tI n xs v w) (hb : Below w.heap.size w w') : gD B tS tI n xs v w' := h.of fun k _ hk _ => hb.block k hk
theorem gD.far {B : Nat} {tS tI : TypeId} {n : Nat} {xs : Nat → List Int} {v : Value} {w : World} (h : gD B tS tI n xs v w) {p : Addr} {t : TypeId} {cs : Array Value} (hp : Blk w p.block t cs) (h1 : t ≠ tS) (h2 : t ≠ tI) (u : Value) : gD B tS tI n xs v (w.setCell p u) :=
 h.of fun k _ _ ⟨cs', hk⟩ => Below.heap_setCell w p u k (by
  rintro rfl
  rcases hk with hk | hk
  · exact Blk.ne_ hp hk h1 rfl
  · exact Blk.ne_ hp hk h2 rfl)
attribute [local irreducible] Row madeCells
theorem bMM : (prog.info? 3).map (fun i => (i.zero, i.size, i.bytes)) = some (some (.int .i64 0), 1, 8) := Zc
theorem bJH : (prog.info? 25).map (fun i => (i.zero, i.size, i.bytes)) = some (some (.slice none 0 0), 1, 24) := Zc
theorem Tab.congr {w : World} {base N : Nat} {e : TypeId} {vs : Nat → Value} {xs ys : Nat → List Value} (h : Tab w base e N vs xs) (he : ∀ i, i < N → xs i = ys i) : Tab w base e N vs ys := by (
 unfold Tab at *
 exact   ⟨fun i hi => by rw [← he i hi]; exact h.1 i hi, h.2⟩)
end
section
open Go.RowKit
attribute [local irreducible] Row madeCells
def oE (ats : List Nat) (n : Nd) : Bool := (decide (1 ≤ n.op) && decide (n.op ≤ 8)) && (((ats.getD n.t.toNat 0 &&& 2 ^ n.d.toNat : Nat) : Int) == 0)
theorem bJQ (n : Nd) (S : Option Addr) (ats : List Nat) (cap g : Nat) (w : World) (hS : bH w S (sJ ats)) (hl : ats.length ≤ 256) (hz : ∀ z ∈ ats, z < 2 ^ 64)
  (ht : n.op ≠ 12 → 0 ≤ n.t ∧ n.t < ats.length) (hr : pI n) (hg : g < w.heap.size) (hc : w.cell? ⟨g, 0, none⟩ = some (.slice S ats.length cap)) :
  Calls prog 106 #[.agg #[.int .i64 n.op, .int .i64 n.d, .int .i64 n.a, .int .i64 n.b, .int .i64 n.t, .int .i64 n.e], .pointer (some ⟨g, 0, none⟩)] w
   fun e w' => e = .returned (.bool (oE ats n)) ∧ Below w.heap.size w w' := by
 by_cases h1 : 1 ≤ n.op
 ·by_cases h8 : n.op ≤ 8
  ·obtain ⟨t0, t1⟩ := ht Zb
   obtain ⟨tt, htt⟩ := Vy t0
   obtain ⟨b, off, rfl, hb, ct⟩ := hS.u64 (k := tt) Zb
   have xt := pW hz tt
   have hd := hr.1 X5
   have hone := fun W => rP n.d.toNat Zb W
   rw [V5 hd.1] at hone
   have hp := kJ (k := n.d.toNat) Zb
   have hm : oE ats n = (((ats.getD tt 0 &&& 2 ^ n.d.toNat : Nat) : Int) == 0) := by simp [oE, h1, h8, htt]
   rw [hm]
   generalize ats.getD tt 0 = x at *
   generalize (2 ^ n.d.toNat : Nat) = y at *
   have hand := bits_and_u64_nat x y xt hp
   have d1 : decide (1 ≤ n.op) = true := by simp [h1]
   have d8 : decide (n.op ≤ 8) = true := by simp [h8]
   have HO := bA hone
   have HA := bA hand
   obtain ⟨op, d, a, b0, t, e⟩ := n
   simp only at *
   subst htt
   clear hone hand hm hr ht hz hS hd hp
   go_enter func106, ntmps106
   go_wp2_with fail
   go_quiet ((go_at_call 107; exact Calls.quiet_of_same (HO.o _)))
   go_wp2_with fail
   go_ret
   exact ⟨by rw [← HA.o]; rfl, Ye⟩
  ·have hm : oE ats n = false := by simp [oE, h8]
   rw [hm]
   have d1 : decide (1 ≤ n.op) = true := by simp [h1]
   have d8 : decide (n.op ≤ 8) = false := by simp [h8]
   clear hm hr ht hz hS
   go_enter func106, ntmps106
   go_wp2_with fail
   go_quiet (fail)
   go_wp2_with fail
   go_ret
   exact ⟨rfl, Ye⟩
 ·have hm : oE ats n = false := by simp [oE, h1]
  rw [hm]
  have d1 : decide (1 ≤ n.op) = false := by simp [h1]
  clear hm hr ht hz hS
  go_enter func106, ntmps106
  go_wp2_with fail
  go_quiet (fail)
  go_wp2_with fail
  go_ret
  exact ⟨rfl, Ye⟩
def IdxAt (p : Nd → Bool) (l : List Nd) (w : World) (e : Ending) (w' : World) : Prop :=
 ((∃ (k : Nat) (x : Nd), e = .returned (.int .i64 k) ∧ l[k]? = some x ∧ p x = true) ∨ (e = .returned (.int .i64 (-1)) ∧ ∀ x ∈ l, p x = false)) ∧ Below w.heap.size w w'
theorem bCR (A S : Option Addr) (l : List Nd) (ats : List Nat) (cap cap2 g : Nat) (w : World) (hA : bG w A l) (hS : bH w S (sJ ats)) (hl : ats.length ≤ 256) (hal : ats.length = l.length) (hz : ∀ z ∈ ats, z < 2 ^ 64)
  (ht : ∀ n ∈ l, n.op ≠ 12 → 0 ≤ n.t ∧ n.t < ats.length) (hr : ∀ n ∈ l, pI n) (hg : g < w.heap.size) (hc : w.cell? ⟨g, 0, none⟩ = some (.slice S ats.length cap2)) :
  Calls prog 103 #[.slice A l.length cap, .func (.func 106) #[] #[.pointer (some ⟨g, 0, none⟩)]] w (IdxAt (oE ats) l w) := by
 have hcall := fun (n : Nd) (hn : n ∈ l) W (hW : Below w.heap.size w W) => bJQ n S ats cap2 g W (hS.below hW) hl hz (ht n hn) (hr n hn) (Vx hg hW.size) (((bB hW).1 _ _ hg).trans hc)
 have HCall := bA hcall
 have hll : l.length ≤ 256 := Zb
 clear hcall hc hr ht hz hS hal hl
 go_enter func103, ntmps103
 go_wp2_with fail
 go_loopg [8] (l.length) (fun gk i wr => ∃ k : Nat, k ≤ l.length ∧ i = .int .i64 k ∧ gk = l.length - k ∧ (∀ j x, j < k → l[j]? = some x → oE ats x = false) ∧ Below w.heap.size w wr)
 case atStart => exact ⟨0, Nat.zero_le _, rfl, rfl, fun j x hj => absurd hj Zb, Below.refl _ _⟩
 case round =>
  obtain ⟨k, hk, rfl, hgk, hno, hB⟩ := hrel
  have Hgk := bA hgk
  have Hno := bA hno
  have hz := hB.size
  clear hgk hno
  by_cases hlt : k < l.length
  ·obtain ⟨b, off, n, rfl, hbl, hkn, hn⟩ := hA.get hlt
   obtain ⟨c0, c1, c2, c3, c4, c5⟩ := hn.below hB hbl
   have hp := HCall.o n (Vv hkn) wr hB
   have Hkn := bA hkn
   have Hp := bA hp
   have hbw : b < wr.heap.size := Zb
   clear hp hkn hn hA
   cases hd : oE ats n
   case true =>
    have Hd := bA hd
    go_wp2_with (go_at_call 106; refine (Hp.o).mono ?_; rw [hd]; rintro e w1 ⟨rfl, hb1⟩)
    go_ret
    exact ⟨.inl ⟨k, n, rfl, Hkn.o, Hd.o⟩, Ye⟩
   case false =>
    have Hd := bA hd
    go_wp2_with (go_at_call 106; refine (Hp.o).mono ?_; rw [hd]; rintro e w1 ⟨rfl, hb1⟩)
    go_roundg (l.length - (k + 1))
    case measure => exact Jl
    case rel =>
     refine ⟨k + 1, Zb, by go_num, rfl, fun j x hj hx => ?_, Ye⟩
     by_cases hjk : j = k
     ·subst hjk
      rw [Hkn.o] at hx
      injection hx with hx
      subst hx
      exact Hd.o
     ·exact Hno.o j x Zb hx
  ·go_wp2_with fail
   go_ret
   refine ⟨.inr ⟨rfl, fun x hx => ?_⟩, hB⟩
   obtain ⟨j, hj, rfl⟩ := List.getElem_of_mem hx
   exact Hno.o j _ Zb (Vs hj)
theorem bHX {regs : Int} {l : List Nd} (hR : bN regs l) {ats : List Nat} (h : ∀ r : Nat, r < 64 → mB (fB l r) l.length (gB r ats)) {n : Nd} (hn : n ∈ l) : oE ats n = wH l n := by
 unfold oE wH
 by_cases h1 : 1 ≤ n.op ∧ n.op ≤ 8
 ·have hd := (hR.regs64 hn).1 X5
  rw [bAI, ← iY, mB.unique (h n.d.toNat Zb) (pS l n.d.toNat)]
 ·have : (decide (1 ≤ n.op) && decide (n.op ≤ 8)) = false := by simp; omega
  rw [this]
  rfl
def bNO (regs : Int) (l : List Nd) (w : World) (e : Ending) (w' : World) : Prop :=
 ∃ (v : Value) (l' : List Nd), e = .returned (.tuple #[.agg #[.int .i64 regs, v], .int .i64 0]) ∧ tJ l l' ∧ l'.length = l.length ∧ bK w' w.heap.size 44 v l' ∧ Below w.heap.size w w'
theorem bPE (regs : Int) (A : Option Addr) (l : List Nd) (cap : Nat) (w : World) (hA : bG w A l) (hR : bN regs l) (hc : chk regs l = 0) :
  Calls prog 58 #[.agg #[.int .i64 regs, .slice A l.length cap]] w (bNO regs l w) := by
 have hlo := hR.lo
 have hhi := hR.hi
 have hC := fun W (hW : Below w.heap.size w W) => fZ regs A l cap W Zw (hA.below hW)
 rw [hc] at hC
 have HC := bA hC
 have hCl := fun W (hW : Below w.heap.size w W) => kI A l cap W (hA.below hW) hlo Zb
 have HCl := bA hCl
 have HR := bA hR
 clear hC hc hR hCl
 go_enter func58, ntmps58
 go_wp2_with fail
 refine oN 0 (fun g a' w' => ∃ (GQ : Nat) (v : Value) (l' : List Nd) (u4 u6 u7 u8 u9 u10 u11 u12 u13 u14 u15 u16 u17 u18 u19 u20 u21 u22 u23 u24 u25 u26 u27 u28 u29 u30 u31 u32 u33 u34 u35 u36 u37 u38 u39 : Value), a' = { tmps := #[.agg #[.int .i64 regs, .slice A l.length cap], .pointer (some ⟨w.heap.size, 0, none⟩), .pointer (some ⟨w.heap.size + 1, 0, none⟩), .int .i64 0, u4, .pointer (some ⟨GQ, 0, none⟩), u6, u7, u8, u9, u10, u11, u12, u13, u14, u15, u16, u17, u18, u19, u20, u21, u22, u23, u24, u25, u26, u27, u28, u29, u30, u31, u32, u33, u34, u35, u36, u37, u38, u39], defers := [] } ∧ g = oG l' ∧ bN regs l' ∧ eO l l' ∧ l'.length = l.length ∧
  w.heap.size + 2 ≤ GQ ∧ Blk w' GQ 24 #[.int .i64 regs, v] ∧ bK w' w.heap.size 44 v l' ∧ Blk w' (w.heap.size + 1) 24 #[.int .i64 0, .slice none 0 0] ∧ Below w.heap.size w w') rfl ?pass ?first
 case first =>
  intro again
  have Again := bA again
  clear again
  go_wp2_with fail
  refine (HC.o _ Ye).mono ?_
  rintro e w1 ⟨rfl, hb1⟩
  have hz1 := hb1.size
  simp only [World.size_alloc] at hz1
  have hP1 : Blk w1 w.heap.size 24 #[.int .i64 regs, .slice A l.length cap] := Blk.below (Blk.alloc (Blk.new' rfl) _) hb1 Zd
  have hQ1 : Blk w1 (w.heap.size + 1) 24 #[.int .i64 0, .slice none 0 0] := Blk.below (Blk.new' Zf) hb1 Zf
  have hB1 : Below w.heap.size w w1 := Ye
  have p0 := hP1.cell 0
  have p1 := hP1.cell 1
  simp only [Yl] at p0 p1
  have lp := hP1.lt
  clear hb1
  go_upto_region 4 with fail
  go_cut [5] (fun s5 wx => ∃ (GQ : Nat) (v : Value), s5 = .pointer (some ⟨GQ, 0, none⟩) ∧ w.heap.size + 2 ≤ GQ ∧ Blk wx GQ 24 #[.int .i64 regs, v] ∧ bK wx w.heap.size 44 v l ∧ Blk wx (w.heap.size + 1) 24 #[.int .i64 0, .slice none 0 0] ∧ Below w.heap.size w wx)
  case first =>
   go_region_with (first
    | (go_at_call 20; (first | with_reducible show Calls _ _ _ (World.drew (World.alloc _ _)) _ | with_reducible show Calls _ _ _ (World.alloc _ _) _); refine (HCl.o _ Ye).mono ?_; rintro e w2 ⟨v2, rfl, hr2, hb2⟩; obtain ⟨A2, c2, rfl, _, _⟩ := hr2.shape; have hz2 := hb2.size; simp only [World.size_alloc, World.size_drew] at hz2; have hP2 : Blk w2 w.heap.size 24 #[.int .i64 regs, .slice A l.length cap] := Blk.below Yf hb2 Zd; have hQ2 : Blk w2 (w.heap.size + 1) 24 #[.int .i64 0, .slice none 0 0] := Blk.below Yf hb2 Zd; have l2 := hP2.lt; have l3 := hQ2.lt; have q0 := hP2.cell 0; have q1 := hP2.cell 1; simp only [Yl] at q0 q1; have hG2 : Blk w2 w1.heap.size 24 #[.int .i64 0, .slice none 0 0] := Blk.below Yf hb2 Zd; have g0 := hG2.cell 0; have g1 := hG2.cell 1; have g2 := hG2.frozen 0; have g3 := hG2.frozen 1; simp only [Yl] at g0 g1)
    | (go_at_call 20; refine (HCl.o _ Ye).mono ?_; rintro e w2 ⟨v2, rfl, hr2, hb2⟩; obtain ⟨A2, c2, rfl, _, _⟩ := hr2.shape; have hz2 := hb2.size; simp only [World.size_alloc, World.size_drew] at hz2; have hP2 : Blk w2 w.heap.size 24 #[.int .i64 regs, .slice A l.length cap] := Blk.below Yf hb2 Zd; have hQ2 : Blk w2 (w.heap.size + 1) 24 #[.int .i64 0, .slice none 0 0] := Blk.below Yf hb2 Zd; have l2 := hP2.lt; have l3 := hQ2.lt; have q0 := hP2.cell 0; have q1 := hP2.cell 1; simp only [Yl] at q0 q1))
   all_goals (go_wp2_with fail)
   all_goals go_meet
   all_goals go_tidy
   all_goals (first
    | (refine ⟨w2.heap.size, .slice A2 l.length c2, rfl, Zb, Yf, (hr2.alloc _).mono Zd, hQ2.alloc _, ?_⟩; exact Ye)
    | (refine ⟨w1.heap.size, .slice A2 l.length c2, rfl, Zb, (hG2.set_ 0 _).set_ 1 _, ((hr2.far (hr2.ne_blk hG2 Ze) _).far (hr2.ne_blk hG2 Ze) _).mono Zd, (hQ2.far Zd _).far Zd _, ?_⟩; exact Ye)
    | trace_state)
  case rest =>
   obtain ⟨GQ, v, rfl, hGQ, hQ, hN, hRes, hBc⟩ := hcut
   go_wp2_with fail
   go_step3
   rename_i K hK
   refine hK _ _ ?_
   exact Again.out _ _ _ ⟨GQ, v, l, _, _, _, _, _, _, _, _, _, _, _, _, _, _, _, _, _, _, _, _, _, _, _, _, _, _, _, _, _, _, _, _, _, _, _, rfl, rfl, HR.o, eO.nil l, rfl, hGQ, hQ, hN, hRes, hBc⟩
 case pass =>
  rintro g a' wr ⟨GQ, v, l', u4, u6, u7, u8, u9, u10, u11, u12, u13, u14, u15, u16, u17, u18, u19, u20, u21, u22, u23, u24, u25, u26, u27, u28, u29, u30, u31, u32, u33, u34, u35, u36, u37, u38, u39, rfl, hg, hR', hH, hll, hGQ, hQ, hN, hRes, hB⟩
  obtain ⟨A2, c2, rfl, _, _⟩ := hN.shape
  have hz := hB.size
  have q0 := hQ.cell 0
  have q1 := hQ.cell 1
  have qf := hQ.lt
  simp only [Yl] at q0 q1
  have hnd := hN.nodes
  have hS := bLG regs A2 l' c2 wr hnd hR'
  have HS := bA hS
  have Hg := bA hg
  have HR' := bA hR'
  have HH := bA hH
  have Hll := bA hll
  have HQ := bA hQ
  have HN := bA hN
  have HRes := bA hRes
  have lres := hRes.lt
  clear hS hg hR' hH hll hQ hN hRes
  go_wp2_with fail
  refine (HS.o).mono ?_
  rintro e w2 ⟨ats, v2, ⟨hal, hz64, hlst⟩, rfl, hr2, hb2⟩
  obtain ⟨S2, d2, rfl, _, _⟩ := hr2.shape
  have hz2 := hb2.size
  rw [lF] at *
  have q0' := ((bB hb2).1 _ _ qf).trans q0
  have q1' := ((bB hb2).1 _ _ qf).trans q1
  have hidx := fun (B : Nat) => bCR A2 S2 l' ats c2 d2 w2.heap.size (w2.alloc (.cells #[.slice S2 ats.length d2] 156)) (hnd.below (hb2.alloc hz2 _)) (hr2.vals.below ((Bnq _ _))) (by rw [hal, Hll.o]; exact hhi) hal hz64
   (fun n hn h12 => by have := HR'.o.then_ hn h12; omega) (fun n hn => HR'.o.regs64 hn) Zf Zf
  have HIdx := bA (hidx 0)
  have Hlst := bA hlst
  have qf' : GQ < w2.heap.size := Zb
  clear hidx hal hz64 hlst hr2 q0 q1
  go_wp2_with fail
  refine (HIdx.o).mono ?_
  rintro e w3 ⟨hk, hb3⟩
  have hz3 := hb3.size
  simp only [World.size_alloc] at hz3
  have hB3 : Below wr.heap.size wr w3 := (hb2.alloc hz2 _).trans (hb3.mono Zh)
  have HQ3 := bA (HQ.o.below hB3 qf)
  have HN3 := bA (HN.o.below' hB3)
  have HRes3 := bA (HRes.o.below hB3 lres)
  have q0 := HQ3.o.cell 0
  have q1 := HQ3.o.cell 1
  simp only [Yl] at q0 q1
  have hB3' : Below w.heap.size w w3 := hB.trans (hB3.mono hz)
  clear q0' q1' hb3 hnd HIdx hb2
  rcases hk with ⟨k, x, rfl, hk, hdead⟩ | ⟨rfl, hall⟩
  ·have hkl : k < l'.length := (List.getElem?_eq_some_iff.1 hk).1
   obtain ⟨gN, cN, x', e1, hgB, hgl, hx', hlies, hfr⟩ := HN3.o.get hkl
   injection e1 with e1 e2 e3
   subst e1 e3
   rw [hk] at hx'
   injection hx' with hx'
   subst hx'
   obtain ⟨c0, c1, c2', c3, c4, c5⟩ := hlies
   refine Kp fun f0 f1 f2 f3 f4 f5 k0 => ?_
   have k1 : (k : Int) < (l'.length : Int) := Zb
   have Hk := bA hk
   have Hdead := bA hdead
   clear hk hdead hfr
   go_wp2_with fail
   go_region
   all_goals go_wp2_with fail
   all_goals go_step3
   all_goals (
    have hDN : fQ l' k := (qA HR'.o Hk.o).1 (by rw [← bHX HR'.o Hlst.o (Vv Hk.o)]; exact Hdead.o)
    have hop : 1 ≤ x.op ∧ x.op ≤ 8 := by
     obtain ⟨y, hy, h1, h8, _⟩ := id hDN
     rw [Hk.o] at hy
     injection hy with hy
     subst hy
     exact ⟨h1, h8⟩
    have hne := HN3.o.ne_blk HQ3.o Ze
    have hne2 := HN3.o.ne_blk HRes3.o Ze
    have g1 : gN ≠ GQ := fun e => hne Xm
    have g2 : gN ≠ w.heap.size + 1 := fun e => hne2 Xm
    have hput := HN3.o.put6 Hk.o (xK x)
    refine ⟨rfl, oG (eM l' k), by rw [Hg.o]; exact wK Hk.o Zb, GQ, .slice (some ⟨gN, 0, none⟩) l'.length c2, eM l' k, _, _, _, _, _, _, _, _, _, _, _, _, _, _, _, _, _, _, _, _, _, _, _, _, _, _, _, _, _, _, _, _, _, _, _, rfl, rfl, HR'.o.hush Hk.o Zb, HH.o.snoc hDN, by rw [wA]; exact Hll.o, hGQ, ?_, ?_, ?_, ?_⟩
    ·exact Blk.drew ((((((HQ3.o.far (Ne.symm g1) _).far (Ne.symm g1) _).far (Ne.symm g1) _).far (Ne.symm g1) _).far (Ne.symm g1) _).far (Ne.symm g1) _)
    ·rw [pU Hk.o]
     exact bK.drew hput
    ·exact Blk.drew ((((((HRes3.o.far (Ne.symm g2) _).far (Ne.symm g2) _).far (Ne.symm g2) _).far (Ne.symm g2) _).far (Ne.symm g2) _).far (Ne.symm g2) _)
    ·exact Below.drew ((((((hB3'.setCell hgB _).setCell hgB _).setCell hgB _).setCell hgB _).setCell hgB _).setCell hgB _))
  ·have r0 := HRes3.o.cell 0
   have r1 := HRes3.o.cell 1
   have r2 := HRes3.o.frozen 0
   have r3 := HRes3.o.frozen 1
   simp only [Yl] at r0 r1
   have Hall := bA hall
   clear hall
   go_wp2_with fail
   go_tidy
   simp only [Exit.jump]
   refine bodyPost_ret (v := .tuple #[.agg #[.int .i64 regs, .slice A2 l'.length c2], .int .i64 0]) (by simp [results, results58, go_sem, r0, r1, Vr, Vp]) rfl ?_
   have hne2 := HN3.o.ne_blk HRes3.o Ze
   refine ⟨_, l', rfl, ⟨HH.o, bCA HR'.o fun n hn => ?_⟩, Hll.o, (HN3.o.far hne2 _).far hne2 _, (hB3'.setCell Zf _).setCell Zf _⟩
   rw [← bHX HR'.o Hlst.o hn]
   exact Hall.o n hn
end
section
open Go.RowKit
open Go.Shelf Go.Lib
attribute [local irreducible] Row
def pV : Go.Shelf.Ren := ⟨fun | 4 => 92 | n => n, fun | 22 => 70 | 25 => 4 | 3 => 3 | 4 => 4 | 9 => 9 | 20 => 20 | 0 => 0 | n => n, fun | n => n⟩
theorem growB : Go.Proofs.Lays8.n4 prog pV := {
 mixed := Zc
 f4 := ⟨f92.name, Ze, func92.trans (congrArg some Zc)⟩
 t0 := underlying0
 a0 := isAgg0
 z0 := sizeOf0
 v0 := zeroValue0
 t3 := underlying3
 a3 := isAgg3
 z3 := sizeOf3
 v3 := zeroValue3
 t4 := underlying4
 a4 := isAgg4
 z4 := sizeOf4
 v4 := zeroValue4
 t9 := underlying9
 a9 := isAgg9
 z9 := sizeOf9
 v9 := zeroValue9
 t20 := underlying20
 a20 := isAgg20
 z20 := sizeOf20
 v20 := zeroValue20
 t22 := underlying70
 a22 := isAgg70
 z22 := sizeOf70
 v22 := zeroValue70 }
theorem bKA (ib : TypeInfo) (hbi : prog.info? 4 = some ib) (hbz : ib.zero = some (.bool false)) (hbs : ib.size = 1) (hbb : ib.bytes = 1) (n : Nat) (w : World) (h1 : 1 ≤ n) (h2 : n ≤ 65536) :
 Calls prog 92 #[.slice none 0 0, .int .i64 n] w fun e w' => ∃ G, e = .returned (.slice (some ⟨w.heap.size, 0, none⟩) 0 G) ∧ Row w' w.heap.size 4 (.slice (some ⟨w.heap.size, 0, none⟩) 0 G) (bE []) ∧ Below w.heap.size w w' := by (
 have h := Any8.slices_Grow_grow growB ib (.bool false) hbi hbz Zb none 0 0 n [] w Zb Zb (by rw [hbb]; omega) Zb Zf (fun _ => rfl) (fun a ha => by cases ha)
 refine h.mono ?_
 rintro e w' ⟨rfl, rfl⟩
 have hge := grownCap_ge w (0 + n) 0 (pV.t 25)
 have hle := grownCap_le_maxLen w (0 + n) 0 (pV.t 25) Zw
 generalize grownCap w (0 + n) 0 (pV.t 25) = G at hge hle ⊢
 refine ⟨G, rfl, ?_, ?_⟩
 · (
 unfold Row
 refine .inr ⟨w.heap.size, 0, G, [].toArray ++ Builtin.zeroCells (Value.bool false).cells (0 + n - 0) ++ Builtin.zeroCells (Value.bool false).cells (G - (0 + n)), rfl, Nat.le_refl _, ?_, Nat.zero_le _, hle, ?_, fun j x hx => by simp [bE] at hx⟩
 · (
 have hb := Blk.new' (w := w.drew) (g := w.heap.size) (t := 4) (cs := [].toArray ++ Builtin.zeroCells (Value.bool false).cells (0 + n - 0) ++ Builtin.zeroCells (Value.bool false).cells (G - (0 + n))) rfl
 unfold Blk at hb
 exact hb)
 · (
 simp [size_zeroCells, Value.cells]
 omega))
 · exact Below.alloc ((Below.refl _ _).drew) Zf _)
theorem bHF (sb : Nat) (X Y : Option Addr) (x y : List Bool) (xc yc : Nat) (w : World) (hs : Blk w sb 70 #[.slice X x.length xc, .slice Y y.length yc]) (hX : bH w X (bE x)) (hY : bH w Y (bE y)) (hx : 1 ≤ x.length ∧ x.length ≤ 256) (hy : 1 ≤ y.length ∧ y.length ≤ 256) :
 Calls prog 37 #[.slice (some ⟨sb, 0, none⟩) 2 2] w fun e w' => ∃ v, e = .returned v ∧ Row w' w.heap.size 4 v (bE (x ++ y)) ∧ Below w.heap.size w w' := by (
 obtain ⟨hx1, hx2⟩ := hx
 obtain ⟨hy1, hy2⟩ := hy
 obtain ⟨ib, hbi, hbz, hbs, hbb⟩ := info_parts gM
 have HG := bA (fun W => bKA ib hbi hbz hbs hbb (x.length + y.length) W Zb Zb)
 refine Vm fun HX HY => ?_
 have HS := bA (fun W (hW : Below w.heap.size w W) => hs.below hW hs.lt)
 have c0 := hs.cell 0
 have c1 := hs.cell 1
 have ls := hs.lt
 simp only [Yl] at c0 c1
 clear hX hY hs
 go_enter func37, ntmps37
 go_wp2_with fail
 go_loopg [3, 11] (2) (fun gk sz i wr => wr = w ∧ ((i = .int .i64 0 ∧ sz = .int .i64 0 ∧ gk = 2) ∨ (i = .int .i64 1 ∧ sz = .int .i64 x.length ∧ gk = 1) ∨ (i = .int .i64 2 ∧ sz = .int .i64 ((x.length : Int) + (y.length : Int)) ∧ gk = 0)))
 case atStart => exact ⟨rfl, .inl ⟨rfl, rfl, rfl⟩⟩
 case round => (
 obtain ⟨rfl, hrel⟩ := hrel
 rcases hrel with ⟨rfl, rfl, rfl⟩ | ⟨rfl, rfl, rfl⟩ | ⟨rfl, rfl, rfl⟩
 · (
 have q : ¬ ((x.length : Int) < 0) := Zb
 go_wp2_with fail
 go_roundg (1)
 case measure => omega
 case rel => exact ⟨rfl, .inr (.inl ⟨rfl, by go_num, rfl⟩)⟩)
 · (
 have q : ¬ ((x.length : Int) + (y.length : Int) < 0) := Zb
 have q2 : wrap64 ((x.length : Int) + (y.length : Int)) = (x.length : Int) + (y.length : Int) := by unfold wrap64; omega
 go_wp2_with fail
 go_roundg (0)
 case measure => omega
 case rel => exact ⟨rfl, .inr (.inr ⟨rfl, by go_num, rfl⟩)⟩)
 · (
 obtain ⟨w0, rfl⟩ := Exq wr
 go_wp2_with fail
 refine (HG.o w0).mono ?_
 rintro e w1 ⟨G, rfl, hr, hb⟩
 have d0 := (HS.o _ hb).cell 0
 have d1 := (HS.o _ hb).cell 1
 have ds := (HS.o _ hb).lt
 simp only [Yl] at d0 d1
 have HR := bA hr
 have HB := bA hb
 clear hr c0 c1 ls hb
 go_wp2_with fail
 go_loopg [6, 27] (2) (fun gk v i wr => Below w0.heap.size w0 wr ∧ ((i = .int .i64 0 ∧ v = .slice (some ⟨w0.heap.size, 0, none⟩) 0 G ∧ Row wr w0.heap.size 4 v (bE []) ∧ gk = 2) ∨ (i = .int .i64 1 ∧ Row wr w0.heap.size 4 v (bE x) ∧ gk = 1) ∨ (i = .int .i64 2 ∧ Row wr w0.heap.size 4 v (bE (x ++ y)) ∧ gk = 0)))
 case atStart => exact ⟨HB.o, .inl ⟨rfl, rfl, HR.o, rfl⟩⟩
 case round => (
 clear HR HB d0 d1 ds
 obtain ⟨hb, hrel⟩ := hrel
 have c0 := (HS.o _ hb).cell 0
 have c1 := (HS.o _ hb).cell 1
 have ls := (HS.o _ hb).lt
 have hz := hb.size
 simp only [Yl] at c0 c1
 have HB := bA hb
 clear hb
 rcases hrel with ⟨rfl, rfl, hr, rfl⟩ | ⟨rfl, hr, rfl⟩ | ⟨rfl, hr, rfl⟩
 · (
 have HR := bA hr
 clear hr
 go_wp2_with (at_builtin; refine bZ (v := .slice (some ⟨w0.heap.size, 0, none⟩) 0 G) rfl _ _ _ rfl ib _ 1 underlying70 hbi hbz hbs hbb rfl rfl HR.o X x.length xc (bE x) rfl (by rw [bD]) (HX.o _ HB.o) (fun u hu => by obtain ⟨b, _, rfl⟩ := List.mem_map.1 hu; rfl) (by simp [bE, maxLen]; omega) (by simp [bE]; omega) Zb ?_; intro v5 w5 hr5 hg5 hat5)
 go_roundg (1)
 case measure => omega
 case rel => exact ⟨HB.o.grown hg5 hz (fun q hq => (HR.o.lt q hq).1), .inr (.inl ⟨by go_num, hr5, rfl⟩)⟩)
 · (
 obtain ⟨A4, c4, rfl, _, _⟩ := hr.shape
 have HR := bA hr
 clear hr
 go_wp2_with (at_builtin; refine bZ (v := .slice A4 (bE x).length c4) rfl _ _ _ rfl ib _ 1 underlying70 hbi hbz hbs hbb rfl rfl HR.o Y y.length yc (bE y) rfl (by rw [bD]) (HY.o _ HB.o) (fun u hu => by obtain ⟨b, _, rfl⟩ := List.mem_map.1 hu; rfl) (by simp [bE, maxLen]; omega) (by simp [bE]; omega) Zb ?_; intro v5 w5 hr5 hg5 hat5)
 go_roundg (0)
 case measure => omega
 case rel => exact ⟨HB.o.grown hg5 hz (fun q hq => (HR.o.lt q hq).1), .inr (.inr ⟨by go_num, by rw [show bE (x ++ y) = bE x ++ bE y by simp [bE]]; exact hr5, rfl⟩)⟩)
 · (
 obtain ⟨A4, c4, rfl, _, _⟩ := hr.shape
 have HR := bA hr
 clear hr
 go_wp2_with fail
 go_ret
 exact ⟨_, rfl, HR.o, HB.o⟩)))))
end
section
open Go.RowKit
theorem bHA (x : List Bool) (A : Option Addr) (cap : Nat) (w : World) (h : bH w A (bE x)) (hl : x.length ≤ maxLen) :
 Calls prog 91 #[.slice A x.length cap, .bool true] w fun e w' => (∃ i : Int, e = .returned (.int .i64 i) ∧ decide (0 ≤ i) = x.any id) ∧ w' = w := by (
 unfold maxLen at hl
 go_enter func91, ntmps91
 go_wp2_with fail
 go_loopg [8] (x.length) (fun gk i wr => ∃ k : Nat, k ≤ x.length ∧ i = .int .i64 k ∧ gk = x.length - k ∧ (∀ j, j < k → yn x j = false) ∧ wr = w)
 case atStart => exact ⟨0, Nat.zero_le _, rfl, rfl, fun j hj => by omega, rfl⟩
 case round => (
 obtain ⟨k, hk, rfl, hgk, hno, rfl⟩ := hrel
 have Hgk := bA hgk
 have Hno := bA hno
 clear hgk hno
 by_cases hlt : k < x.length
 · (
 obtain ⟨b, off, rfl, hb, hc⟩ := h.bool hlt
 obtain ⟨u0, u1⟩ := Ikq (k := k) (n := x.length) (by omega)
 clear h
 cases hy : yn x k
 case false => (
 rw [hy] at hc
 have Hy := bA hy
 clear hy
 go_wp2_with fail
 go_roundg (x.length - (k + 1))
 case measure => exact Jl
 case rel => (
 refine ⟨k + 1, Zb, by go_num, rfl, ?_, rfl⟩
 intro j hj
 by_cases e : j = k
 · rw [e]; exact Hy.o
 · exact Hno.o j Zb))
 case true => (
 rw [hy] at hc
 have ha : x.any id = true := by (
 rw [List.any_eq_true]
 exact ⟨x[k], List.getElem_mem hlt, by simpa [yn, hlt] using hy⟩)
 have Ha := bA ha
 clear hy ha
 go_wp2_with fail
 go_ret
 exact ⟨⟨k, rfl, by rw [Ha.o]; exact decide_eq_true u0⟩, rfl⟩))
 · (
 have ha : x.any id = false := by (
 rw [List.any_eq_false]
 intro z hz
 obtain ⟨i, hi, rfl⟩ := List.getElem_of_mem hz
 have := Hno.o i Zb
 simpa [yn, hi] using this)
 have Ha := bA ha
 clear ha
 go_wp2_with fail
 go_ret
 exact ⟨⟨-1, rfl, by rw [Ha.o]; rfl⟩, rfl⟩)))
theorem xU (x : List Bool) (A : Option Addr) (cap : Nat) (w : World) (h : bH w A (bE x)) (hl : x.length ≤ maxLen) :
 Calls prog 36 #[.slice A x.length cap, .bool true] w fun e w' => e = .returned (.bool (x.any id)) ∧ w' = w := by (
 have HI := bA (bHA x A cap w h hl)
 clear h
 generalize x.any id = q at *
 go_enter func36, ntmps36
 go_wp2_with (go_at_call 91; refine (HI.o).mono ?_; rintro e w1 ⟨⟨i, rfl, hi⟩, rfl⟩)
 go_ret
 exact ⟨by rw [← hi]; rfl, rfl⟩)
end
section
open Go.RowKit
def Tm.val (n : Tm) : Value := .agg #[.int .i64 n.op, .int .i64 n.a, .int .i64 n.b]
theorem tR (x y : Tm) (w : World) : (Op.equalIn 10000 41 x.val y.val).run prog w = .ok (x == y) w := by (
 have u3 := underlying3
 have a3 : ∀ w, (isAgg 3).run prog w = .ok false w := fun w => by kernel_rfl
 have z3 : ∀ w, (sizeOf 3).run prog w = .ok 1 w := fun w => by kernel_rfl
 have hS : prog.underlying 41 = some (.struct (prog.fieldsOf 41)) := Zc
 have hp : prog.stoodInHeld 41 = false := Zc
 obtain ⟨x0, x1, x2⟩ := x
 obtain ⟨y0, y1, y2⟩ := y
 simp only [Tm.val]
 rw [show (10000 : Nat) = 9999 + 1 from rfl, run_equalIn_agg w 9999 41 _ _ hS hp]
 simp only [Program.fieldsOf, underlying41]
 go_simp
 have hb : ((⟨x0, x1, x2⟩ : Tm) == ⟨y0, y1, y2⟩) = (x0 == y0 && (x1 == y1 && x2 == y2)) := by (
 rw [Bool.eq_iff_iff]
 simp)
 rw [hb]
 by_cases h0 : x0 = y0 <;> by_cases h1 : x1 = y1 <;> by_cases h2 : x2 = y2 <;> simp [h0, h1, h2])
theorem yV : prog.eqGuardType prog.depth 41 = false := Zc
theorem bCO : (prog.info? 41).map (fun i => (i.zero, i.size, i.bytes)) = some (some (.agg #[.int .i64 0, .int .i64 0, .int .i64 0]), 3, 24) := Zc
theorem mG (a : List Tm) (y t : Tm) : (a ++ [y]).contains t = (a.contains t || (y == t)) := by (
 rw [Bool.eq_iff_iff]
 simp only [List.contains_iff_mem, Ug, List.mem_singleton, Bool.or_eq_true, beq_iff_eq]
 exact or_congr_right eq_comm)
end
end Go.Proofs.YtmghkonmfbpjcaaGreatDoor
