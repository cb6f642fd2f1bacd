/- Parts. -/
import Derived.Test.YtmghkonmfbpjcabGreatDoorMvO
import Derived.Shelf.Spec.TrailingZeros
import Derived.Shelf.Spec.SlicesGrow
set_option linter.unusedVariables false
set_option linter.unusedSimpArgs false
set_option maxRecDepth 100000
set_option maxHeartbeats 4000000
namespace Go.Proofs.YtmghkonmfbpjcabGreatDoor
open Go.Proofs.Tryz
section
open Go.RowKit
def gM : List Tm → Int → List Nd → Int × Int × List Nd
 | [], r, l => (0, r, l)
 | t :: ts, r, l => if gH r l t ≠ 0 then (gH r l t, 0, []) else gM ts (pG r l t) (pH r l t)
theorem xD {ts : List Tm} {k : Nat} {t : Tm} (h : ts[k]? = some t) (r : Int) (l : List Nd) :
 gM (ts.drop k) r l = if gH r l t ≠ 0 then (gH r l t, 0, []) else gM (ts.drop (k + 1)) (pG r l t) (pH r l t) := by (
 obtain ⟨hk, rfl⟩ := List.getElem?_eq_some_iff.1 h
 rw [List.drop_eq_getElem_cons hk]
 rfl)
def tR (l : List Nd) : List Tm := eT l l.length
def mW (regs : Int) (l : List Nd) : Int := if chk regs l ≠ 0 then chk regs l else (gM (tR l) regs l).1
def bIW (tN : TypeId) (regs : Int) (l : List Nd) (w : World) (e : Ending) (w' : World) : Prop :=
 Below w.heap.size w w' ∧ ((mW regs l ≠ 0 ∧ e = .returned (.tuple #[.agg #[.int .i64 0, .slice none 0 0], .int .i64 (mW regs l)])) ∨
  (mW regs l = 0 ∧ ∃ v, e = .returned (.tuple #[.agg #[.int .i64 (gM (tR l) regs l).2.1, v], .int .i64 0]) ∧ cO w' w.heap.size tN v (gM (tR l) regs l).2.2))
structure yK (W0 : World) (B qb : Nat) (r : Int) (v : Value) (ls : List Nd) (W : World) : Prop where
 box : Blk W qb 24 #[.int .i64 r, v]
 row : cO W B 39 v ls
 below : Below W0.heap.size W0 W
 low : W0.heap.size ≤ qb
section
variable {W0 : World} {B qb : Nat} {r r' : Int} {v v' : Value} {ls ls' : List Nd} {W : World}
theorem yK.later {W' : World} (h : yK W0 B qb r v ls W) (hb : Below W.heap.size W W') : yK W0 B qb r v ls W' := ⟨h.box.below hb h.box.lt, h.row.below' hb, h.below.trans (hb.mono h.below.size), h.low⟩
theorem yK.put {V : World} (h : yK W0 B qb r v ls W) (hb : Below W.heap.size W V) (hr : cO V B 39 v' ls') :
 yK W0 B qb r' v' ls' ((V.setCell ⟨qb, 0, none⟩ (.int .i64 r')).setCell ⟨qb, 1, none⟩ v') := by (
 have hx := h.box.below hb h.box.lt
 have hn := hr.ne_blk hx Ze
 exact ⟨(hx.set_ 0 _).set_ 1 _, (hr.far (p := ⟨qb, 0, none⟩) hn _).far (p := ⟨qb, 1, none⟩) hn _, ((h.later hb).below.setCell h.low _).setCell h.low _, h.low⟩)
end
end
section
open Go.RowKit
section
variable {regs : Int} {t : Tm} {l : List Nd} {pt tk th : List Bool} {inp : List Int}
theorem bEM (h : Int) (t : Tm) (pt tk : List Bool) (l : List Nd) : (dF h t pt tk l).length = l.length + rk pt l.length := xC h t pt tk l
theorem wA (h : gH regs l t = 0) : fxE regs l t = 0 ∧ (eK l).length ≤ 256 ∧ (mN t l = true → maE regs (eK l) t (iE t l) (iD t l) = 0) := by
 unfold gH at h
 by_cases h0 : fxE regs l t = 0
 ·rw [if_neg (by simp [h0])] at h
  by_cases h1 : 256 < (eK l).length
  ·rw [if_pos h1] at h; cases h
  ·rw [if_neg h1] at h
   refine ⟨h0, Zb, fun h2 => ?_⟩
   rwa [if_pos h2] at h
 ·rw [if_pos h0] at h
  exact absurd h h0
theorem bJX (h : maE regs l t pt tk = 0) : fxE regs l t = 0 ∧ pt.length = l.length ∧ tk.length = l.length ∧ (∀ k, k < l.length → yn tk k = true → rkB t (nd l k) = true) ∧ (dF regs t pt tk l).length ≤ 256 ∧ regs + 1 ≤ 64 := by
 unfold maE at h
 by_cases h0 : fxE regs l t = 0
 ·rw [if_neg (by simp [h0])] at h
  split at h
  ·cases h
  ·rename_i h1
   split at h
   ·cases h
   ·rename_i h2
    split at h
    ·cases h
    ·rename_i h3
     refine ⟨h0, Zb, Zb, fun k hk e => ?_, Zb, Zb⟩
     have h4 : mK t tk l = false := yno h2
     unfold mK at h4
     rw [List.any_eq_false] at h4
     have := h4 k (List.mem_range.2 hk)
     simpa [e] using this
 ·rw [if_pos h0] at h
  exact absurd h h0
theorem bHN {h : Int} {n : Nd} (hn : n ∈ dF h t pt tk l) : ∃ i, i < l.length ∧ ((yn pt i = true ∧ n = vW h t (l.length + rk pt i)) ∨ n = jA h tk l i) := by
 rw [sE] at hn
 rcases List.mem_append.1 hn with h1 | h1
 ·unfold eC at h1
  obtain ⟨i, hi, rfl⟩ := List.mem_map.1 h1
  refine ⟨i, List.mem_range.1 hi, ?_⟩
  by_cases e : yn pt i = true
  ·rw [if_pos e]; exact .inl ⟨e, rfl⟩
  ·rw [if_neg e]; exact .inr rfl
 ·unfold gW at h1
  obtain ⟨i, hi, rfl⟩ := List.mem_map.1 h1
  exact ⟨i, List.mem_range.1 (List.mem_filter.1 hi).1, .inr rfl⟩
theorem bEL (hR : bM regs l) (h : maE regs l t pt tk = 0) : bM (regs + 1) (dF regs t pt tk l) := by
 obtain ⟨h0, h1, h2, h3, h4, h5⟩ := bJX h
 have hT := bRP h0
 have hlo := hR.lo
 have hr := hR.rlo
 have hlen := bEM regs t pt tk l
 have hB := hT.hasB
 have hop := hT.op
 have hta := hT.a
 have htb := hT.b
 have hold : ∀ {i : Nat}, i < l.length → gG (nd l i).op = true ∧ kI (regs + 1) (dF regs t pt tk l).length (nd l i) = false ∧ badF (nd l i) = false := fun {i} hi => by
  have hm := bGF hi
  refine ⟨hR.ok _ hm, ?_, hR.frm _ hm⟩
  have hb := hR.rng _ hm
  have e1 : ∀ (x : Int) (b : Bool), okR regs x b = true → okR (regs + 1) x b = true := fun x b e => by
   cases b
   ·rfl
   ·simp only [okR, Bool.not_true, Bool.false_or, V9, decide_eq_true_eq] at *
    omega
  have e2 : ∀ (x : Int) (b : Bool), okN l.length x b = true → okN (dF regs t pt tk l).length x b = true := fun x b e => by
   cases b
   ·rfl
   ·simp only [okN, Bool.not_true, Bool.false_or, V9, decide_eq_true_eq] at *
    omega
  simp only [kI, Uf, Bool.not_eq_false'] at hb ⊢
  obtain ⟨⟨⟨⟨b1, b2⟩, b3⟩, b4⟩, b5⟩ := hb
  exact ⟨⟨⟨⟨e1 _ _ b1, e1 _ _ b2⟩, e1 _ _ b3⟩, e2 _ _ b4⟩, e2 _ _ b5⟩
 have hall : ∀ n ∈ dF regs t pt tk l, gG n.op = true ∧ kI (regs + 1) (dF regs t pt tk l).length n = false ∧ badF n = false := fun n hn => by
  obtain ⟨i, hi, ⟨hp, rfl⟩ | rfl⟩ := bHN hn
  ·have := bQR hi hp
   have o1 : dE t.op = true := (bGV hB).2.1
   have o2 : dC t.op = true := (bGV hB).1
   have o3 : gG t.op = true := by simp [gG, inB]; omega
   have o4 : shT t.op = true := by simp [shT, o3]; omega
   have o5 : fL t.op = false := by simp [fL]; omega
   refine ⟨o3, ?_, ?_⟩
   ·have a1 : ∀ x : Int, 0 ≤ x → x < regs + 1 → okR (regs + 1) x true = true := fun x g1 g2 => by simp only [okR, Bool.not_true, Bool.false_or, V9, decide_eq_true_eq]; omega
    have a2 : okN (dF regs t pt tk l).length ((l.length + rk pt i : Nat) : Int) true = true := by simp only [okN, Bool.not_true, Bool.false_or, V9, decide_eq_true_eq]; omega
    show (!okR (regs + 1) regs (dE t.op) || !okR (regs + 1) t.a (dC t.op) || !okR (regs + 1) t.b (Go.Proofs.YtmghkonmfbpjcabGreatDoor.cG t.op) || !okN _ _ (shT t.op) || !okN _ 0 (fL t.op)) = false
    rw [o1, o2, hB, o4, o5, a1 regs Zb Zb, a1 t.a Zb Zb, a1 t.b Zb Zb]
    rw [show okN ((dF regs t pt tk l).length : Int) (vW regs t (l.length + rk pt i)).t true = true from a2]
    rfl
   ·simp [badF, vW, okF, o1, o2, hB, o4, o5]
  ·unfold jA
   by_cases e : yn tk i = true
   ·rw [if_pos e]
    have hk := h3 i hi e
    rw [rkb hR hop hi] at hk
    unfold fJ at hk
    simp only [V9, beq_iff_eq] at hk
    have hm := bGF hi
    have hd := (hR.regA hm).1 (by rw [hk.1.1]; exact (bGV hB).2.1)
    have ht := hR.then_ hm Zb
    refine ⟨rfl, ?_, ?_⟩
    ·have a1 : okR (regs + 1) (nd l i).d true = true := by simp only [okR, Bool.not_true, Bool.false_or, V9, decide_eq_true_eq]; omega
     have a2 : okR (regs + 1) regs true = true := by simp only [okR, Bool.not_true, Bool.false_or, V9, decide_eq_true_eq]; omega
     have a3 : okN (dF regs t pt tk l).length (nd l i).t true = true := by simp only [okN, Bool.not_true, Bool.false_or, V9, decide_eq_true_eq]; omega
     show (!okR (regs + 1) (nd l i).d true || !okR (regs + 1) regs true || !okR (regs + 1) 0 false || !okN _ (nd l i).t true || !okN _ 0 false) = false
     rw [a1, a2, a3]
     rfl
    ·rfl
   ·rw [if_neg e]
    exact hold hi
 exact ⟨Zb, h4, Zb, h5, fun n hn => (hall n hn).1, fun n hn => (hall n hn).2.1, fun n hn => (hall n hn).2.2⟩
theorem One.right (h : gH regs l t = 0) : bM (pG regs l t) (pH regs l t) := by
 obtain ⟨h0, h1, h2⟩ := wA h
 unfold pG pH
 by_cases ha : mN t l = true
 ·rw [if_pos ha, if_pos ha]
  exact bEL (rE (mH h0) h1) (h2 ha)
 ·rw [if_neg ha, if_neg ha]
  exact bS (mH h0)
end
end
section
open Go.RowKit
def xX (n : Nd) : Nd := ⟨0, 0, 0, 0, n.t, 0⟩
inductive Lv (l : List Nd) (r : Int) : Int → Prop
 | use (i : Nat) (n : Nd) (hn : l[i]? = some n) (hu : ((dC n.op && n.a == r) || (cG n.op && n.b == r)) = true) : Lv l r i
 | then_ (i : Nat) (n : Nd) (hn : l[i]? = some n) (hs : (dE n.op && n.d == r) = false) (hop : n.op ≠ 12) (h : Lv l r n.t) : Lv l r i
 | else_ (i : Nat) (n : Nd) (hn : l[i]? = some n) (hs : (dE n.op && n.d == r) = false) (hop : n.op = 11) (h : Lv l r n.e) : Lv l r i
def fR (l : List Nd) (i : Nat) : Prop := ∃ n, l[i]? = some n ∧ 1 ≤ n.op ∧ n.op ≤ 8 ∧ ¬ Lv l n.d n.t
def eP (l : List Nd) (i : Nat) : List Nd := l.set i (xX (l.getD i default))
theorem eO {l : List Nd} {i j : Nat} {n : Nd} (hn : l[i]? = some n) : (eP l i)[j]? = if j = i then some (xX n) else l[j]? := by
 have hlt : i < l.length := (List.getElem?_eq_some_iff.1 hn).1
 have hg : l.getD i default = n := by rw [Vy, hn]; rfl
 unfold eP
 rw [hg, List.getElem?_set]
 by_cases h : i = j
 ·subst h; simp [hlt]
 ·rw [if_neg h, if_neg (fun e => h e.symm)]
theorem Lv.of_hush {l : List Nd} {i : Nat} {r j : Int} (hd : fR l i) (h : Lv (eP l i) r j) : Lv l r j := by
 obtain ⟨n, hn, h1, h8, hlv⟩ := hd
 induction h with
 | use k m hm hu =>
  rw [eO hn] at hm
  by_cases hk : k = i
  ·rw [if_pos hk] at hm
   cases hm
   simp [xX, dC, cG, inB] at hu
  ·rw [if_neg hk] at hm
   exact .use k m hm hu
 | then_ k m hm hs hop _ ih =>
  rw [eO hn] at hm
  by_cases hk : k = i
  ·rw [if_pos hk] at hm
   cases hm
   subst hk
   have ih' : Lv l r n.t := ih
   have hs' : (dE n.op && n.d == r) = false := by
    cases hq : (dE n.op && n.d == r) with
    | false => rfl
    | true =>
     have : n.d = r := beq_iff_eq.1 (Bool.and_eq_true_iff.1 hq).2
     rw [this] at hlv
     exact absurd ih' hlv
   exact .then_ k n hn hs' Zb ih'
  ·rw [if_neg hk] at hm
   exact .then_ k m hm hs hop ih
 | else_ k m hm hs hop _ ih =>
  rw [eO hn] at hm
  by_cases hk : k = i
  ·rw [if_pos hk] at hm
   cases hm
   simp [xX] at hop
  ·rw [if_neg hk] at hm
   exact .else_ k m hm hs hop ih
theorem fR.still {l : List Nd} {i j : Nat} (hi : fR l i) (hj : fR l j) (hne : j ≠ i) : fR (eP l i) j := by
 obtain ⟨m, hm, h1, h8, hlv⟩ := hj
 obtain ⟨n, hn, _⟩ := id hi
 exact ⟨m, by rw [eO hn, if_neg hne]; exact hm, h1, h8, fun h => hlv (h.of_hush hi)⟩
theorem bDJ {l : List Nd} {i j : Nat} (hi : fR l i) (hj : fR l j) : eP (eP l i) j = eP (eP l j) i := by
 by_cases h : i = j
 ·subst h; rfl
 ·obtain ⟨n, hn, _⟩ := hi
  obtain ⟨m, hm, _⟩ := hj
  refine List.ext_getElem? fun k => ?_
  rw [eO (n := m) (by rw [eO hn, if_neg (fun e => h e.symm)]; exact hm), eO hn, eO (l := eP l j) (n := n) (by rw [eO hm, if_neg h]; exact hn), eO hm]
  by_cases h1 : k = j <;> by_cases h2 : k = i <;> simp [h1, h2] <;> omega
inductive eQ : List Nd → List Nd → Prop
 | nil (l : List Nd) : eQ l l
 | one (l l' : List Nd) (i : Nat) (hd : fR l i) (h : eQ (eP l i) l') : eQ l l'
theorem eQ.snoc {l l' : List Nd} (h : eQ l l') {i : Nat} (hd : fR l' i) : eQ l (eP l' i) := by
 induction h with
 | nil l => exact .one _ _ i hd (.nil _)
 | one l l' j hj _ ih => exact .one _ _ j hj (ih hd)
theorem eQ.past {l l2 : List Nd} (h : eQ l l2) (hn : ∀ i, ¬ fR l2 i) {i : Nat} (hi : fR l i) : eQ (eP l i) l2 := by
 induction h generalizing i with
 | nil l => exact absurd hi (hn i)
 | one l l' j hj h' ih =>
  by_cases hij : i = j
  ·subst hij; exact h'
  ·have := ih hn (hj.still hi hij)
   rw [bDJ hj hi] at this
   exact .one _ _ j (hi.still hj (fun e => hij e.symm)) this
theorem eQ.unique {l l1 l2 : List Nd} (h1 : eQ l l1) (n1 : ∀ i, ¬ fR l1 i) (h2 : eQ l l2) (n2 : ∀ i, ¬ fR l2 i) : l1 = l2 := by
 induction h1 with
 | nil l =>
  cases h2 with
  | nil => rfl
  | one _ _ i hd _ => exact absurd hd (n1 i)
 | one l l' j hj h' ih => exact ih n1 (h2.past n2 hj)
def rQ (n : Nd) (r : Int) : Bool := (dC n.op && n.a == r) || (cG n.op && n.b == r)
def mR (n : Nd) (r : Int) : Bool := dE n.op && n.d == r
def eR (n : Nd) (x : List Bool) : Bool := (n.op != 12 && yn x n.t.toNat) || (n.op == 11 && yn x n.e.toNat)
def fC (l : List Nd) (r : Int) (x : List Bool) (i : Nat) : Bool := rQ (l.getD i default) r || (!mR (l.getD i default) r && eR (l.getD i default) x)
theorem rH (l : List Nd) (r : Int) : jN (fC l r) := fun x y i h hs => by
 unfold fC eR at *
 simp only [Bool.or_eq_true, V9] at *
 exact hs.imp id fun ⟨h1, h2⟩ => ⟨h1, h2.imp (fun ⟨a, b⟩ => ⟨a, h _ b⟩) fun ⟨a, b⟩ => ⟨a, h _ b⟩⟩
def Ways (l : List Nd) : Prop := ∀ (i : Nat) (n : Nd), l[i]? = some n → (n.op ≠ 12 → 0 ≤ n.t ∧ n.t < l.length) ∧ (n.op = 11 → 0 ≤ n.e ∧ n.e < l.length)
theorem mL.lv {l : List Nd} {r : Int} {x : List Bool} (h : mL (fC l r) l.length x) (hw : Ways l) {i : Nat} (hi : i < l.length) : yn x i = true ↔ Lv l r i := by
 constructor
 ·intro hx
  classical
  let z : List Bool := (List.range l.length).map fun j => decide (Lv l r (j : Nat))
  have hz : ∀ j : Nat, j < l.length → yn z j = decide (Lv l r (j : Int)) := fun j hj => by simp [z, yn, hj]
  have hc : jP (fC l r) l.length z := ⟨by simp [z], fun j hj hs => by
   rw [hz j hj, decide_eq_true_iff]
   have hn : l[j]? = some l[j] := Vx hj
   have hg : l.getD j default = l[j] := by rw [Vy, hn]; rfl
   unfold fC at hs
   rw [hg] at hs
   obtain ⟨w1, w2⟩ := hw j _ hn
   simp only [Bool.or_eq_true, V9, Bool.not_eq_true', eR, bne_iff_ne, beq_iff_eq] at hs
   rcases hs with hu | ⟨hm, ⟨ho, ht⟩ | ⟨ho, he⟩⟩
   ·exact .use j _ hn hu
   ·obtain ⟨a, b⟩ := w1 ho
    rw [hz _ Zb, decide_eq_true_iff, Ue a] at ht
    exact .then_ j _ hn hm ho ht
   ·obtain ⟨a, b⟩ := w2 ho
    rw [hz _ Zb, decide_eq_true_iff, Ue a] at he
    exact .else_ j _ hn hm ho he⟩
  have := h.2.2 z hc i hx
  rwa [hz i hi, decide_eq_true_iff] at this
 ·intro hl
  have key : ∀ j : Int, Lv l r j → yn x j.toNat = true := by
   intro j hj
   induction hj with
   | use k m hm hu =>
    have hk : k < l.length := (List.getElem?_eq_some_iff.1 hm).1
    have hg : l.getD k default = m := by rw [Vy, hm]; rfl
    have := h.1.2 k hk
    rw [show ((k : Int)).toNat = k by omega, this]
    unfold fC rQ
    rw [hg, hu]; rfl
   | then_ k m hm hs hop _ ih =>
    have hk : k < l.length := (List.getElem?_eq_some_iff.1 hm).1
    have hg : l.getD k default = m := by rw [Vy, hm]; rfl
    have := h.1.2 k hk
    rw [show ((k : Int)).toNat = k by omega, this]
    unfold fC mR eR
    rw [hg, hs, ih]
    simp [hop]
   | else_ k m hm hs hop _ ih =>
    have hk : k < l.length := (List.getElem?_eq_some_iff.1 hm).1
    have hg : l.getD k default = m := by rw [Vy, hm]; rfl
    have := h.1.2 k hk
    rw [show ((k : Int)).toNat = k by omega, this]
    unfold fC mR eR
    rw [hg, hs, ih]
    simp [hop]
  have := key i hl
  rwa [show ((i : Int)).toNat = i by omega] at this
/-! Sets of registers, a bit each. -/
def gB (r : Nat) (ats : List Nat) : List Bool := ats.map fun z => z.testBit r
theorem bHK (r k z : Nat) (ats : List Nat) : gB r (ats.set k z) = (gB r ats).set k (z.testBit r) := List.map_set
theorem jE (r k : Nat) (ats : List Nat) : yn (gB r ats) k = (ats.getD k 0).testBit r := by
 unfold yn gB
 rw [Vy, Vy, List.getElem?_map]
 cases ats[k]? <;> simp
theorem wB {a b : Nat} (h : ∀ r, a.testBit r = true → b.testBit r = true) : a ≤ b := by
 have : a &&& b = a := Nat.eq_of_testBit_eq fun r => by
  rw [Nat.testBit_and]
  cases ha : a.testBit r with
  | true => rw [h r ha]; rfl
  | false => rfl
 rw [← this]
 exact Nat.and_le_right
def xO (l : List Nd) (ats : List Nat) : Prop := ats.length = l.length ∧ (∀ z ∈ ats, z < 2 ^ 64) ∧ ∀ r : Nat, r < 64 → bFB (fC l r) l.length (gB r ats) ∧ iQ (fC l r) l.length (gB r ats)
theorem xO.start (l : List Nd) : xO l (List.replicate l.length 0) := by
 have h0 : ∀ r i, yn (gB r (List.replicate l.length 0)) i = false := fun r i => by
  rw [jE]
  simp [Vy, List.getElem?_replicate]
  split <;> simp
 refine ⟨Zf, fun z hz => by rw [List.eq_of_mem_replicate hz]; decide, fun r _ => ?_⟩
 have := mY.start (S := fC l r) (n := l.length) (x := gB r (List.replicate l.length 0)) (by simp [gB]) (h0 r)
 exact ⟨this.1, this.2.1⟩
theorem xO.put {l : List Nd} {ats : List Nat} (h : xO l ats) {k z : Nat} (hk : k < l.length) (hz : z < 2 ^ 64) (hb : ∀ r : Nat, r < 64 → z.testBit r = fC l r (gB r ats) k) :
  xO l (ats.set k z) ∧ ats.getD k 0 ≤ z := by
 obtain ⟨hl, hlt, hr⟩ := h
 refine ⟨⟨by simpa using hl, fun y hy => ?_, fun r h64 => ?_⟩, wB fun r ht => ?_⟩
 ·rcases List.mem_or_eq_of_mem_set hy with h | rfl
  ·exact hlt y h
  ·exact hz
 ·rw [bHK, hb r h64]
  exact ⟨(hr r h64).1.put (rH l r) hk, (hr r h64).2.put (rH l r) hk⟩
 ·by_cases h64 : r < 64
  ·rw [hb r h64]
   exact (hr r h64).1.2 k hk (by rw [jE]; exact ht)
  ·have hk' : k < ats.length := Zb
   have : ats.getD k 0 < 2 ^ r := V6 (by rw [Vy, Vx hk']; exact hlt _ (List.getElem_mem hk')) (Nat.pow_le_pow_right Zb Zb)
   rw [Nat.testBit_lt_two_pow this] at ht
   cases ht
theorem xO.done {l : List Nd} {ats : List Nat} (h : xO l ats) (he : ∀ k r : Nat, k < l.length → r < 64 → (ats.getD k 0).testBit r = fC l r (gB r ats) k) {r : Nat} (h64 : r < 64) : mL (fC l r) l.length (gB r ats) :=
 ⟨⟨(h.2.2 r h64).1.1, fun i hi => by rw [jE]; exact he i r hi h64⟩, (h.2.2 r h64).2⟩
theorem bPB {ats : List Nat} {k z : Nat} (hk : k < ats.length) : (ats.set k z).sum + ats.getD k 0 = ats.sum + z := by
 induction ats generalizing k with
 | nil => simp at hk
 | cons a ats ih =>
  cases k with
  | zero => simp; omega
  | succ k =>
   have := ih (k := k) X8
   simp only [List.set_cons_succ, List.sum_cons, List.getD_cons_succ]
   omega
theorem bQZ {ats : List Nat} {b : Nat} (h : ∀ z ∈ ats, z ≤ b) : ats.sum ≤ ats.length * b := by
 induction ats with
 | nil => simp
 | cons a ats ih =>
  have h1 := h a Zf
  have h2 := ih fun z hz => h z (by simp [hz])
  simp only [List.sum_cons, List.length_cons, Nat.succ_mul]
  omega
end
section
open Go.RowKit
theorem bBP (a b : Nat) (ha : a < 18446744073709551616) (hb : b < 18446744073709551616) : bits .andNot .u64 (a : Int) (b : Int) = ((a &&& (18446744073709551615 - b) : Nat) : Int) := by (
 have e : ∀ c : Nat, c < 18446744073709551616 → (BitVec.ofInt 64 (c : Int)).toNat = c := fun c hc => by (
 rw [BitVec.ofInt_natCast, BitVec.toNat_ofNat]; exact Nat.mod_eq_of_lt hc)
 have hx : a &&& (18446744073709551615 - b) ≤ a := Nat.and_le_left
 show IntKind.u64.wrap ((BitVec.ofInt 64 (a : Int) &&& ~~~ BitVec.ofInt 64 (b : Int)).toNat : Int) = _
 rw [BitVec.toNat_and, BitVec.toNat_not, e a ha, e b hb, IntKind.wrap_u64]
 have : 2 ^ 64 - 1 - b = 18446744073709551615 - b := Zb
 rw [this]
 omega)
theorem bEH {b r : Nat} (hb : b < 18446744073709551616) (hr : r < 64) : (18446744073709551615 - b).testBit r = !b.testBit r := by (
 have := Nat.testBit_two_pow_sub_succ (n := 64) (x := b) Zb r
 rw [show 2 ^ 64 - (b + 1) = 18446744073709551615 - b by omega] at this
 rw [this]
 simp [hr])
theorem bAZ (k r : Nat) : (2 ^ k).testBit r = decide (k = r) := Nat.testBit_two_pow
end
section
open Go.RowKit
def nA (n : Nd) : Nat := if cG n.op = true then 2 ^ n.a.toNat ||| 2 ^ n.b.toNat else if dC n.op = true then 2 ^ n.a.toNat else 0
def pL (n : Nd) : Nat := if dE n.op = true then 2 ^ n.d.toNat else 0
def gV (n : Nd) (ats : List Nat) : Nat := if n.op = 12 then 0 else if n.op = 11 then ats.getD n.t.toNat 0 ||| ats.getD n.e.toNat 0 else ats.getD n.t.toNat 0
def xW (n : Nd) (ats : List Nat) : Nat := nA n ||| (gV n ats &&& (18446744073709551615 - pL n))
def pP (n : Nd) : Prop := (dE n.op = true → 0 ≤ n.d ∧ n.d < 64) ∧ (dC n.op = true → 0 ≤ n.a ∧ n.a < 64) ∧ (cG n.op = true → 0 ≤ n.b ∧ n.b < 64)
theorem bM.regs64 {regs : Int} {l : List Nd} (h : bM regs l) {n : Nd} (hn : n ∈ l) : pP n := by
 have h1 := h.rng n hn
 have hr := h.rhi
 simp only [kI, Uf, Bool.not_eq_false'] at h1
 obtain ⟨⟨⟨⟨h2, h3⟩, h4⟩, _⟩, _⟩ := h1
 refine ⟨fun hh => ?_, fun hh => ?_, fun hh => ?_⟩
 ·simp [okR, hh] at h2; omega
 ·simp [okR, hh] at h3; omega
 ·simp [okR, hh] at h4; omega
theorem kV {k : Nat} (h : k < 64) : 2 ^ k < 18446744073709551616 := by
 have : 2 ^ k < 2 ^ 64 := Nat.pow_lt_pow_right Zb h
 simpa using this
theorem bMQ {a b : Nat} (ha : a < 18446744073709551616) (hb : b < 18446744073709551616) : a ||| b < 18446744073709551616 := by
 have := Nat.or_lt_two_pow (x := a) (y := b) (n := 64) (by simpa using ha) (by simpa using hb)
 simpa using this
theorem bBN {n : Nd} (h : pP n) : nA n < 18446744073709551616 := by
 obtain ⟨_, h2, h3⟩ := h
 unfold nA
 split
 ·rename_i hb
  have ha : dC n.op = true := by simp [cG, dC, inB] at *; omega
  exact bMQ (kV (by have := h2 ha; omega)) (kV (by have := h3 hb; omega))
 ·split
  ·rename_i ha
   exact kV (by have := h2 ha; omega)
  ·omega
theorem bDA {n : Nd} (h : pP n) : pL n < 18446744073709551616 := by
 unfold pL
 split
 ·rename_i hd; exact kV (by have := h.1 hd; omega)
 ·omega
theorem qD {ats : List Nat} (h : ∀ z ∈ ats, z < 2 ^ 64) (k : Nat) : ats.getD k 0 < 18446744073709551616 := by
 rw [Vy]
 rcases hk : ats[k]? with _ | z
 ·simp
 ·have := h z (V4 hk)
  simpa using this
theorem rM {n : Nd} {ats : List Nat} (h : ∀ z ∈ ats, z < 2 ^ 64) : gV n ats < 18446744073709551616 := by
 unfold gV
 split
 ·omega
 ·split
  ·exact bMQ (qD h _) (qD h _)
  ·exact qD h _
theorem bPI {n : Nd} {ats : List Nat} (hn : pP n) (h : ∀ z ∈ ats, z < 2 ^ 64) : xW n ats < 18446744073709551616 :=
 bMQ (bBN hn) (Nat.lt_of_le_of_lt Nat.and_le_left (rM h))
theorem bBA {z : Int} {r : Nat} (h : 0 ≤ z) : (2 ^ z.toNat).testBit r = (z == (r : Int)) := by
 rw [bAZ, Bool.eq_iff_iff, decide_eq_true_iff, beq_iff_eq]
 omega
theorem bMZ {n : Nd} {ats : List Nat} (hn : pP n) {r : Nat} (hr : r < 64) :
  (xW n ats).testBit r = (rQ n r || (!mR n r && eR n (gB r ats))) := by
 have hu : (nA n).testBit r = rQ n r := by
  obtain ⟨_, h2, h3⟩ := hn
  unfold nA rQ
  split
  ·rename_i hb
   have ha : dC n.op = true := by simp [cG, dC, inB] at *; omega
   rw [Nat.testBit_or, bBA (h2 ha).1, bBA (h3 hb).1, ha, hb]
   simp
  ·rename_i hb
   have hb' : cG n.op = false := by simpa using hb
   split
   ·rename_i ha
    rw [bBA (h2 ha).1, ha, hb']
    simp
   ·rename_i ha
    have ha' : dC n.op = false := by simpa using ha
    rw [ha', hb']
    simp
 have hm : (pL n).testBit r = mR n r := by
  unfold pL mR
  split
  ·rename_i hd
   rw [bBA (hn.1 hd).1, hd]
   simp
  ·rename_i hd
   have hd' : dE n.op = false := by simpa using hd
   rw [hd']
   simp
 have hb : (gV n ats).testBit r = eR n (gB r ats) := by
  unfold gV eR
  by_cases h12 : n.op = 12
  ·simp [h12]
  ·rw [if_neg h12]
   by_cases h11 : n.op = 11
   ·rw [if_pos h11, Nat.testBit_or, jE, jE]
    simp [h11]
   ·have e1 : (n.op != 12) = true := by simp [h12]
    have e2 : (n.op == 11) = false := by simp [h11]
    rw [if_neg h11, jE, e1, e2]
    simp
 unfold xW
 rw [Nat.testBit_or, Nat.testBit_and, hu, hb, bEH (bDA hn) hr, hm]
 cases rQ n r <;> cases mR n r <;> cases eR n (gB r ats) <;> rfl
def sT (l : List Nat) : List Value := l.map fun (z : Nat) => .int .u64 (z : Int)
theorem mB (l : List Nat) : (sT l).length = l.length := Uj _
theorem bBO (a : List Nat) (k : Nat) : (sT a)[k]? = a[k]?.map fun (z : Nat) => .int .u64 (z : Int) := List.getElem?_map
theorem bLN (x : List Nat) (k z : Nat) : (sT x).set k (.int .u64 (z : Int)) = sT (x.set k z) := (List.map_set).symm
theorem bG.u64 {w : World} {A : Option Addr} {l : List Nat} (h : bG w A (sT l)) {k : Nat} (hk : k < l.length) :
  ∃ b off, A = some ⟨b, off, none⟩ ∧ b < w.heap.size ∧ w.cell? ⟨b, off + k, none⟩ = some (.int .u64 ((l.getD k 0 : Nat) : Int)) := by
 obtain ⟨b, off, v, e, hb, hv, hc⟩ := h.get (k := k) (by rw [mB]; exact hk)
 rw [bBO, Vx hk] at hv
 simp at hv
 subst hv
 exact ⟨b, off, e, hb, by rw [hc]; simp [hk]⟩
theorem Row.u64 {w : World} {B : Nat} {e : TypeId} {v : Value} {x : List Nat} (h : Row w B e v (sT x)) {k : Nat} (hk : k < x.length) :
  ∃ g o cap, v = .slice (some ⟨g, o, none⟩) x.length cap ∧ B ≤ g ∧ g < w.heap.size ∧ w.cell? ⟨g, o + k, none⟩ = some (.int .u64 ((x.getD k 0 : Nat) : Int)) ∧ w.frozen? ⟨g, o + k, none⟩ = false := by
 obtain ⟨g, o, cap, u, e1, hb, hl, hu, hc, hf⟩ := h.get (k := k) (by rw [mB]; exact hk)
 rw [bBO, Vx hk] at hu
 simp at hu
 subst hu
 rw [mB] at e1
 exact ⟨g, o, cap, e1, hb, hl, by rw [hc]; simp [hk], hf⟩
end
section
open Go.RowKit
def lvx (l : List Nd) (r : Nat) : List Bool := bAM (fC l r) l.length
theorem pZ (l : List Nd) (r : Nat) : mL (fC l r) l.length (lvx l r) := iW (rH l r) l.length
def gJ (regs : Nat) (l : List Nd) (i : Nat) : List Int := sel (fun r => yn (lvx l r) i) regs
end
section
open Go.RowKit
theorem bM.ways {regs : Int} {l : List Nd} (h : bM regs l) : Ways l := fun i n hn =>
 ⟨fun h12 => by have := h.then_ (V4 hn) h12; omega, fun h11 => by have := h.else_ (V4 hn) h11; omega⟩
theorem bM.set {regs : Int} {l : List Nd} (h : bM regs l) (i : Nat) {n : Nd} (h1 : gG n.op = true) (h2 : kI regs l.length n = false) (h3 : badF n = false) : bM regs (l.set i n) := by
 refine ⟨by simpa using h.lo, by simpa using h.hi, h.rlo, h.rhi, fun m hm => ?_, fun m hm => ?_, fun m hm => ?_⟩
 ·rcases List.mem_or_eq_of_mem_set hm with h' | rfl
  ·exact h.ok m h'
  ·exact h1
 ·rw [List.length_set]
  rcases List.mem_or_eq_of_mem_set hm with h' | rfl
  ·exact h.rng m h'
  ·exact h2
 ·rcases List.mem_or_eq_of_mem_set hm with h' | rfl
  ·exact h.frm m h'
  ·exact h3
theorem qB {l : List Nd} {i : Nat} {n : Nd} (hn : l[i]? = some n) : eP l i = l.set i (xX n) := by
 unfold eP
 rw [Vy, hn]
 rfl
theorem bM.hush {regs : Int} {l : List Nd} (h : bM regs l) {i : Nat} {n : Nd} (hn : l[i]? = some n) (h12 : n.op ≠ 12) : bM regs (eP l i) := by
 rw [qB hn]
 have ht := h.then_ (V4 hn) h12
 refine h.set i (by simp [Go.Proofs.YtmghkonmfbpjcabGreatDoor.xX, gG, inB]) ?_ ?_
 ·simp [kI, Go.Proofs.YtmghkonmfbpjcabGreatDoor.xX, okR, okN, dE, dC, cG, fL, shT, gG, inB]
  exact ⟨decide_eq_true Zb, decide_eq_true Zb⟩
 ·simp [badF, Go.Proofs.YtmghkonmfbpjcabGreatDoor.xX, okF, shT, gG, inB]
def oO (l : List Nd) : Nat := l.countP fun n => n.op != 0
theorem wZ {l : List Nd} {i : Nat} {n : Nd} (hn : l[i]? = some n) (h0 : n.op ≠ 0) : oO (eP l i) < oO l := by
 rw [qB hn]
 have hi : i < l.length := (List.getElem?_eq_some_iff.1 hn).1
 have he : l[i] = n := (List.getElem?_eq_some_iff.1 hn).2
 unfold oO
 rw [List.countP_set (h := hi)]
 have h1 : (l[i].op != 0) = true := by rw [he]; simpa using h0
 have h2 : 0 < l.countP fun n => n.op != 0 := List.countP_pos_iff.2 ⟨l[i], List.getElem_mem hi, h1⟩
 have h3 : ((Go.Proofs.YtmghkonmfbpjcabGreatDoor.xX n).op != 0) = false := by simp [Go.Proofs.YtmghkonmfbpjcabGreatDoor.xX]
 simp only [h1, h3]
 simp
 omega
theorem wM (l : List Nd) (i : Nat) : (eP l i).length = l.length := by simp [eP]
theorem bAY {x d : Nat} : (((x &&& 2 ^ d : Nat) : Int) == 0) = !x.testBit d := by
 rw [Bool.eq_iff_iff]
 simp only [beq_iff_eq, Bool.not_eq_true', Int.natCast_eq_zero]
 constructor
 ·intro h
  have := congrArg (fun z => z.testBit d) h
  simpa [Nat.testBit_and, bAZ] using this
 ·intro h
  refine Nat.eq_of_testBit_eq fun r => ?_
  rw [Nat.testBit_and, bAZ, Nat.zero_testBit]
  by_cases hr : d = r
  ·subst hr; simp [h]
  ·simp [hr]
def wV (l : List Nd) (n : Nd) : Bool := (decide (1 ≤ n.op) && decide (n.op ≤ 8)) && !yn (lvx l n.d.toNat) n.t.toNat
theorem qH {regs : Int} {l : List Nd} (hR : bM regs l) {i : Nat} {n : Nd} (hn : l[i]? = some n) : wV l n = true ↔ fR l i := by
 have hm := V4 hn
 have hreg := hR.regs64 hm
 unfold wV
 simp only [V9, decide_eq_true_iff, Bool.not_eq_true']
 constructor
 ·rintro ⟨⟨h1, h8⟩, hy⟩
  refine ⟨n, hn, h1, h8, fun hlv => ?_⟩
  have hd := hreg.1 X1
  have ht := hR.then_ hm Zb
  have := (mL.lv (pZ l n.d.toNat) hR.ways (i := n.t.toNat) Zb).2 (by rw [Ue hd.1, Ue Zb]; exact hlv)
  rw [hy] at this
  cases this
 ·rintro ⟨m, hm', h1, h8, hlv⟩
  rw [hn] at hm'
  injection hm' with hm'
  subst hm'
  have hd := hreg.1 X1
  have ht := hR.then_ hm Zb
  refine ⟨⟨h1, h8⟩, ?_⟩
  cases hy : yn (lvx l n.d.toNat) n.t.toNat with
  | false => rfl
  | true =>
   have := (mL.lv (pZ l n.d.toNat) hR.ways (i := n.t.toNat) Zb).1 hy
   rw [Ue hd.1, Ue Zb] at this
   exact absurd this hlv
def tV (l l' : List Nd) : Prop := eQ l l' ∧ ∀ i, ¬ fR l' i
theorem tV.unique {l a b : List Nd} (ha : tV l a) (hb : tV l b) : a = b := eQ.unique ha.1 ha.2 hb.1 hb.2
theorem bCQ {regs : Int} {l : List Nd} (hR : bM regs l) (h : ∀ n ∈ l, wV l n = false) (i : Nat) : ¬ fR l i := fun hd => by
 obtain ⟨n, hn, _⟩ := id hd
 have := (qH hR hn).2 hd
 rw [h n (V4 hn)] at this
 cases this
structure jT (regs : Int) (l l0 l1 : List Nd) (n : Nat) (c : Bool) : Prop where
 right : bM regs l1
 len : l1.length = l.length
 hush : eQ l l1
 same : ∀ j, n ≤ j → l1[j]? = l0[j]?
 dead : ∀ j, n ≤ j → fR l0 j → fR l1 j
 idle : c = false → l1 = l0 ∧ ∀ j, j < n → ¬ fR l0 j
 busy : c = true → oO l1 < oO l0
 le : oO l1 ≤ oO l0
theorem jT.start {regs : Int} {l l0 : List Nd} (h : bM regs l0) (hl : l0.length = l.length) (hh : eQ l l0) : jT regs l l0 l0 0 false :=
 ⟨h, hl, hh, fun _ _ => rfl, fun _ _ h => h, fun _ => ⟨rfl, fun j hj => absurd hj Zb⟩, fun h => (by cases h), Nat.le_refl _⟩
theorem jT.pass {regs : Int} {l l0 l1 : List Nd} {n : Nat} {c : Bool} (h : jT regs l l0 l1 n c) (hd : ¬ fR l0 n) : jT regs l l0 l1 (n + 1) c :=
 ⟨h.right, h.len, h.hush, fun j hj => h.same j Zb, fun j hj => h.dead j Zb, fun hc => ⟨(h.idle hc).1, fun j hj => by
  by_cases hjn : j = n
  ·subst hjn; exact hd
  ·exact (h.idle hc).2 j Zb⟩, h.busy, h.le⟩
theorem jT.step {regs : Int} {l l0 l1 : List Nd} {n : Nat} {c : Bool} (h : jT regs l l0 l1 n c) (hd : fR l0 n) : jT regs l l0 (eP l1 n) (n + 1) true := by
 have hd1 := h.dead n (Nat.le_refl _) hd
 obtain ⟨x, hx, h1, h8, _⟩ := id hd1
 have hb := wZ hx Zb
 refine ⟨h.right.hush hx Zb, by rw [wM]; exact h.len, h.hush.snoc hd1, fun j hj => ?_, fun j hj hdj => hd1.still (h.dead j Zb hdj) Zb, fun hc => (by cases hc), fun _ => V6 hb h.le, Nat.le_trans (Nat.le_of_lt hb) h.le⟩
 rw [eO hx, if_neg Zb]
 exact h.same j Zb
theorem bOB {regs : Nat} {l : List Nd} {i : Nat} {d : Int} (h0 : 0 ≤ d) (h1 : d < regs) : (gJ regs l i).any (fun z => z == d) = yn (lvx l d.toNat) i := by
 rw [Bool.eq_iff_iff, List.any_eq_true]
 constructor
 ·rintro ⟨z, hz, hzd⟩
  rw [beq_iff_eq] at hzd
  subst hzd
  obtain ⟨r, hr, hp, rfl⟩ := jS.1 hz
  exact hp
 ·intro hy
  exact ⟨d, jS.2 ⟨d.toNat, Zb, hy, Zb⟩, Zf⟩
end
theorem uM : ∀ (ts : List Tm) {r : Int} {l : List Nd}, bM r l → (gM ts r l).1 = 0 → bM (gM ts r l).2.1 (gM ts r l).2.2
 | [], r, l, hR, h => hR
 | t :: ts, r, l, hR, h => by
  unfold gM at h ⊢
  by_cases h0 : gH r l t = 0
  ·rw [if_neg (by simp [h0])] at h ⊢
   exact uM ts (One.right h0) h
  ·rw [if_pos h0] at h
   exact absurd h h0
theorem eQ.right {r : Int} {l l' : List Nd} (h : eQ l l') : bM r l → bM r l' := by
 induction h with
 | nil => exact id
 | one l l' i hd h ih =>
  intro hR
  obtain ⟨n, hn, h1, h8, _⟩ := id hd
  exact ih (hR.hush hn Zb)
def iN (n r : Int) (l : List Nd) (c r' : Int) (l' : List Nd) : Prop :=
 (n = 1 ∧ ((256 < (gA l).length ∧ c = 2 ∧ r' = 0 ∧ l' = []) ∨ ((gA l).length ≤ 256 ∧ c = 0 ∧ r' = r ∧ l' = gA l))) ∨
 (n = 2 ∧ ((mW r l ≠ 0 ∧ c = mW r l ∧ r' = 0 ∧ l' = []) ∨ (mW r l = 0 ∧ c = 0 ∧ r' = (gM (tR l) r l).2.1 ∧ l' = (gM (tR l) r l).2.2))) ∨
 (n = 3 ∧ c = 0 ∧ r' = r ∧ tV l l') ∨ (n = 4 ∧ c = 0 ∧ r' = r ∧ l' = iS l)
theorem iN.right {n r : Int} {l : List Nd} {r' : Int} {l' : List Nd} (h : iN n r l 0 r' l') (hR : bM r l) : bM r' l' := by
 rcases h with ⟨_, ⟨_, h, _⟩ | ⟨h1, _, rfl, rfl⟩⟩ | ⟨_, ⟨h1, h2, _⟩ | ⟨h1, _, rfl, rfl⟩⟩ | ⟨_, _, rfl, h⟩ | ⟨_, _, rfl, rfl⟩
 ·cases h
 ·exact hR.split h1
 ·exact absurd h2.symm h1
 ·refine uM _ hR ?_
  unfold mW at h1
  rw [if_neg (by rw [hR.chk]; simp)] at h1
  exact h1
 ·exact h.1.right hR
 ·exact hR.trim
theorem iN.same {n r : Int} {l : List Nd} {c1 r1 c2 r2 : Int} {l1 l2 : List Nd} (h : iN n r l c1 r1 l1) (h' : iN n r l c2 r2 l2) : c1 = c2 ∧ r1 = r2 ∧ l1 = l2 := by
 rcases h with ⟨e, h⟩ | ⟨e, h⟩ | ⟨e, h1, h2, h3⟩ | ⟨e, h1, h2, h3⟩ <;> rcases h' with ⟨e', h'⟩ | ⟨e', h'⟩ | ⟨e', h1', h2', h3'⟩ | ⟨e', h1', h2', h3'⟩ <;> try (exfalso; omega)
 ·rcases h with ⟨a, b, c, d⟩ | ⟨a, b, c, d⟩ <;> rcases h' with ⟨a', b', c', d'⟩ | ⟨a', b', c', d'⟩
  ·exact Jn
  ·omega
  ·omega
  ·exact Jn
 ·rcases h with ⟨a, b, c, d⟩ | ⟨a, b, c, d⟩ <;> rcases h' with ⟨a', b', c', d'⟩ | ⟨a', b', c', d'⟩
  ·exact Jn
  ·exact absurd a' a
  ·exact absurd a a'
  ·exact Jn
 ·exact ⟨h1.trans h1'.symm, h2.trans h2'.symm, h3.unique h3'⟩
 ·exact ⟨h1.trans h1'.symm, h2.trans h2'.symm, h3.trans h3'.symm⟩
theorem iN.no {n r : Int} {l : List Nd} {c r' : Int} {l' : List Nd} (h : iN n r l c r' l') (hc : c ≠ 0) : r' = 0 ∧ l' = [] := by
 rcases h with ⟨e, ⟨_, _, h1, h2⟩ | ⟨_, h, _⟩⟩ | ⟨e, ⟨_, _, h1, h2⟩ | ⟨_, h, _⟩⟩ | ⟨e, h, _⟩ | ⟨e, h, _⟩
 ·exact ⟨h1, h2⟩
 ·exact absurd h hc
 ·exact ⟨h1, h2⟩
 ·exact absurd h hc
 ·exact absurd h hc
 ·exact absurd h hc
inductive Psq : List Int → Int → List Nd → Int → Int → List Nd → Prop
 | nil {r : Int} {l : List Nd} : Psq [] r l 0 r l
 | bad {n : Int} {ns : List Int} {r : Int} {l : List Nd} {c : Int} : iN n r l c 0 [] → c ≠ 0 → Psq (n :: ns) r l c 0 []
 | next {n : Int} {ns : List Int} {r : Int} {l : List Nd} {r1 : Int} {l1 : List Nd} {c r2 : Int} {l2 : List Nd} : iN n r l 0 r1 l1 → Psq ns r1 l1 c r2 l2 → Psq (n :: ns) r l c r2 l2
theorem Psq.same {ns : List Int} {r : Int} {l : List Nd} {c1 r1 c2 r2 : Int} {l1 l2 : List Nd} (h : Psq ns r l c1 r1 l1) : Psq ns r l c2 r2 l2 → c1 = c2 ∧ r1 = r2 ∧ l1 = l2 := by
 induction h generalizing c2 r2 l2 with
 | nil => intro h; cases h; exact ⟨rfl, rfl, rfl⟩
 | bad h hc =>
  intro h'
  cases h' with
  | bad h1 hc1 => exact h.same h1
  | next h1 h2 => exact absurd (h.same h1).1 hc
 | next h h2 ih =>
  intro h'
  cases h' with
  | bad h1 hc1 => exact absurd (h1.same h).1 hc1
  | next h1 h3 =>
   obtain ⟨_, e1, e2⟩ := h.same h1
   subst e1 e2
   exact ih h3
theorem Psq.right {ns : List Int} {r : Int} {l : List Nd} {c r' : Int} {l' : List Nd} (h : Psq ns r l c r' l') : c = 0 → bM r l → bM r' l' := by
 induction h with
 | nil => exact fun _ h => h
 | bad h hc => exact fun e _ => absurd e hc
 | next h h2 ih => exact fun e hR => ih e (h.right hR)
def kE (r : Int) (l : List Nd) (ns : List Int) (c r' : Int) (l' : List Nd) : Prop :=
 (chk r l ≠ 0 ∧ c = chk r l ∧ r' = 0 ∧ l' = []) ∨ (chk r l = 0 ∧ 16 < ns.length ∧ c = 2 ∧ r' = 0 ∧ l' = []) ∨
 (chk r l = 0 ∧ ns.length ≤ 16 ∧ (∃ n ∈ ns, ¬ (1 ≤ n ∧ n ≤ 4)) ∧ c = 4 ∧ r' = 0 ∧ l' = []) ∨ (chk r l = 0 ∧ ns.length ≤ 16 ∧ (∀ n ∈ ns, 1 ≤ n ∧ n ≤ 4) ∧ Psq ns r l c r' l')
theorem kE.same {r : Int} {l : List Nd} {ns : List Int} {c1 r1 c2 r2 : Int} {l1 l2 : List Nd} (h : kE r l ns c1 r1 l1) (h' : kE r l ns c2 r2 l2) : c1 = c2 ∧ r1 = r2 ∧ l1 = l2 := by
 rcases h with ⟨a, b, c, d⟩ | ⟨a, a2, b, c, d⟩ | ⟨a, a2, ⟨n, hn, a3⟩, b, c, d⟩ | ⟨a, a2, a3, b⟩ <;> rcases h' with ⟨a', b', c', d'⟩ | ⟨a', a2', b', c', d'⟩ | ⟨a', a2', ⟨n', hn', a3'⟩, b', c', d'⟩ | ⟨a', a2', a3', b'⟩
 all_goals first
  | exact ⟨b.trans b'.symm, c.trans c'.symm, d.trans d'.symm⟩
  | exact absurd a' a
  | exact absurd a a'
  | (exfalso; omega)
  | exact absurd (a3' n hn) a3
  | exact absurd (a3 n' hn') a3'
  | exact b.same b'
section
open Go.RowKit
theorem bLJ (n : Nd) (r : Int) (w : World) :
  Calls prog 106 #[.agg #[.int .i64 n.op, .int .i64 n.d, .int .i64 n.a, .int .i64 n.b, .int .i64 n.t, .int .i64 n.e], .int .i64 r] w
   fun e w' => e = .returned (.bool ((dC n.op && n.a == r) || (cG n.op && n.b == r))) ∧ Below w.heap.size w w' := by
 cases ha : dC n.op <;> cases hb : cG n.op <;> cases h1 : (n.a == r) <;> cases h2 : (n.b == r) <;>
 ·go_enter func106, ntmps106
  go_wp2_with (go_at_call 39; refine (gL _ _).mono ?_; rw [ha, hb]; rintro e w1 ⟨rfl, rfl⟩)
  all_goals go_tidy
  all_goals go_ret
  all_goals exact ⟨by simp_all, Yc⟩
theorem bMF (n : Nd) (r : Int) (w : World) :
  Calls prog 107 #[.agg #[.int .i64 n.op, .int .i64 n.d, .int .i64 n.a, .int .i64 n.b, .int .i64 n.t, .int .i64 n.e], .int .i64 r] w
   fun e w' => e = .returned (.bool (dE n.op && n.d == r)) ∧ Below w.heap.size w w' := by
 cases ha : dE n.op <;> cases h1 : (n.d == r) <;>
 ·go_enter func107, ntmps107
  go_wp2_with (go_at_call 39; refine (gL _ _).mono ?_; rw [ha]; rintro e w1 ⟨rfl, rfl⟩)
  all_goals go_tidy
  all_goals go_ret
  all_goals exact ⟨by simp_all, Yc⟩
theorem rW (k : Nat) (hk : k < 64) (w : World) :
  Calls prog 70 #[.int .i64 k] w fun e w' => e = .returned (.int .u64 ((2 ^ k : Nat) : Int)) ∧ w' = w := by
 have hw : IntKind.u64.wrap (2 ^ k) = ((2 ^ k : Nat) : Int) := by
  have h1 : (2 : Int) ^ k = ((2 ^ k : Nat) : Int) := Zf
  have h2 : 2 ^ k < 2 ^ 64 := Nat.pow_lt_pow_right Zb hk
  rw [h1, IntKind.wrap_u64]
  generalize (2 ^ k : Nat) = z at h2
  omega
 have Hw := bA hw
 clear hw
 go_enter func70, ntmps70
 go_wp2
 all_goals go_ret
 all_goals exact ⟨by rw [← Hw.o]; rfl, rfl⟩
theorem bNC (n : Nd) (w : World) (hd : dE n.op = true → 0 ≤ n.d ∧ n.d < 64) :
  Calls prog 103 #[.agg #[.int .i64 n.op, .int .i64 n.d, .int .i64 n.a, .int .i64 n.b, .int .i64 n.t, .int .i64 n.e]] w
   fun e w' => e = .returned (.int .u64 (pL n : Int)) ∧ Below w.heap.size w w' := by
 cases h : dE n.op with
 | true =>
  obtain ⟨d0, d1⟩ := hd h
  have hone := fun W => rW n.d.toNat Zb W
  rw [Ue d0] at hone
  have hm : pL n = 2 ^ n.d.toNat := by simp [pL, h]
  rw [hm]
  generalize (2 ^ n.d.toNat : Nat) = z at *
  have o1 : 1 ≤ n.op := by simp [dE, inB] at h; omega
  have o2 : n.op ≤ 9 := by simp [dE, inB] at h; omega
  have H1 := bA hone
  clear hone hm hd h
  go_enter func103, ntmps103
  go_wp2_with (go_at_call 70; refine (H1.o _).mono ?_; rintro e w1 ⟨rfl, rfl⟩)
  all_goals go_tidy
  all_goals go_ret
  all_goals exact ⟨rfl, Yc⟩
 | false =>
  have hm : pL n = 0 := by simp [pL, h]
  rw [hm]
  have o1 : ¬ (1 ≤ n.op ∧ n.op ≤ 9) := by simp [dE, inB] at h; omega
  clear hm hd h
  by_cases o2 : 1 ≤ n.op
  ·have o3 : ¬ n.op ≤ 9 := Zb
   clear o1
   go_enter func103, ntmps103
   go_wp2
   all_goals go_tidy
   all_goals go_ret
   all_goals exact ⟨rfl, Yc⟩
  ·clear o1
   go_enter func103, ntmps103
   go_wp2
   all_goals go_tidy
   all_goals go_ret
   all_goals exact ⟨rfl, Yc⟩
end
section
open Go.RowKit
theorem bLK (n : Nd) (w : World) (h1 : dC n.op = true → 0 ≤ n.a ∧ n.a < 64) (h2 : cG n.op = true → 0 ≤ n.b ∧ n.b < 64) :
  Calls prog 101 #[.agg #[.int .i64 n.op, .int .i64 n.d, .int .i64 n.a, .int .i64 n.b, .int .i64 n.t, .int .i64 n.e]] w
   fun e w' => e = .returned (.int .u64 (nA n : Int)) ∧ Below w.heap.size w w' := by
 cases hb : cG n.op with
 | true =>
  have ho : 3 ≤ n.op ∧ n.op ≤ 8 := by simp [cG, inB] at hb; omega
  obtain ⟨o1, o2⟩ := ho
  obtain ⟨a0, a1⟩ := h1 (by simp [dC, inB]; omega)
  obtain ⟨b0, b1⟩ := h2 hb
  have ca := fun W => rW n.a.toNat Zb W
  have cb := fun W => rW n.b.toNat Zb W
  rw [Ue a0] at ca
  rw [Ue b0] at cb
  have hm : nA n = 2 ^ n.a.toNat ||| 2 ^ n.b.toNat := by simp [nA, hb]
  have hx : 2 ^ n.a.toNat < 2 ^ 64 := Nat.pow_lt_pow_right Zb Zb
  have hy : 2 ^ n.b.toNat < 2 ^ 64 := Nat.pow_lt_pow_right Zb Zb
  rw [hm]
  generalize (2 ^ n.a.toNat : Nat) = x at *
  generalize (2 ^ n.b.toNat : Nat) = y at *
  have hor := bits_or_u64_nat x y Zb Zb
  have CA := bA ca
  have CB := bA cb
  have HO := bA hor
  clear ca cb hor hm hb h1 h2 hx hy
  go_enter func101, ntmps101
  go_wp2_with fail
  go_quiet ((go_at_call 70; first | exact Calls.quiet_of_same (CA.out _) | exact Calls.quiet_of_same (CB.out _)))
  go_wp2_with fail
  go_ret
  exact ⟨by rw [← HO.o]; rfl, Yc⟩
 | false =>
  have hn : ¬ (3 ≤ n.op ∧ n.op ≤ 8) := by simp [cG, inB] at hb; omega
  cases ha : dC n.op with
  | true =>
   obtain ⟨a0, a1⟩ := h1 ha
   have ca := fun W => rW n.a.toNat Zb W
   rw [Ue a0] at ca
   have hm : nA n = 2 ^ n.a.toNat := by simp [nA, hb, ha]
   rw [hm]
   generalize (2 ^ n.a.toNat : Nat) = x at *
   have CA := bA ca
   have ho : n.op = 2 ∨ n.op = 10 ∨ n.op = 11 ∨ n.op = 12 := by simp [dC, inB] at ha; omega
   obtain ⟨op, d, a, b, t, e⟩ := n
   simp only at *
   clear ca hm hb ha h1 h2 hn
   rcases ho with rfl | rfl | rfl | rfl <;>
   ·go_enter func101, ntmps101
    go_wp2_with (go_at_call 70; refine (CA.out _).mono ?_; rintro e w1 ⟨rfl, rfl⟩)
    all_goals go_tidy
    all_goals go_ret
    all_goals exact ⟨rfl, Yc⟩
  | false =>
   have hm : nA n = 0 := by simp [nA, hb, ha]
   rw [hm]
   have q2 : (n.op == 2) = false := by simp [dC, inB] at ha; simp; omega
   have q10 : (n.op == 10) = false := by simp [dC, inB] at ha; simp; omega
   have q11 : (n.op == 11) = false := by simp [dC, inB] at ha; simp; omega
   have q12 : (n.op == 12) = false := by simp [dC, inB] at ha; simp; omega
   have q3 : (decide (3 ≤ n.op) && decide (n.op ≤ 8)) = false := by simp; omega
   clear hm hb ha h1 h2 
   by_cases h3 : 3 ≤ n.op
   ·have h8 : ¬ n.op ≤ 8 := Zb
    clear hn q3
    go_enter func101, ntmps101
    go_wp2
    all_goals go_tidy
    all_goals go_ret
    all_goals exact ⟨rfl, Yc⟩
   ·clear hn q3
    go_enter func101, ntmps101
    go_wp2
    all_goals go_tidy
    all_goals go_ret
    all_goals exact ⟨rfl, Yc⟩
end
section
open Go.RowKit
theorem bHM (n : Nd) (S : Option Addr) (ats : List Nat) (cap : Nat) (w : World) (hS : bG w S (sT ats)) (hl : ats.length ≤ 256) (hz : ∀ z ∈ ats, z < 2 ^ 64)
  (ht : n.op ≠ 12 → 0 ≤ n.t ∧ n.t < ats.length) (he : n.op = 11 → 0 ≤ n.e ∧ n.e < ats.length) :
  Calls prog 102 #[.agg #[.int .i64 n.op, .int .i64 n.d, .int .i64 n.a, .int .i64 n.b, .int .i64 n.t, .int .i64 n.e], .slice S ats.length cap] w
   fun e w' => e = .returned (.int .u64 (gV n ats : Int)) ∧ Below w.heap.size w w' := by
 by_cases h12 : n.op = 12
 ·have hm : gV n ats = 0 := by simp [gV, h12]
  have q12 : (n.op == 12) = true := by simp [h12]
  rw [hm]
  clear hm h12 ht he
  go_enter func102, ntmps102
  go_wp2
  all_goals go_tidy
  all_goals go_ret
  all_goals exact ⟨rfl, Yc⟩
 ·obtain ⟨t0, t1⟩ := ht h12
  obtain ⟨tt, htt⟩ := V7 t0
  obtain ⟨b, off, rfl, hb, ct⟩ := hS.u64 (k := tt) Zb
  have q12 : (n.op == 12) = false := by simp [h12]
  have xt := qD hz tt
  by_cases h11 : n.op = 11
  ·obtain ⟨e0, e1⟩ := he h11
   obtain ⟨ee, hee⟩ := V7 e0
   obtain ⟨b', off', e', _, ce⟩ := hS.u64 (k := ee) Zb
   injection e' with e'
   injection e' with e1' e2'
   subst e1' e2'
   have q11 : (n.op == 11) = true := by simp [h11]
   have xe := qD hz ee
   have hm : gV n ats = ats.getD tt 0 ||| ats.getD ee 0 := by simp [gV, h11, htt, hee]
   rw [hm]
   generalize ats.getD tt 0 = x at *
   generalize ats.getD ee 0 = y at *
   have hor := bits_or_u64_nat x y xt xe
   obtain ⟨op, d, a, b0, t, e⟩ := n
   simp only at *
   subst htt hee
   have HO := bA hor
   clear hor hm h12 h11 ht he hz hS xt xe
   go_enter func102, ntmps102
   go_wp2_with fail
   go_quiet (fail)
   go_wp2_with fail
   go_ret
   exact ⟨by rw [← HO.o]; rfl, Yc⟩
  ·have q11 : (n.op == 11) = false := by simp [h11]
   have hm : gV n ats = ats.getD tt 0 := by simp [gV, h11, h12, htt]
   rw [hm]
   generalize ats.getD tt 0 = x at *
   obtain ⟨op, d, a, b0, t, e⟩ := n
   simp only at *
   subst htt
   clear hm h12 h11 ht he hz hS xt
   go_enter func102, ntmps102
   go_wp2
   all_goals go_tidy
   all_goals go_ret
   all_goals exact ⟨rfl, Yc⟩
end
section
open Go.RowKit
def pR (W w : World) : Prop := Below W.heap.size W w
theorem pR.refl (W : World) : pR W W := Below.refl _ _
theorem pR.step {W w w' : World} (h : pR W w) (hb : Below w.heap.size w w') : pR W w' := Below.trans h (hb.mono h.size)
theorem pR.drew {W w : World} (h : pR W w) : pR W w.drew := Below.drew h
end
theorem oV {P : Program} {a : Act} {w : World} {Q : Exit → Act → World → Prop} {c rest : Code} (l : Nat) (I : Nat → Act → World → Prop) (hf : findLabel c l = some (Code.skip.seq rest))
 (pass : ∀ n a w, I n a w → rest.wp P (Exit.jump l (fun a' w' => ∃ k, k < n ∧ I k a' w') Q) a w)
 (first : (∀ n a w, I n a w → rest.wp P (Exit.jump l (fun a' w' => ∃ k, I k a' w') Q) a w) → c.wp P (Exit.jump l (fun a' w' => ∃ k, I k a' w') Q) a w) : (Code.scope c).wp P Q a w := by (
 refine wp_scope_jumps l (fun a w => ∃ n, I n a w) (fun a w => leastOf (fun n => I n a w)) hf (first fun n a w h => wp_mono (pass n a w h) ?_) ?_
 · (
 intro e a' w' hq
 cases e with
 | goto t => exact ⟨hq.1, hq.2.elim fun k h => ⟨k, h.2⟩⟩
 | normal => exact hq
 | exit id => exact hq
 | ret => exact hq
 | panic ch => exact hq
 | outgrown => exact hq)
 · (
 intro a w hI
 refine wp_seq (wp_skip ?_)
 refine wp_mono (pass _ a w (leastOf_spec hI).1) ?_
 intro e a' w' hq
 cases e with
 | goto t =>
  obtain ⟨h1, k, hlt, hk⟩ := hq
  exact ⟨h1, ⟨k, hk⟩, Nat.lt_of_le_of_lt ((leastOf_spec ⟨k, hk⟩).2 k hk) hlt⟩
 | normal => exact hq
 | exit id => exact hq
 | ret => exact hq
 | panic ch => exact hq
 | outgrown => exact hq))
section
open Go.RowKit
attribute [local irreducible] Row madeCells
theorem bPW : (prog.info? 126).map (fun i => (i.zero, i.size, i.bytes)) = some (some (.int .u64 0), 1, 8) := Zc
def bDM (n : Nat) (ats : List Nat) : Nat := n * 2 ^ 64 - ats.sum
theorem bNS {l : List Nd} {ats : List Nat} (h : xO l ats) {k z : Nat} (hk : k < l.length) (hz : z < 2 ^ 64) (hle : ats.getD k 0 ≤ z) (hne : ats.getD k 0 ≠ z) (hb : xO l (ats.set k z)) :
  bDM l.length (ats.set k z) < bDM l.length ats := by
 have h1 := bPB (ats := ats) (k := k) (z := z) (by rw [h.1]; exact hk)
 have h2 := bQZ (ats := ats.set k z) (b := 2 ^ 64) (fun y hy => Nat.le_of_lt (hb.2.1 y hy))
 rw [hb.1] at h2
 unfold bDM
 generalize l.length * 2 ^ 64 = q at *
 omega
def bOJ (l : List Nd) (B : Nat) (t : TypeId) (w : World) (e : Ending) (w' : World) : Prop :=
 ∃ ats v, (ats.length = l.length ∧ (∀ z ∈ ats, z < 2 ^ 64) ∧ ∀ r : Nat, r < 64 → mL (fC l r) l.length (gB r ats)) ∧ e = .returned v ∧ Row w' B t v (sT ats) ∧ Below w.heap.size w w'
theorem bIE {l : List Nd} {ats : List Nat} {k : Nat} {x : Nd} (hx : l[k]? = some x) (hr : pP x) (r : Nat) (h64 : r < 64) : (xW x ats).testBit r = fC l r (gB r ats) k := by
 have hg : l.getD k default = x := by rw [Vy, hx]; rfl
 rw [bMZ hr h64]
 unfold fC
 rw [hg]
theorem bME (regs : Int) (A : Option Addr) (l : List Nd) (cap : Nat) (w : World) (hA : bH w A l) (hR : bM regs l) :
  Calls prog 68 #[.agg #[.int .i64 regs, .slice A l.length cap]] w (bOJ l w.heap.size 126 w) := by
 have hlo := hR.lo
 have hhi := hR.hi
 have HRr := bA hR
 clear hR
 obtain ⟨ib, hbi, hbz, hbs, hbb⟩ := info_parts bPW
 have hmk := dN (P := prog) 123 126 ib _ 8 underlying123 hbi hbz hbs hbb Zb rfl l.length Zb
 go_enter func68, ntmps68
 go_wp2_with fail
 refine oV 0 (fun g a' w' => ∃ (ats : List Nat) (u4 u5 u6 u11 u12 u13 u14 u15 u16 u17 u18 u19 u20 u21 u22 u23 u24 u25 u26 u27 u28 u29 u30 u31 u32 u33 u34 u35 u36 u37 u38 u39 u40 u41 u42 : Value), a' = { tmps := #[.agg #[.int .i64 regs, .slice A l.length cap], .pointer (some ⟨w.heap.size, 0, none⟩), .slice none 0 0, .slice (some ⟨w.heap.size + 1, 0, none⟩) l.length l.length, u4, u5, u6, .pointer (some ⟨w.heap.size, 1, none⟩), .slice A l.length cap, .int .i64 l.length, .slice (some ⟨w.heap.size + 1, 0, none⟩) l.length l.length, u11, u12, u13, u14, u15, u16, u17, u18, u19, u20, u21, u22, u23, u24, u25, u26, u27, u28, u29, u30, u31, u32, u33, u34, u35, u36, u37, u38, u39, u40, u41, u42], defers := [] } ∧ g = bDM l.length ats ∧ xO l ats ∧
  Row w' w.heap.size 126 (.slice (some ⟨w.heap.size + 1, 0, none⟩) l.length l.length) (sT ats) ∧ Blk w' w.heap.size 24 #[.int .i64 regs, .slice A l.length cap] ∧ Below w.heap.size w w') rfl ?pass ?first
 case first =>
  intro again
  have Again := bA again
  clear again
  go_wp2_with fail
  go_step3
  rename_i K hK
  refine hK _ _ ?_
  refine Again.out _ _ _ ⟨List.replicate l.length 0, _, _, _, _, _, _, _, _, _, _, _, _, _, _, _, _, _, _, _, _, _, _, _, _, _, _, _, _, _, _, _, _, _, _, _, rfl, rfl, xO.start l, ?_, Yd, Yc⟩
  rw [sT, List.map_replicate]
  show Row _ _ _ _ (List.replicate l.length (.int .u64 0))
  exact Yf
 case pass =>
  rintro g a' wr ⟨ats, u4, u5, u6, u11, u12, u13, u14, u15, u16, u17, u18, u19, u20, u21, u22, u23, u24, u25, u26, u27, u28, u29, u30, u31, u32, u33, u34, u35, u36, u37, u38, u39, u40, u41, u42, rfl, hg, hbt, hRow, hP, hB⟩
  have Hg := bA hg
  have Hbt := bA hbt
  have hal := hbt.1
  have Hal := bA hal
  have HRow := bA hRow
  have HP := bA hP
  clear hg hbt hal hRow hP hmk
  go_wp2_with fail
  obtain ⟨wb, rfl⟩ := Exq wr
  go_loopg [4] (l.length) (fun gk i wr => ∃ k : Nat, k ≤ l.length ∧ i = .int .i64 ((k : Int) - 1) ∧ gk = k ∧ (∀ j x, k ≤ j → l[j]? = some x → xW x ats = ats.getD j 0) ∧
   Row wr w.heap.size 126 (.slice (some ⟨w.heap.size + 1, 0, none⟩) l.length l.length) (sT ats) ∧ Blk wr w.heap.size 24 #[.int .i64 regs, .slice A l.length cap] ∧ Below w.heap.size w wr)
  case atStart => exact ⟨l.length, Nat.le_refl _, rfl, rfl, fun j x hj hx => absurd (List.getElem?_eq_some_iff.1 hx).1 Zb, HRow.o, HP.o, hB⟩
  case round =>
   clear HRow HP hB
   obtain ⟨k, hk, rfl, hgk, hno, hRow, hP, hB⟩ := hrel
   have Hgk := bA hgk
   have Hno := bA hno
   clear hgk hno
   have hz := hB.size
   refine Wl fun p0 p1 => ?_
   have hxlt := (hRow.lt _ rfl).2
   have lp := hP.lt
   cases k with
   | zero =>
    have HRow := bA hRow
    have HP := bA hP
    clear hRow hP
    have k1 : (((0 : Nat) : Int) - 1) = -1 := Zb
    rw [k1]
    clear k1
    go_wp2_with fail
    simp only [Exit.jump]
    go_ret
    refine ⟨ats, _, ⟨Hal.o, Hbt.o.2.1, fun r h64 => Hbt.o.done (fun j r' hj hr' => ?_) h64⟩, rfl, HRow.o, hB⟩
    obtain ⟨x, hx⟩ : ∃ x, l[j]? = some x := ⟨_, Vx hj⟩
    rw [← Hno.o j x (Nat.zero_le _) hx]
    exact bIE hx (HRr.o.regs64 (V4 hx)) r' hr'
   | succ k =>
    obtain ⟨x, hx⟩ : ∃ x, l[k]? = some x := ⟨_, Vx Zb⟩
    have Hx := bA hx
    obtain ⟨xb, xo, x', rfl, hxb, hx', hxl⟩ := (hA.below hB).get (k := k) Zb
    rw [hx] at hx'
    injection hx' with hx'
    subst hx'
    obtain ⟨c0, c1, c2, c3, c4, c5⟩ := hxl
    obtain ⟨g0, o0, cp0, e0, _, _, cx, fx⟩ := hRow.u64 (k := k) (by rw [Hal.o]; omega)
    injection e0 with e0 e1 e2
    injection e0 with e0
    injection e0 with e0 e3
    subst e0 e3
    simp only [Nat.zero_add] at cx fx
    clear e1 e2 hx
    have hz64 := Hbt.o.2.1
    have hreg := HRr.o.regs64 (V4 Hx.o)
    have hway : (x.op ≠ 12 → 0 ≤ x.t ∧ x.t < ats.length) ∧ (x.op = 11 → 0 ≤ x.e ∧ x.e < ats.length) := by
     rw [Hal.o]
     exact ⟨fun h => by have := HRr.o.then_ (V4 Hx.o) h; omega, fun h => by have := HRr.o.else_ (V4 Hx.o) h; omega⟩
    have hU := fun W => bLK x W hreg.2.1 hreg.2.2
    have hM := fun W => bNC x W hreg.1
    have hBh := fun W (hW : pR wr W) => bHM x (some ⟨w.heap.size + 1, 0, none⟩) ats l.length W (hRow.below' hW).vals (by rw [Hal.o]; omega) hz64 hway.1 hway.2
    rw [Hal.o] at hBh
    have eN : bits .or .u64 (nA x : Int) (bits .andNot .u64 (gV x ats : Int) (pL x : Int)) = ((xW x ats : Nat) : Int) := by
     rw [bBP _ _ (rM hz64) (bDA hreg)]
     exact bits_or_u64_nat _ _ (bBN hreg) (Nat.lt_of_le_of_lt Nat.and_le_left (rM hz64))
    have HU := bA hU
    have HM := bA hM
    have HBh := bA hBh
    have EN := bA eN
    have HRow := bA hRow
    have HP := bA hP
    have Hreg := bA hreg
    have k1 : (((k + 1 : Nat) : Int) - 1) = (k : Int) := Zb
    rw [k1]
    clear k1 hU hM hBh eN hRow hP hreg hway hz64 hA
    refine Vu fun q0 q1 => ?_
    have lxw : wr.heap.size < (wr.alloc (.cells #[.int .i64 x.op, .int .i64 x.d, .int .i64 x.a, .int .i64 x.b, .int .i64 x.t, .int .i64 x.e] 39)).heap.size := Zf
    go_upto_region 6 with fail
    go_cut [6] (fun s6 wx => s6 = .int .u64 (xW x ats : Int) ∧ pR wr wx)
    case first =>
     obtain ⟨w6, hw6⟩ := Exq (wr.alloc (.cells #[.int .i64 x.op, .int .i64 x.d, .int .i64 x.a, .int .i64 x.b, .int .i64 x.t, .int .i64 x.e] 39))
     have hX6 : Blk w6 wr.heap.size 39 #[.int .i64 x.op, .int .i64 x.d, .int .i64 x.a, .int .i64 x.b, .int .i64 x.t, .int .i64 x.e] := by rw [hw6]; exact Yd
     have hL6 : pR wr w6 := by rw [hw6]; exact Below.alloc (Below.refl _ _) (Nat.le_refl _) _
     have hL66 := pR.refl w6
     rw [← hw6]
     have b0 := hX6.cell 0
     have b1 := hX6.cell 1
     have b2 := hX6.cell 2
     have b3 := hX6.cell 3
     have b4 := hX6.cell 4
     have b5 := hX6.cell 5
     simp only [Yl] at b0 b1 b2 b3 b4 b5
     have hll : wr.heap.size < w6.heap.size := hX6.lt
     clear hw6 hX6 c0 c1 c2 c3 c4 c5 p0 p1 cx fx lxw hxb hB HRow HP
     go_region_held3 (fun w' => w'.cell? ⟨wr.heap.size, 0, none⟩ = some (.int .i64 x.op) ∧ w'.cell? ⟨wr.heap.size, 1, none⟩ = some (.int .i64 x.d) ∧ w'.cell? ⟨wr.heap.size, 2, none⟩ = some (.int .i64 x.a) ∧
       w'.cell? ⟨wr.heap.size, 3, none⟩ = some (.int .i64 x.b) ∧ w'.cell? ⟨wr.heap.size, 4, none⟩ = some (.int .i64 x.t) ∧ w'.cell? ⟨wr.heap.size, 5, none⟩ = some (.int .i64 x.e) ∧ pR wr w' ∧ pR w6 w')
      (((try go_split_ands); (try dsimp only); (repeat' apply And.intro) <;> (first | assumption | go_keep | (exact pR.drew Zg) | (exact pR.step Zg Zg) | (rw [hc3 _ _ (V6 hll (Below.size (by assumption : pR w6 _)))]; assumption))))
      (first
       | (go_at_call 101; refine (HU.o _).mono ?_; rintro e w3 ⟨rfl, hb3⟩; obtain ⟨hc3, hf3⟩ := bB hb3)
       | (go_at_call 103; refine (HM.o _).mono ?_; rintro e w3 ⟨rfl, hb3⟩; obtain ⟨hc3, hf3⟩ := bB hb3)
       | (go_at_call 102; (try go_split_ands); refine (HBh.o _ Zg).mono ?_; rintro e w3 ⟨rfl, hb3⟩; obtain ⟨hc3, hf3⟩ := bB hb3))
     all_goals (try go_split_ands)
     all_goals (go_wp2_with fail)
     all_goals go_meet
     all_goals go_tidy
     all_goals exact ⟨by rw [← EN.out], Zg⟩
    case rest =>
     obtain ⟨rfl, hL⟩ := hcut
     obtain ⟨wx, rfl⟩ := Exq wc
     have cx' := ((bB hL).1 _ _ hxlt).trans cx
     have fx' := ((bB hL).2 _ _ hxlt).trans fx
     have hn64 : xW x ats < 2 ^ 64 := bPI Hreg.o Hbt.o.2.1
     have hput := Hbt.o.put (k := k) (z := xW x ats) Zb hn64 (fun r h64 => bIE Hx.o Hreg.o r h64)
     have HL := bA hL
     have Hput := bA hput
     have Hn64 := bA hn64
     have hz2 := hL.size
     clear cx fx c0 c1 c2 c3 c4 c5 p0 p1 hL lxw hput hn64
     generalize hzz : xW x ats = z at *
     generalize hyy : ats.getD k 0 = y at *
     have Hzz := bA hzz
     have Hyy := bA hyy
     clear hzz hyy
     cases hq : ((z : Int) != (y : Int))
     case true =>
      have Hq := bA hq
      go_wp2_with fail
      go_step3
      refine ⟨rfl, bDM l.length (ats.set k z), ?_, ats.set k z, _, _, _, _, _, _, _, _, _, _, _, _, _, _, _, _, _, _, _, _, _, _, _, _, _, _, _, _, _, _, _, _, _, _, _, rfl, rfl, Hput.o.1, ?_, (HP.o.below HL.o lp).far Zf _, (Below.trans hB (Below.mono HL.o hz)).setCell Zd _⟩
      ·rw [Hg.o]
       have hq' := Hq.o
       simp at hq'
       exact bNS Hbt.o Zb Hn64.o (by rw [Hyy.o]; exact Hput.o.2) (by rw [Hyy.o]; omega) Hput.o.1
      ·have := (HRow.o.below' HL.o).store k (.int .u64 (z : Int))
       rw [bLN, Nat.zero_add] at this
       exact this
     case false =>
      have Hq := bA hq
      go_wp2_with fail
      go_roundg k
      case measure => exact Jg
      case rel =>
       refine ⟨k, Zb, by go_num, rfl, fun j y hj hy => ?_, HRow.o.below' HL.o, HP.o.below HL.o lp, Below.trans hB (Below.mono HL.o hz)⟩
       by_cases hjk : j = k
       ·subst hjk
        rw [Hx.o] at hy
        injection hy with hy
        subst hy
        have := Hq.o
        simp at this
        rw [Hzz.o, Hyy.o]
        omega
       ·exact Hno.o j y Zb hy
end
section
open Go.RowKit
attribute [local irreducible] Row madeCells
def gC (B : Nat) (tS tI : TypeId) (n : Nat) (xs : Nat → List Int) (v : Value) (w : World) : Prop :=
 ∃ vs : Nat → Value, Row w B tS v ((List.range n).map vs) ∧ Tab w B tI n vs (fun i => bN (xs i))
end
section
open Go.RowKit
theorem gC.row {B : Nat} {tS tI : TypeId} {n : Nat} {xs : Nat → List Int} {v : Value} {w : World} (h : gC B tS tI n xs v w) {i : Nat} (hi : i < n) :
 ∃ g o cap A c, v = .slice (some ⟨g, o, none⟩) n cap ∧ g < w.heap.size ∧ w.cell? ⟨g, o + i, none⟩ = some (.slice A (xs i).length c) ∧ bG w A (bN (xs i)) := by (
 obtain ⟨vs, hO, hT⟩ := h
 obtain ⟨g, o, cap, x, e, _, hl, hx, hc, _⟩ := hO.get (k := i) (by simpa using hi)
 have hr := hT.row hi
 obtain ⟨A, c, hv, _, _⟩ := hr.shape
 rw [bJ] at hv
 simp [hi] at hx
 subst hx
 rw [hv] at hc hr
 rw [Uj, List.length_range] at e
 exact ⟨g, o, cap, A, c, e, hl, hc, hr.vals⟩)
theorem gC.of {B : Nat} {tS tI : TypeId} {n : Nat} {xs : Nat → List Int} {v : Value} {w w' : World} (h : gC B tS tI n xs v w) (hb : ∀ k, B ≤ k → k < w.heap.size → (∃ cs, Blk w k tS cs ∨ Blk w k tI cs) → w'.heap[k]? = w.heap[k]?) : gC B tS tI n xs v w' := by (
 obtain ⟨vs, hO, hT⟩ := h
 refine ⟨vs, hO.of_block fun k hk => ?_, hT.of_blocks fun i k hi hk => ?_⟩
 · (
 have h2 := hO.lt k hk
 refine hb k h2.1 h2.2 ?_
 obtain ⟨A, cap, hv, _, _⟩ := hO.shape
 subst hv
 rcases A with _ | ⟨g, o, sp⟩
 · simp [Value.ownBlock] at hk
 · (
 simp [Value.ownBlock] at hk
 subst hk
 rcases hO with ⟨he, _⟩ | ⟨g', o', cp, cur, he, _, hh, _⟩
 · cases he
 · (
 injection he with he
 injection he with he
 injection he with he
 subst he
 exact ⟨cur, .inl Xw⟩)))
 · (
 have hr := hT.row hi
 have h2 := hr.lt k hk
 refine hb k h2.1 h2.2 ?_
 rcases hr with ⟨he, _⟩ | ⟨g', o', cp, cur, he, _, hh, _⟩
 · rw [he] at hk; simp [Value.ownBlock] at hk
 · (
 rw [he] at hk
 simp [Value.ownBlock] at hk
 subst hk
 exact ⟨cur, .inr Xw⟩)))
theorem gC.below {B : Nat} {tS tI : TypeId} {n : Nat} {xs : Nat → List Int} {v : Value} {w w' : World} (h : gC B tS tI n xs v w) (hb : Below w.heap.size w w') : gC B tS tI n xs v w' := h.of fun k _ hk _ => hb.block k hk
theorem gC.far {B : Nat} {tS tI : TypeId} {n : Nat} {xs : Nat → List Int} {v : Value} {w : World} (h : gC B tS tI n xs v w) {p : Addr} {t : TypeId} {cs : Array Value} (hp : Blk w p.block t cs) (h1 : t ≠ tS) (h2 : t ≠ tI) (u : Value) : gC B tS tI n xs v (w.setCell p u) :=
 h.of fun k _ _ ⟨cs', hk⟩ => Below.heap_setCell w p u k (by
  rintro rfl
  rcases hk with hk | hk
  · exact Blk.ne_ hp hk h1 rfl
  · exact Blk.ne_ hp hk h2 rfl)
attribute [local irreducible] Row madeCells
theorem bNN : (prog.info? 3).map (fun i => (i.zero, i.size, i.bytes)) = some (some (.int .i64 0), 1, 8) := Zc
theorem bKD : (prog.info? 25).map (fun i => (i.zero, i.size, i.bytes)) = some (some (.slice none 0 0), 1, 24) := Zc
theorem Tab.congr {w : World} {base N : Nat} {e : TypeId} {vs : Nat → Value} {xs ys : Nat → List Value} (h : Tab w base e N vs xs) (he : ∀ i, i < N → xs i = ys i) : Tab w base e N vs ys := by (
 unfold Tab at *
 exact   ⟨fun i hi => by rw [← he i hi]; exact h.1 i hi, h.2⟩)
end
section
open Go.RowKit
attribute [local irreducible] Row madeCells
def oM (ats : List Nat) (n : Nd) : Bool := (decide (1 ≤ n.op) && decide (n.op ≤ 8)) && (((ats.getD n.t.toNat 0 &&& 2 ^ n.d.toNat : Nat) : Int) == 0)
theorem bKM (n : Nd) (S : Option Addr) (ats : List Nat) (cap g : Nat) (w : World) (hS : bG w S (sT ats)) (hl : ats.length ≤ 256) (hz : ∀ z ∈ ats, z < 2 ^ 64)
  (ht : n.op ≠ 12 → 0 ≤ n.t ∧ n.t < ats.length) (hr : pP n) (hg : g < w.heap.size) (hc : w.cell? ⟨g, 0, none⟩ = some (.slice S ats.length cap)) :
  Calls prog 69 #[.agg #[.int .i64 n.op, .int .i64 n.d, .int .i64 n.a, .int .i64 n.b, .int .i64 n.t, .int .i64 n.e], .pointer (some ⟨g, 0, none⟩)] w
   fun e w' => e = .returned (.bool (oM ats n)) ∧ Below w.heap.size w w' := by
 by_cases h1 : 1 ≤ n.op
 ·by_cases h8 : n.op ≤ 8
  ·obtain ⟨t0, t1⟩ := ht Zb
   obtain ⟨tt, htt⟩ := V7 t0
   obtain ⟨b, off, rfl, hb, ct⟩ := hS.u64 (k := tt) Zb
   have xt := qD hz tt
   have hd := hr.1 X1
   have hone := fun W => rW n.d.toNat Zb W
   rw [Ue hd.1] at hone
   have hp := kV (k := n.d.toNat) Zb
   have hm : oM ats n = (((ats.getD tt 0 &&& 2 ^ n.d.toNat : Nat) : Int) == 0) := by simp [oM, h1, h8, htt]
   rw [hm]
   generalize ats.getD tt 0 = x at *
   generalize (2 ^ n.d.toNat : Nat) = y at *
   have hand := bits_and_u64_nat x y xt hp
   have d1 : decide (1 ≤ n.op) = true := by simp [h1]
   have d8 : decide (n.op ≤ 8) = true := by simp [h8]
   have HO := bA hone
   have HA := bA hand
   obtain ⟨op, d, a, b0, t, e⟩ := n
   simp only at *
   subst htt
   clear hone hand hm hr ht hz hS hd hp
   go_enter func69, ntmps69
   go_wp2_with fail
   go_quiet ((go_at_call 70; exact Calls.quiet_of_same (HO.o _)))
   go_wp2_with fail
   go_ret
   exact ⟨by rw [← HA.o]; rfl, Yc⟩
  ·have hm : oM ats n = false := by simp [oM, h8]
   rw [hm]
   have d1 : decide (1 ≤ n.op) = true := by simp [h1]
   have d8 : decide (n.op ≤ 8) = false := by simp [h8]
   clear hm hr ht hz hS
   go_enter func69, ntmps69
   go_wp2_with fail
   go_quiet (fail)
   go_wp2_with fail
   go_ret
   exact ⟨rfl, Yc⟩
 ·have hm : oM ats n = false := by simp [oM, h1]
  rw [hm]
  have d1 : decide (1 ≤ n.op) = false := by simp [h1]
  clear hm hr ht hz hS
  go_enter func69, ntmps69
  go_wp2_with fail
  go_quiet (fail)
  go_wp2_with fail
  go_ret
  exact ⟨rfl, Yc⟩
def IdxAt (p : Nd → Bool) (l : List Nd) (w : World) (e : Ending) (w' : World) : Prop :=
 ((∃ (k : Nat) (x : Nd), e = .returned (.int .i64 k) ∧ l[k]? = some x ∧ p x = true) ∨ (e = .returned (.int .i64 (-1)) ∧ ∀ x ∈ l, p x = false)) ∧ Below w.heap.size w w'
theorem bDI (A S : Option Addr) (l : List Nd) (ats : List Nat) (cap cap2 g : Nat) (w : World) (hA : bH w A l) (hS : bG w S (sT ats)) (hl : ats.length ≤ 256) (hal : ats.length = l.length) (hz : ∀ z ∈ ats, z < 2 ^ 64)
  (ht : ∀ n ∈ l, n.op ≠ 12 → 0 ≤ n.t ∧ n.t < ats.length) (hr : ∀ n ∈ l, pP n) (hg : g < w.heap.size) (hc : w.cell? ⟨g, 0, none⟩ = some (.slice S ats.length cap2)) :
  Calls prog 64 #[.slice A l.length cap, .func (.func 69) #[] #[.pointer (some ⟨g, 0, none⟩)]] w (IdxAt (oM ats) l w) := by
 have hcall := fun (n : Nd) (hn : n ∈ l) W (hW : Below w.heap.size w W) => bKM n S ats cap2 g W (hS.below hW) hl hz (ht n hn) (hr n hn) (V6 hg hW.size) (((bB hW).1 _ _ hg).trans hc)
 have HCall := bA hcall
 have hll : l.length ≤ 256 := Zb
 clear hcall hc hr ht hz hS hal hl
 go_enter func64, ntmps64
 go_wp2_with fail
 go_loopg [8] (l.length) (fun gk i wr => ∃ k : Nat, k ≤ l.length ∧ i = .int .i64 k ∧ gk = l.length - k ∧ (∀ j x, j < k → l[j]? = some x → oM ats x = false) ∧ Below w.heap.size w wr)
 case atStart => exact ⟨0, Nat.zero_le _, rfl, rfl, fun j x hj => absurd hj Zb, Below.refl _ _⟩
 case round =>
  obtain ⟨k, hk, rfl, hgk, hno, hB⟩ := hrel
  have Hgk := bA hgk
  have Hno := bA hno
  have hz := hB.size
  clear hgk hno
  by_cases hlt : k < l.length
  ·obtain ⟨b, off, n, rfl, hbl, hkn, hn⟩ := hA.get hlt
   obtain ⟨c0, c1, c2, c3, c4, c5⟩ := hn.below hB hbl
   have hp := HCall.o n (V4 hkn) wr hB
   have Hkn := bA hkn
   have Hp := bA hp
   have hbw : b < wr.heap.size := Zb
   clear hp hkn hn hA
   cases hd : oM ats n
   case true =>
    have Hd := bA hd
    go_wp2_with (go_at_call 69; refine (Hp.o).mono ?_; rw [hd]; rintro e w1 ⟨rfl, hb1⟩)
    go_ret
    exact ⟨.inl ⟨k, n, rfl, Hkn.o, Hd.o⟩, Yc⟩
   case false =>
    have Hd := bA hd
    go_wp2_with (go_at_call 69; refine (Hp.o).mono ?_; rw [hd]; rintro e w1 ⟨rfl, hb1⟩)
    go_roundg (l.length - (k + 1))
    case measure => exact Jg
    case rel =>
     refine ⟨k + 1, Zb, by go_num, rfl, fun j x hj hx => ?_, Yc⟩
     by_cases hjk : j = k
     ·subst hjk
      rw [Hkn.o] at hx
      injection hx with hx
      subst hx
      exact Hd.o
     ·exact Hno.o j x Zb hx
  ·go_wp2_with fail
   go_ret
   refine ⟨.inr ⟨rfl, fun x hx => ?_⟩, hB⟩
   obtain ⟨j, hj, rfl⟩ := List.getElem_of_mem hx
   exact Hno.o j _ Zb (Vx hj)
theorem bIS {regs : Int} {l : List Nd} (hR : bM regs l) {ats : List Nat} (h : ∀ r : Nat, r < 64 → mL (fC l r) l.length (gB r ats)) {n : Nd} (hn : n ∈ l) : oM ats n = wV l n := by
 unfold oM wV
 by_cases h1 : 1 ≤ n.op ∧ n.op ≤ 8
 ·have hd := (hR.regs64 hn).1 X1
  rw [bAY, ← jE, mL.unique (h n.d.toNat Zb) (pZ l n.d.toNat)]
 ·have : (decide (1 ≤ n.op) && decide (n.op ≤ 8)) = false := by simp; omega
  rw [this]
  rfl
def bOS (regs : Int) (l : List Nd) (w : World) (e : Ending) (w' : World) : Prop :=
 ∃ (v : Value) (l' : List Nd), e = .returned (.tuple #[.agg #[.int .i64 regs, v], .int .i64 0]) ∧ tV l l' ∧ l'.length = l.length ∧ cO w' w.heap.size 39 v l' ∧ Below w.heap.size w w'
theorem bQO (regs : Int) (A : Option Addr) (l : List Nd) (cap : Nat) (w : World) (hA : bH w A l) (hR : bM regs l) (hc : chk regs l = 0) :
  Calls prog 37 #[.agg #[.int .i64 regs, .slice A l.length cap]] w (bOS regs l w) := by
 have hlo := hR.lo
 have hhi := hR.hi
 have hC := fun W (hW : Below w.heap.size w W) => fZ regs A l cap W Zw (hA.below hW)
 rw [hc] at hC
 have HC := bA hC
 have hCl := fun W (hW : Below w.heap.size w W) => kU A l cap W (hA.below hW) hlo Zb
 have HCl := bA hCl
 have HR := bA hR
 clear hC hc hR hCl
 go_enter func37, ntmps37
 go_wp2_with fail
 refine oV 0 (fun g a' w' => ∃ (GQ : Nat) (v : Value) (l' : List Nd) (u4 u6 u7 u8 u9 u10 u11 u12 u13 u14 u15 u16 u17 u18 u19 u20 u21 u22 u23 u24 u25 u26 u27 u28 u29 u30 u31 u32 u33 u34 u35 u36 u37 u38 u39 : Value), a' = { tmps := #[.agg #[.int .i64 regs, .slice A l.length cap], .pointer (some ⟨w.heap.size, 0, none⟩), .pointer (some ⟨w.heap.size + 1, 0, none⟩), .int .i64 0, u4, .pointer (some ⟨GQ, 0, none⟩), u6, u7, u8, u9, u10, u11, u12, u13, u14, u15, u16, u17, u18, u19, u20, u21, u22, u23, u24, u25, u26, u27, u28, u29, u30, u31, u32, u33, u34, u35, u36, u37, u38, u39], defers := [] } ∧ g = oO l' ∧ bM regs l' ∧ eQ l l' ∧ l'.length = l.length ∧
  w.heap.size + 2 ≤ GQ ∧ Blk w' GQ 24 #[.int .i64 regs, v] ∧ cO w' w.heap.size 39 v l' ∧ Blk w' (w.heap.size + 1) 24 #[.int .i64 0, .slice none 0 0] ∧ Below w.heap.size w w') rfl ?pass ?first
 case first =>
  intro again
  have Again := bA again
  clear again
  go_wp2_with fail
  refine (HC.o _ Yc).mono ?_
  rintro e w1 ⟨rfl, hb1⟩
  have hz1 := hb1.size
  simp only [World.size_alloc] at hz1
  have hP1 : Blk w1 w.heap.size 24 #[.int .i64 regs, .slice A l.length cap] := Blk.below (Blk.alloc (Blk.new' rfl) _) hb1 Zd
  have hQ1 : Blk w1 (w.heap.size + 1) 24 #[.int .i64 0, .slice none 0 0] := Blk.below (Blk.new' Zf) hb1 Zf
  have hB1 : Below w.heap.size w w1 := Yc
  have p0 := hP1.cell 0
  have p1 := hP1.cell 1
  simp only [Yl] at p0 p1
  have lp := hP1.lt
  clear hb1
  go_upto_region 4 with fail
  go_cut [5] (fun s5 wx => ∃ (GQ : Nat) (v : Value), s5 = .pointer (some ⟨GQ, 0, none⟩) ∧ w.heap.size + 2 ≤ GQ ∧ Blk wx GQ 24 #[.int .i64 regs, v] ∧ cO wx w.heap.size 39 v l ∧ Blk wx (w.heap.size + 1) 24 #[.int .i64 0, .slice none 0 0] ∧ Below w.heap.size w wx)
  case first =>
   go_region_with (first
    | (go_at_call 12; (first | with_reducible show Calls _ _ _ (World.drew (World.alloc _ _)) _ | with_reducible show Calls _ _ _ (World.alloc _ _) _); refine (HCl.o _ Yc).mono ?_; rintro e w2 ⟨v2, rfl, hr2, hb2⟩; obtain ⟨A2, c2, rfl, _, _⟩ := hr2.shape; have hz2 := hb2.size; simp only [World.size_alloc, World.size_drew] at hz2; have hP2 : Blk w2 w.heap.size 24 #[.int .i64 regs, .slice A l.length cap] := Blk.below Yd hb2 Zd; have hQ2 : Blk w2 (w.heap.size + 1) 24 #[.int .i64 0, .slice none 0 0] := Blk.below Yd hb2 Zd; have l2 := hP2.lt; have l3 := hQ2.lt; have q0 := hP2.cell 0; have q1 := hP2.cell 1; simp only [Yl] at q0 q1; have hG2 : Blk w2 w1.heap.size 24 #[.int .i64 0, .slice none 0 0] := Blk.below Yd hb2 Zd; have g0 := hG2.cell 0; have g1 := hG2.cell 1; have g2 := hG2.frozen 0; have g3 := hG2.frozen 1; simp only [Yl] at g0 g1)
    | (go_at_call 12; refine (HCl.o _ Yc).mono ?_; rintro e w2 ⟨v2, rfl, hr2, hb2⟩; obtain ⟨A2, c2, rfl, _, _⟩ := hr2.shape; have hz2 := hb2.size; simp only [World.size_alloc, World.size_drew] at hz2; have hP2 : Blk w2 w.heap.size 24 #[.int .i64 regs, .slice A l.length cap] := Blk.below Yd hb2 Zd; have hQ2 : Blk w2 (w.heap.size + 1) 24 #[.int .i64 0, .slice none 0 0] := Blk.below Yd hb2 Zd; have l2 := hP2.lt; have l3 := hQ2.lt; have q0 := hP2.cell 0; have q1 := hP2.cell 1; simp only [Yl] at q0 q1))
   all_goals (go_wp2_with fail)
   all_goals go_meet
   all_goals go_tidy
   all_goals (first
    | (refine ⟨w2.heap.size, .slice A2 l.length c2, rfl, Zb, Yd, (hr2.alloc _).mono Zd, hQ2.alloc _, ?_⟩; exact Yc)
    | (refine ⟨w1.heap.size, .slice A2 l.length c2, rfl, Zb, (hG2.set_ 0 _).set_ 1 _, ((hr2.far (hr2.ne_blk hG2 Ze) _).far (hr2.ne_blk hG2 Ze) _).mono Zd, (hQ2.far Zd _).far Zd _, ?_⟩; exact Yc)
    | trace_state)
  case rest =>
   obtain ⟨GQ, v, rfl, hGQ, hQ, hN, hRes, hBc⟩ := hcut
   go_wp2_with fail
   go_step3
   rename_i K hK
   refine hK _ _ ?_
   exact Again.out _ _ _ ⟨GQ, v, l, _, _, _, _, _, _, _, _, _, _, _, _, _, _, _, _, _, _, _, _, _, _, _, _, _, _, _, _, _, _, _, _, _, _, _, rfl, rfl, HR.o, eQ.nil l, rfl, hGQ, hQ, hN, hRes, hBc⟩
 case pass =>
  rintro g a' wr ⟨GQ, v, l', u4, u6, u7, u8, u9, u10, u11, u12, u13, u14, u15, u16, u17, u18, u19, u20, u21, u22, u23, u24, u25, u26, u27, u28, u29, u30, u31, u32, u33, u34, u35, u36, u37, u38, u39, rfl, hg, hR', hH, hll, hGQ, hQ, hN, hRes, hB⟩
  obtain ⟨A2, c2, rfl, _, _⟩ := hN.shape
  have hz := hB.size
  have q0 := hQ.cell 0
  have q1 := hQ.cell 1
  have qf := hQ.lt
  simp only [Yl] at q0 q1
  have hnd := hN.nodes
  have hS := bME regs A2 l' c2 wr hnd hR'
  have HS := bA hS
  have Hg := bA hg
  have HR' := bA hR'
  have HH := bA hH
  have Hll := bA hll
  have HQ := bA hQ
  have HN := bA hN
  have HRes := bA hRes
  have lres := hRes.lt
  clear hS hg hR' hH hll hQ hN hRes
  go_wp2_with fail
  refine (HS.o).mono ?_
  rintro e w2 ⟨ats, v2, ⟨hal, hz64, hlst⟩, rfl, hr2, hb2⟩
  obtain ⟨S2, d2, rfl, _, _⟩ := hr2.shape
  have hz2 := hb2.size
  rw [mB] at *
  have q0' := ((bB hb2).1 _ _ qf).trans q0
  have q1' := ((bB hb2).1 _ _ qf).trans q1
  have hidx := fun (B : Nat) => bDI A2 S2 l' ats c2 d2 w2.heap.size (w2.alloc (.cells #[.slice S2 ats.length d2] 123)) (hnd.below (hb2.alloc hz2 _)) (hr2.vals.below ((Bnq _ _))) (by rw [hal, Hll.o]; exact hhi) hal hz64
   (fun n hn h12 => by have := HR'.o.then_ hn h12; omega) (fun n hn => HR'.o.regs64 hn) Zf Zf
  have HIdx := bA (hidx 0)
  have Hlst := bA hlst
  have qf' : GQ < w2.heap.size := Zb
  clear hidx hal hz64 hlst hr2 q0 q1
  go_wp2_with fail
  refine (HIdx.o).mono ?_
  rintro e w3 ⟨hk, hb3⟩
  have hz3 := hb3.size
  simp only [World.size_alloc] at hz3
  have hB3 : Below wr.heap.size wr w3 := (hb2.alloc hz2 _).trans (hb3.mono Zh)
  have HQ3 := bA (HQ.o.below hB3 qf)
  have HN3 := bA (HN.o.below' hB3)
  have HRes3 := bA (HRes.o.below hB3 lres)
  have q0 := HQ3.o.cell 0
  have q1 := HQ3.o.cell 1
  simp only [Yl] at q0 q1
  have hB3' : Below w.heap.size w w3 := hB.trans (hB3.mono hz)
  clear q0' q1' hb3 hnd HIdx hb2
  rcases hk with ⟨k, x, rfl, hk, hdead⟩ | ⟨rfl, hall⟩
  ·have hkl : k < l'.length := (List.getElem?_eq_some_iff.1 hk).1
   obtain ⟨gN, cN, x', e1, hgB, hgl, hx', hlies, hfr⟩ := HN3.o.get hkl
   injection e1 with e1 e2 e3
   subst e1 e3
   rw [hk] at hx'
   injection hx' with hx'
   subst hx'
   obtain ⟨c0, c1, c2', c3, c4, c5⟩ := hlies
   have f0 := hfr (k * 6) Zb
   have f1 := hfr (k * 6 + 1) Zb
   have f2 := hfr (k * 6 + 2) Zb
   have f3 := hfr (k * 6 + 3) Zb
   have f4 := hfr (k * 6 + 4) Zb
   have f5 := hfr (k * 6 + 5) Zb
   obtain ⟨k0, k1⟩ := Ikq (k := k) (n := l'.length) (by omega)
   have Hk := bA hk
   have Hdead := bA hdead
   clear hk hdead hfr
   go_wp2_with fail
   go_region
   all_goals go_wp2_with fail
   all_goals go_step3
   all_goals (
    have hDN : fR l' k := (qH HR'.o Hk.o).1 (by rw [← bIS HR'.o Hlst.o (V4 Hk.o)]; exact Hdead.o)
    have hop : 1 ≤ x.op ∧ x.op ≤ 8 := by
     obtain ⟨y, hy, h1, h8, _⟩ := id hDN
     rw [Hk.o] at hy
     injection hy with hy
     subst hy
     exact ⟨h1, h8⟩
    have hne := HN3.o.ne_blk HQ3.o Ze
    have hne2 := HN3.o.ne_blk HRes3.o Ze
    have g1 : gN ≠ GQ := fun e => hne Xz
    have g2 : gN ≠ w.heap.size + 1 := fun e => hne2 Xz
    have hput := HN3.o.put6 Hk.o (xX x)
    refine ⟨rfl, oO (eP l' k), by rw [Hg.o]; exact wZ Hk.o Zb, GQ, .slice (some ⟨gN, 0, none⟩) l'.length c2, eP l' k, _, _, _, _, _, _, _, _, _, _, _, _, _, _, _, _, _, _, _, _, _, _, _, _, _, _, _, _, _, _, _, _, _, _, _, rfl, rfl, HR'.o.hush Hk.o Zb, HH.o.snoc hDN, by rw [wM]; exact Hll.o, hGQ, ?_, ?_, ?_, ?_⟩
    ·exact Blk.drew ((((((HQ3.o.far (Ne.symm g1) _).far (Ne.symm g1) _).far (Ne.symm g1) _).far (Ne.symm g1) _).far (Ne.symm g1) _).far (Ne.symm g1) _)
    ·rw [qB Hk.o]
     exact bO.drew hput
    ·exact Blk.drew ((((((HRes3.o.far (Ne.symm g2) _).far (Ne.symm g2) _).far (Ne.symm g2) _).far (Ne.symm g2) _).far (Ne.symm g2) _).far (Ne.symm g2) _)
    ·exact Below.drew ((((((hB3'.setCell hgB _).setCell hgB _).setCell hgB _).setCell hgB _).setCell hgB _).setCell hgB _))
  ·have r0 := HRes3.o.cell 0
   have r1 := HRes3.o.cell 1
   have r2 := HRes3.o.frozen 0
   have r3 := HRes3.o.frozen 1
   simp only [Yl] at r0 r1
   have Hall := bA hall
   clear hall
   go_wp2_with fail
   go_tidy
   simp only [Exit.jump]
   refine bodyPost_ret (v := .tuple #[.agg #[.int .i64 regs, .slice A2 l'.length c2], .int .i64 0]) (by simp [results, results37, go_sem, r0, r1, Vw, Vv]) rfl ?_
   have hne2 := HN3.o.ne_blk HRes3.o Ze
   refine ⟨_, l', rfl, ⟨HH.o, bCQ HR'.o fun n hn => ?_⟩, Hll.o, (HN3.o.far hne2 _).far hne2 _, (hB3'.setCell Zf _).setCell Zf _⟩
   rw [← bIS HR'.o Hlst.o hn]
   exact Hall.o n hn
end
section
open Go.RowKit
open Go.Shelf Go.Lib
attribute [local irreducible] Row
def qC : Go.Shelf.Ren := ⟨fun | 4 => 146 | n => n, fun | 22 => 74 | 25 => 4 | 3 => 3 | 4 => 4 | 9 => 9 | 20 => 20 | 0 => 0 | n => n, fun | n => n⟩
theorem growB : Go.Proofs.Lays8.n4 prog qC := {
 mixed := Zc
 f4 := ⟨f146.name, Ze, func146.trans (congrArg some Zc)⟩
 t0 := underlying0
 a0 := isAgg0
 z0 := sizeOf0
 v0 := zeroValue0
 t3 := underlying3
 a3 := isAgg3
 z3 := sizeOf3
 v3 := zeroValue3
 t4 := underlying4
 a4 := isAgg4
 z4 := sizeOf4
 v4 := zeroValue4
 t9 := underlying9
 a9 := isAgg9
 z9 := sizeOf9
 v9 := zeroValue9
 t20 := underlying20
 a20 := isAgg20
 z20 := sizeOf20
 v20 := zeroValue20
 t22 := underlying74
 a22 := isAgg74
 z22 := sizeOf74
 v22 := zeroValue74 }
theorem bKY (ib : TypeInfo) (hbi : prog.info? 4 = some ib) (hbz : ib.zero = some (.bool false)) (hbs : ib.size = 1) (hbb : ib.bytes = 1) (n : Nat) (w : World) (h1 : 1 ≤ n) (h2 : n ≤ 65536) :
 Calls prog 146 #[.slice none 0 0, .int .i64 n] w fun e w' => ∃ G, e = .returned (.slice (some ⟨w.heap.size, 0, none⟩) 0 G) ∧ Row w' w.heap.size 4 (.slice (some ⟨w.heap.size, 0, none⟩) 0 G) (bE []) ∧ Below w.heap.size w w' := by (
 have h := Any8.slices_Grow_grow growB ib (.bool false) hbi hbz Zb none 0 0 n [] w Zb Zb (by rw [hbb]; omega) Zb Zf (fun _ => rfl) (fun a ha => by cases ha)
 refine h.mono ?_
 rintro e w' ⟨rfl, rfl⟩
 have hge := grownCap_ge w (0 + n) 0 (qC.t 25)
 have hle := grownCap_le_maxLen w (0 + n) 0 (qC.t 25) Zw
 generalize grownCap w (0 + n) 0 (qC.t 25) = G at hge hle ⊢
 refine ⟨G, rfl, ?_, ?_⟩
 · (
 unfold Row
 refine .inr ⟨w.heap.size, 0, G, [].toArray ++ Builtin.zeroCells (Value.bool false).cells (0 + n - 0) ++ Builtin.zeroCells (Value.bool false).cells (G - (0 + n)), rfl, Nat.le_refl _, ?_, Nat.zero_le _, hle, ?_, fun j x hx => by simp [bE] at hx⟩
 · (
 have hb := Blk.new' (w := w.drew) (g := w.heap.size) (t := 4) (cs := [].toArray ++ Builtin.zeroCells (Value.bool false).cells (0 + n - 0) ++ Builtin.zeroCells (Value.bool false).cells (G - (0 + n))) rfl
 unfold Blk at hb
 exact hb)
 · (
 simp [size_zeroCells, Value.cells]
 omega))
 · exact Below.alloc ((Below.refl _ _).drew) Zf _)
theorem bHZ (sb : Nat) (X Y : Option Addr) (x y : List Bool) (xc yc : Nat) (w : World) (hs : Blk w sb 74 #[.slice X x.length xc, .slice Y y.length yc]) (hX : bG w X (bE x)) (hY : bG w Y (bE y)) (hx : 1 ≤ x.length ∧ x.length ≤ 256) (hy : 1 ≤ y.length ∧ y.length ≤ 256) :
 Calls prog 99 #[.slice (some ⟨sb, 0, none⟩) 2 2] w fun e w' => ∃ v, e = .returned v ∧ Row w' w.heap.size 4 v (bE (x ++ y)) ∧ Below w.heap.size w w' := by (
 obtain ⟨hx1, hx2⟩ := hx
 obtain ⟨hy1, hy2⟩ := hy
 obtain ⟨ib, hbi, hbz, hbs, hbb⟩ := info_parts gR
 have HG := bA (fun W => bKY ib hbi hbz hbs hbb (x.length + y.length) W Zb Zb)
 refine Vt fun HX HY => ?_
 have HS := bA (fun W (hW : Below w.heap.size w W) => hs.below hW hs.lt)
 have c0 := hs.cell 0
 have c1 := hs.cell 1
 have ls := hs.lt
 simp only [Yl] at c0 c1
 clear hX hY hs
 go_enter func99, ntmps99
 go_wp2_with fail
 go_loopg [3, 11] (2) (fun gk sz i wr => wr = w ∧ ((i = .int .i64 0 ∧ sz = .int .i64 0 ∧ gk = 2) ∨ (i = .int .i64 1 ∧ sz = .int .i64 x.length ∧ gk = 1) ∨ (i = .int .i64 2 ∧ sz = .int .i64 ((x.length : Int) + (y.length : Int)) ∧ gk = 0)))
 case atStart => exact ⟨rfl, .inl ⟨rfl, rfl, rfl⟩⟩
 case round => (
 obtain ⟨rfl, hrel⟩ := hrel
 rcases hrel with ⟨rfl, rfl, rfl⟩ | ⟨rfl, rfl, rfl⟩ | ⟨rfl, rfl, rfl⟩
 · (
 have q : ¬ ((x.length : Int) < 0) := Zb
 go_wp2_with fail
 go_roundg (1)
 case measure => omega
 case rel => exact ⟨rfl, .inr (.inl ⟨rfl, by go_num, rfl⟩)⟩)
 · (
 have q : ¬ ((x.length : Int) + (y.length : Int) < 0) := Zb
 have q2 : wrap64 ((x.length : Int) + (y.length : Int)) = (x.length : Int) + (y.length : Int) := by unfold wrap64; omega
 go_wp2_with fail
 go_roundg (0)
 case measure => omega
 case rel => exact ⟨rfl, .inr (.inr ⟨rfl, by go_num, rfl⟩)⟩)
 · (
 obtain ⟨w0, rfl⟩ := Exq wr
 go_wp2_with fail
 refine (HG.o w0).mono ?_
 rintro e w1 ⟨G, rfl, hr, hb⟩
 have d0 := (HS.o _ hb).cell 0
 have d1 := (HS.o _ hb).cell 1
 have ds := (HS.o _ hb).lt
 simp only [Yl] at d0 d1
 have HR := bA hr
 have HB := bA hb
 clear hr c0 c1 ls hb
 go_wp2_with fail
 go_loopg [6, 27] (2) (fun gk v i wr => Below w0.heap.size w0 wr ∧ ((i = .int .i64 0 ∧ v = .slice (some ⟨w0.heap.size, 0, none⟩) 0 G ∧ Row wr w0.heap.size 4 v (bE []) ∧ gk = 2) ∨ (i = .int .i64 1 ∧ Row wr w0.heap.size 4 v (bE x) ∧ gk = 1) ∨ (i = .int .i64 2 ∧ Row wr w0.heap.size 4 v (bE (x ++ y)) ∧ gk = 0)))
 case atStart => exact ⟨HB.o, .inl ⟨rfl, rfl, HR.o, rfl⟩⟩
 case round => (
 clear HR HB d0 d1 ds
 obtain ⟨hb, hrel⟩ := hrel
 have c0 := (HS.o _ hb).cell 0
 have c1 := (HS.o _ hb).cell 1
 have ls := (HS.o _ hb).lt
 have hz := hb.size
 simp only [Yl] at c0 c1
 have HB := bA hb
 clear hb
 rcases hrel with ⟨rfl, rfl, hr, rfl⟩ | ⟨rfl, hr, rfl⟩ | ⟨rfl, hr, rfl⟩
 · (
 have HR := bA hr
 clear hr
 go_wp2_with (at_builtin; refine bV (v := .slice (some ⟨w0.heap.size, 0, none⟩) 0 G) rfl _ _ _ rfl ib _ 1 underlying74 hbi hbz hbs hbb rfl rfl HR.o X x.length xc (bE x) rfl (by rw [bD]) (HX.o _ HB.o) (fun u hu => by obtain ⟨b, _, rfl⟩ := List.mem_map.1 hu; rfl) (by simp [bE, maxLen]; omega) (by simp [bE]; omega) Zb ?_; intro v5 w5 hr5 hg5 hat5)
 go_roundg (1)
 case measure => omega
 case rel => exact ⟨HB.o.grown hg5 hz (fun q hq => (HR.o.lt q hq).1), .inr (.inl ⟨by go_num, hr5, rfl⟩)⟩)
 · (
 obtain ⟨A4, c4, rfl, _, _⟩ := hr.shape
 have HR := bA hr
 clear hr
 go_wp2_with (at_builtin; refine bV (v := .slice A4 (bE x).length c4) rfl _ _ _ rfl ib _ 1 underlying74 hbi hbz hbs hbb rfl rfl HR.o Y y.length yc (bE y) rfl (by rw [bD]) (HY.o _ HB.o) (fun u hu => by obtain ⟨b, _, rfl⟩ := List.mem_map.1 hu; rfl) (by simp [bE, maxLen]; omega) (by simp [bE]; omega) Zb ?_; intro v5 w5 hr5 hg5 hat5)
 go_roundg (0)
 case measure => omega
 case rel => exact ⟨HB.o.grown hg5 hz (fun q hq => (HR.o.lt q hq).1), .inr (.inr ⟨by go_num, by rw [show bE (x ++ y) = bE x ++ bE y by simp [bE]]; exact hr5, rfl⟩)⟩)
 · (
 obtain ⟨A4, c4, rfl, _, _⟩ := hr.shape
 have HR := bA hr
 clear hr
 go_wp2_with fail
 go_ret
 exact ⟨_, rfl, HR.o, HB.o⟩)))))
end
section
open Go.RowKit
theorem bHU (x : List Bool) (A : Option Addr) (cap : Nat) (w : World) (h : bG w A (bE x)) (hl : x.length ≤ maxLen) :
 Calls prog 145 #[.slice A x.length cap, .bool true] w fun e w' => (∃ i : Int, e = .returned (.int .i64 i) ∧ decide (0 ≤ i) = x.any id) ∧ w' = w := by (
 unfold maxLen at hl
 go_enter func145, ntmps145
 go_wp2_with fail
 go_loopg [8] (x.length) (fun gk i wr => ∃ k : Nat, k ≤ x.length ∧ i = .int .i64 k ∧ gk = x.length - k ∧ (∀ j, j < k → yn x j = false) ∧ wr = w)
 case atStart => exact ⟨0, Nat.zero_le _, rfl, rfl, fun j hj => by omega, rfl⟩
 case round => (
 obtain ⟨k, hk, rfl, hgk, hno, rfl⟩ := hrel
 have Hgk := bA hgk
 have Hno := bA hno
 clear hgk hno
 by_cases hlt : k < x.length
 · (
 obtain ⟨b, off, rfl, hb, hc⟩ := h.bool hlt
 obtain ⟨u0, u1⟩ := Ikq (k := k) (n := x.length) (by omega)
 clear h
 cases hy : yn x k
 case false => (
 rw [hy] at hc
 have Hy := bA hy
 clear hy
 go_wp2_with fail
 go_roundg (x.length - (k + 1))
 case measure => exact Jg
 case rel => (
 refine ⟨k + 1, Zb, by go_num, rfl, ?_, rfl⟩
 intro j hj
 by_cases e : j = k
 · rw [e]; exact Hy.o
 · exact Hno.o j Zb))
 case true => (
 rw [hy] at hc
 have ha : x.any id = true := by (
 rw [List.any_eq_true]
 exact ⟨x[k], List.getElem_mem hlt, by simpa [yn, hlt] using hy⟩)
 have Ha := bA ha
 clear hy ha
 go_wp2_with fail
 go_ret
 exact ⟨⟨k, rfl, by rw [Ha.o]; exact decide_eq_true u0⟩, rfl⟩))
 · (
 have ha : x.any id = false := by (
 rw [List.any_eq_false]
 intro z hz
 obtain ⟨i, hi, rfl⟩ := List.getElem_of_mem hz
 have := Hno.o i Zb
 simpa [yn, hi] using this)
 have Ha := bA ha
 clear ha
 go_wp2_with fail
 go_ret
 exact ⟨⟨-1, rfl, by rw [Ha.o]; rfl⟩, rfl⟩)))
theorem yH (x : List Bool) (A : Option Addr) (cap : Nat) (w : World) (h : bG w A (bE x)) (hl : x.length ≤ maxLen) :
 Calls prog 98 #[.slice A x.length cap, .bool true] w fun e w' => e = .returned (.bool (x.any id)) ∧ w' = w := by (
 have HI := bA (bHU x A cap w h hl)
 clear h
 generalize x.any id = q at *
 go_enter func98, ntmps98
 go_wp2_with (go_at_call 145; refine (HI.o).mono ?_; rintro e w1 ⟨⟨i, rfl, hi⟩, rfl⟩)
 go_ret
 exact ⟨by rw [← hi]; rfl, rfl⟩)
end
end Go.Proofs.YtmghkonmfbpjcabGreatDoor
