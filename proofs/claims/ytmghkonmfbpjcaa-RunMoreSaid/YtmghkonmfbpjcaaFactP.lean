/- Plain law: the facts of a term, and greatest answers by turns that are told beforehand. No program in sight. -/
import Derived.Test.YtmghkonmfbpjcaaFlowP
import Derived.Test.YtmghkonmfbpjcaaLeast
namespace Go.Proofs.Ytmghkonmfbpjcaa
set_option linter.unusedVariables false
set_option linter.unusedSimpArgs false
open Go.RowKit

/-- the list of n yes and no -/
def mk (n : Nat) (f : Nat → Bool) : List Bool := (List.range n).map f
theorem mk_len (n : Nat) (f : Nat → Bool) : (mk n f).length = n := by simp [mk]
theorem yn_mk {n : Nat} {f : Nat → Bool} {k : Nat} (hk : k < n) : yn (mk n f) k = f k := by simp [yn, mk, hk]
theorem mk_congr {n : Nat} {f g : Nat → Bool} (h : ∀ k, k < n → f k = g k) : mk n f = mk n g := by
  unfold mk
  exact List.map_congr_left fun k hk => h k (by simpa using hk)
theorem mk_yn {x : List Bool} {n : Nat} (h : x.length = n) : mk n (yn x) = x := ext_yn (by rw [mk_len, h]) fun i hi => by rw [mk_len] at hi; exact yn_mk hi
theorem mk_le {n : Nat} {f g : Nat → Bool} (h : ∀ j, f j = true → g j = true) : leB (mk n f) (mk n g) := fun j hj => by
  by_cases hn : j < n
  · rw [yn_mk hn] at *; exact h j hj
  · rw [yn_out (by rw [mk_len]; omega)] at hj; cases hj

section
variable {S S' : List Bool → Nat → Bool} {n : Nat}
/-- its own yes is taken for granted -/
def selfT (S : List Bool → Nat → Bool) (n : Nat) (x : List Bool) (k : Nat) : Bool := S (mk n fun j => yn x j || j == k) k
theorem selfT_mono (hm : Mono S) : Mono (selfT S n) := fun x y i h hs => hm _ _ _ (mk_le fun j hj => by
  simp only [Bool.or_eq_true] at *
  exact hj.imp (h j) id) hs
theorem selfT_set {x : List Bool} {k : Nat} (hl : x.length = n) (hk : k < n) : (mk n fun j => yn x j || j == k) = x.set k true := by
  refine ext_yn (by rw [mk_len]; simp [hl]) fun i hi => ?_
  rw [mk_len] at hi
  rw [yn_mk hi, yn_set _ _ _ _ (by rw [hl]; exact hk)]
  by_cases h : i = k
  · simp [h]
  · simp [h]
/-- the greatest answer stays the greatest -/
theorem Great.self (hm : Mono S) {y : List Bool} (h : Great S n y) : Great (selfT S n) n y := by
  obtain ⟨⟨hl, ha⟩, hab⟩ := h
  refine ⟨⟨hl, fun i hi => ?_⟩, hl, fun z hz => hab.2 z ⟨hz.1, fun i hi hzi => ?_⟩⟩
  · unfold selfT
    rw [selfT_set hl hi, Bool.eq_iff_iff]
    have hle : leB y (y.set i true) := fun j hj => by
      rw [yn_set _ _ _ _ (by rw [hl]; exact hi)]
      split
      · rfl
      · exact hj
    refine ⟨fun hy => hm _ _ _ hle (by rw [← ha i hi]; exact hy), fun hs => ?_⟩
    refine hab.2 (y.set i true) ⟨by simpa using hl, fun j hj hjz => ?_⟩ i (by rw [yn_set _ _ _ _ (by rw [hl]; exact hi), if_pos rfl])
    by_cases hji : j = i
    · subst hji; exact hs
    · rw [yn_set _ _ _ _ (by rw [hl]; exact hi), if_neg hji] at hjz
      exact hm _ _ _ hle (by rw [← ha j hj]; exact hjz)
  · have := hz.2 i hi hzi
    unfold selfT at this
    rw [selfT_set hz.1 hi, set_yn (by rw [hz.1]; exact hi) hzi] at this
    exact this
theorem Great.congr {y : List Bool} (h : Great S n y) (e : ∀ x, x.length = n → ∀ k, k < n → S x k = S' x k) : Great S' n y := by
  obtain ⟨⟨hl, ha⟩, hab⟩ := h
  exact ⟨⟨hl, fun i hi => by rw [← e y hl i hi]; exact ha i hi⟩, hl, fun z hz => hab.2 z ⟨hz.1, fun i hi hzi => by rw [e z hz.1 i hi]; exact hz.2 i hi hzi⟩⟩

/-- in the midst of turn c, node k is next -/
def Sweep (S : List Bool → Nat → Bool) (n c k : Nat) (x : List Bool) : Prop :=
  Above S n x ∧ (∀ i, i < n → S x i = true → yn x i = true) ∧ ((∀ i, i < n → yn x i = true → S x i = true) ∨ cnt x + c + 1 ≤ n ∨ (cnt x + c ≤ n ∧ ∀ i, i < k → yn x i = true → S x i = true))
theorem Sweep.start {x : List Bool} (hl : x.length = n) (h : ∀ i, i < n → yn x i = true) : Sweep S n 0 0 x :=
  ⟨Above.start hl h, fun i hi _ => h i hi, .inr (.inr ⟨by have := cnt_le x; omega, fun i hi => by omega⟩)⟩
theorem Sweep.len {c k : Nat} {x : List Bool} (h : Sweep S n c k x) : x.length = n := h.1.1
theorem Sweep.step (hm : Mono S) {c k : Nat} {x : List Bool} (h : Sweep S n c k x) (hk : k < n) {b : Bool} (hb : b = S x k) : Sweep S n c (k + 1) (x.set k b) := by
  subst hb
  obtain ⟨ha, hd, hs⟩ := h
  have hkx : k < x.length := by rw [ha.1]; exact hk
  by_cases he : yn x k = S x k
  · rw [set_yn hkx he]
    refine ⟨ha, hd, hs.imp id (Or.imp id fun ⟨h1, h2⟩ => ⟨h1, fun i hi hy => ?_⟩)⟩
    by_cases hik : i = k
    · subst hik; rw [← he]; exact hy
    · exact h2 i (by omega) hy
  · have hsf : S x k = false := by
      cases hq : S x k with
      | false => rfl
      | true => exact absurd ((hd k hk hq).trans hq.symm) he
    have hyt : yn x k = true := by
      cases hq : yn x k with
      | true => rfl
      | false => exact absurd (hq.trans hsf.symm) he
    rw [hsf]
    have hle : leB (x.set k false) x := fun j hj => by
      rw [yn_set _ _ _ _ hkx] at hj
      split at hj
      · cases hj
      · exact hj
    refine ⟨ha.drop hm hk hsf, fun i hi hsi => ?_, ?_⟩
    · have h1 := hm _ _ _ hle hsi
      rw [yn_set _ _ _ _ hkx, if_neg (by rintro rfl; rw [hsf] at h1; cases h1)]
      exact hd i hi h1
    · have hc := cnt_set hkx hyt
      rcases hs with h1 | h1 | ⟨h1, _⟩
      · have := h1 k hk hyt
        rw [hsf] at this
        cases this
      · exact .inr (.inl (by omega))
      · exact .inr (.inl (by omega))
theorem Sweep.turn {c : Nat} {x : List Bool} (h : Sweep S n c n x) : Sweep S n (c + 1) 0 x := by
  obtain ⟨ha, hd, hs⟩ := h
  refine ⟨ha, hd, ?_⟩
  rcases hs with h1 | h1 | ⟨_, h1⟩
  · exact .inl h1
  · exact .inr (.inr ⟨by omega, fun i hi => by omega⟩)
  · exact .inl h1
theorem Sweep.great (hm : Mono S) {c : Nat} {x : List Bool} (h : Sweep S n c 0 x) (hc : n < c) : Great S n x := by
  obtain ⟨ha, hd, hs⟩ := h
  refine ha.great hm ?_
  rcases hs with h1 | h1 | ⟨h1, _⟩
  · exact h1
  · omega
  · omega
end

/-- a term: operation, operands -/
structure Tm where
  op : Int
  a : Int
  b : Int
def recB (t : Tm) (n : Nd) : Bool := n.op == t.op && n.a == t.a && n.b == t.b
def keepB (t : Tm) (n : Nd) : Bool := !hasD n.op || n.d != t.a && n.d != t.b
def nd (l : List Nd) (k : Nat) : Nd := l.getD k ⟨0, 0, 0, 0, 0, 0⟩
theorem nd_get {l : List Nd} {k : Nat} {n : Nd} (h : l[k]? = some n) : nd l k = n := by simp [nd, List.getD_eq_getElem?_getD, h]
def recL (t : Tm) (l : List Nd) : List Bool := mk l.length fun k => recB t (nd l k)
def keepL (t : Tm) (l : List Nd) : List Bool := mk l.length fun k => keepB t (nd l k)
def noL (n : Nat) : List Bool := List.replicate n false
def notL (x : List Bool) : List Bool := mk x.length fun k => !yn x k
theorem notL_len (x : List Bool) : (notL x).length = x.length := mk_len _ _
theorem yn_no (n k : Nat) : yn (noL n) k = false := by
  unfold noL yn
  rw [List.getD_eq_getElem?_getD, List.getElem?_replicate]
  split <;> rfl
theorem yn_not {x : List Bool} {k : Nat} (hk : k < x.length) : yn (notL x) k = !yn x k := yn_mk hk
def earlyL (t : Tm) (l : List Nd) (d u : List Bool) : List Bool := mk l.length fun k => yn d k && ((edgesOf false l k).length == 0 || (edgesOf false l k).any fun m => !yn (keepL t l) m.toNat || !yn d m.toNat && !yn u m.toNat)
def lateL (t : Tm) (l : List Nd) (y : List Bool) : List Bool := mk l.length fun k => yn y k && (yn (recL t l) k || (edgesOf true l k).any fun m => !yn y m.toNat)
/-- the facts -/
structure Fx where
  down : List Bool
  up : List Bool
  early : List Bool
  delay : List Bool
  late : List Bool
  alone : List Bool
structure IsFx (t : Tm) (l : List Nd) (F : Fx) : Prop where
  down : Great (flowS true false (recL t l) (keepL t l) (noL l.length) (notL (noL l.length)) l) l.length F.down
  up : Great (flowS false false (noL l.length) (notL (noL l.length)) (mk l.length fun k => yn (keepL t l) k && yn (recL t l) k) (keepL t l) l) l.length F.up
  early : F.early = earlyL t l F.down F.up
  delay : Great (flowS false false F.early (notL (noL l.length)) (noL l.length) (notL (recL t l)) l) l.length F.delay
  late : F.late = lateL t l F.delay
  alone : Great (flowS true true (noL l.length) (notL (noL l.length)) F.late (notL (recL t l)) l) l.length F.alone
theorem IsFx.unique {t : Tm} {l : List Nd} {F G : Fx} (hF : IsFx t l F) (hG : IsFx t l G) : F = G := by
  obtain ⟨a, b, c, d, e, f⟩ := F
  obtain ⟨a', b', c', d', e', f'⟩ := G
  obtain ⟨h1, h2, h3, h4, h5, h6⟩ := hF
  obtain ⟨g1, g2, g3, g4, g5, g6⟩ := hG
  simp only at *
  have e1 := h1.unique g1
  have e2 := h2.unique g2
  subst e1 e2
  have e3 : c = c' := h3.trans g3.symm
  subst e3
  have e4 := h4.unique g4
  subst e4
  have e5 : e = e' := h5.trans g5.symm
  subst e5
  have e6 := h6.unique g6
  subst e6
  rfl
theorem IsFx.len {t : Tm} {l : List Nd} {F : Fx} (h : IsFx t l F) : F.down.length = l.length ∧ F.up.length = l.length ∧ F.early.length = l.length ∧ F.delay.length = l.length ∧ F.late.length = l.length ∧ F.alone.length = l.length :=
  ⟨h.down.1.1, h.up.1.1, by rw [h.early]; exact mk_len _ _, h.delay.1.1, by rw [h.late]; exact mk_len _ _, h.alone.1.1⟩
end Go.Proofs.Ytmghkonmfbpjcaa
