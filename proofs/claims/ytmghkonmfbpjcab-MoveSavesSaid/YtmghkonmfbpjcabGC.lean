/- FactP FactQ GraphP GraphT NRow GraphU Ms1 RunQ RunV. -/
import Derived.Test.YtmghkonmfbpjcabGB
import Derived.Test.YtmghkonmfbpjcabGA
set_option linter.unusedVariables false
set_option linter.unusedSimpArgs false
namespace Go.Proofs.Ytmghkonmfbpjcab
section
open Go.RowKit
def mk (n : Nat) (f : Nat → Bool) : List Bool := (List.range n).map f
theorem mk_len (n : Nat) (f : Nat → Bool) : (mk n f).length = n := by simp [mk]
theorem yn_mk {n : Nat} {f : Nat → Bool} {k : Nat} (hk : k < n) : yn (mk n f) k = f k := by simp [yn, mk, hk]
theorem mk_congr {n : Nat} {f g : Nat → Bool} (h : ∀ k, k < n → f k = g k) : mk n f = mk n g := by (
 unfold mk
 exact List.map_congr_left fun k hk => h k (by simpa using hk))
theorem mk_yn {x : List Bool} {n : Nat} (h : x.length = n) : mk n (yn x) = x := ext_yn (by rw [mk_len, h]) fun i hi => by rw [mk_len] at hi; exact yn_mk hi
theorem mk_le {n : Nat} {f g : Nat → Bool} (h : ∀ j, f j = true → g j = true) : leB (mk n f) (mk n g) := fun j hj => by (
 by_cases hn : j < n
 · rw [yn_mk hn] at *; exact h j hj
 · rw [yn_out (by rw [mk_len]; omega)] at hj; cases hj)
section
variable {S S' : List Bool → Nat → Bool} {n : Nat}
def selfT (S : List Bool → Nat → Bool) (n : Nat) (x : List Bool) (k : Nat) : Bool := S (mk n fun j => yn x j || j == k) k
theorem selfT_mono (hm : Mono S) : Mono (selfT S n) := fun x y i h hs => hm _ _ _ (mk_le fun j hj => by
 simp only [Bool.or_eq_true] at *
 exact hj.imp (h j) id) hs
theorem selfT_set {x : List Bool} {k : Nat} (hl : x.length = n) (hk : k < n) : (mk n fun j => yn x j || j == k) = x.set k true := by (
 refine ext_yn (by rw [mk_len]; simp [hl]) fun i hi => ?_
 rw [mk_len] at hi
 rw [yn_mk hi, yn_set _ _ _ _ (by rw [hl]; exact hk)]
 by_cases h : i = k
 · simp [h]
 · simp [h])
theorem Great.self (hm : Mono S) {y : List Bool} (h : Great S n y) : Great (selfT S n) n y := by (
 obtain ⟨⟨hl, ha⟩, hab⟩ := h
 refine ⟨⟨hl, fun i hi => ?_⟩, hl, fun z hz => hab.2 z ⟨hz.1, fun i hi hzi => ?_⟩⟩
 · (
 unfold selfT
 rw [selfT_set hl hi, Bool.eq_iff_iff]
 have hle : leB y (y.set i true) := fun j hj => by (
 rw [yn_set _ _ _ _ (by rw [hl]; exact hi)]
 split
 · rfl
 · exact hj)
 refine ⟨fun hy => hm _ _ _ hle (by rw [← ha i hi]; exact hy), fun hs => ?_⟩
 refine hab.2 (y.set i true) ⟨by simpa using hl, fun j hj hjz => ?_⟩ i (by rw [yn_set _ _ _ _ (by rw [hl]; exact hi), if_pos rfl])
 by_cases hji : j = i
 · subst hji; exact hs
 · (
 rw [yn_set _ _ _ _ (by rw [hl]; exact hi), if_neg hji] at hjz
 exact hm _ _ _ hle (by rw [← ha j hj]; exact hjz)))
 · (
 have := hz.2 i hi hzi
 unfold selfT at this
 rw [selfT_set hz.1 hi, set_yn (by rw [hz.1]; exact hi) hzi] at this
 exact this))
theorem Great.congr {y : List Bool} (h : Great S n y) (e : ∀ x, x.length = n → ∀ k, k < n → S x k = S' x k) : Great S' n y := by (
 obtain ⟨⟨hl, ha⟩, hab⟩ := h
 exact ⟨⟨hl, fun i hi => by rw [← e y hl i hi]; exact ha i hi⟩, hl, fun z hz => hab.2 z ⟨hz.1, fun i hi hzi => by rw [e z hz.1 i hi]; exact hz.2 i hi hzi⟩⟩)
def Sweep (S : List Bool → Nat → Bool) (n c k : Nat) (x : List Bool) : Prop :=
 Above S n x ∧ (∀ i, i < n → S x i = true → yn x i = true) ∧ ((∀ i, i < n → yn x i = true → S x i = true) ∨ cnt x + c + 1 ≤ n ∨ (cnt x + c ≤ n ∧ ∀ i, i < k → yn x i = true → S x i = true))
theorem Sweep.start {x : List Bool} (hl : x.length = n) (h : ∀ i, i < n → yn x i = true) : Sweep S n 0 0 x :=
 ⟨Above.start hl h, fun i hi _ => h i hi, .inr (.inr ⟨by have := cnt_le x; omega, fun i hi => by omega⟩)⟩
theorem Sweep.len {c k : Nat} {x : List Bool} (h : Sweep S n c k x) : x.length = n := h.1.1
theorem Sweep.step (hm : Mono S) {c k : Nat} {x : List Bool} (h : Sweep S n c k x) (hk : k < n) {b : Bool} (hb : b = S x k) : Sweep S n c (k + 1) (x.set k b) := by (
 subst hb
 obtain ⟨ha, hd, hs⟩ := h
 have hkx : k < x.length := by rw [ha.1]; exact hk
 by_cases he : yn x k = S x k
 · (
 rw [set_yn hkx he]
 refine ⟨ha, hd, hs.imp id (Or.imp id fun ⟨h1, h2⟩ => ⟨h1, fun i hi hy => ?_⟩)⟩
 by_cases hik : i = k
 · subst hik; rw [← he]; exact hy
 · exact h2 i (by omega) hy)
 · (
 have hsf : S x k = false := by (
 cases hq : S x k with
 | false => rfl
 | true => exact absurd ((hd k hk hq).trans hq.symm) he)
 have hyt : yn x k = true := by (
 cases hq : yn x k with
 | true => rfl
 | false => exact absurd (hq.trans hsf.symm) he)
 rw [hsf]
 have hle : leB (x.set k false) x := fun j hj => by (
 rw [yn_set _ _ _ _ hkx] at hj
 split at hj
 · cases hj
 · exact hj)
 refine ⟨ha.drop hm hk hsf, fun i hi hsi => ?_, ?_⟩
 · (
 have h1 := hm _ _ _ hle hsi
 rw [yn_set _ _ _ _ hkx, if_neg (by rintro rfl; rw [hsf] at h1; cases h1)]
 exact hd i hi h1)
 · (
 have hc := cnt_set hkx hyt
 rcases hs with h1 | h1 | ⟨h1, _⟩
 · (
 have := h1 k hk hyt
 rw [hsf] at this
 cases this)
 · exact .inr (.inl (by omega))
 · exact .inr (.inl (by omega)))))
theorem Sweep.turn {c : Nat} {x : List Bool} (h : Sweep S n c n x) : Sweep S n (c + 1) 0 x := by (
 obtain ⟨ha, hd, hs⟩ := h
 refine ⟨ha, hd, ?_⟩
 rcases hs with h1 | h1 | ⟨_, h1⟩
 · exact .inl h1
 · exact .inr (.inr ⟨by omega, fun i hi => by omega⟩)
 · exact .inl h1)
theorem Sweep.great (hm : Mono S) {c : Nat} {x : List Bool} (h : Sweep S n c 0 x) (hc : n < c) : Great S n x := by (
 obtain ⟨ha, hd, hs⟩ := h
 refine ha.great hm ?_
 rcases hs with h1 | h1 | ⟨h1, _⟩
 · exact h1
 · omega
 · omega)
end
def recL (t : Tm) (l : List Nd) : List Bool := mk l.length fun k => recB t (nd l k)
def keepL (t : Tm) (l : List Nd) : List Bool := mk l.length fun k => keepB t (nd l k)
def noL (n : Nat) : List Bool := List.replicate n false
def notL (x : List Bool) : List Bool := mk x.length fun k => !yn x k
theorem notL_len (x : List Bool) : (notL x).length = x.length := mk_len _ _
theorem yn_no (n k : Nat) : yn (noL n) k = false := by (
 unfold noL yn
 rw [List.getD_eq_getElem?_getD, List.getElem?_replicate]
 split <;> rfl)
theorem yn_not {x : List Bool} {k : Nat} (hk : k < x.length) : yn (notL x) k = !yn x k := yn_mk hk
def earlyL (t : Tm) (l : List Nd) (d u : List Bool) : List Bool := mk l.length fun k => yn d k && ((edgesOf false l k).length == 0 || (edgesOf false l k).any fun m => !yn (keepL t l) m.toNat || !yn d m.toNat && !yn u m.toNat)
def lateL (t : Tm) (l : List Nd) (y : List Bool) : List Bool := mk l.length fun k => yn y k && (yn (recL t l) k || (edgesOf true l k).any fun m => !yn y m.toNat)
structure Fx where
 down : List Bool
 up : List Bool
 early : List Bool
 delay : List Bool
 late : List Bool
 alone : List Bool
structure IsFx (t : Tm) (l : List Nd) (F : Fx) : Prop where
 down : Great (flowS true false (recL t l) (keepL t l) (noL l.length) (notL (noL l.length)) l) l.length F.down
 up : Great (flowS false false (noL l.length) (notL (noL l.length)) (mk l.length fun k => yn (keepL t l) k && yn (recL t l) k) (keepL t l) l) l.length F.up
 early : F.early = earlyL t l F.down F.up
 delay : Great (flowS false false F.early (notL (noL l.length)) (noL l.length) (notL (recL t l)) l) l.length F.delay
 late : F.late = lateL t l F.delay
 alone : Great (flowS true true (noL l.length) (notL (noL l.length)) F.late (notL (recL t l)) l) l.length F.alone
theorem IsFx.unique {t : Tm} {l : List Nd} {F G : Fx} (hF : IsFx t l F) (hG : IsFx t l G) : F = G := by (
 obtain ⟨a, b, c, d, e, f⟩ := F
 obtain ⟨a', b', c', d', e', f'⟩ := G
 obtain ⟨h1, h2, h3, h4, h5, h6⟩ := hF
 obtain ⟨g1, g2, g3, g4, g5, g6⟩ := hG
 simp only at *
 have e1 := h1.unique g1
 have e2 := h2.unique g2
 subst e1 e2
 have e3 : c = c' := h3.trans g3.symm
 subst e3
 have e4 := h4.unique g4
 subst e4
 have e5 : e = e' := h5.trans g5.symm
 subst e5
 have e6 := h6.unique g6
 subst e6
 rfl)
theorem IsFx.len {t : Tm} {l : List Nd} {F : Fx} (h : IsFx t l F) : F.down.length = l.length ∧ F.up.length = l.length ∧ F.early.length = l.length ∧ F.delay.length = l.length ∧ F.late.length = l.length ∧ F.alone.length = l.length :=
 ⟨h.down.1.1, h.up.1.1, by rw [h.early]; exact mk_len _ _, h.delay.1.1, by rw [h.late]; exact mk_len _ _, h.alone.1.1⟩
end
section
open Go.RowKit
theorem edges_lt {bk : Bool} {l : List Nd} {k : Nat} {m : Int} (h : m ∈ edgesOf bk l k) : m.toNat < l.length := by (
 unfold edgesOf at h
 obtain ⟨i, hi, _, rfl⟩ := mem_sel.1 h
 simpa using hi)
theorem yn_yes {n k : Nat} (hk : k < n) : yn (notL (noL n)) k = true := by (
 rw [yn_not (by simpa [noL] using hk), yn_no]; rfl)
theorem yn_rec {t : Tm} {l : List Nd} {k : Nat} {n : Nd} (hn : l[k]? = some n) : yn (recL t l) k = recB t n := by (
 rw [recL, yn_mk (List.getElem?_eq_some_iff.1 hn).1, nd_get hn])
theorem yn_keep {t : Tm} {l : List Nd} {k : Nat} {n : Nd} (hn : l[k]? = some n) : yn (keepL t l) k = keepB t n := by (
 rw [keepL, yn_mk (List.getElem?_eq_some_iff.1 hn).1, nd_get hn])
theorem recL_len (t : Tm) (l : List Nd) : (recL t l).length = l.length := mk_len _ _
theorem keepL_len (t : Tm) (l : List Nd) : (keepL t l).length = l.length := mk_len _ _
theorem all_congr {es : List Int} {p q : Int → Bool} (h : ∀ m ∈ es, p m = q m) : es.all p = es.all q := by (
 rw [Bool.eq_iff_iff, List.all_eq_true, List.all_eq_true]
 exact forall_congr' fun m => forall_congr' fun hm => by rw [h m hm])
def downV (t : Tm) (l : List Nd) (x : List Bool) (k : Nat) : Bool := yn (recL t l) k || yn (keepL t l) k && decide (0 < (edgesOf true l k).length) && (edgesOf true l k).all fun m => yn x m.toNat
def upV (t : Tm) (l : List Nd) (x : List Bool) (k : Nat) : Bool := decide (0 < (edgesOf false l k).length) && (edgesOf false l k).all fun m => yn (keepL t l) m.toNat && ((yn x m.toNat || m.toNat == k) || yn (recL t l) m.toNat)
def delayV (t : Tm) (l : List Nd) (e x : List Bool) (k : Nat) : Bool := yn e k || decide (0 < (edgesOf false l k).length) && (edgesOf false l k).all fun m => yn x m.toNat && !yn (recL t l) m.toNat
def aloneV (t : Tm) (l : List Nd) (f x : List Bool) (k : Nat) : Bool := (edgesOf true l k).all fun m => yn f m.toNat || !yn (recL t l) m.toNat && (yn x m.toNat || m.toNat == k)
theorem zero_len (es : List Int) : (es.length = 0) ↔ ¬ (0 < es.length) := by omega
theorem down_eq (t : Tm) (l : List Nd) (x : List Bool) {k : Nat} (hk : k < l.length) : flowS true false (recL t l) (keepL t l) (noL l.length) (notL (noL l.length)) l x k = downV t l x k := by (
 unfold flowS saysB downV
 have h : ((edgesOf true l k).all fun r => askOne (noL l.length) (notL (noL l.length)) x r.toNat) = (edgesOf true l k).all fun m => yn x m.toNat := all_congr fun m hm => by (
 rw [askOne, yn_no, yn_yes (edges_lt hm)]; simp)
 rw [h]
 cases yn (recL t l) k <;> cases yn (keepL t l) k <;> rcases hE : edgesOf true l k with _ | ⟨e0, es⟩ <;> simp)
theorem up_eq (t : Tm) (l : List Nd) (x : List Bool) {k : Nat} (hk : k < l.length) : selfT (flowS false false (noL l.length) (notL (noL l.length)) (mk l.length fun k => yn (keepL t l) k && yn (recL t l) k) (keepL t l) l) l.length x k = upV t l x k := by (
 unfold selfT flowS saysB upV
 have h : ((edgesOf false l k).all fun r => askOne (mk l.length fun k => yn (keepL t l) k && yn (recL t l) k) (keepL t l) (mk l.length fun j => yn x j || j == k) r.toNat) = (edgesOf false l k).all fun m => yn (keepL t l) m.toNat && ((yn x m.toNat || m.toNat == k) || yn (recL t l) m.toNat) := all_congr fun m hm => by (
 have hlt := edges_lt hm
 rw [askOne, yn_mk hlt, yn_mk hlt]
 cases yn (keepL t l) m.toNat <;> cases yn (recL t l) m.toNat <;> simp)
 rw [h, yn_no, yn_yes hk]
 rcases hE : edgesOf false l k with _ | ⟨e0, es⟩ <;> simp)
theorem delay_eq (t : Tm) (l : List Nd) (e x : List Bool) {k : Nat} (hk : k < l.length) : flowS false false e (notL (noL l.length)) (noL l.length) (notL (recL t l)) l x k = delayV t l e x k := by (
 unfold flowS saysB delayV
 have h : ((edgesOf false l k).all fun r => askOne (noL l.length) (notL (recL t l)) x r.toNat) = (edgesOf false l k).all fun m => yn x m.toNat && !yn (recL t l) m.toNat := all_congr fun m hm => by (
 rw [askOne, yn_no, yn_not (by rw [recL_len]; exact edges_lt hm)]
 cases yn x m.toNat <;> cases yn (recL t l) m.toNat <;> rfl)
 rw [h, yn_yes hk]
 cases yn e k <;> rcases hE : edgesOf false l k with _ | ⟨e0, es⟩ <;> simp)
theorem alone_eq (t : Tm) (l : List Nd) (f x : List Bool) {k : Nat} (hk : k < l.length) : selfT (flowS true true (noL l.length) (notL (noL l.length)) f (notL (recL t l)) l) l.length x k = aloneV t l f x k := by (
 unfold selfT flowS saysB aloneV
 have h : ((edgesOf true l k).all fun r => askOne f (notL (recL t l)) (mk l.length fun j => yn x j || j == k) r.toNat) = (edgesOf true l k).all fun m => yn f m.toNat || !yn (recL t l) m.toNat && (yn x m.toNat || m.toNat == k) := all_congr fun m hm => by (
 have hlt := edges_lt hm
 rw [askOne, yn_mk hlt, yn_not (by rw [recL_len]; exact hlt)])
 rw [h, yn_no, yn_yes hk]
 rcases hE : edgesOf true l k with _ | ⟨e0, es⟩ <;> simp)
end
section
open Go.RowKit
def reachS (l : List Nd) (x : List Bool) (i : Nat) : Bool := i == 0 || (List.range l.length).any fun j => yn x j && leadsB (l.getD j default) i
theorem reachS_mono (l : List Nd) : Mono (reachS l) := fun x y i h hs => by (
 unfold reachS at *
 simp only [Bool.or_eq_true, List.any_eq_true, Bool.and_eq_true] at *
 exact hs.imp id fun ⟨j, hj, h1, h2⟩ => ⟨j, hj, h j h1, h2⟩)
def reachL (l : List Nd) : List Bool := leastL (reachS l) l.length
theorem reachL_len (l : List Nd) : (reachL l).length = l.length := (leastL_least (reachS_mono l) l.length).1.1
def shutAt (l : List Nd) (x : List Bool) (j : Nat) : Prop := ∀ n, l[j]? = some n → ∀ m : Nat, leadsB n m = true → yn x m = true
theorem reach_closed {l : List Nd} {x : List Bool} (hl : x.length = l.length) (h0 : yn x 0 = true) (h : ∀ j, j < l.length → yn x j = true → shutAt l x j) : Closed (reachS l) l.length x := by (
 refine ⟨hl, fun i hi hs => ?_⟩
 unfold reachS at hs
 simp only [Bool.or_eq_true, List.any_eq_true, Bool.and_eq_true, beq_iff_eq, List.mem_range] at hs
 rcases hs with rfl | ⟨j, hj, h1, h2⟩
 · exact h0
 · (
 have hn : l[j]? = some l[j] := List.getElem?_eq_getElem hj
 rw [List.getD_eq_getElem?_getD, hn] at h2
 exact h j hj h1 _ hn i h2))
theorem Closed.shut {l : List Nd} {x : List Bool} (h : Closed (reachS l) l.length x) {j : Nat} (hj : yn x j = true) (hb : ∀ n, l[j]? = some n → ∀ m : Nat, leadsB n m = true → m < l.length) : shutAt l x j := fun n hn m hm => by (
 refine h.2 m (hb n hn m hm) ?_
 unfold reachS
 simp only [Bool.or_eq_true, List.any_eq_true, Bool.and_eq_true, beq_iff_eq, List.mem_range]
 refine .inr ⟨j, (List.getElem?_eq_some_iff.1 hn).1, hj, ?_⟩
 rw [List.getD_eq_getElem?_getD, hn]
 exact hm)
theorem under_start (l : List Nd) (hl : 1 ≤ l.length) : Under (reachS l) l.length ((List.replicate l.length false).set 0 true) := by (
 refine ⟨by simp, fun z hz i hi => ?_⟩
 rw [yn_set _ _ _ _ (by simp; omega)] at hi
 by_cases h0 : i = 0
 · (
 subst h0
 exact hz.2 0 (by omega) (by simp [reachS]))
 · (
 rw [if_neg h0] at hi
 simp [yn, List.getD_eq_getElem?_getD, List.getElem?_replicate] at hi
 split at hi <;> simp at hi))
theorem under_add {l : List Nd} {x : List Bool} (h : Under (reachS l) l.length x) {j m : Nat} {n : Nd} (hj : yn x j = true) (hn : l[j]? = some n) (hm : leadsB n m = true) (hml : m < l.length) : Under (reachS l) l.length (x.set m true) := by (
 refine ⟨by simpa using h.1, fun z hz i hi => ?_⟩
 rw [yn_set _ _ _ _ (by rw [h.1]; exact hml)] at hi
 by_cases him : i = m
 · (
 subst him
 refine hz.2 i hml ?_
 unfold reachS
 simp only [Bool.or_eq_true, List.any_eq_true, Bool.and_eq_true, beq_iff_eq, List.mem_range]
 refine .inr ⟨j, (List.getElem?_eq_some_iff.1 hn).1, h.2 z hz j hj, ?_⟩
 rw [List.getD_eq_getElem?_getD, hn]
 exact hm)
 · (
 rw [if_neg him] at hi
 exact h.2 z hz i hi))
theorem yn_set_mono {x : List Bool} {m i : Nat} (hm : m < x.length) (h : yn x i = true) : yn (x.set m true) i = true := by (
 rw [yn_set _ _ _ _ hm]
 split
 · rfl
 · exact h)
theorem leads_then {n : Nd} (h : n.op ≠ 12) : leadsB n n.t = true := by simp [leadsB, h]
theorem leads_else {n : Nd} (h : n.op = 11) : leadsB n n.e = true := by simp [leadsB, h]
theorem leads_cases {n : Nd} {m : Int} (h : leadsB n m = true) : (n.op ≠ 12 ∧ m = n.t) ∨ (n.op = 11 ∧ m = n.e) := by (
 simp only [leadsB, Bool.or_eq_true, Bool.and_eq_true, bne_iff_ne, beq_iff_eq, ne_eq] at h
 rcases h with ⟨h1, h2⟩ | ⟨h1, h2⟩
 · exact .inl ⟨h1, h2.symm⟩
 · exact .inr ⟨h1, h2.symm⟩)
theorem set_same_true {x : List Bool} {k : Nat} (hk : k < x.length) (h : yn x k = true) : x.set k true = x := set_yn hk h
structure Reaching (l : List Nd) (c k : Nat) (x : List Bool) : Prop where
 under : Under (reachS l) l.length x
 zero : yn x 0 = true
 way : c + 1 < cnt x ∨ (c + 1 ≤ cnt x ∧ ∀ j, j < k → yn x j = true → shutAt l x j) ∨ Closed (reachS l) l.length x
theorem cnt_set_true {x : List Bool} {m : Nat} (hm : m < x.length) : cnt (x.set m true) = if yn x m = true then cnt x else cnt x + 1 := by (
 split
 · rename_i h; rw [set_same_true hm h]
 · rename_i h; exact cnt_put hm (by simpa using h))
theorem cnt_pos {x : List Bool} {i : Nat} (h : yn x i = true) : 1 ≤ cnt x := by (
 have hi : i < x.length := by (
 rcases Nat.lt_or_ge i x.length with h1 | h1
 · exact h1
 · rw [yn_out h1] at h; cases h)
 unfold cnt
 refine List.count_pos_iff.2 ?_
 have : x[i] = true := by simpa [yn, hi] using h
 rw [← this]
 exact List.getElem_mem hi)
theorem Reaching.add {l : List Nd} {c k : Nat} {x : List Bool} (h : Reaching l c k x) {j m : Nat} {n : Nd} (hj : yn x j = true) (hn : l[j]? = some n) (hm : leadsB n m = true) (hml : m < l.length) (hb : ∀ n, l[j]? = some n → ∀ m : Nat, leadsB n m = true → m < l.length) :
 Reaching l c k (x.set m true) := by (
 have hxl : m < x.length := by rw [h.under.1]; exact hml
 refine ⟨under_add h.under hj hn hm hml, yn_set_mono hxl h.zero, ?_⟩
 cases hy : yn x m with
 | true => rw [set_same_true hxl hy]; exact h.way
 | false =>
  have hcnt : cnt (x.set m true) = cnt x + 1 := cnt_put hxl hy
  rcases h.way with h1 | ⟨h1, _⟩ | h1
  · exact .inl (by omega)
  · exact .inl (by omega)
  · (
 have := h1.shut hj hb n hn m hm
 rw [hy] at this
 cases this))
theorem Reaching.start {l : List Nd} {c : Nat} {x : List Bool} (h : Under (reachS l) l.length x) (h0 : yn x 0 = true) (hw : c + 1 ≤ cnt x ∨ Closed (reachS l) l.length x) : Reaching l c 0 x :=
 ⟨h, h0, hw.elim (fun h => .inr (.inl ⟨h, fun j hj => absurd hj (by omega)⟩)) fun h => .inr (.inr h)⟩
theorem Reaching.next {l : List Nd} {c k : Nat} {x : List Bool} (h : Reaching l c k x) (hs : yn x k = true → shutAt l x k) : Reaching l c (k + 1) x :=
 ⟨h.under, h.zero, h.way.imp id fun h => h.imp (fun ⟨h1, h2⟩ => ⟨h1, fun j hj hy => by
  by_cases hjk : j = k
  · subst hjk; exact hs hy
  · exact h2 j (by omega) hy⟩) id⟩
theorem Reaching.end_ {l : List Nd} {c : Nat} {x : List Bool} (h : Reaching l c l.length x) : c + 1 + 1 ≤ cnt x ∨ Closed (reachS l) l.length x := by (
 rcases h.way with h1 | ⟨h1, h2⟩ | h1
 · exact .inl (by omega)
 · exact .inr (reach_closed h.under.1 h.zero h2)
 · exact .inr h1)
theorem reach_done {l : List Nd} {x : List Bool} (h : Under (reachS l) l.length x) (hw : l.length + 1 ≤ cnt x ∨ Closed (reachS l) l.length x) : x = reachL l := by (
 rcases hw with h1 | h1
 · (
 have := cnt_le x
 rw [h.1] at this
 omega)
 · exact closed_under (reachS_mono l) h1 h)
end
section
open Go.RowKit
def rk (x : List Bool) : Nat → Nat
 | 0 => 0
 | k + 1 => rk x k + (if yn x k = true then 1 else 0)
theorem rk_le (x : List Bool) : ∀ k, rk x k ≤ k
 | 0 => Nat.le_refl _
 | k + 1 => by (
 have := rk_le x k
 unfold rk
 split <;> omega)
theorem rk_yes {x : List Bool} {k : Nat} (h : yn x k = true) : rk x (k + 1) = rk x k + 1 := by simp [rk, h]
theorem rk_no {x : List Bool} {k : Nat} (h : yn x k = false) : rk x (k + 1) = rk x k := by simp [rk, h]
def trimN (x : List Bool) (n : Nd) : Nd := { n with t := if n.op = 12 then n.t else (rk x n.t.toNat : Nat), e := if n.op = 11 then (rk x n.e.toNat : Nat) else n.e }
def trimTo (x : List Bool) (l : List Nd) : Nat → List Nd
 | 0 => []
 | k + 1 => trimTo x l k ++ (if yn x k = true then [trimN x (l.getD k default)] else [])
theorem trimTo_len (x : List Bool) (l : List Nd) : ∀ k, (trimTo x l k).length = rk x k
 | 0 => rfl
 | k + 1 => by (
 unfold trimTo rk
 rw [List.length_append, trimTo_len x l k]
 split <;> simp)
theorem trimTo_yes {x : List Bool} {l : List Nd} {k : Nat} {n : Nd} (h : yn x k = true) (hn : l[k]? = some n) : trimTo x l (k + 1) = trimTo x l k ++ [trimN x n] := by (
 have : l.getD k default = n := by rw [List.getD_eq_getElem?_getD, hn]; rfl
 rw [trimTo, if_pos h, this])
theorem trimTo_no {x : List Bool} {l : List Nd} {k : Nat} (h : yn x k = false) : trimTo x l (k + 1) = trimTo x l k := by rw [trimTo, if_neg (by rw [h]; simp), List.append_nil]
def trimL (l : List Nd) : List Nd := trimTo (reachL l) l l.length
theorem trimL_len (l : List Nd) : (trimL l).length ≤ l.length := by (
 unfold trimL
 rw [trimTo_len]
 exact rk_le _ _)
theorem reach_shut {l : List Nd} {k : Nat} {n : Nd} (hk : yn (reachL l) k = true) (hn : l[k]? = some n) {m : Nat} (hm : leadsB n m = true) (hb : ∀ m : Nat, leadsB n m = true → m < l.length) : yn (reachL l) m = true := by (
 have hc : Closed (reachS l) l.length (reachL l) := by have h := (leastL_least (reachS_mono l) l.length).1; exact ⟨h.1, fun i hi hs => (h.2 i hi).trans hs⟩
 refine Closed.shut hc hk (fun n2 h2 m hm => ?_) n hn m hm
 rw [hn] at h2
 injection h2 with h2
 subst h2
 exact hb m hm)
end
section
open Go.RowKit
def ncells : List Nd → List Value
 | [] => []
 | n :: l => n.cells ++ ncells l
theorem Nd.cells_len (n : Nd) : n.cells.length = 6 := rfl
theorem ncells_len (l : List Nd) : (ncells l).length = l.length * 6 := by (
 induction l with
 | nil => rfl
 | cons n l ih => simp only [ncells, List.length_append, Nd.cells_len, ih, List.length_cons]; omega)
theorem ncells_append (a b : List Nd) : ncells (a ++ b) = ncells a ++ ncells b := by (
 induction a with
 | nil => rfl
 | cons n a ih => simp only [List.cons_append, ncells, ih, List.append_assoc])
theorem ncells_get : ∀ (l : List Nd) (i j : Nat), j < 6 → (ncells l)[i * 6 + j]? = (l[i]?).bind fun n => n.cells[j]?
 | [], i, j, hj => by simp [ncells]
 | n :: l, 0, j, hj => by (
 simp only [ncells, Nat.zero_mul, Nat.zero_add, List.getElem?_cons_zero, Option.bind_some]
 rw [List.getElem?_append_left (by rw [Nd.cells_len]; exact hj)])
 | n :: l, i + 1, j, hj => by (
 simp only [ncells, List.getElem?_cons_succ]
 rw [List.getElem?_append_right (by rw [Nd.cells_len]; omega), Nd.cells_len, show (i + 1) * 6 + j - 6 = i * 6 + j by omega]
 exact ncells_get l i j hj)
theorem ncells_one (l : List Nd) : ∀ u ∈ ncells l, u.oneCell' = true := by (
 induction l with
 | nil => intro u hu; cases hu
 | cons n l ih =>
  intro u hu
  simp only [ncells, List.mem_append] at hu
  rcases hu with hu | hu
  · (
 simp only [Nd.cells, List.mem_cons, List.not_mem_nil, or_false] at hu
 rcases hu with rfl | rfl | rfl | rfl | rfl | rfl <;> rfl)
  · exact ih u hu)
def Nd.put (n : Nd) : Nat → Int → Nd
 | 0, x => { n with op := x }
 | 1, x => { n with d := x }
 | 2, x => { n with a := x }
 | 3, x => { n with b := x }
 | 4, x => { n with t := x }
 | _, x => { n with e := x }
theorem Nd.put_cells (n : Nd) (j : Nat) (x : Int) (hj : j < 6) : (n.put j x).cells = n.cells.set j (.int .i64 x) := by (
 rcases j with _ | _ | _ | _ | _ | _ | j <;> first | rfl | omega)
theorem lies_iff {n : Nd} {w : World} {b off : Nat} : n.lies w b off ↔ ∀ j, j < 6 → w.cell? ⟨b, off + j, none⟩ = n.cells[j]? := by (
 constructor
 · (
 rintro ⟨h0, h1, h2, h3, h4, h5⟩ j hj
 match j, hj with
 | 0, _ => exact h0
 | 1, _ => exact h1
 | 2, _ => exact h2
 | 3, _ => exact h3
 | 4, _ => exact h4
 | 5, _ => exact h5)
 · (
 intro h
 exact ⟨h 0 (by omega), h 1 (by omega), h 2 (by omega), h 3 (by omega), h 4 (by omega), h 5 (by omega)⟩))
theorem NodesAt.cell {w : World} {b off : Nat} {l : List Nd} (h : NodesAt w (some ⟨b, off, none⟩) l) (k : Nat) (hk : k < l.length * 6) : w.cell? ⟨b, off + k, none⟩ = (ncells l)[k]? := by (
 have hd : k / 6 < l.length := by omega
 obtain ⟨b', off', n, e, _, hn, hl⟩ := h.get hd
 injection e with e
 injection e with e1 e2
 subst e1 e2
 have h6 : k % 6 < 6 := Nat.mod_lt _ (by omega)
 have := lies_iff.1 hl (k % 6) h6
 rw [show off + k / 6 * 6 + k % 6 = off + k by omega] at this
 have hg := ncells_get l (k / 6) (k % 6) h6
 rw [show k / 6 * 6 + k % 6 = k by omega, hn] at hg
 rw [this, hg]
 rfl)
def NRow (w : World) (base : Nat) (e : TypeId) (v : Value) (l : List Nd) : Prop := w.ownsRow base e 6 v l.length (ncells l)
section
variable {w w' : World} {base : Nat} {e : TypeId} {v : Value} {l : List Nd}
theorem NRow.nil_ (w : World) (base : Nat) (e : TypeId) : NRow w base e (.slice none 0 0) [] := ⟨rfl, .inl ⟨rfl, rfl⟩⟩
theorem NRow.open (h : NRow w base e v l) : (v = .slice none 0 0 ∧ l = []) ∨ ∃ g cap cur, v = .slice (some ⟨g, 0, none⟩) l.length cap ∧ base ≤ g ∧ w.heap[g]? = some (.cells cur e (0, 0)) ∧ l.length ≤ cap ∧ cap ≤ maxLen ∧ cur.size = cap * 6 ∧
 ∀ k, k < l.length * 6 → cur[k]? = (ncells l)[k]? := by (
 obtain ⟨hl, ⟨hv, hn⟩ | ⟨g, cap, cur, hv, hb, hh, h1, h2, h3, h4⟩⟩ := h
 · exact .inl ⟨hv, List.eq_nil_of_length_eq_zero hn⟩
 · (
 refine .inr ⟨g, cap, cur, hv, hb, hh, h1, h2, h3, fun k hk => ?_⟩
 rw [← h4, List.getElem?_take, if_pos hk, Array.getElem?_toList]))
theorem NRow.close {g cap : Nat} {cur : Array Value} (hb : base ≤ g) (hh : w.heap[g]? = some (.cells cur e (0, 0))) (h1 : l.length ≤ cap) (h2 : cap ≤ maxLen) (h3 : cur.size = cap * 6)
 (h4 : ∀ k, k < l.length * 6 → cur[k]? = (ncells l)[k]?) : NRow w base e (.slice (some ⟨g, 0, none⟩) l.length cap) l := by (
 refine ⟨ncells_len l, .inr ⟨g, cap, cur, rfl, hb, hh, h1, h2, h3, ?_⟩⟩
 refine List.ext_getElem? fun k => ?_
 rw [List.getElem?_take]
 split
 · (
 rename_i hk
 rw [Array.getElem?_toList]
 exact h4 k hk)
 · (
 rename_i hk
 rw [List.getElem?_eq_none (by rw [ncells_len]; omega)]))
theorem NRow.lt (h : NRow w base e v l) : ∀ k, v.ownBlock = some k → base ≤ k ∧ k < w.heap.size := by (
 rintro k hk
 rcases h.open with ⟨rfl, _⟩ | ⟨g, cap, cur, rfl, hb, hh, _⟩
 · simp [Value.ownBlock] at hk
 · (
 simp [Value.ownBlock] at hk
 subst hk
 exact ⟨hb, lt_of_heap hh⟩))
theorem NRow.of_block (h : NRow w base e v l) (hk : ∀ k, v.ownBlock = some k → w'.heap[k]? = w.heap[k]?) : NRow w' base e v l := by (
 obtain ⟨hl, ⟨hv, hn⟩ | ⟨g, cap, cur, hv, hb, hh, r⟩⟩ := h
 · exact ⟨hl, .inl ⟨hv, hn⟩⟩
 · exact ⟨hl, .inr ⟨g, cap, cur, hv, hb, (hk g (by rw [hv]; rfl)).trans hh, r⟩⟩)
theorem NRow.kept {row : Option Nat} (h : NRow w base e v l) (hg : w.grownBy w' row) (hne : v.ownBlock = none ∨ v.ownBlock ≠ row) : NRow w' base e v l :=
 h.of_block fun k hk => hg.block k (h.lt k hk).2 (by
  rcases hne with hn | hn
  · rw [hn] at hk; cases hk
  · rw [← hk]; exact hn)
theorem NRow.below {B : Nat} (h : NRow w base e v l) (hb : Below B w w') (hB : ∀ k, v.ownBlock = some k → k < B) : NRow w' base e v l := h.of_block fun k hk => hb.block k (hB k hk)
theorem NRow.below' (h : NRow w base e v l) (hb : Below w.heap.size w w') : NRow w' base e v l := h.of_block fun k hk => hb.block k (h.lt k hk).2
theorem NRow.alloc (h : NRow w base e v l) (o : Obj) : NRow (w.alloc o) base e v l := h.of_block fun k hk => Below.heap_alloc w o k (h.lt k hk).2
theorem NRow.drew (h : NRow w base e v l) : NRow w.drew base e v l := h
theorem NRow.drewN (h : NRow w base e v l) (n : Nat) : NRow (w.drewN n) base e v l := h
theorem NRow.far (h : NRow w base e v l) {p : Addr} (hp : v.ownBlock ≠ some p.block) (u : Value) : NRow (w.setCell p u) base e v l :=
 h.of_block fun k hk => Below.heap_setCell w p u k (by rintro rfl; exact hp hk)
theorem NRow.mono {base' : Nat} (h : NRow w base e v l) (hb : base' ≤ base) : NRow w base' e v l := by (
 obtain ⟨hl, h | ⟨g, cap, cur, hv, hg, r⟩⟩ := h
 · exact ⟨hl, .inl h⟩
 · exact ⟨hl, .inr ⟨g, cap, cur, hv, Nat.le_trans hb hg, r⟩⟩)
theorem NRow.shape (h : NRow w base e v l) : ∃ A cap, v = .slice A l.length cap ∧ l.length ≤ cap ∧ cap ≤ maxLen := by (
 rcases h.open with ⟨rfl, rfl⟩ | ⟨g, cap, cur, rfl, _, _, hc, hm, _⟩
 · exact ⟨none, 0, rfl, Nat.le_refl _, Nat.zero_le _⟩
 · exact ⟨_, cap, rfl, hc, hm⟩)
theorem NRow.nodes {A : Option Addr} {n cap : Nat} (h : NRow w base e (.slice A n cap) l) : NodesAt w A l := fun hn => by (
 rcases h.open with ⟨_, rfl⟩ | ⟨g, cap, cur, hv, hb, hh, _, _, _, hc⟩
 · exact absurd rfl hn
 · (
 injection hv with hA
 subst hA
 refine ⟨g, 0, rfl, lt_of_heap hh, fun i n hi => lies_iff.2 fun j hj => ?_⟩
 have hlt : i < l.length := (List.getElem?_eq_some_iff.1 hi).1
 have := hc (i * 6 + j) (by omega)
 rw [ncells_get l i j hj, hi] at this
 rw [Nat.zero_add]
 simp only [World.cell?, hh, this]
 simp))
theorem NRow.get (h : NRow w base e v l) {k : Nat} (hk : k < l.length) :
 ∃ g cap n, v = .slice (some ⟨g, 0, none⟩) l.length cap ∧ base ≤ g ∧ g < w.heap.size ∧ l[k]? = some n ∧ n.lies w g (k * 6) ∧ ∀ j, j < l.length * 6 → w.frozen? ⟨g, j, none⟩ = false := by (
 have hN := h.shape
 rcases h.open with ⟨_, rfl⟩ | ⟨g, cap, cur, rfl, hb, hh, hcl, hcm, hcs, hc⟩
 · simp at hk
 · (
 have hn := (h.nodes).get hk
 obtain ⟨b, off, n, e1, _, hn, hl⟩ := hn
 injection e1 with e1
 injection e1 with e1 e2
 subst e1 e2
 rw [Nat.zero_add] at hl
 exact ⟨g, cap, n, rfl, hb, lt_of_heap hh, hn, hl, fun j hj => by simp [World.frozen?, hh]⟩))
theorem NRow.store {g n cap : Nat} (h : NRow w base e (.slice (some ⟨g, 0, none⟩) n cap) l) {k j : Nat} {x : Nd} (hk : l[k]? = some x) (hj : j < 6) (z : Int) :
 NRow (w.setCell ⟨g, k * 6 + j, none⟩ (.int .i64 z)) base e (.slice (some ⟨g, 0, none⟩) n cap) (l.set k (x.put j z)) := by (
 have hlt : k < l.length := (List.getElem?_eq_some_iff.1 hk).1
 rcases h.open with ⟨hv, _⟩ | ⟨g', cap', cur, hv, hb, hh, h1, h2, h3, hc⟩
 · cases hv
 · (
 injection hv with hA hn hcp
 injection hA with hA
 injection hA with hg _
 subst hg hn hcp
 have := NRow.close (w := w.setCell ⟨g, k * 6 + j, none⟩ (.int .i64 z)) (base := base) (e := e) (g := g) (cap := cap) (l := l.set k (x.put j z)) hb (heap_setCell_own hh _) (by simpa using h1) h2 (by simpa using h3) (fun i hi => ?_)
 · rwa [List.length_set] at this
 · (
 rw [List.length_set] at hi
 rw [Array.getElem?_setIfInBounds]
 have e6 : i % 6 < 6 := Nat.mod_lt _ (by omega)
 have ei : i = i / 6 * 6 + i % 6 := by omega
 have hget : (ncells (l.set k (x.put j z)))[i]? = ((l.set k (x.put j z))[i / 6]?).bind fun n => n.cells[i % 6]? := by (
 have := ncells_get (l.set k (x.put j z)) (i / 6) (i % 6) e6
 rwa [← ei] at this)
 have hold : cur[i]? = (l[i / 6]?).bind fun n => n.cells[i % 6]? := by (
 rw [hc i hi]
 have := ncells_get l (i / 6) (i % 6) e6
 rwa [← ei] at this)
 rw [hget, List.getElem?_set]
 by_cases hik : k = i / 6
 · (
 rw [if_pos hik, if_pos hlt, Option.bind_some, Nd.put_cells _ _ _ hj, List.getElem?_set]
 by_cases hij : j = i % 6
 · rw [if_pos (show k * 6 + j = i by omega), if_pos (show k * 6 + j < cur.size by omega), if_pos hij, if_pos (by rw [Nd.cells_len]; exact hj)]
 · (
 rw [if_neg hij, if_neg (by omega), hold, ← hik, hk]
 rfl))
 · rw [if_neg hik, if_neg (by omega), hold])))
theorem NRow.put6 {g n cap : Nat} (h : NRow w base e (.slice (some ⟨g, 0, none⟩) n cap) l) {k : Nat} {x : Nd} (hk : l[k]? = some x) (y : Nd) :
 NRow ((((((w.setCell ⟨g, k * 6, none⟩ (.int .i64 y.op)).setCell ⟨g, k * 6 + 1, none⟩ (.int .i64 y.d)).setCell ⟨g, k * 6 + 2, none⟩ (.int .i64 y.a)).setCell ⟨g, k * 6 + 3, none⟩ (.int .i64 y.b)).setCell ⟨g, k * 6 + 4, none⟩ (.int .i64 y.t)).setCell ⟨g, k * 6 + 5, none⟩ (.int .i64 y.e))
  base e (.slice (some ⟨g, 0, none⟩) n cap) (l.set k y) := by (
 have hlt : k < l.length := (List.getElem?_eq_some_iff.1 hk).1
 have hs : ∀ (z : Nd), (l.set k z)[k]? = some z := fun z => by rw [List.getElem?_set]; simp [hlt]
 have h0 := h.store hk (show 0 < 6 by omega) y.op
 rw [Nat.add_zero] at h0
 have h1 := h0.store (hs _) (show 1 < 6 by omega) y.d
 rw [List.set_set] at h1
 have h2 := h1.store (hs _) (show 2 < 6 by omega) y.a
 rw [List.set_set] at h2
 have h3 := h2.store (hs _) (show 3 < 6 by omega) y.b
 rw [List.set_set] at h3
 have h4 := h3.store (hs _) (show 4 < 6 by omega) y.t
 rw [List.set_set] at h4
 have h5 := h4.store (hs _) (show 5 < 6 by omega) y.e
 rw [List.set_set] at h5
 exact h5)
theorem NRow.ne_blk {g : Nat} {t : TypeId} {cs : Array Value} (h : NRow w base e v l) (hg : Blk w g t cs) (hne : e ≠ t) : v.ownBlock ≠ some g := by (
 rcases h.open with ⟨rfl, _⟩ | ⟨g', cap, cur, rfl, _, hh, _⟩
 · simp [Value.ownBlock]
 · (
 intro he
 simp [Value.ownBlock] at he
 subst he
 have hB : Blk w g' e cur := by unfold Blk; exact hh
 exact hB.ne_ hg hne rfl))
theorem NRow.blk {g n cap : Nat} (h : NRow w base e (.slice (some ⟨g, 0, none⟩) n cap) l) : ∃ cs, Blk w g e cs := by (
 rcases h.open with ⟨hv, _⟩ | ⟨g', cap', cur, hv, hb, hh, _⟩
 · cases hv
 · (
 injection hv with hA
 injection hA with hA
 injection hA with hg
 subst hg
 exact ⟨cur, by unfold Blk; exact hh⟩))
theorem NRow.ne_row {base' : Nat} {e' : TypeId} {u : Value} {ys : List Value} (h : NRow w base e v l) (h' : Row w base' e' u ys) (hne : e ≠ e') : v.ownBlock = none ∨ v.ownBlock ≠ u.ownBlock := by (
 rcases h' with ⟨rfl, _⟩ | ⟨g', o, cap, cur, rfl, _, hh, _⟩
 · (
 rcases hv : v.ownBlock with _ | k
 · exact .inl rfl
 · exact .inr (by simp [Value.ownBlock]))
 · exact .inr (h.ne_blk (cs := cur) (t := e') (by unfold Blk; exact hh) hne))
theorem NRow.empty {g : Nat} (hg : g = w.heap.size) (hb : base ≤ w.heap.size) : NRow (w.alloc (.cells #[] e)) base e (.slice (some ⟨g, 0, none⟩) 0 0) [] := by (
 subst hg
 exact NRow.close (l := []) (cap := 0) hb (heap_alloc_new w _) (by simp) (by simp) rfl (fun k hk => by simp at hk))
theorem run_append_nodes {P : Program} (t ty : TypeId) (i : TypeInfo) (z : Value) (bytes : Nat) (ht : P.underlying t = some (.slice e)) (hi : P.info? e = some i) (hz : i.zero = some z)
 (hsize : i.size = 6) (hby : i.bytes = bytes) (hzs : z.cells.size = 6) (hr : NRow w base e v l) (A : Option Addr) (c : Nat) (news : List Nd) (hn : NodesAt w A news)
 (h63 : l.length + news.length ≤ maxLen) (hbytes : (l.length + news.length) * bytes ≤ 140737488355328) (hbase : base ≤ w.heap.size) :
 ∃ v' w', (Builtin.append_ #[t, t] ty #[v, .slice A news.length c]).run P w = .ok v' w' ∧ NRow w' base e v' (l ++ news) ∧ w.grownBy w' v.ownBlock ∧ (v'.ownBlock = v.ownBlock ∨ ∀ k, v'.ownBlock = some k → w.heap.size ≤ k) := by (
 by_cases hne : news = []
 · (
 subst hne
 refine ⟨v, w, ?_, by simpa using hr, World.grownBy.refl w _, .inl rfl⟩
 rcases hr.open with ⟨rfl, rfl⟩ | ⟨g, cap, cur, rfl, _, _, hnc, _⟩
 · rcases A with _ | A <;> simp [Builtin.append_, run_underlying ht, sizeOf, typeInfo, hi, hsize, Builtin.lenOf, Builtin.firstCells, loadCells, loadCellsFrom]
 · rcases A with _ | A <;> simp [Builtin.append_, run_underlying ht, sizeOf, typeInfo, hi, hsize, Builtin.lenOf, Builtin.firstCells, loadCells, loadCellsFrom, hnc, storeCells])
 · (
 obtain ⟨b, off, rfl, hb, hcell⟩ := hn hne
 have hnews : ∀ j u, (ncells news)[j]? = some u → w.cell? ((⟨b, off, none⟩ : Addr).add j) = some u := fun j u hj => by (
 rw [Addr.add_lit, ← hj]
 exact NodesAt.cell hn j (by rw [← ncells_len]; exact (List.getElem?_eq_some_iff.1 hj).1))
 obtain ⟨v', w', hrun, h2, h3, h4, h5⟩ := run_append_own_at (P := P) w base t ty e i z 6 bytes ht hi hz hsize hby hzs (by omega) v l.length (ncells l) hr ⟨b, off, none⟩ news.length c (ncells news) (ncells_len _) hnews (ncells_one _) h63 hbytes hbase
 refine ⟨v', w', hrun, ?_, h3, h5.imp id fun h k hk => by rw [h] at hk; injection hk with hk; omega⟩
 show w'.ownsRow base e 6 v' (l ++ news).length (ncells (l ++ news))
 rw [List.length_append, ncells_append]
 exact h2))
theorem wp_append_nodes {P : Program} {o : Oper} {a : Act} {K : Act → World → Prop} {Q : Exit → Act → World → Prop} (s x : Operand) (t : TypeId)
 (ho : o.op = .call { callee := .builtin .append, args := #[s, x], argTypes := #[t, t] })
 (i : TypeInfo) (z : Value) (bytes : Nat) (ht : P.underlying t = some (.slice e)) (hi : P.info? e = some i) (hz : i.zero = some z)
 (hsize : i.size = 6) (hby : i.bytes = bytes) (hzs : z.cells.size = 6) (hs : a.eval s = v) (hr : NRow w base e v l) (A : Option Addr) (n c : Nat) (news : List Nd) (hx : a.eval x = .slice A n c)
 (hnl : n = news.length) (hn : NodesAt w A news)
 (h63 : l.length + news.length ≤ maxLen) (hbytes : (l.length + news.length) * bytes ≤ 140737488355328) (hbase : base ≤ w.heap.size)
 (h : ∀ v' w', NRow w' base e v' (l ++ news) → w.grownBy w' v.ownBlock → (v'.ownBlock = v.ownBlock ∨ ∀ k, v'.ownBlock = some k → w.heap.size ≤ k) → K (a.put o.dst v') w') : o.wp P a w K Q := by (
 subst hnl
 obtain ⟨v', w', hrun, h2, h3, h4⟩ := run_append_nodes (P := P) t o.type i z bytes ht hi hz hsize hby hzs hr A c news hn h63 hbytes hbase
 unfold Oper.wp execOp
 simp only [ho, resolve, invoke, builtin, Sem.run_bind, Sem.run_pure, Result.andThen_ok, List.map_toArray, List.map_cons, List.map_nil, hs, hx, hrun]
 exact h v' w' h2 h3 h4)
theorem wpList_append_nodes {P : Program} {ops : Array Oper} {rest : List Oper} {o : Oper} {a : Act} {Q : Exit → Act → World → Prop} (hgd : o.guard = none) (s x : Operand) (t : TypeId)
 (ho : o.op = .call { callee := .builtin .append, args := #[s, x], argTypes := #[t, t] })
 (i : TypeInfo) (z : Value) (bytes : Nat) (ht : P.underlying t = some (.slice e)) (hi : P.info? e = some i) (hz : i.zero = some z)
 (hsize : i.size = 6) (hby : i.bytes = bytes) (hzs : z.cells.size = 6) (hs : a.eval s = v) (hr : NRow w base e v l) (A : Option Addr) (n c : Nat) (news : List Nd) (hx : a.eval x = .slice A n c)
 (hnl : n = news.length) (hn : NodesAt w A news)
 (h63 : l.length + news.length ≤ maxLen) (hbytes : (l.length + news.length) * bytes ≤ 140737488355328) (hbase : base ≤ w.heap.size)
 (h : ∀ v' w', NRow w' base e v' (l ++ news) → w.grownBy w' v.ownBlock → (v'.ownBlock = v.ownBlock ∨ ∀ k, v'.ownBlock = some k → w.heap.size ≤ k) → wpList P ops Q rest (a.put o.dst v') w') :
 wpList P ops Q (o :: rest) a w :=
 wpList_plain hgd fun _ hK => wp_append_nodes s x t ho i z bytes ht hi hz hsize hby hzs hs hr A n c news hx hnl hn h63 hbytes hbase fun v' w' h2 h3 h4=> hK _ _ (h v' w' h2 h3 h4)
theorem step_append_nodes {P : Program} {ops : Array Oper} {o : Oper} {a : Act} {K : Act → World → Prop} {Q : Exit → Act → World → Prop} {E : Prop} (hgd : o.guard = none) (s x : Operand) (t : TypeId)
 (ho : o.op = .call { callee := .builtin .append, args := #[s, x], argTypes := #[t, t] })
 (i : TypeInfo) (z : Value) (bytes : Nat) (ht : P.underlying t = some (.slice e)) (hi : P.info? e = some i) (hz : i.zero = some z)
 (hsize : i.size = 6) (hby : i.bytes = bytes) (hzs : z.cells.size = 6) (hs : a.eval s = v) (hr : NRow w base e v l) (A : Option Addr) (n c : Nat) (news : List Nd) (hx : a.eval x = .slice A n c)
 (hnl : n = news.length) (hn : NodesAt w A news)
 (h63 : l.length + news.length ≤ maxLen) (hbytes : (l.length + news.length) * bytes ≤ 140737488355328) (hbase : base ≤ w.heap.size)
 (h : ∀ v' w', NRow w' base e v' (l ++ news) → w.grownBy w' v.ownBlock → (v'.ownBlock = v.ownBlock ∨ ∀ k, v'.ownBlock = some k → w.heap.size ≤ k) → K (a.put o.dst v') w') :
 if Region.wanted o (yielded ops a.tmps) = true then Oper.wp P o a w K Q else E := by (
 have hw : Region.wanted o (yielded ops a.tmps) = true := by simp [Region.wanted, hgd]
 rw [if_pos hw]
 exact wp_append_nodes s x t ho i z bytes ht hi hz hsize hby hzs hs hr A n c news hx hnl hn h63 hbytes hbase h)
theorem nodes_one' {w : World} {n : Nd} {t : TypeId} {g : Nat} (h : g = w.heap.size) : NodesAt (w.alloc (.cells #[.int .i64 n.op, .int .i64 n.d, .int .i64 n.a, .int .i64 n.b, .int .i64 n.t, .int .i64 n.e] t)) (some ⟨g, 0, none⟩) [n] := by (
 subst h
 refine NodesAt.mk (by simp) fun i m hi => ?_
 rcases i with _ | i
 · (
 simp at hi
 subst hi
 simp [Nd.lies])
 · simp at hi)
end
theorem NodesAt.nil {w : World} {A : Option Addr} : NodesAt w A [] := fun h => absurd rfl h
end
section
open Go.RowKit
def skipN (t : Int) : Nd := ⟨0, 0, 0, 0, t, 0⟩
def ways (l : List Nd) (m : Int) : Nat := (sel (aheadP l m.toNat) l.length).length
def split1 (l : List Nd) (n : Nd) (N : Nat) : Nd := if 2 ≤ ways l n.t then { n with t := N, e := if n.op = 11 ∧ n.e = n.t then (N : Int) else n.e } else n
def skips1 (l : List Nd) (n : Nd) : List Nd := if 2 ≤ ways l n.t then [skipN n.t] else []
def elseB (l : List Nd) (n : Nd) : Bool := n.op == 11 && n.e != n.t && decide (2 ≤ ways l n.e)
def split2 (l : List Nd) (n x : Nd) (N : Nat) : Nd := if elseB l n = true then { x with e := N } else x
def skips2 (l : List Nd) (n : Nd) : List Nd := if elseB l n = true then [skipN n.e] else []
def step1 (l : List Nd) (k : Nat) (n : Nd) (out : List Nd) : List Nd := out.set k (split1 l n out.length) ++ skips1 l n
def step2 (l : List Nd) (k : Nat) (n x : Nd) (out : List Nd) : List Nd := out.set k (split2 l n x out.length) ++ skips2 l n
def splitStep (l : List Nd) (k : Nat) (n : Nd) (out : List Nd) : List Nd := if n.op = 0 ∨ n.op = 12 then out else step2 l k n (split1 l n out.length) (step1 l k n out)
def splitTo (l : List Nd) : Nat → List Nd
 | 0 => l
 | k + 1 => splitStep l k (l.getD k default) (splitTo l k)
def splitL (l : List Nd) : List Nd := splitTo l l.length
theorem splitTo_succ {l : List Nd} {k : Nat} {n : Nd} (hn : l[k]? = some n) : splitTo l (k + 1) = splitStep l k n (splitTo l k) := by (
 have : l.getD k default = n := by rw [List.getD_eq_getElem?_getD, hn]; rfl
 rw [splitTo, this])
theorem skips1_len (l : List Nd) (n : Nd) : (skips1 l n).length ≤ 1 := by unfold skips1; split <;> simp
theorem skips2_len (l : List Nd) (n : Nd) : (skips2 l n).length ≤ 1 := by unfold skips2; split <;> simp
theorem step1_len (l : List Nd) (k : Nat) (n : Nd) (out : List Nd) : (step1 l k n out).length = out.length + (skips1 l n).length := by simp [step1]
theorem step2_len (l : List Nd) (k : Nat) (n x : Nd) (out : List Nd) : (step2 l k n x out).length = out.length + (skips2 l n).length := by simp [step2]
theorem splitStep_len (l : List Nd) (k : Nat) (n : Nd) (out : List Nd) : out.length ≤ (splitStep l k n out).length ∧ (splitStep l k n out).length ≤ out.length + 2 := by (
 unfold splitStep
 split
 · omega
 · (
 rw [step2_len, step1_len]
 have := skips1_len l n
 have := skips2_len l n
 omega))
theorem splitTo_len (l : List Nd) : ∀ k, l.length ≤ (splitTo l k).length ∧ (splitTo l k).length ≤ l.length + 2 * k
 | 0 => by simp [splitTo]
 | k + 1 => by (
 have h1 := splitTo_len l k
 have h2 := splitStep_len l k (l.getD k default) (splitTo l k)
 rw [splitTo]
 omega)
theorem splitStep_get {l : List Nd} {k j : Nat} {n : Nd} {out : List Nd} (hk : k ≠ j) (hj : j < out.length) : (splitStep l k n out)[j]? = out[j]? := by (
 unfold splitStep
 split
 · rfl
 · (
 unfold step2
 rw [List.getElem?_append_left (by rw [List.length_set, step1_len]; omega), List.getElem?_set_ne hk]
 unfold step1
 rw [List.getElem?_append_left (by rw [List.length_set]; omega), List.getElem?_set_ne hk]))
theorem splitTo_get (l : List Nd) : ∀ (k j : Nat), k ≤ j → j < l.length → (splitTo l k)[j]? = l[j]?
 | 0, j, _, _ => rfl
 | k + 1, j, hk, hj => by (
 rw [splitTo, splitStep_get (by omega) (by have := splitTo_len l k; omega)]
 exact splitTo_get l k j (by omega) hj)
theorem splitStep_once {l : List Nd} {k : Nat} {n : Nd} {out : List Nd} (hk : k < out.length) (h0 : n.op ≠ 0) (h12 : n.op ≠ 12) :
 splitStep l k n out = out.set k (split2 l n (split1 l n out.length) (out.length + (skips1 l n).length)) ++ (skips1 l n ++ skips2 l n) := by (
 unfold splitStep
 rw [if_neg (by omega)]
 unfold step2
 rw [step1_len]
 unfold step1
 rw [List.set_append_left _ _ (by rw [List.length_set]; exact hk), List.set_set, List.append_assoc])
theorem splitStep_skip {l : List Nd} {k : Nat} {n : Nd} {out : List Nd} (h : n.op = 0 ∨ n.op = 12) : splitStep l k n out = out := by (
 unfold splitStep
 rw [if_pos h])
theorem splitStep_two {l : List Nd} {k : Nat} {n : Nd} {out : List Nd} (h : ¬ (n.op = 0 ∨ n.op = 12)) : splitStep l k n out = step2 l k n (split1 l n out.length) (step1 l k n out) := by (
 unfold splitStep
 rw [if_neg h])
theorem step1_get {l : List Nd} {k : Nat} {n : Nd} {out : List Nd} (hk : k < out.length) : (step1 l k n out)[k]? = some (split1 l n out.length) := by (
 unfold step1
 rw [List.getElem?_append_left (by rw [List.length_set]; exact hk), List.getElem?_set]
 simp [hk])
theorem set_self {α : Type} {l : List α} {k : Nat} {x : α} (h : l[k]? = some x) : l.set k x = l := by (
 refine List.ext_getElem? fun i => ?_
 rw [List.getElem?_set]
 split
 · (
 rename_i e
 subst e
 have := (List.getElem?_eq_some_iff.1 h).1
 rw [if_pos this, h])
 · rfl)
theorem step1_none {l : List Nd} {k : Nat} {n : Nd} {out : List Nd} (h : ¬ 2 ≤ ways l n.t) (hk : out[k]? = some n) : step1 l k n out = out := by (
 unfold step1 split1 skips1
 rw [if_neg h, if_neg h, set_self hk, List.append_nil])
theorem step2_none {l : List Nd} {k : Nat} {n x : Nd} {out : List Nd} (h : elseB l n = false) (hk : out[k]? = some x) : step2 l k n x out = out := by (
 unfold step2 split2 skips2
 rw [if_neg (by rw [h]; simp), if_neg (by rw [h]; simp), set_self hk, List.append_nil])
theorem step2_some {l : List Nd} {k : Nat} {n x : Nd} {out : List Nd} (h : elseB l n = true) : step2 l k n x out = out.set k (x.put 5 out.length) ++ [skipN n.e] := by (
 unfold step2 split2 skips2
 rw [if_pos h, if_pos h]
 rfl)
theorem step1_some {l : List Nd} {k : Nat} {n : Nd} {out : List Nd} (h : 2 ≤ ways l n.t) (he : ¬ (n.op = 11 ∧ n.e = n.t)) : step1 l k n out = out.set k (n.put 4 out.length) ++ [skipN n.t] := by (
 unfold step1 split1 skips1
 rw [if_pos h, if_pos h, if_neg he]
 rfl)
theorem step1_both {l : List Nd} {k : Nat} {n : Nd} {out : List Nd} (h : 2 ≤ ways l n.t) (he : n.op = 11 ∧ n.e = n.t) : step1 l k n out = out.set k ((n.put 4 out.length).put 5 out.length) ++ [skipN n.t] := by (
 unfold step1 split1 skips1
 rw [if_pos h, if_pos h, if_pos he]
 rfl)
end
section
open Go.RowKit
def Edge (l : List Nd) (n m : Nat) : Prop := n < l.length ∧ m < l.length ∧ leadsB (nd l n) (m : Int) = true
theorem nd_some {l : List Nd} {n : Nat} (h : n < l.length) : l[n]? = some (nd l n) := by rw [nd, List.getD_eq_getElem?_getD, List.getElem?_eq_getElem h]; rfl
theorem nd_mem {l : List Nd} {n : Nat} (h : n < l.length) : nd l n ∈ l := List.mem_of_getElem? (nd_some h)
theorem mem_next {l : List Nd} {n : Nat} {m : Int} : m ∈ edgesOf true l n ↔ ∃ i : Nat, m = i ∧ Edge l n i := by
  unfold edgesOf Edge
  rw [if_pos rfl, mem_sel]
  constructor
  · rintro ⟨i, h1, h2, rfl⟩
    by_cases hn : n < l.length
    · exact ⟨i, rfl, hn, h1, by rw [nextP_eq (nd_some hn)] at h2; exact h2⟩
    · simp [nextP, List.getElem?_eq_none (Nat.le_of_not_lt hn)] at h2
  · rintro ⟨i, rfl, hn, h1, h2⟩
    exact ⟨i, h1, by rw [nextP_eq (nd_some hn)]; exact h2, rfl⟩
theorem mem_ahead {l : List Nd} {n : Nat} (hn : n < l.length) {m : Int} : m ∈ edgesOf false l n ↔ ∃ i : Nat, m = i ∧ Edge l i n := by
  unfold edgesOf Edge
  rw [if_neg (by simp), mem_sel]
  constructor
  · rintro ⟨i, h1, h2, rfl⟩
    exact ⟨i, rfl, h1, hn, by rw [aheadP_eq (nd_some h1)] at h2; exact h2⟩
  · rintro ⟨i, rfl, h1, _, h2⟩
    exact ⟨i, h1, by rw [aheadP_eq (nd_some h1)]; exact h2, rfl⟩
theorem flow_iff {bk em : Bool} {gen pass plus lt : List Bool} {l : List Nd} {x : List Bool} {n : Nat} :
    flowS bk em gen pass plus lt l x n = true ↔ yn gen n = true ∨ yn pass n = true ∧ (em = true ∨ ∃ m, m ∈ edgesOf bk l n) ∧ ∀ m ∈ edgesOf bk l n, yn plus m.toNat = true ∨ yn lt m.toNat = true ∧ yn x m.toNat = true := by
  unfold flowS saysB askOne
  cases yn gen n <;> cases yn pass n <;> rcases hE : edgesOf bk l n with _ | ⟨e0, es⟩ <;> simp
def Rc (t : Tm) (l : List Nd) (n : Nat) : Prop := recB t (nd l n) = true
def Kp (t : Tm) (l : List Nd) (n : Nat) : Prop := keepB t (nd l n) = true
theorem yn_rc {t : Tm} {l : List Nd} {n : Nat} (h : n < l.length) : yn (recL t l) n = true ↔ Rc t l n := by rw [yn_rec (nd_some h)]; exact Iff.rfl
theorem yn_kp {t : Tm} {l : List Nd} {n : Nat} (h : n < l.length) : yn (keepL t l) n = true ↔ Kp t l n := by rw [yn_keep (nd_some h)]; exact Iff.rfl
theorem yn_nrc {t : Tm} {l : List Nd} {n : Nat} (h : n < l.length) : yn (notL (recL t l)) n = true ↔ ¬ Rc t l n := by
  rw [yn_not (by rw [recL_len]; exact h), ← yn_rc h]
  cases yn (recL t l) n <;> simp
theorem yn_bnot {x : List Bool} {n : Nat} : (!yn x n) = true ↔ ¬ yn x n = true := by cases yn x n <;> simp
theorem Great.le {S : List Bool → Nat → Bool} {n : Nat} {x : List Bool} (h : Great S n x) (P : Nat → Prop)
    (hp : ∀ z : List Bool, (∀ i, i < n → (yn z i = true ↔ P i)) → ∀ i, i < n → P i → S z i = true) : ∀ i, i < n → P i → yn x i = true := by
  classical
  intro i hi hP
  have hz : ∀ j, j < n → (yn (mk n fun k => decide (P k)) j = true ↔ P j) := fun j hj => by rw [yn_mk hj]; simp
  exact h.2.2 (mk n fun k => decide (P k)) ⟨mk_len _ _, fun j hj hj2 => hp _ hz j hj ((hz j hj).1 hj2)⟩ i ((hz i hi).2 hP)
section
variable {t : Tm} {l : List Nd} {F : Fx}
theorem down_flow {x : List Bool} {P : Nat → Prop} (hx : ∀ i, i < l.length → (yn x i = true ↔ P i)) {n : Nat} (hn : n < l.length) :
    flowS true false (recL t l) (keepL t l) (noL l.length) (notL (noL l.length)) l x n = true ↔ Rc t l n ∨ Kp t l n ∧ (∃ m, Edge l n m) ∧ ∀ m, Edge l n m → P m := by
  rw [flow_iff, yn_rc hn, yn_kp hn]
  simp only [mem_next, yn_no, Bool.false_eq_true, false_or]
  refine or_congr Iff.rfl (and_congr Iff.rfl (and_congr ⟨fun ⟨m, i, e, h⟩ => ⟨i, h⟩, fun ⟨i, h⟩ => ⟨i, i, rfl, h⟩⟩ ?_))
  constructor
  · intro h m hm
    exact (hx m hm.2.1).1 (h m ⟨m, rfl, hm⟩).2
  · rintro h m ⟨i, rfl, hm⟩
    exact ⟨yn_yes (by simpa using hm.2.1), by simpa using (hx i hm.2.1).2 (h i hm)⟩
theorem up_flow {x : List Bool} {P : Nat → Prop} (hx : ∀ i, i < l.length → (yn x i = true ↔ P i)) {n : Nat} (hn : n < l.length) :
    flowS false false (noL l.length) (notL (noL l.length)) (mk l.length fun k => yn (keepL t l) k && yn (recL t l) k) (keepL t l) l x n = true ↔ (∃ m, Edge l m n) ∧ ∀ m, Edge l m n → Kp t l m ∧ (P m ∨ Rc t l m) := by
  rw [flow_iff, yn_no, yn_yes hn]
  simp only [mem_ahead hn, Bool.false_eq_true, false_or, true_and]
  refine and_congr ⟨fun ⟨m, i, e, h⟩ => ⟨i, h⟩, fun ⟨i, h⟩ => ⟨i, i, rfl, h⟩⟩ ?_
  have key : ∀ i : Nat, i < l.length → ((yn (mk l.length fun k => yn (keepL t l) k && yn (recL t l) k) i = true ∨ yn (keepL t l) i = true ∧ yn x i = true) ↔ (Kp t l i ∧ (P i ∨ Rc t l i))) := fun i hi => by
    rw [yn_mk hi, Bool.and_eq_true, yn_kp hi, yn_rc hi, hx i hi]
    constructor
    · rintro (⟨a, b⟩ | ⟨a, b⟩)
      · exact ⟨a, .inr b⟩
      · exact ⟨a, .inl b⟩
    · rintro ⟨a, b | b⟩
      · exact .inr ⟨a, b⟩
      · exact .inl ⟨a, b⟩
  constructor
  · intro h m hm
    exact (key m hm.1).1 (h m ⟨m, rfl, hm⟩)
  · rintro h m ⟨i, rfl, hm⟩
    exact (key i hm.1).2 (h i hm)
theorem delay_flow {e x : List Bool} {P : Nat → Prop} (hx : ∀ i, i < l.length → (yn x i = true ↔ P i)) {n : Nat} (hn : n < l.length) :
    flowS false false e (notL (noL l.length)) (noL l.length) (notL (recL t l)) l x n = true ↔ yn e n = true ∨ (∃ m, Edge l m n) ∧ ∀ m, Edge l m n → P m ∧ ¬ Rc t l m := by
  rw [flow_iff, yn_yes hn]
  simp only [mem_ahead hn, yn_no, Bool.false_eq_true, false_or, true_and]
  refine or_congr Iff.rfl (and_congr ⟨fun ⟨m, i, e, h⟩ => ⟨i, h⟩, fun ⟨i, h⟩ => ⟨i, i, rfl, h⟩⟩ ?_)
  constructor
  · intro h m hm
    have h1 := h m ⟨m, rfl, hm⟩
    exact ⟨(hx m hm.1).1 h1.2, (yn_nrc hm.1).1 h1.1⟩
  · rintro h m ⟨i, rfl, hm⟩
    have h1 := h i hm
    exact ⟨by simpa using (yn_nrc hm.1).2 h1.2, by simpa using (hx i hm.1).2 h1.1⟩
theorem alone_flow {f x : List Bool} {P : Nat → Prop} (hx : ∀ i, i < l.length → (yn x i = true ↔ P i)) {n : Nat} (hn : n < l.length) :
    flowS true true (noL l.length) (notL (noL l.length)) f (notL (recL t l)) l x n = true ↔ ∀ m, Edge l n m → yn f m = true ∨ ¬ Rc t l m ∧ P m := by
  rw [flow_iff, yn_no, yn_yes hn]
  simp only [mem_next, Bool.false_eq_true, false_or, true_or, true_and]
  constructor
  · intro h m hm
    exact (h m ⟨m, rfl, hm⟩).imp id fun h1 => ⟨(yn_nrc hm.2.1).1 h1.1, (hx m hm.2.1).1 h1.2⟩
  · rintro h m ⟨i, rfl, hm⟩
    exact (h i hm).imp (by simp) fun h1 => ⟨by simpa using (yn_nrc hm.2.1).2 h1.1, by simpa using (hx i hm.2.1).2 h1.2⟩
def Fx.D (F : Fx) (n : Nat) : Prop := yn F.down n = true
def Fx.U (F : Fx) (n : Nat) : Prop := yn F.up n = true
def Fx.E (F : Fx) (n : Nat) : Prop := yn F.early n = true
def Fx.Y (F : Fx) (n : Nat) : Prop := yn F.delay n = true
def Fx.L (F : Fx) (n : Nat) : Prop := yn F.late n = true
def Fx.A (F : Fx) (n : Nat) : Prop := yn F.alone n = true
theorem IsFx.downI (h : IsFx t l F) {n : Nat} (hn : n < l.length) : F.D n ↔ Rc t l n ∨ Kp t l n ∧ (∃ m, Edge l n m) ∧ ∀ m, Edge l n m → F.D m := by
  unfold Fx.D
  rw [h.down.1.2 n hn]
  exact down_flow (fun i _ => Iff.rfl) hn
theorem IsFx.upI (h : IsFx t l F) {n : Nat} (hn : n < l.length) : F.U n ↔ (∃ m, Edge l m n) ∧ ∀ m, Edge l m n → Kp t l m ∧ (F.U m ∨ Rc t l m) := by
  unfold Fx.U
  rw [h.up.1.2 n hn]
  exact up_flow (fun i _ => Iff.rfl) hn
theorem IsFx.delayI (h : IsFx t l F) {n : Nat} (hn : n < l.length) : F.Y n ↔ F.E n ∨ (∃ m, Edge l m n) ∧ ∀ m, Edge l m n → F.Y m ∧ ¬ Rc t l m := by
  unfold Fx.Y Fx.E
  rw [h.delay.1.2 n hn]
  exact delay_flow (fun i _ => Iff.rfl) hn
theorem IsFx.aloneI (h : IsFx t l F) {n : Nat} (hn : n < l.length) : F.A n ↔ ∀ m, Edge l n m → F.L m ∨ ¬ Rc t l m ∧ F.A m := by
  unfold Fx.A Fx.L
  rw [h.alone.1.2 n hn]
  exact alone_flow (fun i _ => Iff.rfl) hn
theorem IsFx.earlyI (h : IsFx t l F) {n : Nat} (hn : n < l.length) : F.E n ↔ F.D n ∧ ((¬ ∃ m, Edge l m n) ∨ ∃ m, Edge l m n ∧ (¬ Kp t l m ∨ ¬ F.D m ∧ ¬ F.U m)) := by
  have e0 : ((edgesOf false l n).length == 0) = true ↔ ¬ ∃ m, Edge l m n := by
    rw [beq_iff_eq, List.length_eq_zero_iff, List.eq_nil_iff_forall_not_mem]
    exact ⟨fun h ⟨m, hm⟩ => h m ((mem_ahead hn).2 ⟨m, rfl, hm⟩), fun h m hm => by obtain ⟨i, _, h2⟩ := (mem_ahead hn).1 hm; exact h ⟨i, h2⟩⟩
  unfold Fx.E
  rw [h.early, earlyL, yn_mk hn, Bool.and_eq_true, Bool.or_eq_true, e0, List.any_eq_true]
  refine and_congr Iff.rfl (or_congr Iff.rfl ?_)
  constructor
  · rintro ⟨m, hm, h2⟩
    obtain ⟨i, rfl, h3⟩ := (mem_ahead hn).1 hm
    simp only [Int.toNat_natCast, Bool.or_eq_true, Bool.and_eq_true, yn_bnot, yn_kp h3.1] at h2
    exact ⟨i, h3, h2⟩
  · rintro ⟨i, h3, h2⟩
    refine ⟨i, (mem_ahead hn).2 ⟨i, rfl, h3⟩, ?_⟩
    simp only [Int.toNat_natCast, Bool.or_eq_true, Bool.and_eq_true, yn_bnot, yn_kp h3.1]
    exact h2
theorem IsFx.lateI (h : IsFx t l F) {n : Nat} (hn : n < l.length) : F.L n ↔ F.Y n ∧ (Rc t l n ∨ ∃ m, Edge l n m ∧ ¬ F.Y m) := by
  unfold Fx.L
  rw [h.late, lateL, yn_mk hn, Bool.and_eq_true, Bool.or_eq_true, yn_rc hn, List.any_eq_true]
  refine and_congr Iff.rfl (or_congr Iff.rfl ?_)
  constructor
  · rintro ⟨m, hm, h2⟩
    obtain ⟨i, rfl, h3⟩ := mem_next.1 hm
    simp only [Int.toNat_natCast, yn_bnot] at h2
    exact ⟨i, h3, h2⟩
  · rintro ⟨i, h3, h2⟩
    exact ⟨i, mem_next.2 ⟨i, rfl, h3⟩, by simp only [Int.toNat_natCast, yn_bnot]; exact h2⟩
theorem IsFx.down_le (h : IsFx t l F) (P : Nat → Prop) (hp : ∀ n, n < l.length → P n → Rc t l n ∨ Kp t l n ∧ (∃ m, Edge l n m) ∧ ∀ m, Edge l n m → P m) : ∀ n, n < l.length → P n → F.D n :=
  h.down.le P fun z hz i hi hP => (down_flow hz hi).2 (hp i hi hP)
theorem IsFx.up_le (h : IsFx t l F) (P : Nat → Prop) (hp : ∀ n, n < l.length → P n → (∃ m, Edge l m n) ∧ ∀ m, Edge l m n → Kp t l m ∧ (P m ∨ Rc t l m)) : ∀ n, n < l.length → P n → F.U n :=
  h.up.le P fun z hz i hi hP => (up_flow hz hi).2 (hp i hi hP)
theorem IsFx.delay_le (h : IsFx t l F) (P : Nat → Prop) (hp : ∀ n, n < l.length → P n → F.E n ∨ (∃ m, Edge l m n) ∧ ∀ m, Edge l m n → P m ∧ ¬ Rc t l m) : ∀ n, n < l.length → P n → F.Y n :=
  h.delay.le P fun z hz i hi hP => (delay_flow hz hi).2 (hp i hi hP)
theorem IsFx.alone_le (h : IsFx t l F) (P : Nat → Prop) (hp : ∀ n, n < l.length → P n → ∀ m, Edge l n m → F.L m ∨ ¬ Rc t l m ∧ P m) : ∀ n, n < l.length → P n → F.A n :=
  h.alone.le P fun z hz i hi hP => (alone_flow hz hi).2 (hp i hi hP)
def Lone (l : List Nd) : Prop := ∀ n m, Edge l n m → (nd l n).op ≠ 0 → ∀ k, Edge l k m → k = n
theorem edge_one {l : List Nd} {n m k : Nat} (h : (nd l n).op ≠ 11) (h1 : Edge l n m) (h2 : Edge l n k) : m = k := by
  rcases leads_cases h1.2.2 with ⟨_, e1⟩ | ⟨e1, _⟩
  · rcases leads_cases h2.2.2 with ⟨_, e2⟩ | ⟨e2, _⟩
    · omega
    · exact absurd e2 h
  · exact absurd e1 h
theorem Edge.op {l : List Nd} {n m : Nat} (h : Edge l n m) : (nd l n).op ≠ 12 := by
  rcases leads_cases h.2.2 with ⟨e, _⟩ | ⟨e, _⟩
  · exact e
  · omega
theorem Edge.pos {regs : Int} {l : List Nd} (hR : Right regs l) {n m : Nat} (h : Edge l n m) : 1 ≤ m := by
  have hm := nd_mem h.1
  rcases leads_cases h.2.2 with ⟨e, e2⟩ | ⟨e, e2⟩
  · have := hR.then_ hm e; omega
  · have := hR.else_ hm e; omega
theorem edge_next {regs : Int} {l : List Nd} (hR : Right regs l) {n : Nat} (hn : n < l.length) (h : (nd l n).op ≠ 12) : ∃ m, Edge l n m := by
  have := hR.then_ (nd_mem hn) h
  exact ⟨(nd l n).t.toNat, hn, by omega, by rw [Int.toNat_of_nonneg (by omega)]; exact leads_then h⟩
theorem kp_skip {n : Nat} (h : (nd l n).op = 0) : Kp t l n := by simp [Kp, keepB, hasD, inB, h]
theorem kp_same {n : Nat} (h : hasD (nd l n).op = false) : Kp t l n := by simp [Kp, keepB, h]
theorem rc_op {n : Nat} (ht : 3 ≤ t.op ∧ t.op ≤ 8) (h : Rc t l n) : 3 ≤ (nd l n).op ∧ (nd l n).op ≤ 8 := by
  unfold Rc recB at h
  simp only [Bool.and_eq_true, beq_iff_eq] at h
  omega
variable {regs : Int}
theorem IsFx.down_next (h : IsFx t l F) {n m : Nat} (hD : F.D n) (hr : ¬ Rc t l n) (he : Edge l n m) : Kp t l n ∧ F.D m := by
  rcases (h.downI he.1).1 hD with h1 | ⟨h1, _, h2⟩
  · exact absurd h1 hr
  · exact ⟨h1, h2 m he⟩
theorem IsFx.down_skip (h : IsFx t l F) {n m : Nat} (h0 : (nd l n).op = 0) (he : Edge l n m) (hD : F.D m) : F.D n :=
  (h.downI he.1).2 (.inr ⟨kp_skip h0, ⟨m, he⟩, fun k hk => by rw [← edge_one (by omega) he hk]; exact hD⟩)
theorem IsFx.not_early (h : IsFx t l F) (hl : Lone l) {n m : Nat} (hD : F.D n) (hr : ¬ Rc t l n) (he : Edge l n m) : ¬ F.E m := fun hE => by
  obtain ⟨hk, hm⟩ := h.down_next hD hr he
  rcases ((h.earlyI he.2.1).1 hE).2 with h1 | ⟨k, h1, h2⟩
  · exact h1 ⟨n, he⟩
  · by_cases hn : (nd l n).op = 0
    · by_cases h0 : (nd l k).op = 0
      · rcases h2 with h2 | h2
        · exact h2 (kp_skip h0)
        · exact h2.1 (h.down_skip h0 h1 hm)
      · have := hl k m h1 h0 n he
        subst this
        exact h0 hn
    · have := hl n m he hn k h1
      subst this
      rcases h2 with h2 | h2
      · exact h2 hk
      · exact h2.1 hD
theorem IsFx.early_back (h : IsFx t l F) (hl : Lone l) {n m : Nat} (hE : F.E m) (he : Edge l n m) : ¬ Kp t l n ∨ ¬ F.D n ∧ ¬ F.U n := by
  obtain ⟨hD, h1 | ⟨k, h1, h2⟩⟩ := (h.earlyI he.2.1).1 hE
  · exact absurd ⟨n, he⟩ h1
  · by_cases h0 : (nd l k).op = 0
    · rcases h2 with h2 | h2
      · exact absurd (kp_skip h0) h2
      · exact absurd (h.down_skip h0 h1 hD) h2.1
    · have := hl k m h1 h0 n he
      subst this
      exact h2
theorem IsFx.late_next (h : IsFx t l F) (hl : Lone l) {n m : Nat} (hL : F.L n) (hr : ¬ Rc t l n) (he : Edge l n m) : ¬ F.Y m := by
  obtain ⟨hY, h1⟩ := (h.lateI he.1).1 hL
  obtain ⟨k, h1, h2⟩ := h1.resolve_left hr
  by_cases h0 : (nd l n).op = 0
  · rw [edge_one (by omega) he h1]; exact h2
  · refine absurd ((h.delayI h1.2.1).2 (.inr ⟨⟨n, h1⟩, fun i hi => ?_⟩)) h2
    rw [hl n k h1 h0 i hi]
    exact ⟨hY, hr⟩
theorem IsFx.delay_next (h : IsFx t l F) {n m : Nat} (hY : F.Y n) (hL : ¬ F.L n) (he : Edge l n m) : ¬ Rc t l n ∧ F.Y m := by
  rw [h.lateI he.1] at hL
  refine ⟨fun hr => hL ⟨hY, .inl hr⟩, Classical.byContradiction fun hm => hL ⟨hY, .inr ⟨m, he, hm⟩⟩⟩
theorem IsFx.delay_back (h : IsFx t l F) (hl : Lone l) {n m : Nat} (hY : F.Y m) (hE : ¬ F.E m) (he : Edge l n m) : F.Y n ∧ ¬ Rc t l n ∧ ¬ F.L n := by
  obtain ⟨h1, h2⟩ := (((h.delayI he.2.1).1 hY).resolve_left hE).2 n he
  exact ⟨h1, h2, fun hL => h.late_next hl hL h2 he hY⟩
theorem IsFx.late_delay (h : IsFx t l F) {n : Nat} (hn : n < l.length) (hL : F.L n) : F.Y n := ((h.lateI hn).1 hL).1
theorem IsFx.early_delay (h : IsFx t l F) {n : Nat} (hn : n < l.length) (hE : F.E n) : F.Y n := (h.delayI hn).2 (.inl hE)
theorem IsFx.rec_down (h : IsFx t l F) {n : Nat} (hn : n < l.length) (hr : Rc t l n) : F.D n := (h.downI hn).2 (.inl hr)
theorem IsFx.end_down (h : IsFx t l F) (ht : 3 ≤ t.op ∧ t.op ≤ 8) {n : Nat} (hn : n < l.length) (h12 : (nd l n).op = 12) : ¬ F.D n := fun hD => by
  rcases (h.downI hn).1 hD with h1 | ⟨_, ⟨m, h1⟩, _⟩
  · have := rc_op ht h1; omega
  · exact h1.op h12
inductive Rch (l : List Nd) : Nat → Prop
  | zero : Rch l 0
  | next {n m : Nat} : Rch l n → Edge l n m → Rch l m
theorem IsFx.delay_down (h : IsFx t l F) (hR : Right regs l) {n : Nat} (hn : Rch l n) : F.Y n → F.D n := by
  induction hn with
  | zero =>
    intro hY
    have hlo := hR.lo
    rcases (h.delayI hlo).1 hY with h1 | ⟨⟨m, hm⟩, _⟩
    · exact ((h.earlyI hlo).1 h1).1
    · have := hm.pos hR; omega
  | next h1 he ih =>
    intro hY
    rcases (h.delayI he.2.1).1 hY with h2 | ⟨_, h2⟩
    · exact ((h.earlyI he.2.1).1 h2).1
    · obtain ⟨h3, h4⟩ := h2 _ he
      exact (h.down_next (ih h3) h4 he).2
theorem there_down {th : Nat → Prop} (h : IsFx t l F) (hth : ∀ m, m < l.length → th m → ¬ F.D m → (∃ k, Edge l k m) ∧ ∀ k, Edge l k m → th k ∧ Kp t l k) {n : Nat} (hn : n < l.length) (h1 : th n) : F.D n ∨ F.U n := by
  by_cases hD : F.D n
  · exact .inl hD
  · refine .inr (h.up_le (fun n => th n ∧ ¬ F.D n) (fun n hn hP => ?_) n hn ⟨h1, hD⟩)
    obtain ⟨h2, h3⟩ := hth n hn hP.1 hP.2
    refine ⟨h2, fun m hm => ⟨(h3 m hm).2, ?_⟩⟩
    by_cases hr : Rc t l m
    · exact .inr hr
    · exact .inl ⟨(h3 m hm).1, fun hD => hP.2 (h.down_next hD hr hm).2⟩
end
end
section
open Go.RowKit
def reckV (op x y : Int) : Int := if op = 3 then wrap64 (x + y) else if op = 4 then wrap64 (x - y) else if op = 5 then wrap64 (x * y) else if op = 6 then bits .and .i64 x y else if op = 7 then bits .xor .i64 x y else if x < y then 1 else 0
def rg (r : List Int) (k : Int) : Int := r.getD k.toNat 0
theorem rg_get {r : List Int} {k : Nat} {z : Int} (h : r[k]? = some z) : rg r (k : Int) = z := by simp [rg, List.getD_eq_getElem?_getD, h]
structure Rn where
 regs : List Int
 read : Nat
 out : List Int
 ret : Int
 ended : Bool
 steps : Nat
 pos : Nat
 ts : List Tm
def stepR (l : List Nd) (inp : List Int) (s : Rn) : Rn :=
 let n := nd l s.pos
 if n.op = 1 then { s with steps := s.steps + 1, pos := n.t.toNat, regs := s.regs.set n.d.toNat n.a }
 else if n.op = 2 then { s with steps := s.steps + 1, pos := n.t.toNat, regs := s.regs.set n.d.toNat (rg s.regs n.a) }
 else if hasB n.op = true then { s with steps := s.steps + 1, pos := n.t.toNat, regs := s.regs.set n.d.toNat (reckV n.op (rg s.regs n.a) (rg s.regs n.b)), ts := s.ts ++ [n.tm] }
 else if n.op = 9 then (if s.read < inp.length then { s with steps := s.steps + 1, pos := n.t.toNat, regs := s.regs.set n.d.toNat (inp.getD s.read 0), read := s.read + 1 } else { s with steps := s.steps + 1, pos := n.t.toNat, regs := s.regs.set n.d.toNat 0 })
 else if n.op = 10 then { s with steps := s.steps + 1, pos := n.t.toNat, out := s.out ++ [rg s.regs n.a] }
 else if n.op = 11 then (if rg s.regs n.a = 0 then { s with steps := s.steps + 1, pos := n.e.toNat } else { s with steps := s.steps + 1, pos := n.t.toNat })
 else if n.op = 12 then { s with steps := s.steps + 1, pos := n.t.toNat, ret := rg s.regs n.a, ended := true }
 else { s with steps := s.steps + 1, pos := n.t.toNat }
theorem stepR_steps (l : List Nd) (inp : List Int) (s : Rn) : (stepR l inp s).steps = s.steps + 1 := by (
 unfold stepR
 simp only
 repeat' split
 all_goals rfl)
def goR (l : List Nd) (inp : List Int) : Nat → Rn → Rn
 | 0, s => s
 | k + 1, s => if s.ended = true then s else goR l inp k (stepR l inp s)
theorem goR_ended {l : List Nd} {inp : List Int} {s : Rn} (h : s.ended = true) : ∀ k, goR l inp k s = s
 | 0 => rfl
 | k + 1 => by rw [goR, if_pos h]
theorem goR_step {l : List Nd} {inp : List Int} {s : Rn} (h : s.ended = false) (k : Nat) : goR l inp (k + 1) s = goR l inp k (stepR l inp s) := by rw [goR, if_neg (by rw [h]; simp)]
def startR (regs : Int) : Rn := ⟨List.replicate regs.toNat 0, 0, [], 0, false, 0, 0, []⟩
def runR (regs : Int) (l : List Nd) (inp : List Int) (fuel : Nat) : Rn := goR l inp fuel (startR regs)
structure RnOk (regs : Int) (l : List Nd) (inp : List Int) (s : Rn) : Prop where
 regs : s.regs.length = regs.toNat
 pos : s.pos < l.length
 read : s.read ≤ inp.length
 out : s.out.length ≤ s.steps
 ts : s.ts.length ≤ s.steps
 key : ∀ t ∈ s.ts, ∃ n ∈ l, hasB n.op = true ∧ t = n.tm
theorem RnOk.start {regs : Int} {l : List Nd} {inp : List Int} (hR : Right regs l) : RnOk regs l inp (startR regs) :=
 ⟨by simp [startR], hR.lo, Nat.zero_le _, Nat.le_refl _, Nat.le_refl _, fun t ht => by cases ht⟩
theorem Right.pos_ {regs : Int} {l : List Nd} (hR : Right regs l) {n : Nd} (hn : n ∈ l) : n.t.toNat < l.length := by (
 by_cases h12 : n.op = 12
 · (
 have h := hR.frm n hn
 have h0 : n.t = 0 := by (
 simp only [badF, okF, shT, h12, Bool.or_eq_false_iff, Bool.not_eq_false', Bool.or_eq_true, beq_iff_eq] at h
 rcases h.1.2 with e | e
 · simp at e
 · exact e)
 have := hR.lo
 rw [h0]
 show 0 < l.length
 omega)
 · (
 have := hR.then_ hn h12
 omega))
theorem RnOk.step {regs : Int} {l : List Nd} {inp : List Int} {s : Rn} (hR : Right regs l) (h : RnOk regs l inp s) : RnOk regs l inp (stepR l inp s) := by (
 obtain ⟨h1, h2, h3, h4, h5, h6⟩ := h
 have hg : l[s.pos]? = some (nd l s.pos) := by rw [nd, List.getD_eq_getElem?_getD, List.getElem?_eq_getElem h2]; rfl
 have hn := List.mem_of_getElem? hg
 have hp := hR.pos_ hn
 generalize nd l s.pos = n at hg hn hp
 have hnd : nd l s.pos = n := nd_get hg
 unfold stepR
 simp only [hnd]
 split
 · exact ⟨by simpa using h1, hp, h3, Nat.le_succ_of_le h4, Nat.le_succ_of_le h5, h6⟩
 split
 · exact ⟨by simpa using h1, hp, h3, Nat.le_succ_of_le h4, Nat.le_succ_of_le h5, h6⟩
 split
 · (
 rename_i hB
 refine ⟨by simpa using h1, hp, h3, Nat.le_succ_of_le h4, by simp; omega, fun t ht => ?_⟩
 rcases List.mem_append.1 ht with e | e
 · exact h6 t e
 · exact ⟨n, hn, hB, by simpa using e⟩)
 split
 · (
 split
 · exact ⟨by simpa using h1, hp, by show s.read + 1 ≤ _; omega, Nat.le_succ_of_le h4, Nat.le_succ_of_le h5, h6⟩
 · exact ⟨by simpa using h1, hp, h3, Nat.le_succ_of_le h4, Nat.le_succ_of_le h5, h6⟩)
 split
 · exact ⟨h1, hp, h3, by simp; omega, Nat.le_succ_of_le h5, h6⟩
 split
 · (
 rename_i h11
 split
 · (
 have := hR.else_ hn h11
 exact ⟨h1, by show n.e.toNat < _; omega, h3, Nat.le_succ_of_le h4, Nat.le_succ_of_le h5, h6⟩)
 · exact ⟨h1, hp, h3, Nat.le_succ_of_le h4, Nat.le_succ_of_le h5, h6⟩)
 split
 · exact ⟨h1, hp, h3, Nat.le_succ_of_le h4, Nat.le_succ_of_le h5, h6⟩
 · exact ⟨h1, hp, h3, Nat.le_succ_of_le h4, Nat.le_succ_of_le h5, h6⟩)
end
section
open Go.RowKit
theorem stepR_out (l : List Nd) (inp : List Int) (s : Rn) : ∃ x, (stepR l inp s).out = s.out ++ x := by (
 unfold stepR
 simp only
 split
 · exact ⟨[], by simp⟩
 split
 · exact ⟨[], by simp⟩
 split
 · exact ⟨[], by simp⟩
 split
 · (
 split
 · exact ⟨[], by simp⟩
 · exact ⟨[], by simp⟩)
 split
 · exact ⟨_, rfl⟩
 split
 · (
 split
 · exact ⟨[], by simp⟩
 · exact ⟨[], by simp⟩)
 split
 · exact ⟨[], by simp⟩
 · exact ⟨[], by simp⟩)
theorem goR_add (l : List Nd) (inp : List Int) : ∀ (k m : Nat) (s : Rn), goR l inp (k + m) s = goR l inp m (goR l inp k s)
 | 0, m, s => by rw [Nat.zero_add]; rfl
 | k + 1, m, s => by (
 rw [show k + 1 + m = (k + m) + 1 by omega]
 by_cases h : s.ended = true
 · rw [goR_ended h, goR_ended h, goR_ended h]
 · (
 have h : s.ended = false := by simpa using h
 rw [goR_step h, goR_step h]
 exact goR_add l inp k m _))
theorem goR_out (l : List Nd) (inp : List Int) : ∀ (k : Nat) (s : Rn), ∃ x, (goR l inp k s).out = s.out ++ x
 | 0, s => ⟨[], by simp [goR]⟩
 | k + 1, s => by (
 by_cases h : s.ended = true
 · rw [goR_ended h]; exact ⟨[], by simp⟩
 · (
 have h : s.ended = false := by simpa using h
 rw [goR_step h]
 obtain ⟨x, hx⟩ := goR_out l inp k (stepR l inp s)
 obtain ⟨y, hy⟩ := stepR_out l inp s
 exact ⟨y ++ x, by rw [hx, hy, List.append_assoc]⟩))
theorem goR_ge (l : List Nd) (inp : List Int) : ∀ (k : Nat) (s : Rn), s.steps ≤ (goR l inp k s).steps
 | 0, s => Nat.le_refl _
 | k + 1, s => by (
 by_cases h : s.ended = true
 · rw [goR_ended h]; exact Nat.le_refl _
 · (
 have h : s.ended = false := by simpa using h
 rw [goR_step h]
 have := goR_ge l inp k (stepR l inp s)
 rw [stepR_steps] at this
 omega))
theorem goR_steps (l : List Nd) (inp : List Int) : ∀ (k : Nat) (s : Rn), (goR l inp k s).ended = false → (goR l inp k s).steps = s.steps + k
 | 0, s, _ => rfl
 | k + 1, s, h => by (
 by_cases h0 : s.ended = true
 · rw [goR_ended h0, h0] at h; cases h
 · (
 have h0 : s.ended = false := by simpa using h0
 rw [goR_step h0] at h ⊢
 rw [goR_steps l inp k _ h, stepR_steps]
 omega))
theorem more_ended {regs : Int} {l : List Nd} {inp : List Int} {n : Nat} (h : (runR regs l inp n).ended = true) (m : Nat) : runR regs l inp (n + m) = runR regs l inp n := by (
 unfold runR at *
 rw [goR_add, goR_ended h])
theorem more_not {regs : Int} {l : List Nd} {inp : List Int} {n : Nat} (h : (runR regs l inp n).ended = false) (m : Nat) :
 (runR regs l inp n).steps = n ∧ (∃ x, (runR regs l inp (n + m)).out = (runR regs l inp n).out ++ x) ∧ n ≤ (runR regs l inp (n + m)).steps := by (
 unfold runR at *
 have h1 := goR_steps l inp n _ h
 have h2 : (goR l inp n (startR regs)).steps = n := by rw [h1]; show 0 + n = n; omega
 refine ⟨h2, ?_, ?_⟩
 · rw [goR_add]; exact goR_out l inp m _
 · (
 rw [goR_add]
 have := goR_ge l inp m (goR l inp n (startR regs))
 omega))
def chV (c n : Int) : Int := (if c < 0 then -(c + 1) else c) % n
theorem chV_in (c : Int) {n : Int} (hn : 0 < n) : 0 ≤ chV c n ∧ chV c n < n := ⟨Int.emod_nonneg _ (by omega), Int.emod_lt_of_pos _ hn⟩
theorem Right.chk {regs : Int} {l : List Nd} (h : Right regs l) : chk regs l = 0 := by (
 obtain ⟨h1, h2, h3, h4, h5, h6, h7⟩ := h
 unfold Go.Proofs.Ytmghkonmfbpjcab.chk
 rw [if_neg (by omega), if_neg, if_neg, if_neg]
 · (
 simp only [List.any_eq_true, not_exists, not_and]
 intro n hn; rw [h7 n hn]; simp)
 · (
 simp only [List.any_eq_true, not_exists, not_and]
 intro n hn; rw [h6 n hn]; simp)
 · (
 simp only [List.any_eq_true, not_exists, not_and]
 intro n hn; rw [h5 n hn]; simp))
end
end Go.Proofs.Ytmghkonmfbpjcab
