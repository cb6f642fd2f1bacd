/- Plain law: lists of yes and no; the greatest answer. No program in sight. -/
import Derived.Test.YtmghkonmfbpjcabDoorTab
namespace Go.Proofs.YtmghkonmfbpjcabDoor
set_option linter.unusedVariables false
set_option linter.unusedSimpArgs false
open Go.RowKit

def bools (l : List Bool) : List Value := l.map Value.bool
theorem bools_length (a : List Bool) : (bools a).length = a.length := List.length_map _
theorem bools_get (a : List Bool) (k : Nat) : (bools a)[k]? = a[k]?.map Value.bool := List.getElem?_map
/-- the k-th yes or no -/
def yn (l : List Bool) (k : Nat) : Bool := l.getD k false
theorem ValsAt.bool {w : World} {A : Option Addr} {l : List Bool} (h : ValsAt w A (bools l)) {k : Nat} (hk : k < l.length) :
    ∃ b off, A = some ⟨b, off, none⟩ ∧ b < w.heap.size ∧ w.cell? ⟨b, off + k, none⟩ = some (.bool (yn l k)) := by
  obtain ⟨b, off, v, e, hb, hv, hc⟩ := h.get (k := k) (by rw [bools_length]; exact hk)
  rw [bools_get, List.getElem?_eq_getElem hk] at hv
  simp at hv
  subst hv
  exact ⟨b, off, e, hb, by rw [hc]; simp [yn, hk]⟩

theorem yn_set (x : List Bool) (k i : Nat) (b : Bool) (hk : k < x.length) : yn (x.set k b) i = if i = k then b else yn x i := by
  unfold yn
  rw [List.getD_eq_getElem?_getD, List.getD_eq_getElem?_getD, List.getElem?_set]
  by_cases h : i = k
  · subst h; simp [hk]
  · rw [if_neg (fun e => h e.symm), if_neg h]
theorem yn_out {x : List Bool} {i : Nat} (h : x.length ≤ i) : yn x i = false := by simp [yn, h]
theorem ext_yn {x y : List Bool} (hl : x.length = y.length) (h : ∀ i, i < x.length → yn x i = yn y i) : x = y := by
  apply List.ext_getElem hl
  intro i h1 h2
  have := h i h1
  simpa [yn, h1, h2] using this

/-- x says yes only where y does -/
def leB (x y : List Bool) : Prop := ∀ i, yn x i = true → yn y i = true
section
variable (S : List Bool → Nat → Bool) (n : Nat)
/-- it says yes only where it must -/
def Post (x : List Bool) : Prop := x.length = n ∧ ∀ i, i < n → yn x i = true → S x i = true
/-- an answer -/
def Ans (x : List Bool) : Prop := x.length = n ∧ ∀ i, i < n → yn x i = S x i
/-- above all that says yes only where it must -/
def Above (x : List Bool) : Prop := x.length = n ∧ ∀ z, Post S n z → leB z x
/-- the greatest answer -/
def Great (x : List Bool) : Prop := Ans S n x ∧ Above S n x
def Mono : Prop := ∀ x y i, leB x y → S x i = true → S y i = true
variable {S n}
theorem Above.start {x : List Bool} (hl : x.length = n) (h : ∀ i, i < n → yn x i = true) : Above S n x := ⟨hl, fun z hz i hi => by
  by_cases hin : i < n
  · exact h i hin
  · rw [yn_out (by rw [hz.1]; omega)] at hi; cases hi⟩
theorem Above.drop (hm : Mono S) {x : List Bool} (h : Above S n x) {k : Nat} (hk : k < n) (hs : S x k = false) : Above S n (x.set k false) := by
  refine ⟨by simpa using h.1, fun z hz i hi => ?_⟩
  rw [yn_set _ _ _ _ (by rw [h.1]; exact hk)]
  by_cases hik : i = k
  · subst hik
    have := hm z x i (h.2 z hz) (hz.2 i hk hi)
    rw [hs] at this
    cases this
  · rw [if_neg hik]
    exact h.2 z hz i hi
theorem Above.great (hm : Mono S) {x : List Bool} (h : Above S n x) (hp : ∀ i, i < n → yn x i = true → S x i = true) : Great S n x := by
  refine ⟨⟨h.1, fun i hi => ?_⟩, h⟩
  rw [Bool.eq_iff_iff]
  refine ⟨hp i hi, fun hs => ?_⟩
  by_cases hx : yn x i = true
  · exact hx
  · have hle : leB x (x.set i true) := fun j hj => by
      rw [yn_set _ _ _ _ (by rw [h.1]; exact hi)]
      split
      · rfl
      · exact hj
    have hz : Post S n (x.set i true) := by
      refine ⟨by simpa using h.1, fun j hj hjz => ?_⟩
      rw [yn_set _ _ _ _ (by rw [h.1]; exact hi)] at hjz
      by_cases hji : j = i
      · subst hji
        exact hm _ _ _ hle hs
      · rw [if_neg hji] at hjz
        exact hm _ _ _ hle (hp j hj hjz)
    exact h.2 _ hz i (by rw [yn_set _ _ _ _ (by rw [h.1]; exact hi), if_pos rfl])
theorem Great.unique {x y : List Bool} (hx : Great S n x) (hy : Great S n y) : x = y := by
  refine ext_yn (hx.1.1.trans hy.1.1.symm) fun i hi => ?_
  rw [hx.1.1] at hi
  rw [Bool.eq_iff_iff]
  exact ⟨hy.2.2 x ⟨hx.1.1, fun j hj h => by rw [← hx.1.2 j hj]; exact h⟩ i, hx.2.2 y ⟨hy.1.1, fun j hj h => by rw [← hy.1.2 j hj]; exact h⟩ i⟩
theorem Great.ans_le {x z : List Bool} (hx : Great S n x) (hz : Ans S n z) : leB z x :=
  hx.2.2 z ⟨hz.1, fun j hj h => by rw [← hz.2 j hj]; exact h⟩
end

def cnt (x : List Bool) : Nat := x.count true
theorem cnt_set {x : List Bool} {k : Nat} (hk : k < x.length) (hx : yn x k = true) : cnt (x.set k false) + 1 = cnt x := by
  unfold cnt
  rw [List.count_set hk]
  have h1 : x[k] = true := by simpa [yn, hk] using hx
  have h2 : 0 < x.count true := List.count_pos_iff.2 (by rw [← h1]; exact List.getElem_mem hk)
  simp [h1]
  omega
theorem cnt_le (x : List Bool) : cnt x ≤ x.length := List.count_le_length
theorem bools_set (x : List Bool) (k : Nat) (b : Bool) : (bools x).set k (.bool b) = bools (x.set k b) := (List.map_set).symm
theorem Row.bool {w : World} {B : Nat} {e : TypeId} {v : Value} {x : List Bool} (h : Row w B e v (bools x)) {k : Nat} (hk : k < x.length) :
    ∃ g o cap, v = .slice (some ⟨g, o, none⟩) x.length cap ∧ B ≤ g ∧ g < w.heap.size ∧ w.cell? ⟨g, o + k, none⟩ = some (.bool (yn x k)) ∧ w.frozen? ⟨g, o + k, none⟩ = false := by
  obtain ⟨g, o, cap, u, e1, hb, hl, hu, hc, hf⟩ := h.get (k := k) (by rw [bools_length]; exact hk)
  rw [bools_get, List.getElem?_eq_getElem hk] at hu
  simp at hu
  subst hu
  rw [bools_length] at e1
  exact ⟨g, o, cap, e1, hb, hl, by rw [hc]; simp [yn, hk], hf⟩
theorem Row.setb {w : World} {B : Nat} {e : TypeId} {g o n cap : Nat} {x : List Bool} (h : Row w B e (.slice (some ⟨g, o, none⟩) n cap) (bools x)) (k : Nat) (b : Bool) :
    Row (w.setCell ⟨g, o + k, none⟩ (.bool b)) B e (.slice (some ⟨g, o, none⟩) n cap) (bools (x.set k b)) := by
  rw [← bools_set]
  exact h.store k _

end Go.Proofs.YtmghkonmfbpjcabDoor
