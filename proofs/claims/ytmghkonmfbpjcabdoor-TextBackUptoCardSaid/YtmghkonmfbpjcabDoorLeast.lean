/- Plain law: the least answer, found by turns. No program in sight. -/
import Derived.Test.YtmghkonmfbpjcabDoorYes
namespace Go.Proofs.YtmghkonmfbpjcabDoor
set_option linter.unusedVariables false
set_option linter.unusedSimpArgs false
open Go.RowKit

section
variable (S : List Bool → Nat → Bool) (n : Nat)
/-- it says yes wherever it must -/
def Closed (x : List Bool) : Prop := x.length = n ∧ ∀ i, i < n → S x i = true → yn x i = true
/-- below all that say yes wherever they must -/
def Under (x : List Bool) : Prop := x.length = n ∧ ∀ z, Closed S n z → leB x z
/-- the least answer -/
def Least (x : List Bool) : Prop := Ans S n x ∧ Under S n x
variable {S n}
theorem Under.start {x : List Bool} (hl : x.length = n) (h : ∀ i, yn x i = false) : Under S n x := ⟨hl, fun z hz i hi => by rw [h i] at hi; cases hi⟩
theorem Under.put (hm : Mono S) {x : List Bool} (h : Under S n x) {k : Nat} (hk : k < n) : Under S n (x.set k (S x k)) := by
  refine ⟨by simpa using h.1, fun z hz i hi => ?_⟩
  rw [yn_set _ _ _ _ (by rw [h.1]; exact hk)] at hi
  by_cases hik : i = k
  · subst hik
    rw [if_pos rfl] at hi
    exact hz.2 i hk (hm x z i (h.2 z hz) hi)
  · rw [if_neg hik] at hi
    exact h.2 z hz i hi
theorem leB_put {x : List Bool} {k : Nat} (hk : k < x.length) (hp : yn x k = true → S x k = true) : leB x (x.set k (S x k)) := fun i hi => by
  rw [yn_set _ _ _ _ hk]
  split
  · rename_i h; subst h; exact hp hi
  · exact hi
theorem Post.put (hm : Mono S) {x : List Bool} (h : Post S n x) {k : Nat} (hk : k < n) : Post S n (x.set k (S x k)) := by
  have hkx : k < x.length := by rw [h.1]; exact hk
  have hle := leB_put (S := S) hkx (h.2 k hk)
  refine ⟨by simpa using h.1, fun i hi hs => ?_⟩
  rw [yn_set _ _ _ _ hkx] at hs
  by_cases hik : i = k
  · subst hik
    rw [if_pos rfl] at hs
    exact hm _ _ _ hle hs
  · rw [if_neg hik] at hs
    exact hm _ _ _ hle (h.2 i hi hs)
theorem cnt_put {x : List Bool} {k : Nat} (hk : k < x.length) (h0 : yn x k = false) : cnt (x.set k true) = cnt x + 1 := by
  unfold cnt
  rw [List.count_set hk]
  have h1 : x[k] = false := by simpa [yn, hk] using h0
  simp [h1]
theorem Least.unique {x y : List Bool} (hx : Least S n x) (hy : Least S n y) : x = y := by
  refine ext_yn (hx.1.1.trans hy.1.1.symm) fun i hi => ?_
  rw [Bool.eq_iff_iff]
  exact ⟨hx.2.2 y ⟨hy.1.1, fun j hj h => by rw [hy.1.2 j hj]; exact h⟩ i, hy.2.2 x ⟨hx.1.1, fun j hj h => by rw [hx.1.2 j hj]; exact h⟩ i⟩

/-- in the midst of a turn: something was added, or what was reckoned is right, or it is an answer -/
def Turning (S : List Bool → Nat → Bool) (n c k : Nat) (x : List Bool) : Prop := Post S n x ∧ Under S n x ∧ (c < cnt x ∨ (c ≤ cnt x ∧ ∀ i, k ≤ i → i < n → yn x i = S x i) ∨ Ans S n x)
theorem set_yn {x : List Bool} {k : Nat} {b : Bool} (hk : k < x.length) (h : yn x k = b) : x.set k b = x := ext_yn (by simp) fun i _ => by
  rw [yn_set _ _ _ _ hk]
  split
  · rename_i h'; subst h'; exact h.symm
  · rfl
theorem Turning.step (hm : Mono S) {c k : Nat} {x : List Bool} (h : Turning S n c (k + 1) x) (hk : k < n) : Turning S n c k (x.set k (S x k)) := by
  obtain ⟨hp, hu, hr⟩ := h
  have hkx : k < x.length := by rw [hp.1]; exact hk
  refine ⟨hp.put hm hk, hu.put hm hk, ?_⟩
  by_cases he : yn x k = S x k
  · rw [set_yn hkx he]
    refine hr.imp id fun h => h.imp (fun ⟨hc, h⟩ => ⟨hc, fun i hi hin => ?_⟩) id
    rcases Nat.lt_or_ge k i with hlt | hge
    · exact h i hlt hin
    · obtain rfl : i = k := by omega
      exact he
  · cases hx : yn x k with
    | true => exact absurd (hx.trans (hp.2 k hk hx).symm) he
    | false =>
      cases hs : S x k with
      | false => exact absurd (hx.trans hs.symm) he
      | true =>
        rw [cnt_put hkx hx]
        rcases hr with hc | ⟨hc, _⟩ | ha
        · exact .inl (by omega)
        · exact .inl (by omega)
        · exact absurd (ha.2 k hk) he
/-- behind so many turns: an answer, or so many yeses -/
def Turned (S : List Bool → Nat → Bool) (n c : Nat) (x : List Bool) : Prop := Post S n x ∧ Under S n x ∧ (c ≤ cnt x ∨ Ans S n x)
theorem Turned.start {x : List Bool} (hl : x.length = n) (h : ∀ i, yn x i = false) : Turned S n 0 x := ⟨⟨hl, fun i _ hi => by rw [h i] at hi; cases hi⟩, Under.start hl h, .inl (Nat.zero_le _)⟩
theorem Turned.begin_ {c : Nat} {x : List Bool} (h : Turned S n c x) : Turning S n c n x := ⟨h.1, h.2.1, h.2.2.elim (fun h => .inr (.inl ⟨h, fun i hi hin => absurd hin (by omega)⟩)) fun h => .inr (.inr h)⟩
theorem Turning.end_ {c : Nat} {x : List Bool} (h : Turning S n c 0 x) : Turned S n (c + 1) x :=
  ⟨h.1, h.2.1, h.2.2.elim (fun h => .inl (by omega)) fun h => .inr (h.elim (fun h => ⟨‹Turning S n c 0 x›.1.1, fun i hi => h.2 i (Nat.zero_le _) hi⟩) id)⟩
theorem Turned.least {x : List Bool} (h : Turned S n (n + 1) x) : Least S n x := by
  refine ⟨h.2.2.resolve_left fun hc => ?_, h.2.1⟩
  have := cnt_le x
  rw [h.1.1] at this
  omega
end

/-- one turn, from the last one to the first -/
def sweep (S : List Bool → Nat → Bool) : Nat → List Bool → List Bool
  | 0, x => x
  | k + 1, x => sweep S k (x.set k (S x k))
def sweeps (S : List Bool → Nat → Bool) (n : Nat) : Nat → List Bool
  | 0 => List.replicate n false
  | c + 1 => sweep S n (sweeps S n c)
theorem Turning.sweep {S : List Bool → Nat → Bool} (hm : Mono S) {n c : Nat} : ∀ (k : Nat) (x : List Bool), k ≤ n → Turning S n c k x → Turning S n c 0 (sweep S k x)
  | 0, x, _, h => h
  | k + 1, x, hk, h => Turning.sweep hm k _ (by omega) (h.step hm (by omega))
theorem sweeps_turned {S : List Bool → Nat → Bool} (hm : Mono S) (n : Nat) : ∀ c, Turned S n c (sweeps S n c)
  | 0 => Turned.start (by simp [sweeps]) (fun i => by simp [sweeps, yn, List.getD_eq_getElem?_getD, List.getElem?_replicate]; split <;> simp)
  | c + 1 => (Turning.sweep hm n _ (Nat.le_refl _) (sweeps_turned hm n c).begin_).end_
def leastL (S : List Bool → Nat → Bool) (n : Nat) : List Bool := sweeps S n (n + 1)
theorem leastL_least {S : List Bool → Nat → Bool} (hm : Mono S) (n : Nat) : Least S n (leastL S n) := (sweeps_turned hm n (n + 1)).least

theorem closed_under {S : List Bool → Nat → Bool} (hm : Mono S) {n : Nat} {x : List Bool} (hc : Closed S n x) (hu : Under S n x) : x = leastL S n := by
  have hl := leastL_least hm n
  refine ext_yn (hc.1.trans hl.1.1.symm) fun i hi => ?_
  rw [Bool.eq_iff_iff]
  exact ⟨hu.2 _ ⟨hl.1.1, fun j hj h => by rw [hl.1.2 j hj]; exact h⟩ i, hl.2.2 x hc i⟩
end Go.Proofs.YtmghkonmfbpjcabDoor
