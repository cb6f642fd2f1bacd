/- Plain law: the least answer reckoned; a set of registers as a list; the lists of what is live. No program in sight. -/
import Derived.Test.YtmghkonmfbpjcaaDoorLiveQ
import Derived.Lib.TrailingZeros
namespace Go.Proofs.YtmghkonmfbpjcaaDoor
set_option linter.unusedVariables false
set_option linter.unusedSimpArgs false
open Go.RowKit

/-- one turn, from the last one to the first -/
def sweep (S : List Bool → Nat → Bool) : Nat → List Bool → List Bool
  | 0, x => x
  | k + 1, x => sweep S k (x.set k (S x k))
def sweeps (S : List Bool → Nat → Bool) (n : Nat) : Nat → List Bool
  | 0 => List.replicate n false
  | c + 1 => sweep S n (sweeps S n c)
theorem Turning.sweep {S : List Bool → Nat → Bool} (hm : Mono S) {n c : Nat} : ∀ (k : Nat) (x : List Bool), k ≤ n → Turning S n c k x → Turning S n c 0 (sweep S k x)
  | 0, x, _, h => h
  | k + 1, x, hk, h => Turning.sweep hm k _ (by omega) (h.step hm (by omega))
theorem sweeps_turned {S : List Bool → Nat → Bool} (hm : Mono S) (n : Nat) : ∀ c, Turned S n c (sweeps S n c)
  | 0 => Turned.start (by simp [sweeps]) (fun i => by simp [sweeps, yn, List.getD_eq_getElem?_getD, List.getElem?_replicate]; split <;> simp)
  | c + 1 => (Turning.sweep hm n _ (Nat.le_refl _) (sweeps_turned hm n c).begin_).end_
def leastL (S : List Bool → Nat → Bool) (n : Nat) : List Bool := sweeps S n (n + 1)
theorem leastL_least {S : List Bool → Nat → Bool} (hm : Mono S) (n : Nat) : Least S n (leastL S n) := (sweeps_turned hm n (n + 1)).least

/-- where a register is live -/
def lvx (l : List Nd) (r : Nat) : List Bool := leastL (liveS l r) l.length
theorem lvx_least (l : List Nd) (r : Nat) : Least (liveS l r) l.length (lvx l r) := leastL_least (liveS_mono l r) l.length
/-- the registers that are live at a node -/
def liveL (regs : Nat) (l : List Nd) (i : Nat) : List Int := sel (fun r => yn (lvx l r) i) regs

theorem sel_none {p : Nat → Bool} {k : Nat} (h : ∀ r, r < k → p r = false) : sel p k = [] := by
  induction k with
  | zero => rfl
  | succ k ih => rw [sel_succ_false (h k (by omega)), ih fun r hr => h r (by omega)]
theorem sel_congr {p q : Nat → Bool} {k : Nat} (h : ∀ r, r < k → p r = q r) : sel p k = sel q k := by
  induction k with
  | zero => rfl
  | succ k ih =>
    have hk := h k (by omega)
    cases hp : p k
    · rw [sel_succ_false hp, sel_succ_false (by rw [← hk]; exact hp), ih fun r hr => h r (by omega)]
    · rw [sel_succ_true hp, sel_succ_true (by rw [← hk]; exact hp), ih fun r hr => h r (by omega)]
theorem sel_stop {p : Nat → Bool} {m : Nat} : ∀ K, m ≤ K → (∀ r, m ≤ r → r < K → p r = false) → sel p K = sel p m
  | 0, h, _ => by rw [show m = 0 by omega]
  | K + 1, h, hp => by
    by_cases hm : m = K + 1
    · rw [hm]
    · rw [sel_succ_false (hp K (by omega) (by omega))]
      exact sel_stop K (by omega) fun r h1 h2 => hp r h1 (by omega)
theorem sel_first {p q : Nat → Bool} {k : Nat} (h0 : ∀ r, r < k → p r = false) (h1 : p k = true) (hq : ∀ r, q r = (p r && r != k)) : ∀ K, k < K → sel p K = (k : Int) :: sel q K
  | 0, h => absurd h (by omega)
  | K + 1, h => by
    by_cases hk : k = K
    · subst hk
      rw [sel_succ_true h1, sel_none h0, sel_succ_false (by rw [hq]; simp), sel_none fun r hr => by rw [hq, h0 r hr]; rfl]
      rfl
    · have ih := sel_first h0 h1 hq K (by omega)
      have hqK : q K = p K := by rw [hq]; simp; omega
      cases hp : p K
      · rw [sel_succ_false hp, sel_succ_false (by rw [hqK]; exact hp), ih]
      · rw [sel_succ_true hp, sel_succ_true (by rw [hqK]; exact hp), ih]
        rfl

def regsOf (z : Nat) : List Int := sel (fun r => z.testBit r) 64
theorem regsOf_zero : regsOf 0 = [] := sel_none fun r _ => by simp
theorem bit_low {k m r : Nat} : (2 ^ k * (2 * m + 1)).testBit r = if r < k then false else if r = k then true else m.testBit (r - k - 1) := by
  have h := Nat.testBit_two_pow_mul_add (2 * m + 1) (i := k) (b := 0) (by exact Nat.two_pow_pos k) r
  rw [Nat.add_zero] at h
  rw [h]
  split
  · simp
  · rename_i h1
    by_cases h2 : r = k
    · subst h2; simp
    · rw [if_neg h2, show r - k = (r - k - 1) + 1 by omega, Nat.testBit_succ, show (2 * m + 1) / 2 = m by omega]
      simp
theorem bit_lower {k m r : Nat} : (2 ^ k * (2 * m + 1) - 1).testBit r = if r < k then true else if r = k then false else m.testBit (r - k - 1) := by
  have hp := Nat.two_pow_pos k
  have e : 2 ^ k * (2 * m + 1) - 1 = 2 ^ k * (2 * m) + (2 ^ k - 1) := by
    rw [Nat.mul_add, Nat.mul_one]
    omega
  have h := Nat.testBit_two_pow_mul_add (2 * m) (i := k) (b := 2 ^ k - 1) (by omega) r
  rw [e, h]
  split
  · rename_i h1
    rw [Nat.testBit_two_pow_sub_one]
    simp [h1]
  · rename_i h1
    by_cases h2 : r = k
    · subst h2; simp
    · rw [if_neg h2, show r - k = (r - k - 1) + 1 by omega, Nat.testBit_succ, show (2 * m) / 2 = m by omega]
      simp
theorem regsOf_cons {z : Nat} (h0 : z ≠ 0) (h : z < 2 ^ 64) : regsOf z = (Lib.ctz 64 z : Int) :: regsOf (z &&& (z - 1)) ∧ Lib.ctz 64 z < 64 ∧ z &&& (z - 1) < z := by
  obtain ⟨m, hz, hk⟩ := Lib.ctzFrom_spec 64 z (by omega) h
  have hc : Lib.ctz 64 z = Lib.ctzFrom 64 z := by simp [Lib.ctz, h0]
  rw [hc]
  generalize Lib.ctzFrom 64 z = k at *
  refine ⟨sel_first (fun r hr => ?_) ?_ (fun r => ?_) 64 hk, hk, ?_⟩
  · rw [hz, bit_low, if_pos hr]
  · rw [hz, bit_low]; simp
  · rw [Nat.testBit_and, hz, bit_low, bit_lower]
    by_cases h1 : r < k
    · simp [h1]
    · by_cases h2 : r = k
      · subst h2; simp
      · simp [h1, h2]
  · have : z &&& (z - 1) ≤ z - 1 := Nat.and_le_right
    omega
theorem regsOf_len (z : Nat) : (regsOf z).length ≤ 64 := sel_len _ _

/-- a register beyond the program's is live nowhere -/
theorem lvx_beyond {regs : Int} {l : List Nd} (hR : Right regs l) {r : Nat} (hr : regs ≤ r) (i : Nat) : yn (lvx l r) i = false := by
  have hl := lvx_least l r
  have hc : Closed (liveS l r) l.length (List.replicate l.length false) := by
    refine ⟨by simp, fun j hj hs => ?_⟩
    have hn : l[j]? = some l[j] := List.getElem?_eq_getElem hj
    have hg : l.getD j default = l[j] := by rw [List.getD_eq_getElem?_getD, hn]; rfl
    have hno : ∀ q, yn (List.replicate l.length false) q = false := fun q => by simp [yn, List.getD_eq_getElem?_getD, List.getElem?_replicate]; split <;> simp
    have hrng := hR.rng l[j] (List.getElem_mem hj)
    simp only [badR, Bool.or_eq_false_iff, Bool.not_eq_false'] at hrng
    obtain ⟨⟨⟨⟨_, h3⟩, h4⟩, _⟩, _⟩ := hrng
    unfold liveS at hs
    rw [hg] at hs
    simp only [behindB, hno, Bool.and_false, Bool.or_false, Bool.and_false] at hs
    unfold usesB at hs
    simp only [Bool.or_eq_true, Bool.and_eq_true, beq_iff_eq] at hs
    rcases hs with ⟨h5, h6⟩ | ⟨h5, h6⟩
    · simp [okR, h5] at h3; omega
    · simp [okR, h5] at h4; omega
  by_cases hi : yn (lvx l r) i = true
  · have := hl.2.2 _ hc i hi
    simp [yn, List.getD_eq_getElem?_getD, List.getElem?_replicate] at this
    split at this <;> simp at this
  · simpa using hi
/-- what the sets of bits say is live -/
theorem regsOf_live {regs : Int} {l : List Nd} (hR : Right regs l) {ats : List Nat} (h : ∀ r : Nat, r < 64 → Least (liveS l r) l.length (bitsAt r ats)) (i : Nat) : regsOf (ats.getD i 0) = liveL regs.toNat l i := by
  have hlo := hR.rlo
  have hhi := hR.rhi
  unfold regsOf liveL
  have hb : ∀ r, r < 64 → (ats.getD i 0).testBit r = yn (lvx l r) i := fun r hr => by
    rw [← Least.unique (h r hr) (lvx_least l r), yn_bitsAt]
  rw [sel_congr hb]
  exact sel_stop 64 (by omega) fun r h1 h2 => lvx_beyond hR (by omega) i
end Go.Proofs.YtmghkonmfbpjcaaDoor
