/- Plain law: the set of registers that a node asks for. No program in sight. -/
import Derived.Test.YtmghkonmfbpjcaaDoorBits
namespace Go.Proofs.YtmghkonmfbpjcaaDoor
set_option linter.unusedVariables false
set_option linter.unusedSimpArgs false
open Go.RowKit

/-- the registers that a node uses -/
def usedN (n : Nd) : Nat := if hasB n.op = true then 2 ^ n.a.toNat ||| 2 ^ n.b.toNat else if hasA n.op = true then 2 ^ n.a.toNat else 0
def madeN (n : Nd) : Nat := if hasD n.op = true then 2 ^ n.d.toNat else 0
def behindN (n : Nd) (ats : List Nat) : Nat := if n.op = 12 then 0 else if n.op = 11 then ats.getD n.t.toNat 0 ||| ats.getD n.e.toNat 0 else ats.getD n.t.toNat 0
def newN (n : Nd) (ats : List Nat) : Nat := usedN n ||| (behindN n ats &&& (18446744073709551615 - madeN n))

/-- the registers of a node lie in their bounds -/
def Regs64 (n : Nd) : Prop := (hasD n.op = true → 0 ≤ n.d ∧ n.d < 64) ∧ (hasA n.op = true → 0 ≤ n.a ∧ n.a < 64) ∧ (hasB n.op = true → 0 ≤ n.b ∧ n.b < 64)
theorem Right.regs64 {regs : Int} {l : List Nd} (h : Right regs l) {n : Nd} (hn : n ∈ l) : Regs64 n := by
  have h1 := h.rng n hn
  have hr := h.rhi
  simp only [badR, Bool.or_eq_false_iff, Bool.not_eq_false'] at h1
  obtain ⟨⟨⟨⟨h2, h3⟩, h4⟩, _⟩, _⟩ := h1
  refine ⟨fun hh => ?_, fun hh => ?_, fun hh => ?_⟩
  · simp [okR, hh] at h2; omega
  · simp [okR, hh] at h3; omega
  · simp [okR, hh] at h4; omega

theorem two_pow_lt {k : Nat} (h : k < 64) : 2 ^ k < 18446744073709551616 := by
  have : 2 ^ k < 2 ^ 64 := Nat.pow_lt_pow_right (by omega) h
  simpa using this
theorem or_lt {a b : Nat} (ha : a < 18446744073709551616) (hb : b < 18446744073709551616) : a ||| b < 18446744073709551616 := by
  have := Nat.or_lt_two_pow (x := a) (y := b) (n := 64) (by simpa using ha) (by simpa using hb)
  simpa using this
theorem usedN_lt {n : Nd} (h : Regs64 n) : usedN n < 18446744073709551616 := by
  obtain ⟨_, h2, h3⟩ := h
  unfold usedN
  split
  · rename_i hb
    have ha : hasA n.op = true := by simp [hasB, hasA, inB] at *; omega
    exact or_lt (two_pow_lt (by have := h2 ha; omega)) (two_pow_lt (by have := h3 hb; omega))
  · split
    · rename_i ha
      exact two_pow_lt (by have := h2 ha; omega)
    · omega
theorem madeN_lt {n : Nd} (h : Regs64 n) : madeN n < 18446744073709551616 := by
  unfold madeN
  split
  · rename_i hd; exact two_pow_lt (by have := h.1 hd; omega)
  · omega
theorem getD_lt {ats : List Nat} (h : ∀ z ∈ ats, z < 2 ^ 64) (k : Nat) : ats.getD k 0 < 18446744073709551616 := by
  rw [List.getD_eq_getElem?_getD]
  rcases hk : ats[k]? with _ | z
  · simp
  · have := h z (List.mem_of_getElem? hk)
    simpa using this
theorem behindN_lt {n : Nd} {ats : List Nat} (h : ∀ z ∈ ats, z < 2 ^ 64) : behindN n ats < 18446744073709551616 := by
  unfold behindN
  split
  · omega
  · split
    · exact or_lt (getD_lt h _) (getD_lt h _)
    · exact getD_lt h _
theorem newN_lt {n : Nd} {ats : List Nat} (hn : Regs64 n) (h : ∀ z ∈ ats, z < 2 ^ 64) : newN n ats < 18446744073709551616 :=
  or_lt (usedN_lt hn) (Nat.lt_of_le_of_lt Nat.and_le_left (behindN_lt h))
theorem bit_of {z : Int} {r : Nat} (h : 0 ≤ z) : (2 ^ z.toNat).testBit r = (z == (r : Int)) := by
  rw [bit_one, Bool.eq_iff_iff, decide_eq_true_iff, beq_iff_eq]
  omega
theorem newN_bit {n : Nd} {ats : List Nat} (hn : Regs64 n) {r : Nat} (hr : r < 64) :
    (newN n ats).testBit r = (usesB n r || (!makesB n r && behindB n (bitsAt r ats))) := by
  have hu : (usedN n).testBit r = usesB n r := by
    obtain ⟨_, h2, h3⟩ := hn
    unfold usedN usesB
    split
    · rename_i hb
      have ha : hasA n.op = true := by simp [hasB, hasA, inB] at *; omega
      rw [Nat.testBit_or, bit_of (h2 ha).1, bit_of (h3 hb).1, ha, hb]
      simp
    · rename_i hb
      have hb' : hasB n.op = false := by simpa using hb
      split
      · rename_i ha
        rw [bit_of (h2 ha).1, ha, hb']
        simp
      · rename_i ha
        have ha' : hasA n.op = false := by simpa using ha
        rw [ha', hb']
        simp
  have hm : (madeN n).testBit r = makesB n r := by
    unfold madeN makesB
    split
    · rename_i hd
      rw [bit_of (hn.1 hd).1, hd]
      simp
    · rename_i hd
      have hd' : hasD n.op = false := by simpa using hd
      rw [hd']
      simp
  have hb : (behindN n ats).testBit r = behindB n (bitsAt r ats) := by
    unfold behindN behindB
    by_cases h12 : n.op = 12
    · simp [h12]
    · rw [if_neg h12]
      by_cases h11 : n.op = 11
      · rw [if_pos h11, Nat.testBit_or, yn_bitsAt, yn_bitsAt]
        simp [h11]
      · have e1 : (n.op != 12) = true := by simp [h12]
        have e2 : (n.op == 11) = false := by simp [h11]
        rw [if_neg h11, yn_bitsAt, e1, e2]
        simp
  unfold newN
  rw [Nat.testBit_or, Nat.testBit_and, hu, hb, bit_without (madeN_lt hn) hr, hm]
  cases usesB n r <;> cases makesB n r <;> cases behindB n (bitsAt r ats) <;> rfl

def u64s (l : List Nat) : List Value := l.map fun (z : Nat) => .int .u64 (z : Int)
theorem u64s_length (l : List Nat) : (u64s l).length = l.length := List.length_map _
theorem u64s_get (a : List Nat) (k : Nat) : (u64s a)[k]? = a[k]?.map fun (z : Nat) => .int .u64 (z : Int) := List.getElem?_map
theorem u64s_set (x : List Nat) (k z : Nat) : (u64s x).set k (.int .u64 (z : Int)) = u64s (x.set k z) := (List.map_set).symm
theorem ValsAt.u64 {w : World} {A : Option Addr} {l : List Nat} (h : ValsAt w A (u64s l)) {k : Nat} (hk : k < l.length) :
    ∃ b off, A = some ⟨b, off, none⟩ ∧ b < w.heap.size ∧ w.cell? ⟨b, off + k, none⟩ = some (.int .u64 ((l.getD k 0 : Nat) : Int)) := by
  obtain ⟨b, off, v, e, hb, hv, hc⟩ := h.get (k := k) (by rw [u64s_length]; exact hk)
  rw [u64s_get, List.getElem?_eq_getElem hk] at hv
  simp at hv
  subst hv
  exact ⟨b, off, e, hb, by rw [hc]; simp [hk]⟩
theorem Row.u64 {w : World} {B : Nat} {e : TypeId} {v : Value} {x : List Nat} (h : Row w B e v (u64s x)) {k : Nat} (hk : k < x.length) :
    ∃ g o cap, v = .slice (some ⟨g, o, none⟩) x.length cap ∧ B ≤ g ∧ g < w.heap.size ∧ w.cell? ⟨g, o + k, none⟩ = some (.int .u64 ((x.getD k 0 : Nat) : Int)) ∧ w.frozen? ⟨g, o + k, none⟩ = false := by
  obtain ⟨g, o, cap, u, e1, hb, hl, hu, hc, hf⟩ := h.get (k := k) (by rw [u64s_length]; exact hk)
  rw [u64s_get, List.getElem?_eq_getElem hk] at hu
  simp at hu
  subst hu
  rw [u64s_length] at e1
  exact ⟨g, o, cap, e1, hb, hl, by rw [hc]; simp [hk], hf⟩
end Go.Proofs.YtmghkonmfbpjcaaDoor
