/- Plain law: dead nodes, one by one. No program in sight. -/
import Derived.Test.YtmghkonmfbpjcaaDoorLiveR
namespace Go.Proofs.YtmghkonmfbpjcaaDoor
set_option linter.unusedVariables false
set_option linter.unusedSimpArgs false
open Go.RowKit

theorem Right.ways {regs : Int} {l : List Nd} (h : Right regs l) : Ways l := fun i n hn =>
  ⟨fun h12 => by have := h.then_ (List.mem_of_getElem? hn) h12; omega, fun h11 => by have := h.else_ (List.mem_of_getElem? hn) h11; omega⟩
theorem Right.set {regs : Int} {l : List Nd} (h : Right regs l) (i : Nat) {n : Nd} (h1 : opOk n.op = true) (h2 : badR regs l.length n = false) (h3 : badF n = false) : Right regs (l.set i n) := by
  refine ⟨by simpa using h.lo, by simpa using h.hi, h.rlo, h.rhi, fun m hm => ?_, fun m hm => ?_, fun m hm => ?_⟩
  · rcases List.mem_or_eq_of_mem_set hm with h' | rfl
    · exact h.ok m h'
    · exact h1
  · rw [List.length_set]
    rcases List.mem_or_eq_of_mem_set hm with h' | rfl
    · exact h.rng m h'
    · exact h2
  · rcases List.mem_or_eq_of_mem_set hm with h' | rfl
    · exact h.frm m h'
    · exact h3
theorem hushAt_eq {l : List Nd} {i : Nat} {n : Nd} (hn : l[i]? = some n) : hushAt l i = l.set i (hush n) := by
  unfold hushAt
  rw [List.getD_eq_getElem?_getD, hn]
  rfl
theorem Right.hush {regs : Int} {l : List Nd} (h : Right regs l) {i : Nat} {n : Nd} (hn : l[i]? = some n) (h12 : n.op ≠ 12) : Right regs (hushAt l i) := by
  rw [hushAt_eq hn]
  have ht := h.then_ (List.mem_of_getElem? hn) h12
  refine h.set i (by simp [Go.Proofs.YtmghkonmfbpjcaaDoor.hush, opOk, inB]) ?_ ?_
  · simp [badR, Go.Proofs.YtmghkonmfbpjcaaDoor.hush, okR, okN, hasD, hasA, hasB, hasE, shT, opOk, inB]
    exact ⟨decide_eq_true (by omega), decide_eq_true (by omega)⟩
  · simp [badF, Go.Proofs.YtmghkonmfbpjcaaDoor.hush, okF, shT, opOk, inB]
/-- how many nodes are no skips -/
def busyN (l : List Nd) : Nat := l.countP fun n => n.op != 0
theorem busyN_hush {l : List Nd} {i : Nat} {n : Nd} (hn : l[i]? = some n) (h0 : n.op ≠ 0) : busyN (hushAt l i) < busyN l := by
  rw [hushAt_eq hn]
  have hi : i < l.length := (List.getElem?_eq_some_iff.1 hn).1
  have he : l[i] = n := (List.getElem?_eq_some_iff.1 hn).2
  unfold busyN
  rw [List.countP_set (h := hi)]
  have h1 : (l[i].op != 0) = true := by rw [he]; simpa using h0
  have h2 : 0 < l.countP fun n => n.op != 0 := List.countP_pos_iff.2 ⟨l[i], List.getElem_mem hi, h1⟩
  have h3 : ((Go.Proofs.YtmghkonmfbpjcaaDoor.hush n).op != 0) = false := by simp [Go.Proofs.YtmghkonmfbpjcaaDoor.hush]
  simp only [h1, h3]
  simp
  omega
theorem hushAt_len (l : List Nd) (i : Nat) : (hushAt l i).length = l.length := by simp [hushAt]

theorem bit_zero_iff {x d : Nat} : (((x &&& 2 ^ d : Nat) : Int) == 0) = !x.testBit d := by
  rw [Bool.eq_iff_iff]
  simp only [beq_iff_eq, Bool.not_eq_true', Int.natCast_eq_zero]
  constructor
  · intro h
    have := congrArg (fun z => z.testBit d) h
    simpa [Nat.testBit_and, bit_one] using this
  · intro h
    refine Nat.eq_of_testBit_eq fun r => ?_
    rw [Nat.testBit_and, bit_one, Nat.zero_testBit]
    by_cases hr : d = r
    · subst hr; simp [h]
    · simp [hr]
/-- a node's register is not live behind it -/
def deadX (l : List Nd) (n : Nd) : Bool := (decide (1 ≤ n.op) && decide (n.op ≤ 8)) && !yn (lvx l n.d.toNat) n.t.toNat
theorem deadX_iff {regs : Int} {l : List Nd} (hR : Right regs l) {i : Nat} {n : Nd} (hn : l[i]? = some n) : deadX l n = true ↔ DeadN l i := by
  have hm := List.mem_of_getElem? hn
  have hreg := hR.regs64 hm
  unfold deadX
  simp only [Bool.and_eq_true, decide_eq_true_iff, Bool.not_eq_true']
  constructor
  · rintro ⟨⟨h1, h8⟩, hy⟩
    refine ⟨n, hn, h1, h8, fun hlv => ?_⟩
    have hd := hreg.1 (by simp [hasD, inB]; omega)
    have ht := hR.then_ hm (by omega)
    have := (Least.lv (lvx_least l n.d.toNat) hR.ways (i := n.t.toNat) (by omega)).2 (by rw [Int.toNat_of_nonneg hd.1, Int.toNat_of_nonneg (by omega)]; exact hlv)
    rw [hy] at this
    cases this
  · rintro ⟨m, hm', h1, h8, hlv⟩
    rw [hn] at hm'
    injection hm' with hm'
    subst hm'
    have hd := hreg.1 (by simp [hasD, inB]; omega)
    have ht := hR.then_ hm (by omega)
    refine ⟨⟨h1, h8⟩, ?_⟩
    cases hy : yn (lvx l n.d.toNat) n.t.toNat with
    | false => rfl
    | true =>
      have := (Least.lv (lvx_least l n.d.toNat) hR.ways (i := n.t.toNat) (by omega)).1 hy
      rw [Int.toNat_of_nonneg hd.1, Int.toNat_of_nonneg (by omega)] at this
      exact absurd this hlv
/-- what is left when the dead nodes have gone silent -/
def DeadIs (l l' : List Nd) : Prop := Hushes l l' ∧ ∀ i, ¬ DeadN l' i
theorem DeadIs.unique {l a b : List Nd} (ha : DeadIs l a) (hb : DeadIs l b) : a = b := Hushes.unique ha.1 ha.2 hb.1 hb.2
theorem not_dead {regs : Int} {l : List Nd} (hR : Right regs l) (h : ∀ n ∈ l, deadX l n = false) (i : Nat) : ¬ DeadN l i := fun hd => by
  obtain ⟨n, hn, _⟩ := id hd
  have := (deadX_iff hR hn).2 hd
  rw [h n (List.mem_of_getElem? hn)] at this
  cases this

/-- in the midst of a turn of DeadOf: what was dead when it began goes silent, one by one -/
structure Hushing (regs : Int) (l l0 l1 : List Nd) (n : Nat) (c : Bool) : Prop where
  right : Right regs l1
  len : l1.length = l.length
  hush : Hushes l l1
  same : ∀ j, n ≤ j → l1[j]? = l0[j]?
  dead : ∀ j, n ≤ j → DeadN l0 j → DeadN l1 j
  idle : c = false → l1 = l0 ∧ ∀ j, j < n → ¬ DeadN l0 j
  busy : c = true → busyN l1 < busyN l0
  le : busyN l1 ≤ busyN l0
theorem Hushing.start {regs : Int} {l l0 : List Nd} (h : Right regs l0) (hl : l0.length = l.length) (hh : Hushes l l0) : Hushing regs l l0 l0 0 false :=
  ⟨h, hl, hh, fun _ _ => rfl, fun _ _ h => h, fun _ => ⟨rfl, fun j hj => absurd hj (by omega)⟩, fun h => (by cases h), Nat.le_refl _⟩
theorem Hushing.pass {regs : Int} {l l0 l1 : List Nd} {n : Nat} {c : Bool} (h : Hushing regs l l0 l1 n c) (hd : ¬ DeadN l0 n) : Hushing regs l l0 l1 (n + 1) c :=
  ⟨h.right, h.len, h.hush, fun j hj => h.same j (by omega), fun j hj => h.dead j (by omega), fun hc => ⟨(h.idle hc).1, fun j hj => by
    by_cases hjn : j = n
    · subst hjn; exact hd
    · exact (h.idle hc).2 j (by omega)⟩, h.busy, h.le⟩
theorem Hushing.step {regs : Int} {l l0 l1 : List Nd} {n : Nat} {c : Bool} (h : Hushing regs l l0 l1 n c) (hd : DeadN l0 n) : Hushing regs l l0 (hushAt l1 n) (n + 1) true := by
  have hd1 := h.dead n (Nat.le_refl _) hd
  obtain ⟨x, hx, h1, h8, _⟩ := id hd1
  have hb := busyN_hush hx (by omega)
  refine ⟨h.right.hush hx (by omega), by rw [hushAt_len]; exact h.len, h.hush.snoc hd1, fun j hj => ?_, fun j hj hdj => hd1.still (h.dead j (by omega) hdj) (by omega), fun hc => (by cases hc), fun _ => Nat.lt_of_lt_of_le hb h.le, Nat.le_trans (Nat.le_of_lt hb) h.le⟩
  rw [hushAt_get hx, if_neg (by omega)]
  exact h.same j (by omega)
theorem any_live {regs : Nat} {l : List Nd} {i : Nat} {d : Int} (h0 : 0 ≤ d) (h1 : d < regs) : (liveL regs l i).any (fun z => z == d) = yn (lvx l d.toNat) i := by
  rw [Bool.eq_iff_iff, List.any_eq_true]
  constructor
  · rintro ⟨z, hz, hzd⟩
    rw [beq_iff_eq] at hzd
    subst hzd
    obtain ⟨r, hr, hp, rfl⟩ := mem_sel.1 hz
    exact hp
  · intro hy
    exact ⟨d, mem_sel.2 ⟨d.toNat, by omega, hy, by omega⟩, by simp⟩
end Go.Proofs.YtmghkonmfbpjcaaDoor
