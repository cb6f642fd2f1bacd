/- Plain law: dead nodes gone silent: the program does what it did, step by step, and reckons nothing more often. No program in sight. -/
import Derived.Test.YtmghkonmfbpjcabDoorLessP
import Derived.Test.YtmghkonmfbpjcabDoorJC
namespace Go.Proofs.YtmghkonmfbpjcabDoor
set_option linter.unusedVariables false
set_option linter.unusedSimpArgs false
open Go.RowKit

/-- a run, and the run of the program with dead nodes gone silent -/
structure Hushed (regs : Int) (l : List Nd) (inp : List Int) (s t : Rn) : Prop where
  agree : Agree regs l s t
  pos : s.ended = false → t.pos = s.pos
  steps : s.steps = t.steps
  cnt : ∀ v, t.ts.count v ≤ s.ts.count v
  ok : RnOk regs l inp s
theorem Hushed.step {regs : Int} {l : List Nd} {inp : List Int} {i : Nat} {s t : Rn} (hR : Right regs l) (hd : DeadN l i) (h : Hushed regs l inp s t) (he : s.ended = false) : Hushed regs l inp (stepR l inp s) (stepR (hushAt l i) inp t) := by
  have hp := h.ok.pos
  have htp := h.pos he
  obtain ⟨m, hm, h1, h8, hlv⟩ := hd
  have hg : l[s.pos]? = some (nd l s.pos) := by rw [nd, List.getD_eq_getElem?_getD, List.getElem?_eq_getElem hp]; rfl
  by_cases hi : s.pos = i
  · rw [hi, hm] at hg
    injection hg with hg
    have hmem := List.mem_of_getElem? hm
    have hD : hasD m.op = true := by simp [hasD, inB]; omega
    have h12 : m.op ≠ 12 := by omega
    have hdi := hR.d_in hmem hD
    have hT := hR.then_ hmem h12
    have ht : nd (hushAt l i) t.pos = ⟨0, 0, 0, 0, m.t, 0⟩ := nd_get (by rw [htp, hi, hushAt_get hm, if_pos rfl]; rfl)
    have hst : stepR (hushAt l i) inp t = { t with steps := t.steps + 1, pos := m.t.toNat } := by
      unfold stepR
      rw [ht]
      rfl
    have hss : ∃ v x, stepR l inp s = { s with steps := s.steps + 1, pos := m.t.toNat, regs := s.regs.set m.d.toNat v, ts := s.ts ++ x } := by
      unfold stepR
      simp only [hi, ← hg]
      have h3 : m.op = 1 ∨ m.op = 2 ∨ hasB m.op = true := by simp [hasB, inB]; omega
      rcases h3 with h3 | h3 | h3
      · rw [if_pos h3]; exact ⟨m.a, [], by simp⟩
      · rw [if_neg (by omega), if_pos h3]; exact ⟨rg s.regs m.a, [], by simp⟩
      · have hb : inB m.op 3 8 = true := h3
        simp only [inB, Bool.and_eq_true, decide_eq_true_eq] at hb
        rw [if_neg (by omega), if_neg (by omega), if_pos h3]; exact ⟨_, [m.tm], rfl⟩
    have hok := h.ok.step (inp := inp) hR
    obtain ⟨v, x, hss⟩ := hss
    rw [hss] at hok ⊢
    rw [hst]
    refine ⟨⟨by simpa using h.agree.sl, h.agree.tl, h.agree.read, h.agree.out, h.agree.ret, h.agree.ended, fun _ k h0 hk hl => ?_⟩, fun _ => rfl, by show s.steps + 1 = t.steps + 1; rw [h.steps], fun u => ?_, hok⟩
    · have hl : Lv l k ((m.t.toNat : Nat) : Int) := hl
      rw [Int.toNat_of_nonneg (by omega)] at hl
      have hne : k ≠ m.d := fun e => hlv (e ▸ hl)
      show rg (s.regs.set m.d.toNat v) k = rg t.regs k
      rw [rg_set h.agree.sl hdi h0, if_neg hne]
      exact h.agree.rgs he k h0 hk (by rw [hi]; exact .then_ i m hm (by rw [beq_eq_false_iff_ne.2 (fun e => hne e.symm), Bool.and_false]) h12 hl)
    · show t.ts.count u ≤ (s.ts ++ x).count u
      have := h.cnt u
      rw [List.count_append]
      omega
  · have hmn : nd (hushAt l i) t.pos = nd l s.pos := nd_get (by rw [htp, hushAt_get hm, if_neg hi]; exact hg)
    obtain ⟨a1, a2, x, a3, a4⟩ := h.agree.step (inp := inp) hR hg hmn he
    exact ⟨a1, fun _ => a2.symm, by rw [stepR_steps, stepR_steps, h.steps], fun u => by rw [a3, a4, List.count_append, List.count_append]; have := h.cnt u; omega, h.ok.step hR⟩
theorem Hushed.go {regs : Int} {l : List Nd} {inp : List Int} {i : Nat} (hR : Right regs l) (hd : DeadN l i) : ∀ (k : Nat) {s t : Rn}, Hushed regs l inp s t → Hushed regs l inp (goR l inp k s) (goR (hushAt l i) inp k t)
  | 0, s, t, h => h
  | k + 1, s, t, h => by
    by_cases he : s.ended = true
    · rw [goR_ended he, goR_ended (by rw [← h.agree.ended]; exact he)]
      exact h
    · have he : s.ended = false := by simpa using he
      rw [goR_step he, goR_step (by rw [← h.agree.ended]; exact he)]
      exact Hushed.go hR hd k (h.step hR hd he)
theorem Hushed.start {regs : Int} {l : List Nd} {inp : List Int} (hR : Right regs l) : Hushed regs l inp (startR regs) (startR regs) :=
  ⟨⟨by simp [startR], by simp [startR], rfl, rfl, rfl, rfl, fun _ _ _ _ _ => rfl⟩, fun _ => rfl, rfl, fun _ => Nat.le_refl _, RnOk.start hR⟩
/-- what one run tells, once dead nodes went silent -/
structure HushRun (a b : Rn) : Prop where
  out : b.out = a.out
  ret : b.ret = a.ret
  ended : b.ended = a.ended
  steps : b.steps = a.steps
  cnt : ∀ v, b.ts.count v ≤ a.ts.count v
theorem run_hush {regs : Int} {inp : List Int} {l l' : List Nd} (h : Hushes l l') (hR : Right regs l) (n : Nat) : Right regs l' ∧ l'.length = l.length ∧ HushRun (runR regs l inp n) (runR regs l' inp n) := by
  induction h with
  | nil l => exact ⟨hR, rfl, rfl, rfl, rfl, rfl, fun v => Nat.le_refl _⟩
  | one l l' i hd _ ih =>
    obtain ⟨m, hm, h1, h8, _⟩ := id hd
    obtain ⟨a, b, c⟩ := ih (hR.hush hm (by omega))
    have h := Hushed.go (inp := inp) hR hd n (Hushed.start hR)
    exact ⟨a, b.trans (hushAt_len l i), c.out.trans h.agree.out.symm, c.ret.trans h.agree.ret.symm, c.ended.trans h.agree.ended.symm, c.steps.trans h.steps.symm, fun v => Nat.le_trans (c.cnt v) (h.cnt v)⟩
theorem DeadIs.again {l l' : List Nd} (h : DeadIs l l') : DeadIs l' l' := ⟨.nil _, h.2⟩
end Go.Proofs.YtmghkonmfbpjcabDoor
