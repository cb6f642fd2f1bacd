/- A step of the machine, whatever the node. -/
import Derived.Test.YtmghkonmfbpjcabRunT
namespace Go.Proofs.Ytmghkonmfbpjcab
set_option linter.unusedVariables false
set_option linter.unusedSimpArgs false
open Go.RowKit
open Go.Maps
set_option maxHeartbeats 2000000
attribute [local irreducible] Row madeCells TCount

section
variable {regs : Int} {l : List Nd}
theorem Right.dR (h : Right regs l) {n : Nd} (hn : n ∈ l) (hd : hasD n.op = true) : 0 ≤ n.d ∧ n.d < (regs.toNat : Int) := by
  have h1 := h.rng n hn
  have h2 := h.rlo
  simp only [badR, okR, hd, Bool.or_eq_false_iff, Bool.not_eq_false', Bool.not_true, Bool.false_or, Bool.and_eq_true, decide_eq_true_eq] at h1
  omega
theorem Right.aR (h : Right regs l) {n : Nd} (hn : n ∈ l) (hd : hasA n.op = true) : 0 ≤ n.a ∧ n.a < (regs.toNat : Int) := by
  have h1 := h.rng n hn
  have h2 := h.rlo
  simp only [badR, okR, hd, Bool.or_eq_false_iff, Bool.not_eq_false', Bool.not_true, Bool.false_or, Bool.and_eq_true, decide_eq_true_eq] at h1
  omega
theorem Right.bR (h : Right regs l) {n : Nd} (hn : n ∈ l) (hd : hasB n.op = true) : 0 ≤ n.b ∧ n.b < (regs.toNat : Int) := by
  have h1 := h.rng n hn
  have h2 := h.rlo
  simp only [badR, okR, hd, Bool.or_eq_false_iff, Bool.not_eq_false', Bool.not_true, Bool.false_or, Bool.and_eq_true, decide_eq_true_eq] at h1
  omega
theorem Right.t0 (h : Right regs l) {n : Nd} (hn : n ∈ l) : 0 ≤ n.t := by
  by_cases h12 : n.op = 12
  · have h := h.frm n hn
    simp only [badF, okF, shT, h12, Bool.or_eq_false_iff, Bool.not_eq_false', Bool.or_eq_true, beq_iff_eq] at h
    rcases h.1.2 with e | e
    · simp at e
    · omega
  · have := h.then_ hn h12
    omega
theorem wf_small_ {z : Int} (h0 : -1000 ≤ z) (h1 : z ≤ 1000) : (Lit.int .i64 z).wf = true := by
  unfold Lit.wf
  rw [Bool.and_eq_true]
  exact ⟨decide_eq_true (by show (-9223372036854775808 : Int) ≤ _; omega), decide_eq_true (by show _ ≤ (9223372036854775807 : Int); omega)⟩
theorem Right.key_ (h : Right regs l) {n : Nd} (hn : n ∈ l) (hB : hasB n.op = true) : ∃ k, keyOf Try.prog 42 (Tm.val ⟨n.op, n.a, n.b⟩) = some k := by
  have hA : hasA n.op = true := by
    simp only [hasB, hasA, inB, Bool.and_eq_true, Bool.or_eq_true, decide_eq_true_eq] at *
    omega
  have ha := h.aR hn hA
  have hb := h.bR hn hB
  have h2 := h.rhi
  have h3 := h.rlo
  simp only [hasB, inB, Bool.and_eq_true, decide_eq_true_eq] at hB
  exact keyTerm ⟨n.op, n.a, n.b⟩ (wf_small_ (by show _ ≤ n.op; omega) (by show n.op ≤ _; omega)) (wf_small_ (by show _ ≤ n.a; omega) (by show n.a ≤ _; omega)) (wf_small_ (by show _ ≤ n.b; omega) (by show n.b ≤ _; omega))
end
theorem step_any (w : World) (regs : Int) (A : Option Addr) (l : List Nd) (cap : Nat) (inp : List Int) (mb gr gm : Nat) (Ai : Option Addr) (ci : Nat) (ov : Value) (s : Rn) (W : World) (hM : MSt w regs A l cap inp mb gr gm Ai ci ov s W) (hA : NodesAt w A l) (hR : Right regs l) (hok : RnOk regs l inp s) (hst : s.steps < 1000000) :
    Calls Try.prog 31 #[.pointer (some ⟨mb, 0, none⟩), .int .i64 s.pos] W fun e' W' => e' = .returned (.int .i64 (stepR l inp s).pos) ∧ ∃ Ai' ci' ov', MSt w regs A l cap inp mb gr gm Ai' ci' ov' (stepR l inp s) W' := by
  obtain ⟨r1, r2, r3, r4, r5, r6⟩ := hok
  have hr64 : regs.toNat ≤ 64 := by have := hR.rhi; omega
  have hg : l[s.pos]? = some (nd l s.pos) := by rw [nd, List.getD_eq_getElem?_getD, List.getElem?_eq_getElem r2]; rfl
  have hn := List.mem_of_getElem? hg
  obtain ⟨n, hnn⟩ : ∃ n, n = nd l s.pos := ⟨_, rfl⟩
  rw [← hnn] at hg hn
  have ht0 := hR.t0 hn
  have hop := hR.ok n hn
  obtain ⟨op, d, a, b, t, e⟩ := n
  have hL : ((t.toNat : Nat) : Int) = t := Int.toNat_of_nonneg ht0
  have fin : ∀ {z : Int} {s' : Rn} {E : Ending} {W' : World} (p : Nat), z = (p : Int) → stepR l inp s = { s' with pos := p } → (E = .returned (.int .i64 z) ∧ ∃ Ai' ci' ov', MSt w regs A l cap inp mb gr gm Ai' ci' ov' s' W') →
      (E = .returned (.int .i64 (stepR l inp s).pos) ∧ ∃ Ai' ci' ov', MSt w regs A l cap inp mb gr gm Ai' ci' ov' (stepR l inp s) W') := by
    rintro z s' E W' p rfl h2 ⟨rfl, A', c', o', h⟩
    rw [h2]
    exact ⟨rfl, A', c', o', h.pos_ p⟩
  have hS : stepR l inp s = stepR l inp s := rfl
  conv at hS => rhs; unfold stepR
  simp only [← hnn] at hS
  by_cases h1 : op = 1
  · subst h1
    exact (step_set w regs A l cap inp mb gr gm Ai ci ov s W hM hA hR.hi r2 hst r1 hr64 d a b t e hg (hR.dR hn rfl)).mono fun E W' h => fin t.toNat hL.symm (by rw [hS]; rfl) h
  by_cases h2 : op = 2
  · subst h2
    exact (step_copy w regs A l cap inp mb gr gm Ai ci ov s W hM hA hR.hi r2 hst r1 hr64 d a b t e hg (hR.dR hn rfl) (hR.aR hn rfl)).mono fun E W' h => fin t.toNat hL.symm (by rw [hS]; rfl) h
  by_cases hB : hasB op = true
  · have hDA : hasD op = true ∧ hasA op = true := by
      simp only [hasB, hasD, hasA, inB, Bool.and_eq_true, Bool.or_eq_true, decide_eq_true_eq] at *
      omega
    obtain ⟨kl, hkl⟩ := hR.key_ hn hB
    exact (step_reckon w regs A l cap inp mb gr gm Ai ci ov s W hM hA hR.hi r2 hst r1 hr64 op d a b t e hg (hR.dR hn hDA.1) (hR.aR hn hDA.2) (hR.bR hn hB) hB kl hkl (by omega)).mono fun E W' h => fin t.toNat hL.symm (by rw [hS, if_neg h1, if_neg h2, if_pos hB]; rfl) h
  by_cases h9 : op = 9
  · subst h9
    by_cases hi : s.read < inp.length
    · exact (step_in1 w regs A l cap inp mb gr gm Ai ci ov s W hM hA hR.hi r2 hst r1 hr64 d a b t e hg (hR.dR hn rfl) hi).mono fun E W' h => fin t.toNat hL.symm (by rw [hS, if_neg h1, if_neg h2, if_neg hB, if_pos rfl, if_pos hi]) h
    · exact (step_in0 w regs A l cap inp mb gr gm Ai ci ov s W hM hA hR.hi r2 hst r1 hr64 d a b t e hg (hR.dR hn rfl) (by omega)).mono fun E W' h => fin t.toNat hL.symm (by rw [hS, if_neg h1, if_neg h2, if_neg hB, if_pos rfl, if_neg hi]) h
  by_cases h10 : op = 10
  · subst h10
    exact (step_out w regs A l cap inp mb gr gm Ai ci ov s W hM hA hR.hi r2 hst r1 hr64 d a b t e hg (hR.aR hn rfl) (by omega)).mono fun E W' h => fin t.toNat hL.symm (by rw [hS, if_neg h1, if_neg h2, if_neg hB, if_neg h9, if_pos rfl]) h
  by_cases h11 : op = 11
  · subst h11
    by_cases hz : rg s.regs a = 0
    · have he := hR.else_ hn rfl
      exact (step_if0 w regs A l cap inp mb gr gm Ai ci ov s W hM hA hR.hi r2 hst r1 hr64 d a b t e hg (hR.aR hn rfl) hz).mono fun E W' h => fin e.toNat (by simp only at he; omega) (by rw [hS, if_neg h1, if_neg h2, if_neg hB, if_neg h9, if_neg h10, if_pos rfl, if_pos hz]) h
    · exact (step_if1 w regs A l cap inp mb gr gm Ai ci ov s W hM hA hR.hi r2 hst r1 hr64 d a b t e hg (hR.aR hn rfl) hz).mono fun E W' h => fin t.toNat hL.symm (by rw [hS, if_neg h1, if_neg h2, if_neg hB, if_neg h9, if_neg h10, if_pos rfl, if_neg hz]) h
  by_cases h12 : op = 12
  · subst h12
    exact (step_end w regs A l cap inp mb gr gm Ai ci ov s W hM hA hR.hi r2 hst r1 hr64 d a b t e hg (hR.aR hn rfl)).mono fun E W' h => fin t.toNat hL.symm (by rw [hS, if_neg h1, if_neg h2, if_neg hB, if_neg h9, if_neg h10, if_neg h11, if_pos rfl]) h
  have h0 : op = 0 := by
    simp only [opOk, hasB, inB, Bool.and_eq_true, decide_eq_true_eq] at *
    omega
  subst h0
  exact (step_skip w regs A l cap inp mb gr gm Ai ci ov s W hM hA hR.hi r2 hst r1 hr64 d a b t e hg).mono fun E W' h => fin t.toNat hL.symm (by rw [hS, if_neg h1, if_neg h2, if_neg hB, if_neg h9, if_neg h10, if_neg h11, if_neg h12]) h
end Go.Proofs.Ytmghkonmfbpjcab
