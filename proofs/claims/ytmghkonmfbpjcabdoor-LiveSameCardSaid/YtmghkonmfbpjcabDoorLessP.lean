/- Plain law: runs that agree on the registers that are live; a value put ahead in a register that is not live changes nothing. No program in sight. -/
import Derived.Test.YtmghkonmfbpjcabDoorJC
import Derived.Test.YtmghkonmfbpjcabDoorJD
namespace Go.Proofs.YtmghkonmfbpjcabDoor
set_option linter.unusedVariables false
set_option linter.unusedSimpArgs false
open Go.RowKit

theorem rg_set {r : List Int} {N d k v : Int} (hl : r.length = N.toNat) (hd : 0 ≤ d ∧ d < N) (hk : 0 ≤ k) : rg (r.set d.toNat v) k = if k = d then v else rg r k := by
  have h1 : d.toNat < r.length := by omega
  unfold rg
  rw [List.getD_eq_getElem?_getD, List.getElem?_set, List.getD_eq_getElem?_getD]
  by_cases h : k = d
  · subst h; simp [h1]
  · rw [if_neg (by omega), if_neg h]
/-- two runs that agree on what is live -/
structure Agree (regs : Int) (l : List Nd) (s t : Rn) : Prop where
  sl : s.regs.length = regs.toNat
  tl : t.regs.length = regs.toNat
  read : s.read = t.read
  out : s.out = t.out
  ret : s.ret = t.ret
  ended : s.ended = t.ended
  rgs : s.ended = false → ∀ k : Int, 0 ≤ k → k < regs → Lv l k s.pos → rg s.regs k = rg t.regs k
theorem Right.d_in {regs : Int} {l : List Nd} (h : Right regs l) {n : Nd} (hn : n ∈ l) (hd : hasD n.op = true) : 0 ≤ n.d ∧ n.d < regs := by
  have h1 := h.rng n hn
  simp only [badR, Bool.or_eq_false_iff, Bool.not_eq_false'] at h1
  simpa [okR, hd] using h1.1.1.1.1
theorem Right.a_in {regs : Int} {l : List Nd} (h : Right regs l) {n : Nd} (hn : n ∈ l) (ha : hasA n.op = true) : 0 ≤ n.a ∧ n.a < regs := by
  have h1 := h.rng n hn
  simp only [badR, Bool.or_eq_false_iff, Bool.not_eq_false'] at h1
  simpa [okR, ha] using h1.1.1.1.2
theorem Right.b_in {regs : Int} {l : List Nd} (h : Right regs l) {n : Nd} (hn : n ∈ l) (hb : hasB n.op = true) : 0 ≤ n.b ∧ n.b < regs := by
  have h1 := h.rng n hn
  simp only [badR, Bool.or_eq_false_iff, Bool.not_eq_false'] at h1
  simpa [okR, hb] using h1.1.1.2
theorem Agree.step {regs : Int} {l m : List Nd} {inp : List Int} {s t : Rn} {n : Nd} (hR : Right regs l) (h : Agree regs l s t) (hn : l[s.pos]? = some n) (hm : nd m t.pos = n) (he : s.ended = false) :
    Agree regs l (stepR l inp s) (stepR m inp t) ∧ (stepR l inp s).pos = (stepR m inp t).pos ∧ ∃ x, (stepR l inp s).ts = s.ts ++ x ∧ (stepR m inp t).ts = t.ts ++ x := by
  have hmem := List.mem_of_getElem? hn
  have hnd : nd l s.pos = n := nd_get hn
  have rgs := h.rgs he
  have ua : hasA n.op = true → rg t.regs n.a = rg s.regs n.a := fun ha => by
    obtain ⟨a0, a1⟩ := hR.a_in hmem ha
    exact (rgs n.a a0 a1 (.use s.pos n hn (by simp [ha]))).symm
  have ub : hasB n.op = true → rg t.regs n.b = rg s.regs n.b := fun hb => by
    obtain ⟨a0, a1⟩ := hR.b_in hmem hb
    exact (rgs n.b a0 a1 (.use s.pos n hn (by simp [hb]))).symm
  have ht : n.op ≠ 12 → ((n.t.toNat : Nat) : Int) = n.t := fun h12 => by have := hR.then_ hmem h12; omega
  have hput : hasD n.op = true → ∀ v k : Int, 0 ≤ k → k < regs → Lv l k (n.t.toNat : Nat) → rg (s.regs.set n.d.toNat v) k = rg (t.regs.set n.d.toNat v) k := fun hd v k h0 h1 hl => by
    have hdi := hR.d_in hmem hd
    have h12 : n.op ≠ 12 := fun e => by rw [e] at hd; exact absurd hd (by decide)
    rw [rg_set h.sl hdi h0, rg_set h.tl hdi h0]
    by_cases hk : k = n.d
    · rw [if_pos hk, if_pos hk]
    · rw [if_neg hk, if_neg hk]
      rw [ht h12] at hl
      exact rgs k h0 h1 (.then_ s.pos n hn (by rw [beq_eq_false_iff_ne.2 (fun e => hk e.symm), Bool.and_false]) h12 hl)
  have hkeep : hasD n.op = false → n.op ≠ 12 → ∀ k : Int, 0 ≤ k → k < regs → Lv l k (n.t.toNat : Nat) → rg s.regs k = rg t.regs k := fun hd h12 k h0 h1 hl => by
    rw [ht h12] at hl
    exact rgs k h0 h1 (.then_ s.pos n hn (by rw [hd, Bool.false_and]) h12 hl)
  have helse : n.op = 11 → ∀ k : Int, 0 ≤ k → k < regs → Lv l k (n.e.toNat : Nat) → rg s.regs k = rg t.regs k := fun h11 k h0 h1 hl => by
    have := hR.else_ hmem h11
    rw [show ((n.e.toNat : Nat) : Int) = n.e by omega] at hl
    exact rgs k h0 h1 (.else_ s.pos n hn (by rw [h11]; rfl) h11 hl)
  unfold stepR
  simp only [hnd, hm, ← h.read]
  split
  · rename_i h1
    exact ⟨⟨by simpa using h.sl, by simpa using h.tl, rfl, h.out, h.ret, h.ended, fun _ => hput (by rw [h1]; rfl) _⟩, rfl, [], by simp, by simp⟩
  split
  · rename_i h1
    rw [ua (by rw [h1]; rfl)]
    exact ⟨⟨by simpa using h.sl, by simpa using h.tl, rfl, h.out, h.ret, h.ended, fun _ => hput (by rw [h1]; rfl) _⟩, rfl, [], by simp, by simp⟩
  split
  · rename_i hB
    have hb : inB n.op 3 8 = true := hB
    have hA : hasA n.op = true := by simp [hasA, inB] at hb ⊢; omega
    have hD : hasD n.op = true := by simp [hasD, inB] at hb ⊢; omega
    rw [ua hA, ub hB]
    exact ⟨⟨by simpa using h.sl, by simpa using h.tl, rfl, h.out, h.ret, h.ended, fun _ => hput hD _⟩, rfl, [n.tm], rfl, rfl⟩
  split
  · rename_i h9
    have hD : hasD n.op = true := by rw [h9]; rfl
    split
    · exact ⟨⟨by simpa using h.sl, by simpa using h.tl, rfl, h.out, h.ret, h.ended, fun _ => hput hD _⟩, rfl, [], by simp, by simp⟩
    · exact ⟨⟨by simpa using h.sl, by simpa using h.tl, rfl, h.out, h.ret, h.ended, fun _ => hput hD _⟩, rfl, [], by simp, by simp⟩
  split
  · rename_i h10
    rw [ua (by rw [h10]; rfl)]
    exact ⟨⟨h.sl, h.tl, rfl, by show s.out ++ _ = t.out ++ _; rw [h.out], h.ret, h.ended, fun _ => hkeep (by rw [h10]; rfl) (by omega)⟩, rfl, [], by simp, by simp⟩
  split
  · rename_i h11
    rw [ua (by rw [h11]; rfl)]
    split
    · exact ⟨⟨h.sl, h.tl, rfl, h.out, h.ret, h.ended, fun _ => helse h11⟩, rfl, [], by simp, by simp⟩
    · exact ⟨⟨h.sl, h.tl, rfl, h.out, h.ret, h.ended, fun _ => hkeep (by rw [h11]; rfl) (by omega)⟩, rfl, [], by simp, by simp⟩
  split
  · rename_i h12
    rw [ua (by rw [h12]; rfl)]
    exact ⟨⟨h.sl, h.tl, rfl, h.out, rfl, rfl, fun e => absurd e (by simp)⟩, rfl, [], by simp, by simp⟩
  · rename_i h1 h2 hB h9 h10 h11 h12
    have hD : hasD n.op = false := by
      have : ¬ (3 ≤ n.op ∧ n.op ≤ 8) := fun e => hB (by show inB n.op 3 8 = true; simp [inB]; exact e)
      simp [hasD, inB]; omega
    exact ⟨⟨h.sl, h.tl, rfl, h.out, h.ret, h.ended, fun _ => hkeep hD h12⟩, rfl, [], by simp, by simp⟩
/-- nothing leads to node 0 -/
theorem Right.step_pos {regs : Int} {l : List Nd} {inp : List Int} {s : Rn} (hR : Right regs l) (hp : s.pos < l.length) (h : (stepR l inp s).ended = false) : 0 < (stepR l inp s).pos := by
  have hg : l[s.pos]? = some (nd l s.pos) := by rw [nd, List.getD_eq_getElem?_getD, List.getElem?_eq_getElem hp]; rfl
  have hn := List.mem_of_getElem? hg
  generalize nd l s.pos = n at hg hn
  have hnd : nd l s.pos = n := nd_get hg
  revert h
  unfold stepR
  simp only [hnd]
  have hT : n.op ≠ 12 → 0 < n.t.toNat := fun h12 => by have := hR.then_ hn h12; omega
  have hB12 : hasB n.op = true → n.op ≠ 12 := fun hB e => by rw [e] at hB; exact absurd hB (by decide)
  repeat' split
  all_goals first
    | (intro h; exact hT (by omega))
    | (intro h; exact hT (hB12 (by assumption)))
    | (intro h; rename_i h11 _; have := hR.else_ hn h11; show 0 < n.e.toNat; omega)
    | (intro h; simp at h)
/-- a value put ahead of a program, in a register -/
def lessL (l : List Nd) (r v : Int) : List Nd := (l ++ [nd l 0]).set 0 ⟨1, r, v, 0, (l.length : Int), 0⟩
theorem lessL_len (l : List Nd) (r v : Int) : (lessL l r v).length = l.length + 1 := by simp [lessL]
theorem lessL_zero (l : List Nd) (r v : Int) : nd (lessL l r v) 0 = ⟨1, r, v, 0, (l.length : Int), 0⟩ := by
  simp [lessL, nd, List.getD_eq_getElem?_getD, List.getElem?_set]
theorem lessL_at {l : List Nd} {r v : Int} {i : Nat} (h0 : 0 < i) (hi : i < l.length) : nd (lessL l r v) i = nd l i := by
  simp only [lessL, nd, List.getD_eq_getElem?_getD]
  rw [List.getElem?_set, if_neg (by omega), List.getElem?_append_left hi]
theorem lessL_end {l : List Nd} {r v : Int} (hl : 0 < l.length) : nd (lessL l r v) l.length = nd l 0 := by
  have : (lessL l r v)[l.length]? = some (nd l 0) := by
    unfold lessL
    rw [List.getElem?_set, if_neg (by omega), List.getElem?_append_right (Nat.le_refl _)]
    simp
  exact nd_get this
theorem badR_more {regs len : Int} {n : Nd} (h : badR regs len n = false) : badR regs (len + 1) n = false := by
  simp only [badR, Bool.or_eq_false_iff, Bool.not_eq_false'] at h ⊢
  refine ⟨⟨h.1.1, ?_⟩, ?_⟩
  · have := h.1.2
    simp only [okN, Bool.or_eq_true, Bool.and_eq_true, decide_eq_true_eq] at this ⊢
    exact this.imp id fun e => ⟨e.1, by omega⟩
  · have := h.2
    simp only [okN, Bool.or_eq_true, Bool.and_eq_true, decide_eq_true_eq] at this ⊢
    exact this.imp id fun e => ⟨e.1, by omega⟩
theorem Right.less {regs : Int} {l : List Nd} {r v : Int} (h : Right regs l) (hr : 0 ≤ r ∧ r < regs) (hl : l.length < 256) : Right regs (lessL l r v) := by
  have h0 : nd l 0 ∈ l := by
    have h1 := h.lo
    have : l[0]? = some (nd l 0) := by rw [nd, List.getD_eq_getElem?_getD, List.getElem?_eq_getElem (by omega)]; rfl
    exact List.mem_of_getElem? this
  have hmem : ∀ n ∈ lessL l r v, n ∈ l ∨ n = ⟨1, r, v, 0, (l.length : Int), 0⟩ := fun n hn => by
    rcases List.mem_or_eq_of_mem_set hn with e | e
    · rcases List.mem_append.1 e with e | e
      · exact .inl e
      · rw [List.mem_singleton] at e
        exact .inl (e ▸ h0)
    · exact .inr e
  have h1 := h.lo
  refine ⟨by rw [lessL_len]; omega, by rw [lessL_len]; omega, h.rlo, h.rhi, fun n hn => ?_, fun n hn => ?_, fun n hn => ?_⟩
  · rcases hmem n hn with e | rfl
    · exact h.ok n e
    · rfl
  · rw [lessL_len, Int.natCast_add]
    rcases hmem n hn with e | rfl
    · exact badR_more (h.rng n e)
    · simp [badR, okR, okN, hasD, hasA, hasB, hasE, shT, opOk, inB, hr.1, hr.2]
      omega
  · rcases hmem n hn with e | rfl
    · exact h.frm n e
    · simp [badF, okF, hasD, hasA, hasB, hasE, shT, opOk, inB, isSet]
/-- the two runs, behind the value that was put ahead -/
structure Less (regs : Int) (l : List Nd) (inp : List Int) (s t : Rn) : Prop where
  agree : Agree regs l s t
  ts : s.ts = t.ts
  ok : RnOk regs l inp s
  pos : s.ended = false → t.pos = s.pos ∧ 0 < s.pos ∨ s.pos = 0 ∧ t.pos = l.length
theorem Less.step {regs : Int} {l : List Nd} {inp : List Int} {r v : Int} {s t : Rn} (hR : Right regs l) (h : Less regs l inp s t) (he : s.ended = false) : Less regs l inp (stepR l inp s) (stepR (lessL l r v) inp t) := by
  have hp := h.ok.pos
  have hg : l[s.pos]? = some (nd l s.pos) := by rw [nd, List.getD_eq_getElem?_getD, List.getElem?_eq_getElem hp]; rfl
  have hm : nd (lessL l r v) t.pos = nd l s.pos := by
    rcases h.pos he with ⟨e, e0⟩ | ⟨e0, e⟩
    · rw [e]; exact lessL_at e0 hp
    · rw [e, e0]; exact lessL_end (by omega)
  obtain ⟨h1, h2, x, h3, h4⟩ := h.agree.step (inp := inp) hR hg hm he
  exact ⟨h1, by rw [h3, h4, h.ts], h.ok.step hR, fun hn => .inl ⟨h2.symm, hR.step_pos hp hn⟩⟩
theorem Less.go {regs : Int} {l : List Nd} {inp : List Int} {r v : Int} (hR : Right regs l) : ∀ (k : Nat) {s t : Rn}, Less regs l inp s t → Less regs l inp (goR l inp k s) (goR (lessL l r v) inp k t)
  | 0, s, t, h => h
  | k + 1, s, t, h => by
    by_cases he : s.ended = true
    · rw [goR_ended he, goR_ended (by rw [← h.agree.ended]; exact he)]
      exact h
    · have he : s.ended = false := by simpa using he
      rw [goR_step he, goR_step (by rw [← h.agree.ended]; exact he)]
      exact Less.go hR k (h.step hR he)
theorem Less.start {regs : Int} {l : List Nd} {inp : List Int} {r v : Int} (hR : Right regs l) (hr : 0 ≤ r ∧ r < regs) (hd : ¬ Lv l r 0) : Less regs l inp (startR regs) (stepR (lessL l r v) inp (startR regs)) := by
  have hs : stepR (lessL l r v) inp (startR regs) = { startR regs with steps := 1, pos := l.length, regs := (startR regs).regs.set r.toNat v } := by
    unfold stepR
    rw [show (startR regs).pos = 0 from rfl, lessL_zero]
    simp [startR]
  rw [hs]
  refine ⟨⟨by simp [startR], by simp [startR], rfl, rfl, rfl, rfl, fun _ k h0 h1 hl => ?_⟩, rfl, RnOk.start hR, fun _ => .inr ⟨rfl, rfl⟩⟩
  show rg (startR regs).regs k = rg ((startR regs).regs.set r.toNat v) k
  rw [rg_set (N := regs) (by simp [startR]) hr h0, if_neg]
  rintro rfl
  exact hd hl
/-- the run behind the value that was put ahead tells the same -/
theorem run_less {regs : Int} {l : List Nd} {inp : List Int} {r v : Int} (hR : Right regs l) (hr : 0 ≤ r ∧ r < regs) (hd : ¬ Lv l r 0) (n : Nat) :
    (runR regs (lessL l r v) inp (n + 1)).out = (runR regs l inp n).out ∧ (runR regs (lessL l r v) inp (n + 1)).ret = (runR regs l inp n).ret ∧ (runR regs (lessL l r v) inp (n + 1)).ended = (runR regs l inp n).ended ∧ (runR regs (lessL l r v) inp (n + 1)).ts = (runR regs l inp n).ts := by
  have h := Less.go (r := r) (v := v) hR n (Less.start (inp := inp) (v := v) hR hr hd)
  unfold runR
  rw [goR_step (show (startR regs).ended = false from rfl)]
  exact ⟨h.agree.out.symm, h.agree.ret.symm, h.agree.ended.symm, h.ts.symm⟩
end Go.Proofs.YtmghkonmfbpjcabDoor
