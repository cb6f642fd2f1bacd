/- Alike TrimP GraphU SplitQ PgA PgX PgP. -/
import Derived.Test.YtmghkonmfbpjcabGreatGE
import Derived.Test.YtmghkonmfbpjcabGreatGA
import Derived.Test.YtmghkonmfbpjcabGreatGC
import Derived.Test.YtmghkonmfbpjcabGreatGB
import Derived.Deep.QuietTactic
import Derived.Deep.Cut
import Derived.LoopN
import Derived.Lib.SliceRun
import Derived.Test.YtmghkonmfbpjcabGreatGD
set_option linter.unusedVariables false
set_option linter.unusedSimpArgs false
namespace Go.Proofs.YtmghkonmfbpjcabGreat
section
open Go.RowKit
structure Alike (s t : Rn) : Prop where
  regs : s.regs = t.regs
  read : s.read = t.read
  out : s.out = t.out
  ret : s.ret = t.ret
  ended : s.ended = t.ended
  ts : s.ts = t.ts
theorem Alike.step {l m : List Nd} {inp : List Int} {s t : Rn} {n n' : Nd} (h : Alike s t) (hn : nd l s.pos = n) (hm : nd m t.pos = n') (h1 : n'.op = n.op) (h2 : n'.d = n.d) (h3 : n'.a = n.a) (h4 : n'.b = n.b) :
    Alike (stepR l inp s) (stepR m inp t) ∧ ((stepR l inp s).pos = n.t.toNat ∧ (stepR m inp t).pos = n'.t.toNat ∨ n.op = 11 ∧ (stepR l inp s).pos = n.e.toNat ∧ (stepR m inp t).pos = n'.e.toNat) ∧ ((stepR l inp s).ended = false → n.op ≠ 12) := by
  obtain ⟨sr, sd, so, st, se, ss, sp, sts⟩ := s
  obtain ⟨tr, td, tuo, tt, te, tss, tp, tts⟩ := t
  obtain ⟨e1, e2, e3, e4, e5, e6⟩ := h
  simp only at e1 e2 e3 e4 e5 e6 hn hm
  subst e1 e2 e3 e4 e5 e6
  have ht : n'.tm = n.tm := by simp [Nd.tm, h1, h3, h4]
  have hB : ∀ o : Int, hasB o = true → o ≠ 12 := fun o h e => by rw [e] at h; exact absurd h (by decide)
  unfold stepR
  simp only [hn, hm, h1, h2, h3, h4, ht]
  repeat' split
  all_goals first
    | exact ⟨⟨rfl, rfl, rfl, rfl, rfl, rfl⟩, .inl ⟨rfl, rfl⟩, fun _ => by omega⟩
    | exact ⟨⟨rfl, rfl, rfl, rfl, rfl, rfl⟩, .inl ⟨rfl, rfl⟩, fun _ => hB _ (by assumption)⟩
    | exact ⟨⟨rfl, rfl, rfl, rfl, rfl, rfl⟩, .inr ⟨by assumption, rfl, rfl⟩, fun _ => by omega⟩
    | exact ⟨⟨rfl, rfl, rfl, rfl, rfl, rfl⟩, .inl ⟨rfl, rfl⟩, fun h => by simp at h⟩
end
section
open Go.RowKit
theorem rk_mono (x : List Bool) {i : Nat} : ∀ {j : Nat}, i ≤ j → rk x i ≤ rk x j
 | 0, h => by rw [show i = 0 by omega]; exact Nat.le_refl _
 | j + 1, h => by (
 by_cases e : i = j + 1
 · subst e; exact Nat.le_refl _
 · (
 have := rk_mono x (i := i) (j := j) (by omega)
 rw [rk]
 omega))
theorem rk_lt {x : List Bool} {i j : Nat} (h : i < j) (hi : yn x i = true) : rk x i < rk x j := by (
 have := rk_mono x (i := i + 1) (j := j) h
 rw [rk_yes hi] at this
 omega)
theorem trimTo_get {x : List Bool} {l : List Nd} {i : Nat} {n : Nd} (hi : yn x i = true) (hn : l[i]? = some n) : ∀ {k : Nat}, i < k → (trimTo x l k)[rk x i]? = some (trimN x n)
 | 0, h => by omega
 | k + 1, h => by (
 by_cases e : i = k
 · (
 subst e
 rw [trimTo_yes hi hn, List.getElem?_append_right (by rw [trimTo_len]; exact Nat.le_refl _), trimTo_len]
 simp)
 · (
 have hlt : i < k := by omega
 rw [trimTo, List.getElem?_append_left (by rw [trimTo_len]; exact rk_lt hlt hi)]
 exact trimTo_get hi hn hlt))
theorem trimTo_mem {x : List Bool} {l : List Nd} {m : Nd} : ∀ {k : Nat}, k ≤ l.length → m ∈ trimTo x l k → ∃ i n, yn x i = true ∧ l[i]? = some n ∧ m = trimN x n
 | 0, _, h => by cases h
 | k + 1, hk, h => by (
 have hn : l[k]? = some l[k] := List.getElem?_eq_getElem hk
 by_cases hy : yn x k = true
 · (
 rw [trimTo_yes hy hn] at h
 rcases List.mem_append.1 h with e | e
 · exact trimTo_mem (by omega) e
 · exact ⟨k, _, hy, hn, by simpa using e⟩)
 · (
 rw [trimTo_no (by simpa using hy)] at h
 exact trimTo_mem (by omega) h))
theorem reach_zero {l : List Nd} (h : 1 ≤ l.length) : yn (reachL l) 0 = true := by (
 have hc := (leastL_least (reachS_mono l) l.length).1.2 0 (by omega)
 unfold reachL
 rw [hc]
 simp [reachS])
theorem Right.reach {regs : Int} {l : List Nd} (hR : Right regs l) {i : Nat} {n : Nd} (hi : yn (reachL l) i = true) (hn : l[i]? = some n) {m : Int} (hm : leadsB n m = true) : 1 ≤ m ∧ m < l.length ∧ yn (reachL l) m.toNat = true := by (
 have hmem := List.mem_of_getElem? hn
 have hb : ∀ m : Int, leadsB n m = true → 1 ≤ m ∧ m < l.length := fun m hm => by (
 rcases leads_cases hm with ⟨h1, rfl⟩ | ⟨h1, rfl⟩
 · exact hR.then_ hmem h1
 · exact hR.else_ hmem h1)
 obtain ⟨h1, h2⟩ := hb m hm
 refine ⟨h1, h2, reach_shut hi hn (by rw [Int.toNat_of_nonneg (by omega)]; exact hm) (fun m hm => by have := hb m hm; omega)⟩)
theorem Right.trim {regs : Int} {l : List Nd} (hR : Right regs l) : Right regs (trimL l) := by (
 have hlo := hR.lo
 have h0 := reach_zero hlo
 have h1 : rk (reachL l) 1 = 1 := by rw [rk_yes h0]; rfl
 have hlen : (trimL l).length = rk (reachL l) l.length := trimTo_len _ _ _
 have hr1 := rk_mono (reachL l) (i := 1) (j := l.length) hlo
 have hin : ∀ {i : Nat} {n : Nd}, yn (reachL l) i = true → l[i]? = some n → ∀ {m : Int}, leadsB n m = true → 1 ≤ ((rk (reachL l) m.toNat : Nat) : Int) ∧ ((rk (reachL l) m.toNat : Nat) : Int) < ((rk (reachL l) l.length : Nat) : Int) := fun hi hn m hm => by (
 obtain ⟨a1, a2, a3⟩ := hR.reach hi hn hm
 have := rk_mono (reachL l) (i := 1) (j := m.toNat) (by omega)
 have := rk_lt (j := l.length) (by omega) a3
 omega)
 refine ⟨by omega, by have := trimL_len l; have := hR.hi; omega, hR.rlo, hR.rhi, fun n hn => ?_, fun n hn => ?_, fun n hn => ?_⟩
 · (
 obtain ⟨i, n0, hi, hg, rfl⟩ := trimTo_mem (Nat.le_refl _) hn
 clear hn
 obtain ⟨n, hn⟩ : ∃ n, n = n0 := ⟨_, rfl⟩
 subst hn
 have hn := hg
 exact hR.ok n (List.mem_of_getElem? hn))
 · (
 obtain ⟨i, n0, hi, hg, rfl⟩ := trimTo_mem (Nat.le_refl _) hn
 clear hn
 obtain ⟨n, hn⟩ : ∃ n, n = n0 := ⟨_, rfl⟩
 subst hn
 have hn := hg
 have hr := hR.rng n (List.mem_of_getElem? hn)
 rw [hlen]
 simp only [badR, Bool.or_eq_false_iff, Bool.not_eq_false'] at hr ⊢
 refine ⟨⟨hr.1.1, ?_⟩, ?_⟩
 · (
 show okN _ (if n.op = 12 then n.t else ((rk (reachL l) n.t.toNat : Nat) : Int)) (shT n.op) = true
 by_cases h12 : n.op = 12
 · simp [okN, shT, h12]
 · (
 rw [if_neg h12]
 have := hin hi hn (leads_then h12)
 simp [okN, this.1, this.2]))
 · (
 show okN _ (if n.op = 11 then ((rk (reachL l) n.e.toNat : Nat) : Int) else n.e) (hasE n.op) = true
 by_cases h11 : n.op = 11
 · (
 rw [if_pos h11]
 have := hin hi hn (leads_else h11)
 simp [okN, this.1, this.2])
 · simp [okN, hasE, h11]))
 · (
 obtain ⟨i, n0, hi, hg, rfl⟩ := trimTo_mem (Nat.le_refl _) hn
 clear hn
 obtain ⟨n, hn⟩ : ∃ n, n = n0 := ⟨_, rfl⟩
 subst hn
 have hn := hg
 have hr := hR.frm n (List.mem_of_getElem? hn)
 have hok := hR.ok n (List.mem_of_getElem? hn)
 simp only [badF, Bool.or_eq_false_iff, Bool.not_eq_false'] at hr ⊢
 refine ⟨⟨hr.1.1, ?_⟩, ?_⟩
 · (
 show okF (if n.op = 12 then n.t else _) (shT n.op) = true
 by_cases h12 : n.op = 12
 · rw [if_pos h12]; exact hr.1.2
 · simp [okF, shT, hok, h12])
 · (
 show okF (if n.op = 11 then _ else n.e) (hasE n.op) = true
 by_cases h11 : n.op = 11
 · simp [okF, hasE, h11]
 · rw [if_neg h11]; exact hr.2)))
structure Trimmed (l : List Nd) (s t : Rn) : Prop where
 alike : Alike s t
 steps : s.steps = t.steps
 pos : s.ended = false → t.pos = rk (reachL l) s.pos ∧ s.pos < l.length ∧ yn (reachL l) s.pos = true
theorem Trimmed.step {regs : Int} {l : List Nd} {inp : List Int} {s t : Rn} (hR : Right regs l) (h : Trimmed l s t) (he : s.ended = false) : Trimmed l (stepR l inp s) (stepR (trimL l) inp t) := by (
 obtain ⟨hp, hl, hy⟩ := h.pos he
 obtain ⟨n, hn⟩ : ∃ n, l[s.pos]? = some n := ⟨_, List.getElem?_eq_getElem hl⟩
 have hm : nd (trimL l) t.pos = trimN (reachL l) n := nd_get (by rw [hp]; exact trimTo_get hy hn hl)
 obtain ⟨h1, h2, h3⟩ := h.alike.step (inp := inp) (nd_get hn) hm rfl rfl rfl rfl
 refine ⟨h1, by rw [stepR_steps, stepR_steps, h.steps], fun hne => ?_⟩
 have h12 := h3 hne
 rcases h2 with ⟨e1, e2⟩ | ⟨h11, e1, e2⟩
 · (
 obtain ⟨a1, a2, a3⟩ := hR.reach hy hn (leads_then h12)
 rw [e1, e2]
 refine ⟨?_, by omega, a3⟩
 show (if n.op = 12 then n.t else _).toNat = _
 rw [if_neg h12]; rfl)
 · (
 obtain ⟨a1, a2, a3⟩ := hR.reach hy hn (leads_else h11)
 rw [e1, e2]
 refine ⟨?_, by omega, a3⟩
 show (if n.op = 11 then _ else n.e).toNat = _
 rw [if_pos h11]; rfl))
theorem Trimmed.go {regs : Int} {l : List Nd} {inp : List Int} (hR : Right regs l) : ∀ (k : Nat) {s t : Rn}, Trimmed l s t → Trimmed l (goR l inp k s) (goR (trimL l) inp k t)
 | 0, s, t, h => h
 | k + 1, s, t, h => by (
 by_cases he : s.ended = true
 · (
 rw [goR_ended he, goR_ended (by rw [← h.alike.ended]; exact he)]
 exact h)
 · (
 have he : s.ended = false := by simpa using he
 rw [goR_step he, goR_step (by rw [← h.alike.ended]; exact he)]
 exact Trimmed.go hR k (h.step hR he)))
end
section
open Go.RowKit
def skipN (t : Int) : Nd := ⟨0, 0, 0, 0, t, 0⟩
def ways (l : List Nd) (m : Int) : Nat := (sel (aheadP l m.toNat) l.length).length
def split1 (l : List Nd) (n : Nd) (N : Nat) : Nd := if 2 ≤ ways l n.t then { n with t := N, e := if n.op = 11 ∧ n.e = n.t then (N : Int) else n.e } else n
def skips1 (l : List Nd) (n : Nd) : List Nd := if 2 ≤ ways l n.t then [skipN n.t] else []
def elseB (l : List Nd) (n : Nd) : Bool := n.op == 11 && n.e != n.t && decide (2 ≤ ways l n.e)
def split2 (l : List Nd) (n x : Nd) (N : Nat) : Nd := if elseB l n = true then { x with e := N } else x
def skips2 (l : List Nd) (n : Nd) : List Nd := if elseB l n = true then [skipN n.e] else []
def step1 (l : List Nd) (k : Nat) (n : Nd) (out : List Nd) : List Nd := out.set k (split1 l n out.length) ++ skips1 l n
def step2 (l : List Nd) (k : Nat) (n x : Nd) (out : List Nd) : List Nd := out.set k (split2 l n x out.length) ++ skips2 l n
def splitStep (l : List Nd) (k : Nat) (n : Nd) (out : List Nd) : List Nd := if n.op = 0 ∨ n.op = 12 then out else step2 l k n (split1 l n out.length) (step1 l k n out)
def splitTo (l : List Nd) : Nat → List Nd
 | 0 => l
 | k + 1 => splitStep l k (l.getD k default) (splitTo l k)
def splitL (l : List Nd) : List Nd := splitTo l l.length
theorem splitTo_succ {l : List Nd} {k : Nat} {n : Nd} (hn : l[k]? = some n) : splitTo l (k + 1) = splitStep l k n (splitTo l k) := by (
 have : l.getD k default = n := by rw [List.getD_eq_getElem?_getD, hn]; rfl
 rw [splitTo, this])
theorem skips1_len (l : List Nd) (n : Nd) : (skips1 l n).length ≤ 1 := by unfold skips1; split <;> simp
theorem skips2_len (l : List Nd) (n : Nd) : (skips2 l n).length ≤ 1 := by unfold skips2; split <;> simp
theorem step1_len (l : List Nd) (k : Nat) (n : Nd) (out : List Nd) : (step1 l k n out).length = out.length + (skips1 l n).length := by simp [step1]
theorem step2_len (l : List Nd) (k : Nat) (n x : Nd) (out : List Nd) : (step2 l k n x out).length = out.length + (skips2 l n).length := by simp [step2]
theorem splitStep_len (l : List Nd) (k : Nat) (n : Nd) (out : List Nd) : out.length ≤ (splitStep l k n out).length ∧ (splitStep l k n out).length ≤ out.length + 2 := by (
 unfold splitStep
 split
 · omega
 · (
 rw [step2_len, step1_len]
 have := skips1_len l n
 have := skips2_len l n
 omega))
theorem splitTo_len (l : List Nd) : ∀ k, l.length ≤ (splitTo l k).length ∧ (splitTo l k).length ≤ l.length + 2 * k
 | 0 => by simp [splitTo]
 | k + 1 => by (
 have h1 := splitTo_len l k
 have h2 := splitStep_len l k (l.getD k default) (splitTo l k)
 rw [splitTo]
 omega)
theorem splitStep_get {l : List Nd} {k j : Nat} {n : Nd} {out : List Nd} (hk : k ≠ j) (hj : j < out.length) : (splitStep l k n out)[j]? = out[j]? := by (
 unfold splitStep
 split
 · rfl
 · (
 unfold step2
 rw [List.getElem?_append_left (by rw [List.length_set, step1_len]; omega), List.getElem?_set_ne hk]
 unfold step1
 rw [List.getElem?_append_left (by rw [List.length_set]; omega), List.getElem?_set_ne hk]))
theorem splitTo_get (l : List Nd) : ∀ (k j : Nat), k ≤ j → j < l.length → (splitTo l k)[j]? = l[j]?
 | 0, j, _, _ => rfl
 | k + 1, j, hk, hj => by (
 rw [splitTo, splitStep_get (by omega) (by have := splitTo_len l k; omega)]
 exact splitTo_get l k j (by omega) hj)
theorem splitStep_once {l : List Nd} {k : Nat} {n : Nd} {out : List Nd} (hk : k < out.length) (h0 : n.op ≠ 0) (h12 : n.op ≠ 12) :
 splitStep l k n out = out.set k (split2 l n (split1 l n out.length) (out.length + (skips1 l n).length)) ++ (skips1 l n ++ skips2 l n) := by (
 unfold splitStep
 rw [if_neg (by omega)]
 unfold step2
 rw [step1_len]
 unfold step1
 rw [List.set_append_left _ _ (by rw [List.length_set]; exact hk), List.set_set, List.append_assoc])
theorem splitStep_skip {l : List Nd} {k : Nat} {n : Nd} {out : List Nd} (h : n.op = 0 ∨ n.op = 12) : splitStep l k n out = out := by (
 unfold splitStep
 rw [if_pos h])
theorem splitStep_two {l : List Nd} {k : Nat} {n : Nd} {out : List Nd} (h : ¬ (n.op = 0 ∨ n.op = 12)) : splitStep l k n out = step2 l k n (split1 l n out.length) (step1 l k n out) := by (
 unfold splitStep
 rw [if_neg h])
theorem step1_get {l : List Nd} {k : Nat} {n : Nd} {out : List Nd} (hk : k < out.length) : (step1 l k n out)[k]? = some (split1 l n out.length) := by (
 unfold step1
 rw [List.getElem?_append_left (by rw [List.length_set]; exact hk), List.getElem?_set]
 simp [hk])
theorem set_self {α : Type} {l : List α} {k : Nat} {x : α} (h : l[k]? = some x) : l.set k x = l := by (
 refine List.ext_getElem? fun i => ?_
 rw [List.getElem?_set]
 split
 · (
 rename_i e
 subst e
 have := (List.getElem?_eq_some_iff.1 h).1
 rw [if_pos this, h])
 · rfl)
theorem step1_none {l : List Nd} {k : Nat} {n : Nd} {out : List Nd} (h : ¬ 2 ≤ ways l n.t) (hk : out[k]? = some n) : step1 l k n out = out := by (
 unfold step1 split1 skips1
 rw [if_neg h, if_neg h, set_self hk, List.append_nil])
theorem step2_none {l : List Nd} {k : Nat} {n x : Nd} {out : List Nd} (h : elseB l n = false) (hk : out[k]? = some x) : step2 l k n x out = out := by (
 unfold step2 split2 skips2
 rw [if_neg (by rw [h]; simp), if_neg (by rw [h]; simp), set_self hk, List.append_nil])
theorem step2_some {l : List Nd} {k : Nat} {n x : Nd} {out : List Nd} (h : elseB l n = true) : step2 l k n x out = out.set k (x.put 5 out.length) ++ [skipN n.e] := by (
 unfold step2 split2 skips2
 rw [if_pos h, if_pos h]
 rfl)
theorem step1_some {l : List Nd} {k : Nat} {n : Nd} {out : List Nd} (h : 2 ≤ ways l n.t) (he : ¬ (n.op = 11 ∧ n.e = n.t)) : step1 l k n out = out.set k (n.put 4 out.length) ++ [skipN n.t] := by (
 unfold step1 split1 skips1
 rw [if_pos h, if_pos h, if_neg he]
 rfl)
theorem step1_both {l : List Nd} {k : Nat} {n : Nd} {out : List Nd} (h : 2 ≤ ways l n.t) (he : n.op = 11 ∧ n.e = n.t) : step1 l k n out = out.set k ((n.put 4 out.length).put 5 out.length) ++ [skipN n.t] := by (
 unfold step1 split1 skips1
 rw [if_pos h, if_pos h, if_pos he]
 rfl)
end
section
open Go.RowKit
def Way (l out : List Nd) (j j' : Int) : Prop := (¬ 2 ≤ ways l j ∧ j' = j) ∨ (2 ≤ ways l j ∧ ∃ N : Nat, j' = N ∧ l.length ≤ N ∧ N < out.length ∧ out[N]? = some (skipN j))
structure SpN (l out : List Nd) (n n' : Nd) : Prop where
 op : n'.op = n.op
 d : n'.d = n.d
 a : n'.a = n.a
 b : n'.b = n.b
 same : n.op = 0 ∨ n.op = 12 → n' = n
 t : ¬ (n.op = 0 ∨ n.op = 12) → Way l out n.t n'.t
 e : n.op = 11 → n.e ≠ n.t → Way l out n.e n'.e
 et : n.op = 11 → n.e = n.t → n'.e = n'.t
 ne : n.op ≠ 11 → n'.e = n.e
theorem Way.later {l out out' : List Nd} {j j' : Int} (h : Way l out j j') (hl : out.length ≤ out'.length) (hg : ∀ N : Nat, l.length ≤ N → N < out.length → out'[N]? = out[N]?) : Way l out' j j' :=
 h.imp id fun ⟨h1, N, h2, h3, h4, h5⟩ => ⟨h1, N, h2, h3, by omega, (hg N h3 h4).trans h5⟩
theorem SpN.later {l out out' : List Nd} {n n' : Nd} (h : SpN l out n n') (hl : out.length ≤ out'.length) (hg : ∀ N : Nat, l.length ≤ N → N < out.length → out'[N]? = out[N]?) : SpN l out' n n' :=
 ⟨h.op, h.d, h.a, h.b, h.same, fun x => (h.t x).later hl hg, fun x y => (h.e x y).later hl hg, h.et, h.ne⟩
theorem SpN.lead {regs : Int} {l out : List Nd} {n n' : Nd} (hR : Right regs l) (hn : n ∈ l) (h : SpN l out n n') {m : Int} (hm : leadsB n' m = true) :
 (1 ≤ m ∧ m < l.length ∧ leadsB n m = true ∧ (n.op ≠ 0 → ¬ 2 ≤ ways l m)) ∨ ∃ N : Nat, m = N ∧ l.length ≤ N ∧ N < out.length ∧ ∃ j, out[N]? = some (skipN j) ∧ leadsB n j = true ∧ 2 ≤ ways l j := by (
 have hb : ∀ m : Int, leadsB n m = true → 1 ≤ m ∧ m < l.length := fun m hm => by (
 rcases leads_cases hm with ⟨h1, rfl⟩ | ⟨h1, rfl⟩
 · exact hR.then_ hn h1
 · exact hR.else_ hn h1)
 have hw : ∀ {j j'}, leadsB n j = true → Way l out j j' → (1 ≤ j' ∧ j' < l.length ∧ leadsB n j' = true ∧ (n.op ≠ 0 → ¬ 2 ≤ ways l j')) ∨ ∃ N : Nat, j' = N ∧ l.length ≤ N ∧ N < out.length ∧ ∃ j, out[N]? = some (skipN j) ∧ leadsB n j = true ∧ 2 ≤ ways l j := by (
 rintro j j' hj (⟨h1, rfl⟩ | ⟨h1, N, rfl, h3, h4, h5⟩)
 · exact .inl ⟨(hb _ hj).1, (hb _ hj).2, hj, fun _ => h1⟩
 · exact .inr ⟨N, rfl, h3, h4, j, h5, hj, h1⟩)
 by_cases h0 : n.op = 0 ∨ n.op = 12
 · (
 rw [h.same h0] at hm
 have := hb m hm
 refine .inl ⟨this.1, this.2, hm, fun hne => ?_⟩
 have h12 : n.op = 12 := h0.resolve_left hne
 simp [leadsB, h12] at hm)
 · (
 rcases leads_cases hm with ⟨h1, h2⟩ | ⟨h1, h2⟩
 · (
 rw [h2]
 exact hw (leads_then (by omega)) (h.t h0))
 · (
 rw [h.op] at h1
 rw [h2]
 by_cases he : n.e = n.t
 · (
 rw [h.et h1 he]
 exact hw (leads_then (by omega)) (h.t h0))
 · exact hw (leads_else h1) (h.e h1 he))))
structure Spl (l : List Nd) (k : Nat) (out : List Nd) : Prop where
 len : l.length ≤ out.length
 old : ∀ j, k ≤ j → j < l.length → out[j]? = l[j]?
 new : ∀ i, i < k → ∀ n, l[i]? = some n → ∃ n', out[i]? = some n' ∧ SpN l out n n'
 skips : ∀ N, l.length ≤ N → N < out.length → ∃ j : Int, out[N]? = some (skipN j) ∧ 2 ≤ ways l j ∧ 1 ≤ j ∧ j < l.length
 only : ∀ i i' n n' N, i < k → i' < k → out[i]? = some n → out[i']? = some n' → l.length ≤ N → leadsB n (N : Nat) = true → leadsB n' (N : Nat) = true → i = i'
theorem Spl.start (l : List Nd) : Spl l 0 l := ⟨Nat.le_refl _, fun _ _ _ => rfl, fun i hi => absurd hi (by omega), fun N h1 h2 => absurd h1 (by omega), fun i i' n n' N hi => absurd hi (by omega)⟩
theorem Spl.step {regs : Int} {l : List Nd} (hR : Right regs l) {k : Nat} {n : Nd} (hn : l[k]? = some n) {out : List Nd} (h : Spl l k out) : Spl l (k + 1) (splitStep l k n out) := by (
 have hk : k < l.length := (List.getElem?_eq_some_iff.1 hn).1
 have hmem := List.mem_of_getElem? hn
 have hlen := h.len
 have hko : k < out.length := by omega
 obtain ⟨n', sk, ho, hG, hsk, hfr⟩ : ∃ n' sk, splitStep l k n out = out.set k n' ++ sk ∧ SpN l (out.set k n' ++ sk) n n' ∧ (∀ x ∈ sk, ∃ j : Int, x = skipN j ∧ 2 ≤ ways l j ∧ 1 ≤ j ∧ j < l.length) ∧ (∀ N : Nat, l.length ≤ N → leadsB n' (N : Nat) = true → out.length ≤ N) := by (
 by_cases h0 : n.op = 0 ∨ n.op = 12
 · (
 refine ⟨n, [], by rw [splitStep_skip h0, List.append_nil, set_self (by rw [h.old k (Nat.le_refl _) hk]; exact hn)], ⟨rfl, rfl, rfl, rfl, fun _ => rfl, fun hn => absurd h0 hn, fun h1 => absurd h1 (by omega), fun h1 => absurd h1 (by omega), fun _ => rfl⟩, fun x hx => absurd hx (by simp), fun N hN hl => ?_⟩
 rcases leads_cases hl with ⟨h1, h2⟩ | ⟨h1, h2⟩
 · have := hR.then_ hmem h1; omega
 · have := hR.else_ hmem h1; omega)
 · (
 have hT := hR.then_ hmem (fun e => h0 (.inr e))
 have hE := fun h11 => hR.else_ hmem h11
 refine ⟨_, _, splitStep_once hko (fun e => h0 (.inl e)) (fun e => h0 (.inr e)), ?_, ?_, ?_⟩
 · (
 have hlen1 : ∀ (a : Nd) (b : List Nd) (i : Nat), (out.set k a ++ b)[out.length + i]? = b[i]? := fun a b i => by (
 rw [List.getElem?_append_right (by simp)]
 simp)
 have hl2 : ∀ (a : Nd) (b : List Nd), (out.set k a ++ b).length = out.length + b.length := fun a b => by simp
 refine ⟨?_, ?_, ?_, ?_, fun e => absurd e h0, fun _ => ?_, fun h11 hne => ?_, fun h11 he => ?_, fun hn11 => ?_⟩
 · unfold split2 split1; split <;> split <;> rfl
 · unfold split2 split1; split <;> split <;> rfl
 · unfold split2 split1; split <;> split <;> rfl
 · unfold split2 split1; split <;> split <;> rfl
 · (
 by_cases h2 : 2 ≤ ways l n.t
 · (
 refine .inr ⟨h2, out.length, ?_, hlen, ?_, ?_⟩
 · unfold split2 split1; rw [if_pos h2]; split <;> rfl
 · rw [hl2]; unfold skips1; rw [if_pos h2]; simp
 · (
 have := hlen1 (split2 l n (split1 l n out.length) (out.length + (skips1 l n).length)) (skips1 l n ++ skips2 l n) 0
 rw [Nat.add_zero] at this
 rw [this]; unfold skips1; rw [if_pos h2]; rfl))
 · (
 refine .inl ⟨h2, ?_⟩
 unfold split2 split1; rw [if_neg h2]; split <;> rfl))
 · (
 by_cases h2 : 2 ≤ ways l n.e
 · (
 have hB : elseB l n = true := by simp [elseB, h11, hne, h2]
 refine .inr ⟨h2, out.length + (skips1 l n).length, ?_, by omega, ?_, ?_⟩
 · unfold split2; rw [if_pos hB]
 · rw [hl2]; unfold skips2; rw [if_pos hB]; simp
 · (
 rw [hlen1, List.getElem?_append_right (Nat.le_refl _)]
 unfold skips2; rw [if_pos hB]; simp))
 · (
 have hB : elseB l n = false := by simp [elseB, h2]
 refine .inl ⟨h2, ?_⟩
 unfold split2; rw [if_neg (by rw [hB]; simp)]
 unfold split1; split
 · (
 show (if n.op = 11 ∧ n.e = n.t then _ else n.e) = n.e
 rw [if_neg (fun h => hne h.2)])
 · rfl))
 · (
 have hB : elseB l n = false := by simp [elseB, he]
 unfold split2; rw [if_neg (by rw [hB]; simp)]
 unfold split1; split
 · (
 show (if n.op = 11 ∧ n.e = n.t then _ else n.e) = _
 rw [if_pos ⟨h11, he⟩])
 · exact he)
 · (
 have hB : elseB l n = false := by simp [elseB, hn11]
 unfold split2; rw [if_neg (by rw [hB]; simp)]
 unfold split1; split
 · (
 show (if n.op = 11 ∧ n.e = n.t then _ else n.e) = _
 rw [if_neg (fun h => hn11 h.1)])
 · rfl))
 · (
 intro x hx
 rcases List.mem_append.1 hx with hx | hx
 · (
 unfold skips1 at hx
 split at hx
 · (
 rename_i h2
 rw [List.mem_singleton] at hx
 exact ⟨n.t, hx, h2, hT⟩)
 · cases hx)
 · (
 unfold skips2 at hx
 split at hx
 · (
 rename_i h2
 rw [List.mem_singleton] at hx
 simp [elseB] at h2
 exact ⟨n.e, hx, h2.2, hE h2.1.1⟩)
 · cases hx))
 · (
 intro N hN hl
 have h4 : ∀ z : Nat, (split2 l n (split1 l n out.length) z).op = n.op := fun z => by unfold split2 split1; split <;> split <;> rfl
 rcases leads_cases hl with ⟨_, h2⟩ | ⟨h1, h2⟩
 · (
 have h3 : (split2 l n (split1 l n out.length) (out.length + (skips1 l n).length)).t = if 2 ≤ ways l n.t then (out.length : Int) else n.t := by (
 unfold split2 split1; split <;> split <;> rfl)
 rw [h3] at h2
 split at h2 <;> omega)
 · (
 rw [h4] at h1
 have hE := hE h1
 by_cases hB : elseB l n = true
 · (
 have h3 : (split2 l n (split1 l n out.length) (out.length + (skips1 l n).length)).e = ((out.length + (skips1 l n).length : Nat) : Int) := by (
 unfold split2; rw [if_pos hB])
 rw [h3] at h2
 omega)
 · (
 have h3 : (split2 l n (split1 l n out.length) (out.length + (skips1 l n).length)).e = (split1 l n out.length).e := by (
 unfold split2; rw [if_neg hB])
 rw [h3] at h2
 unfold split1 at h2
 split at h2
 · (
 simp only at h2
 split at h2 <;> omega)
 · omega)))))
 rw [ho]
 have hlo : (out.set k n' ++ sk).length = out.length + sk.length := by simp
 have hget : ∀ j, j ≠ k → j < out.length → (out.set k n' ++ sk)[j]? = out[j]? := fun j h1 h2 => by (
 rw [List.getElem?_append_left (by simpa using h2), List.getElem?_set_ne (Ne.symm h1)])
 have hgk : (out.set k n' ++ sk)[k]? = some n' := by (
 rw [List.getElem?_append_left (by simpa using hko), List.getElem?_set]
 simp [hko])
 refine ⟨by omega, fun j h1 h2 => ?_, fun i hi m hm => ?_, fun N h1 h2 => ?_, fun i i' m m' N hi hi' hm hm' hN hl hl' => ?_⟩
 · (
 rw [hget j (by omega) (by omega)]
 exact h.old j (by omega) h2)
 · (
 by_cases e : i = k
 · (
 subst e
 rw [hn] at hm
 injection hm with hm
 subst hm
 exact ⟨n', hgk, hG⟩)
 · (
 obtain ⟨m', h1, h2⟩ := h.new i (by omega) m hm
 have := (List.getElem?_eq_some_iff.1 h1).1
 exact ⟨m', (hget i e this).trans h1, h2.later (by omega) fun N a b => hget N (by omega) b⟩))
 · (
 by_cases h3 : N < out.length
 · (
 obtain ⟨j, h4, h5⟩ := h.skips N h1 h3
 exact ⟨j, (hget N (by omega) h3).trans h4, h5⟩)
 · (
 rw [List.getElem?_append_right (by simpa using h3)]
 rw [List.length_set]
 have h6 : N - out.length < sk.length := by omega
 rw [List.getElem?_eq_getElem h6]
 obtain ⟨j, h7, h8⟩ := hsk _ (List.getElem_mem h6)
 exact ⟨j, by rw [h7], h8⟩))
 · (
 have hle : ∀ i m, i < k → (out.set k n' ++ sk)[i]? = some m → leadsB m (N : Nat) = true → N < out.length := fun i m hi hm hl => by (
 rw [hget i (by omega) (by omega)] at hm
 obtain ⟨m0, hm0⟩ : ∃ m0, l[i]? = some m0 := ⟨_, List.getElem?_eq_getElem (by omega)⟩
 obtain ⟨m1, h1, h2⟩ := h.new i hi m0 hm0
 rw [hm] at h1
 injection h1 with h1
 subst h1
 rcases h2.lead hR (List.mem_of_getElem? hm0) hl with ⟨_, a, _⟩ | ⟨N', a, _, b, _⟩
 · omega
 · omega)
 by_cases e : i = k
 · (
 by_cases e' : i' = k
 · omega
 · (
 subst e
 rw [hgk] at hm
 injection hm with hm
 subst hm
 have h1 := hfr N hN hl
 have h2 := hle i' m' (by omega) hm' hl'
 omega))
 · (
 by_cases e' : i' = k
 · (
 subst e'
 rw [hgk] at hm'
 injection hm' with hm'
 subst hm'
 have h1 := hfr N hN hl'
 have h2 := hle i m (by omega) hm hl
 omega)
 · (
 rw [hget i e (by omega)] at hm
 rw [hget i' e' (by omega)] at hm'
 exact h.only i i' m m' N (by omega) (by omega) hm hm' hN hl hl'))))
theorem splitTo_spl {regs : Int} {l : List Nd} (hR : Right regs l) : ∀ k, k ≤ l.length → Spl l k (splitTo l k)
 | 0, _ => Spl.start l
 | k + 1, hk => by (
 have hn : l[k]? = some l[k] := List.getElem?_eq_getElem hk
 rw [splitTo_succ hn]
 exact (splitTo_spl hR k (by omega)).step hR hn)
theorem split_spl {regs : Int} {l : List Nd} (hR : Right regs l) : Spl l l.length (splitL l) := splitTo_spl hR l.length (Nat.le_refl _)
theorem Right.split {regs : Int} {l : List Nd} (hR : Right regs l) (h256 : (splitL l).length ≤ 256) : Right regs (splitL l) := by (
 have hS := split_spl hR
 have hlo := hR.lo
 have hlen := hS.len
 have hcase : ∀ m ∈ splitL l, (∃ n ∈ l, SpN l (splitL l) n m) ∨ ∃ j : Int, m = skipN j ∧ 1 ≤ j ∧ j < l.length := fun m hm => by (
 obtain ⟨i, hi⟩ := List.mem_iff_getElem?.1 hm
 have hil := (List.getElem?_eq_some_iff.1 hi).1
 by_cases h : i < l.length
 · (
 obtain ⟨n, hn⟩ : ∃ n, l[i]? = some n := ⟨_, List.getElem?_eq_getElem h⟩
 obtain ⟨n', h1, h2⟩ := hS.new i h n hn
 rw [hi] at h1
 injection h1 with h1
 subst h1
 exact .inl ⟨n, List.mem_of_getElem? hn, h2⟩)
 · (
 obtain ⟨j, h1, _, h3⟩ := hS.skips i (by omega) hil
 rw [hi] at h1
 injection h1 with h1
 exact .inr ⟨j, h1, h3⟩))
 refine ⟨by omega, h256, hR.rlo, hR.rhi, fun m hm => ?_, fun m hm => ?_, fun m hm => ?_⟩
 · (
 rcases hcase m hm with ⟨n, hn, hG⟩ | ⟨j, rfl, _⟩
 · rw [hG.op]; exact hR.ok n hn
 · rfl)
 · (
 rcases hcase m hm with ⟨n, hn, hG⟩ | ⟨j, rfl, h1, h2⟩
 · (
 have hr := hR.rng n hn
 simp only [badR, Bool.or_eq_false_iff, Bool.not_eq_false'] at hr ⊢
 rw [hG.op, hG.d, hG.a, hG.b]
 have hin : ∀ j : Int, leadsB m j = true → 1 ≤ j ∧ j < ((splitL l).length : Int) := fun j hj => by (
 rcases hG.lead hR hn hj with ⟨a, b, _⟩ | ⟨N, rfl, a, b, _⟩
 · omega
 · omega)
 refine ⟨⟨hr.1.1, ?_⟩, ?_⟩
 · (
 by_cases h12 : n.op = 12
 · simp [okN, shT, h12]
 · (
 have := hin m.t (leads_then (by rw [hG.op]; exact h12))
 simp [okN, this.1, this.2]))
 · (
 by_cases h11 : n.op = 11
 · (
 have := hin m.e (leads_else (by rw [hG.op]; exact h11))
 simp [okN, this.1, this.2])
 · simp [okN, hasE, h11]))
 · (
 have : j < ((splitL l).length : Int) := by omega
 simp [badR, skipN, okR, okN, hasD, hasA, hasB, hasE, shT, opOk, inB, h1, this]))
 · (
 rcases hcase m hm with ⟨n, hn, hG⟩ | ⟨j, rfl, h1, h2⟩
 · (
 have hr := hR.frm n hn
 have hok := hR.ok n hn
 simp only [badF, Bool.or_eq_false_iff, Bool.not_eq_false'] at hr ⊢
 rw [hG.op, hG.d, hG.a, hG.b]
 refine ⟨⟨hr.1.1, ?_⟩, ?_⟩
 · (
 by_cases h12 : n.op = 12
 · rw [hG.same (.inr h12)]; exact hr.1.2
 · simp [okF, shT, hok, h12])
 · (
 by_cases h11 : n.op = 11
 · simp [okF, hasE, h11]
 · rw [hG.ne h11]; exact hr.2))
 · simp [badF, skipN, okF, hasD, hasA, hasB, hasE, shT, opOk, inB, isSet]))
structure SplitR (l : List Nd) (s t : Rn) : Prop where
 alike : Alike s t
 pos : s.ended = false → t.pos = s.pos ∧ s.pos < l.length
end
section
open Go.RowKit
set_option maxHeartbeats 4000000
attribute [local irreducible] Row madeCells
def sort2 (x y : Int) : List Int := if y < x then [y, x] else [x, y]
def once2 (x y : Int) : List Int := if x = y then [x] else [x, y]
end
section
open Go.RowKit
set_option maxHeartbeats 4000000
theorem Row.lit {w : World} {B g : Nat} {e : TypeId} {xs : List Value} (hg : g = w.heap.size) (hb : B ≤ w.heap.size) (hl : xs.length ≤ maxLen) : Row (w.alloc (.cells xs.toArray e)) B e (.slice (some ⟨g, 0, none⟩) xs.length xs.length) xs := by (
 subst hg
 exact .inr ⟨w.heap.size, 0, xs.length, xs.toArray, rfl, hb, heap_alloc_new w _, Nat.le_refl _, hl, by simp, fun j x hj => by simpa using hj⟩)
def exitsS (n : Nd) : List Int := if n.op = 12 then [] else if n.op = 11 then (if n.e < n.t then once2 n.e n.t else once2 n.t n.e) else [n.t]
attribute [local irreducible] Row madeCells
end
section
open Go.RowKit
def tmsOf (l : List Nd) : Nat → List Tm
 | 0 => []
 | k + 1 => if hasB (nd l k).op && !(tmsOf l k).contains (nd l k).tm then tmsOf l k ++ [(nd l k).tm] else tmsOf l k
theorem tmsOf_yes {l : List Nd} {k : Nat} {n : Nd} (h : l[k]? = some n) (h1 : hasB n.op = true) (h2 : (tmsOf l k).contains n.tm = false) : tmsOf l (k + 1) = tmsOf l k ++ [n.tm] := by (
 rw [tmsOf, nd_get h, h1, h2]; rfl)
theorem tmsOf_no {l : List Nd} {k : Nat} {n : Nd} (h : l[k]? = some n) (h1 : hasB n.op = false) : tmsOf l (k + 1) = tmsOf l k := by (
 rw [tmsOf, nd_get h, h1]; rfl)
theorem tmsOf_seen {l : List Nd} {k : Nat} {n : Nd} (h : l[k]? = some n) (h2 : (tmsOf l k).contains n.tm = true) : tmsOf l (k + 1) = tmsOf l k := by (
 rw [tmsOf, nd_get h, h2]; simp)
theorem tmsOf_len (l : List Nd) : ∀ k, (tmsOf l k).length ≤ k
 | 0 => by simp [tmsOf]
 | k + 1 => by (
 have := tmsOf_len l k
 rw [tmsOf]
 split
 · rw [List.length_append]; simp; omega
 · omega)
end
end Go.Proofs.YtmghkonmfbpjcabGreat
