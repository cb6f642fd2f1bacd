/- Ms4 Alike TrimP SplitQ Ms5 FactR Loops FactU Small FactI PgA PgX PgP. -/
import Derived.Test.YtmghkonmfbpjcaaGreatDoorGE
import Derived.Test.YtmghkonmfbpjcaaGreatDoorMvE
import Derived.Test.YtmghkonmfbpjcaaGreatDoorGA
import Derived.Test.YtmghkonmfbpjcaaGreatDoorGB
import Derived.Test.YtmghkonmfbpjcaaGreatDoorGC
import Derived.Test.YtmghkonmfbpjcaaGreatDoorGD
import Derived.Deep.RegionHeld3
import Derived.Deep.RegionLaw
import Derived.Deep.DeepCutAuto
import Derived.Deep.QuietTactic
import Derived.Deep.Cut
import Derived.LoopN
import Derived.Lib.SliceRun
set_option linter.unusedVariables false
set_option linter.unusedSimpArgs false
namespace Go.Proofs.YtmghkonmfbpjcaaGreatDoor
section
open Go.RowKit
section
variable {regs : Int} {t : Tm} {l : List Nd} {pt tk th : List Bool} {inp : List Int}
theorem Mvd.start (hR : Right regs l) (hH : Held t l pt tk th) : Mvd regs t l pt th (startR regs) (startR (regs + 1)) := by
  have hlo := hR.lo
  have hr := hR.rlo
  have hz : ∀ (k : Nat) (i : Int), rg (List.replicate k 0) i = 0 := fun k i => by
    unfold rg
    rw [List.getD_eq_getElem?_getD, List.getElem?_replicate]
    split <;> rfl
  refine ⟨by simp [startR], by simp [startR]; omega, fun i _ _ => (hz _ i).trans (hz _ i).symm, rfl, rfl, rfl, rfl, fun v _ => rfl, fun _ => by show 0 < l.length; omega, fun _ => .inl ⟨rfl, fun e => ?_⟩⟩
  rcases hH.from_ 0 (by omega) e with e2 | ⟨⟨m, hm⟩, _⟩
  · exact .inl e2
  · have := hm.pos hR; omega
theorem Mvd.two (hR : Right regs l) (hT : TmOk regs t) (hH : Held t l pt tk th) {s u : Rn} (h : Mvd regs t l pt th s u) (he : s.ended = false) (hu : u.pos = s.pos) :
    ∃ k, 1 ≤ k ∧ k ≤ 2 ∧ Mvd regs t l pt th (stepR l inp s) (goR (applyL regs t pt tk l) inp k u) ∧ ((stepR l inp s).ended = false → (goR (applyL regs t pt tk l) inp k u).pos = (stepR l inp s).pos) ∧ (goR (applyL regs t pt tk l) inp k u).ts.count t = u.ts.count t + costP t l pt tk s.pos := by
  have heu : u.ended = false := by rw [← h.ended]; exact he
  by_cases hp : yn pt s.pos = true
  · obtain ⟨h1, h2, h3⟩ := h.put (tk := tk) (inp := inp) hT he hu hp
    have hlt := h.lt he
    obtain ⟨h4, h5, h6, _⟩ := h1.take hR hT hH he (.inr ⟨hp, by rw [h2]; omega⟩) (inp := inp)
    have heu2 : (stepR (applyL regs t pt tk l) inp u).ended = false := by rw [← h1.ended]; exact he
    have e2 : goR (applyL regs t pt tk l) inp 2 u = stepR (applyL regs t pt tk l) inp (stepR (applyL regs t pt tk l) inp u) := by rw [goR_step heu, goR_step heu2]; rfl
    refine ⟨2, by omega, by omega, ?_⟩
    rw [e2]
    refine ⟨h4, h6, ?_⟩
    rw [h5, h3]
    unfold costP
    rw [hp]
    show _ + 1 + _ = _ + (1 + _)
    omega
  · have hp : yn pt s.pos = false := by simpa using hp
    obtain ⟨h4, h5, h6, _⟩ := h.take hR hT hH he (.inl ⟨hu, hp⟩) (inp := inp)
    have e1 : goR (applyL regs t pt tk l) inp 1 u = stepR (applyL regs t pt tk l) inp u := by rw [goR_step heu]; rfl
    refine ⟨1, by omega, by omega, ?_⟩
    rw [e1]
    refine ⟨h4, h6, ?_⟩
    rw [h5]
    unfold costP
    rw [hp]
    show _ + _ = _ + (0 + _)
    omega
theorem Mvd.go (hR : Right regs l) (hT : TmOk regs t) (hH : Held t l pt tk th) : ∀ (n : Nat) {s u : Rn}, Mvd regs t l pt th s u → (s.ended = false → u.pos = s.pos) →
    ∃ k, n ≤ k ∧ k ≤ 2 * n ∧ Mvd regs t l pt th (goR l inp n s) (goR (applyL regs t pt tk l) inp k u) ∧ (goR (applyL regs t pt tk l) inp k u).ts.count t = u.ts.count t + sumR l inp (costP t l pt tk) n s
  | 0, s, u, h, _ => ⟨0, by omega, by omega, h, by simp [goR, sumR]⟩
  | n + 1, s, u, h, hu => by
    by_cases he : s.ended = true
    · refine ⟨n + 1, by omega, by omega, ?_, ?_⟩
      · rw [goR_ended he, goR_ended (by rw [← h.ended]; exact he)]
        exact h
      · rw [goR_ended (by rw [← h.ended]; exact he), sumR_ended he]
        omega
    · have he : s.ended = false := by simpa using he
      obtain ⟨k, h1, h2, h3, h4, h5⟩ := h.two hR hT hH he (hu he) (inp := inp)
      obtain ⟨j, h6, h7, h8, h9⟩ := Mvd.go hR hT hH n h3 h4
      refine ⟨k + j, by omega, by omega, ?_, ?_⟩
      · rw [goR_step he, goR_add]; exact h8
      · rw [goR_add, h9, h5, sumR_step he]; omega
end
section
variable {regs : Int} {t : Tm} {l : List Nd} {F : Fx}
theorem fxE_tm (h : fxE regs l t = 0) : TmOk regs t := by
  have h1 := fxE_chk h
  have ho := fxE_op h
  have h2 := h
  unfold fxE at h2
  rw [if_neg (by simp [h1])] at h2
  split at h2
  · cases h2
  · split at h2
    · cases h2
    · rename_i h3
      refine ⟨ho, ?_, ?_⟩ <;> (try simp [inB] at h3) <;> omega
theorem rkb {n : Nat} (hR : Right regs l) (ht : 3 ≤ t.op ∧ t.op ≤ 8) (hn : n < l.length) : rkB t (nd l n) = recB t (nd l n) := rkB_eq hR (nd_mem hn) ht
theorem lazy_held (h : IsFx t l F) (hR : Right regs l) (ht : 3 ≤ t.op ∧ t.op ≤ 8) : Held t l (lazyX l F) (lazyY t l F) (mk l.length fun k => yn F.late k && !yn F.alone k || !yn F.delay k && (yn F.down k || yn F.up k) && (recB t (nd l k) || !yn F.alone k)) := by
  have hx : ∀ {n : Nat}, n < l.length → (yn (lazyX l F) n = true ↔ F.L n ∧ ¬ F.A n) := fun hn => by
    unfold lazyX
    rw [yn_mk hn, Bool.and_eq_true, yn_bnot]; exact Iff.rfl
  have hth : ∀ {n : Nat}, n < l.length → (yn (mk l.length fun k => yn F.late k && !yn F.alone k || !yn F.delay k && (yn F.down k || yn F.up k) && (recB t (nd l k) || !yn F.alone k)) n = true ↔ (F.L n ∧ ¬ F.A n) ∨ (¬ F.Y n ∧ (F.D n ∨ F.U n)) ∧ (Rc t l n ∨ ¬ F.A n)) := fun hn => by
    rw [yn_mk hn]
    simp only [Bool.or_eq_true, Bool.and_eq_true, yn_bnot]
    exact Iff.rfl
  refine ⟨fun n hn e => ?_, fun n hn e => ?_⟩
  · rw [hx hn]
    rcases (hth hn).1 e with e1 | ⟨⟨hY, hDU⟩, hw⟩
    · exact .inl e1
    · right
      have hE : ¬ F.E n := fun x => hY (h.early_delay hn x)
      have hpre : (∃ m, Edge l m n) ∧ ∀ m, Edge l m n → Kp t l m ∧ (F.D m ∨ F.U m) := by
        rcases hDU with hD | hU
        · have h2 := fun x => hE ((h.earlyI hn).2 ⟨hD, x⟩)
          refine ⟨Classical.byContradiction fun x => h2 (.inl x), fun m hm => ⟨Classical.byContradiction fun x => h2 (.inr ⟨m, hm, .inl x⟩), Classical.byContradiction fun x => h2 (.inr ⟨m, hm, .inr ⟨fun y => x (.inl y), fun y => x (.inr y)⟩⟩)⟩⟩
        · obtain ⟨h1, h2⟩ := (h.upI hn).1 hU
          exact ⟨h1, fun m hm => ⟨(h2 m hm).1, (h2 m hm).2.elim .inr fun h3 => .inl (h.rec_down hm.1 h3)⟩⟩
      refine ⟨hpre.1, fun m hm => ⟨(hth hm.1).2 ?_, (hpre.2 m hm).1⟩⟩
      have hA : ¬ F.A m := fun hA => by
        rcases (h.aloneI hm.1).1 hA n hm with h1 | ⟨h1, h2⟩
        · exact hY (h.late_delay hn h1)
        · rcases hw with hw | hw
          · exact h1 hw
          · exact hw h2
      by_cases hYm : F.Y m
      · exact .inl ⟨(h.lateI hm.1).2 ⟨hYm, .inr ⟨n, hm, hY⟩⟩, hA⟩
      · exact .inr ⟨⟨hYm, (hpre.2 m hm).2⟩, .inr hA⟩
  · have e1 : Rc t l n ∧ (¬ F.L n ∨ ¬ F.A n) := by
      unfold lazyY at e
      rw [yn_mk hn, rkb hR ht hn, Bool.and_eq_true, Bool.or_eq_true, yn_bnot, yn_bnot] at e
      exact e
    refine ⟨(hth hn).2 ?_, e1.1⟩
    by_cases hY : F.Y n
    · have hL : F.L n := (h.lateI hn).2 ⟨hY, .inl e1.1⟩
      exact .inl ⟨hL, e1.2.resolve_left fun x => x hL⟩
    · exact .inr ⟨⟨hY, .inl (h.rec_down hn e1.1)⟩, .inl e1.1⟩
end
end
section
open Go.RowKit
structure Alike (s t : Rn) : Prop where
  regs : s.regs = t.regs
  read : s.read = t.read
  out : s.out = t.out
  ret : s.ret = t.ret
  ended : s.ended = t.ended
  ts : s.ts = t.ts
theorem Alike.step {l m : List Nd} {inp : List Int} {s t : Rn} {n n' : Nd} (h : Alike s t) (hn : nd l s.pos = n) (hm : nd m t.pos = n') (h1 : n'.op = n.op) (h2 : n'.d = n.d) (h3 : n'.a = n.a) (h4 : n'.b = n.b) :
    Alike (stepR l inp s) (stepR m inp t) ∧ ((stepR l inp s).pos = n.t.toNat ∧ (stepR m inp t).pos = n'.t.toNat ∨ n.op = 11 ∧ (stepR l inp s).pos = n.e.toNat ∧ (stepR m inp t).pos = n'.e.toNat) ∧ ((stepR l inp s).ended = false → n.op ≠ 12) := by
  obtain ⟨sr, sd, so, st, se, ss, sp, sts⟩ := s
  obtain ⟨tr, td, tuo, tt, te, tss, tp, tts⟩ := t
  obtain ⟨e1, e2, e3, e4, e5, e6⟩ := h
  simp only at e1 e2 e3 e4 e5 e6 hn hm
  subst e1 e2 e3 e4 e5 e6
  have ht : n'.tm = n.tm := by simp [Nd.tm, h1, h3, h4]
  have hB : ∀ o : Int, hasB o = true → o ≠ 12 := fun o h e => by rw [e] at h; exact absurd h (by decide)
  unfold stepR
  simp only [hn, hm, h1, h2, h3, h4, ht]
  repeat' split
  all_goals first
    | exact ⟨⟨rfl, rfl, rfl, rfl, rfl, rfl⟩, .inl ⟨rfl, rfl⟩, fun _ => by omega⟩
    | exact ⟨⟨rfl, rfl, rfl, rfl, rfl, rfl⟩, .inl ⟨rfl, rfl⟩, fun _ => hB _ (by assumption)⟩
    | exact ⟨⟨rfl, rfl, rfl, rfl, rfl, rfl⟩, .inr ⟨by assumption, rfl, rfl⟩, fun _ => by omega⟩
    | exact ⟨⟨rfl, rfl, rfl, rfl, rfl, rfl⟩, .inl ⟨rfl, rfl⟩, fun h => by simp at h⟩
theorem stepR_skip {m : List Nd} {inp : List Int} {t : Rn} {j : Int} (hm : nd m t.pos = ⟨0, 0, 0, 0, j, 0⟩) : stepR m inp t = { t with steps := t.steps + 1, pos := j.toNat } := by
  unfold stepR
  rw [hm]
  rfl
end
section
open Go.RowKit
theorem rk_mono (x : List Bool) {i : Nat} : ∀ {j : Nat}, i ≤ j → rk x i ≤ rk x j
 | 0, h => by rw [show i = 0 by omega]; exact Nat.le_refl _
 | j + 1, h => by (
 by_cases e : i = j + 1
 · subst e; exact Nat.le_refl _
 · (
 have := rk_mono x (i := i) (j := j) (by omega)
 rw [rk]
 omega))
theorem rk_lt {x : List Bool} {i j : Nat} (h : i < j) (hi : yn x i = true) : rk x i < rk x j := by (
 have := rk_mono x (i := i + 1) (j := j) h
 rw [rk_yes hi] at this
 omega)
theorem trimTo_get {x : List Bool} {l : List Nd} {i : Nat} {n : Nd} (hi : yn x i = true) (hn : l[i]? = some n) : ∀ {k : Nat}, i < k → (trimTo x l k)[rk x i]? = some (trimN x n)
 | 0, h => by omega
 | k + 1, h => by (
 by_cases e : i = k
 · (
 subst e
 rw [trimTo_yes hi hn, List.getElem?_append_right (by rw [trimTo_len]; exact Nat.le_refl _), trimTo_len]
 simp)
 · (
 have hlt : i < k := by omega
 rw [trimTo, List.getElem?_append_left (by rw [trimTo_len]; exact rk_lt hlt hi)]
 exact trimTo_get hi hn hlt))
theorem trimTo_mem {x : List Bool} {l : List Nd} {m : Nd} : ∀ {k : Nat}, k ≤ l.length → m ∈ trimTo x l k → ∃ i n, yn x i = true ∧ l[i]? = some n ∧ m = trimN x n
 | 0, _, h => by cases h
 | k + 1, hk, h => by (
 have hn : l[k]? = some l[k] := List.getElem?_eq_getElem hk
 by_cases hy : yn x k = true
 · (
 rw [trimTo_yes hy hn] at h
 rcases List.mem_append.1 h with e | e
 · exact trimTo_mem (by omega) e
 · exact ⟨k, _, hy, hn, by simpa using e⟩)
 · (
 rw [trimTo_no (by simpa using hy)] at h
 exact trimTo_mem (by omega) h))
theorem reach_zero {l : List Nd} (h : 1 ≤ l.length) : yn (reachL l) 0 = true := by (
 have hc := (leastL_least (reachS_mono l) l.length).1.2 0 (by omega)
 unfold reachL
 rw [hc]
 simp [reachS])
theorem Right.reach {regs : Int} {l : List Nd} (hR : Right regs l) {i : Nat} {n : Nd} (hi : yn (reachL l) i = true) (hn : l[i]? = some n) {m : Int} (hm : leadsB n m = true) : 1 ≤ m ∧ m < l.length ∧ yn (reachL l) m.toNat = true := by (
 have hmem := List.mem_of_getElem? hn
 have hb : ∀ m : Int, leadsB n m = true → 1 ≤ m ∧ m < l.length := fun m hm => by (
 rcases leads_cases hm with ⟨h1, rfl⟩ | ⟨h1, rfl⟩
 · exact hR.then_ hmem h1
 · exact hR.else_ hmem h1)
 obtain ⟨h1, h2⟩ := hb m hm
 refine ⟨h1, h2, reach_shut hi hn (by rw [Int.toNat_of_nonneg (by omega)]; exact hm) (fun m hm => by have := hb m hm; omega)⟩)
theorem Right.trim {regs : Int} {l : List Nd} (hR : Right regs l) : Right regs (trimL l) := by (
 have hlo := hR.lo
 have h0 := reach_zero hlo
 have h1 : rk (reachL l) 1 = 1 := by rw [rk_yes h0]; rfl
 have hlen : (trimL l).length = rk (reachL l) l.length := trimTo_len _ _ _
 have hr1 := rk_mono (reachL l) (i := 1) (j := l.length) hlo
 have hin : ∀ {i : Nat} {n : Nd}, yn (reachL l) i = true → l[i]? = some n → ∀ {m : Int}, leadsB n m = true → 1 ≤ ((rk (reachL l) m.toNat : Nat) : Int) ∧ ((rk (reachL l) m.toNat : Nat) : Int) < ((rk (reachL l) l.length : Nat) : Int) := fun hi hn m hm => by (
 obtain ⟨a1, a2, a3⟩ := hR.reach hi hn hm
 have := rk_mono (reachL l) (i := 1) (j := m.toNat) (by omega)
 have := rk_lt (j := l.length) (by omega) a3
 omega)
 refine ⟨by omega, by have := trimL_len l; have := hR.hi; omega, hR.rlo, hR.rhi, fun n hn => ?_, fun n hn => ?_, fun n hn => ?_⟩
 · (
 obtain ⟨i, n0, hi, hg, rfl⟩ := trimTo_mem (Nat.le_refl _) hn
 clear hn
 obtain ⟨n, hn⟩ : ∃ n, n = n0 := ⟨_, rfl⟩
 subst hn
 have hn := hg
 exact hR.ok n (List.mem_of_getElem? hn))
 · (
 obtain ⟨i, n0, hi, hg, rfl⟩ := trimTo_mem (Nat.le_refl _) hn
 clear hn
 obtain ⟨n, hn⟩ : ∃ n, n = n0 := ⟨_, rfl⟩
 subst hn
 have hn := hg
 have hr := hR.rng n (List.mem_of_getElem? hn)
 rw [hlen]
 simp only [badR, Bool.or_eq_false_iff, Bool.not_eq_false'] at hr ⊢
 refine ⟨⟨hr.1.1, ?_⟩, ?_⟩
 · (
 show okN _ (if n.op = 12 then n.t else ((rk (reachL l) n.t.toNat : Nat) : Int)) (shT n.op) = true
 by_cases h12 : n.op = 12
 · simp [okN, shT, h12]
 · (
 rw [if_neg h12]
 have := hin hi hn (leads_then h12)
 simp [okN, this.1, this.2]))
 · (
 show okN _ (if n.op = 11 then ((rk (reachL l) n.e.toNat : Nat) : Int) else n.e) (hasE n.op) = true
 by_cases h11 : n.op = 11
 · (
 rw [if_pos h11]
 have := hin hi hn (leads_else h11)
 simp [okN, this.1, this.2])
 · simp [okN, hasE, h11]))
 · (
 obtain ⟨i, n0, hi, hg, rfl⟩ := trimTo_mem (Nat.le_refl _) hn
 clear hn
 obtain ⟨n, hn⟩ : ∃ n, n = n0 := ⟨_, rfl⟩
 subst hn
 have hn := hg
 have hr := hR.frm n (List.mem_of_getElem? hn)
 have hok := hR.ok n (List.mem_of_getElem? hn)
 simp only [badF, Bool.or_eq_false_iff, Bool.not_eq_false'] at hr ⊢
 refine ⟨⟨hr.1.1, ?_⟩, ?_⟩
 · (
 show okF (if n.op = 12 then n.t else _) (shT n.op) = true
 by_cases h12 : n.op = 12
 · rw [if_pos h12]; exact hr.1.2
 · simp [okF, shT, hok, h12])
 · (
 show okF (if n.op = 11 then _ else n.e) (hasE n.op) = true
 by_cases h11 : n.op = 11
 · simp [okF, hasE, h11]
 · rw [if_neg h11]; exact hr.2)))
structure Trimmed (l : List Nd) (s t : Rn) : Prop where
 alike : Alike s t
 steps : s.steps = t.steps
 pos : s.ended = false → t.pos = rk (reachL l) s.pos ∧ s.pos < l.length ∧ yn (reachL l) s.pos = true
theorem Trimmed.step {regs : Int} {l : List Nd} {inp : List Int} {s t : Rn} (hR : Right regs l) (h : Trimmed l s t) (he : s.ended = false) : Trimmed l (stepR l inp s) (stepR (trimL l) inp t) := by (
 obtain ⟨hp, hl, hy⟩ := h.pos he
 obtain ⟨n, hn⟩ : ∃ n, l[s.pos]? = some n := ⟨_, List.getElem?_eq_getElem hl⟩
 have hm : nd (trimL l) t.pos = trimN (reachL l) n := nd_get (by rw [hp]; exact trimTo_get hy hn hl)
 obtain ⟨h1, h2, h3⟩ := h.alike.step (inp := inp) (nd_get hn) hm rfl rfl rfl rfl
 refine ⟨h1, by rw [stepR_steps, stepR_steps, h.steps], fun hne => ?_⟩
 have h12 := h3 hne
 rcases h2 with ⟨e1, e2⟩ | ⟨h11, e1, e2⟩
 · (
 obtain ⟨a1, a2, a3⟩ := hR.reach hy hn (leads_then h12)
 rw [e1, e2]
 refine ⟨?_, by omega, a3⟩
 show (if n.op = 12 then n.t else _).toNat = _
 rw [if_neg h12]; rfl)
 · (
 obtain ⟨a1, a2, a3⟩ := hR.reach hy hn (leads_else h11)
 rw [e1, e2]
 refine ⟨?_, by omega, a3⟩
 show (if n.op = 11 then _ else n.e).toNat = _
 rw [if_pos h11]; rfl))
theorem Trimmed.go {regs : Int} {l : List Nd} {inp : List Int} (hR : Right regs l) : ∀ (k : Nat) {s t : Rn}, Trimmed l s t → Trimmed l (goR l inp k s) (goR (trimL l) inp k t)
 | 0, s, t, h => h
 | k + 1, s, t, h => by (
 by_cases he : s.ended = true
 · (
 rw [goR_ended he, goR_ended (by rw [← h.alike.ended]; exact he)]
 exact h)
 · (
 have he : s.ended = false := by simpa using he
 rw [goR_step he, goR_step (by rw [← h.alike.ended]; exact he)]
 exact Trimmed.go hR k (h.step hR he)))
theorem run_trim {regs : Int} {l : List Nd} {inp : List Int} (hR : Right regs l) (n : Nat) : Trimmed l (runR regs l inp n) (runR regs (trimL l) inp n) := by (
 have hlo := hR.lo
 exact Trimmed.go hR n ⟨⟨rfl, rfl, rfl, rfl, rfl, rfl⟩, rfl, fun _ => ⟨rfl, by show 0 < l.length; omega, reach_zero hlo⟩⟩)
end
section
open Go.RowKit
theorem sel_one {p : Nat → Bool} {K : Nat} (h : ∀ i i', i < K → i' < K → p i = true → p i' = true → i = i') : (sel p K).length ≤ 1 := by (
 unfold sel
 rw [List.length_map]
 have hnd : ((List.range K).filter p).Nodup := List.nodup_range.filter _
 have hm : ∀ a ∈ (List.range K).filter p, a < K ∧ p a = true := fun a ha => by simpa using ha
 generalize (List.range K).filter p = f at *
 match f, hnd, hm with
 | [], _, _ => simp
 | [_], _, _ => simp
 | a :: b :: r, hnd, hm =>
  have ha := hm a (by simp)
  have hb := hm b (by simp)
  have := h a b ha.1 hb.1 ha.2 hb.2
  subst this
  simp at hnd)
theorem sel_two {p : Nat → Bool} {K i i' : Nat} (h : ¬ 2 ≤ (sel p K).length) (h1 : i < K) (h2 : i' < K) (p1 : p i = true) (p2 : p i' = true) : i = i' := by (
 unfold sel at h
 rw [List.length_map] at h
 have m1 : i ∈ (List.range K).filter p := by simp [h1, p1]
 have m2 : i' ∈ (List.range K).filter p := by simp [h2, p2]
 generalize (List.range K).filter p = f at *
 match f, h, m1, m2 with
 | [], _, m1, _ => cases m1
 | [a], _, m1, m2 => simp at m1 m2; omega
 | a :: b :: r, h, _, _ => simp at h)
def Way (l out : List Nd) (j j' : Int) : Prop := (¬ 2 ≤ ways l j ∧ j' = j) ∨ (2 ≤ ways l j ∧ ∃ N : Nat, j' = N ∧ l.length ≤ N ∧ N < out.length ∧ out[N]? = some (skipN j))
structure SpN (l out : List Nd) (n n' : Nd) : Prop where
 op : n'.op = n.op
 d : n'.d = n.d
 a : n'.a = n.a
 b : n'.b = n.b
 same : n.op = 0 ∨ n.op = 12 → n' = n
 t : ¬ (n.op = 0 ∨ n.op = 12) → Way l out n.t n'.t
 e : n.op = 11 → n.e ≠ n.t → Way l out n.e n'.e
 et : n.op = 11 → n.e = n.t → n'.e = n'.t
 ne : n.op ≠ 11 → n'.e = n.e
theorem Way.later {l out out' : List Nd} {j j' : Int} (h : Way l out j j') (hl : out.length ≤ out'.length) (hg : ∀ N : Nat, l.length ≤ N → N < out.length → out'[N]? = out[N]?) : Way l out' j j' :=
 h.imp id fun ⟨h1, N, h2, h3, h4, h5⟩ => ⟨h1, N, h2, h3, by omega, (hg N h3 h4).trans h5⟩
theorem SpN.later {l out out' : List Nd} {n n' : Nd} (h : SpN l out n n') (hl : out.length ≤ out'.length) (hg : ∀ N : Nat, l.length ≤ N → N < out.length → out'[N]? = out[N]?) : SpN l out' n n' :=
 ⟨h.op, h.d, h.a, h.b, h.same, fun x => (h.t x).later hl hg, fun x y => (h.e x y).later hl hg, h.et, h.ne⟩
theorem SpN.lead {regs : Int} {l out : List Nd} {n n' : Nd} (hR : Right regs l) (hn : n ∈ l) (h : SpN l out n n') {m : Int} (hm : leadsB n' m = true) :
 (1 ≤ m ∧ m < l.length ∧ leadsB n m = true ∧ (n.op ≠ 0 → ¬ 2 ≤ ways l m)) ∨ ∃ N : Nat, m = N ∧ l.length ≤ N ∧ N < out.length ∧ ∃ j, out[N]? = some (skipN j) ∧ leadsB n j = true ∧ 2 ≤ ways l j := by (
 have hb : ∀ m : Int, leadsB n m = true → 1 ≤ m ∧ m < l.length := fun m hm => by (
 rcases leads_cases hm with ⟨h1, rfl⟩ | ⟨h1, rfl⟩
 · exact hR.then_ hn h1
 · exact hR.else_ hn h1)
 have hw : ∀ {j j'}, leadsB n j = true → Way l out j j' → (1 ≤ j' ∧ j' < l.length ∧ leadsB n j' = true ∧ (n.op ≠ 0 → ¬ 2 ≤ ways l j')) ∨ ∃ N : Nat, j' = N ∧ l.length ≤ N ∧ N < out.length ∧ ∃ j, out[N]? = some (skipN j) ∧ leadsB n j = true ∧ 2 ≤ ways l j := by (
 rintro j j' hj (⟨h1, rfl⟩ | ⟨h1, N, rfl, h3, h4, h5⟩)
 · exact .inl ⟨(hb _ hj).1, (hb _ hj).2, hj, fun _ => h1⟩
 · exact .inr ⟨N, rfl, h3, h4, j, h5, hj, h1⟩)
 by_cases h0 : n.op = 0 ∨ n.op = 12
 · (
 rw [h.same h0] at hm
 have := hb m hm
 refine .inl ⟨this.1, this.2, hm, fun hne => ?_⟩
 have h12 : n.op = 12 := h0.resolve_left hne
 simp [leadsB, h12] at hm)
 · (
 rcases leads_cases hm with ⟨h1, h2⟩ | ⟨h1, h2⟩
 · (
 rw [h2]
 exact hw (leads_then (by omega)) (h.t h0))
 · (
 rw [h.op] at h1
 rw [h2]
 by_cases he : n.e = n.t
 · (
 rw [h.et h1 he]
 exact hw (leads_then (by omega)) (h.t h0))
 · exact hw (leads_else h1) (h.e h1 he))))
structure Spl (l : List Nd) (k : Nat) (out : List Nd) : Prop where
 len : l.length ≤ out.length
 old : ∀ j, k ≤ j → j < l.length → out[j]? = l[j]?
 new : ∀ i, i < k → ∀ n, l[i]? = some n → ∃ n', out[i]? = some n' ∧ SpN l out n n'
 skips : ∀ N, l.length ≤ N → N < out.length → ∃ j : Int, out[N]? = some (skipN j) ∧ 2 ≤ ways l j ∧ 1 ≤ j ∧ j < l.length
 only : ∀ i i' n n' N, i < k → i' < k → out[i]? = some n → out[i']? = some n' → l.length ≤ N → leadsB n (N : Nat) = true → leadsB n' (N : Nat) = true → i = i'
theorem Spl.start (l : List Nd) : Spl l 0 l := ⟨Nat.le_refl _, fun _ _ _ => rfl, fun i hi => absurd hi (by omega), fun N h1 h2 => absurd h1 (by omega), fun i i' n n' N hi => absurd hi (by omega)⟩
theorem Spl.step {regs : Int} {l : List Nd} (hR : Right regs l) {k : Nat} {n : Nd} (hn : l[k]? = some n) {out : List Nd} (h : Spl l k out) : Spl l (k + 1) (splitStep l k n out) := by (
 have hk : k < l.length := (List.getElem?_eq_some_iff.1 hn).1
 have hmem := List.mem_of_getElem? hn
 have hlen := h.len
 have hko : k < out.length := by omega
 obtain ⟨n', sk, ho, hG, hsk, hfr⟩ : ∃ n' sk, splitStep l k n out = out.set k n' ++ sk ∧ SpN l (out.set k n' ++ sk) n n' ∧ (∀ x ∈ sk, ∃ j : Int, x = skipN j ∧ 2 ≤ ways l j ∧ 1 ≤ j ∧ j < l.length) ∧ (∀ N : Nat, l.length ≤ N → leadsB n' (N : Nat) = true → out.length ≤ N) := by (
 by_cases h0 : n.op = 0 ∨ n.op = 12
 · (
 refine ⟨n, [], by rw [splitStep_skip h0, List.append_nil, set_self (by rw [h.old k (Nat.le_refl _) hk]; exact hn)], ⟨rfl, rfl, rfl, rfl, fun _ => rfl, fun hn => absurd h0 hn, fun h1 => absurd h1 (by omega), fun h1 => absurd h1 (by omega), fun _ => rfl⟩, fun x hx => absurd hx (by simp), fun N hN hl => ?_⟩
 rcases leads_cases hl with ⟨h1, h2⟩ | ⟨h1, h2⟩
 · have := hR.then_ hmem h1; omega
 · have := hR.else_ hmem h1; omega)
 · (
 have hT := hR.then_ hmem (fun e => h0 (.inr e))
 have hE := fun h11 => hR.else_ hmem h11
 refine ⟨_, _, splitStep_once hko (fun e => h0 (.inl e)) (fun e => h0 (.inr e)), ?_, ?_, ?_⟩
 · (
 have hlen1 : ∀ (a : Nd) (b : List Nd) (i : Nat), (out.set k a ++ b)[out.length + i]? = b[i]? := fun a b i => by (
 rw [List.getElem?_append_right (by simp)]
 simp)
 have hl2 : ∀ (a : Nd) (b : List Nd), (out.set k a ++ b).length = out.length + b.length := fun a b => by simp
 refine ⟨?_, ?_, ?_, ?_, fun e => absurd e h0, fun _ => ?_, fun h11 hne => ?_, fun h11 he => ?_, fun hn11 => ?_⟩
 · unfold split2 split1; split <;> split <;> rfl
 · unfold split2 split1; split <;> split <;> rfl
 · unfold split2 split1; split <;> split <;> rfl
 · unfold split2 split1; split <;> split <;> rfl
 · (
 by_cases h2 : 2 ≤ ways l n.t
 · (
 refine .inr ⟨h2, out.length, ?_, hlen, ?_, ?_⟩
 · unfold split2 split1; rw [if_pos h2]; split <;> rfl
 · rw [hl2]; unfold skips1; rw [if_pos h2]; simp
 · (
 have := hlen1 (split2 l n (split1 l n out.length) (out.length + (skips1 l n).length)) (skips1 l n ++ skips2 l n) 0
 rw [Nat.add_zero] at this
 rw [this]; unfold skips1; rw [if_pos h2]; rfl))
 · (
 refine .inl ⟨h2, ?_⟩
 unfold split2 split1; rw [if_neg h2]; split <;> rfl))
 · (
 by_cases h2 : 2 ≤ ways l n.e
 · (
 have hB : elseB l n = true := by simp [elseB, h11, hne, h2]
 refine .inr ⟨h2, out.length + (skips1 l n).length, ?_, by omega, ?_, ?_⟩
 · unfold split2; rw [if_pos hB]
 · rw [hl2]; unfold skips2; rw [if_pos hB]; simp
 · (
 rw [hlen1, List.getElem?_append_right (Nat.le_refl _)]
 unfold skips2; rw [if_pos hB]; simp))
 · (
 have hB : elseB l n = false := by simp [elseB, h2]
 refine .inl ⟨h2, ?_⟩
 unfold split2; rw [if_neg (by rw [hB]; simp)]
 unfold split1; split
 · (
 show (if n.op = 11 ∧ n.e = n.t then _ else n.e) = n.e
 rw [if_neg (fun h => hne h.2)])
 · rfl))
 · (
 have hB : elseB l n = false := by simp [elseB, he]
 unfold split2; rw [if_neg (by rw [hB]; simp)]
 unfold split1; split
 · (
 show (if n.op = 11 ∧ n.e = n.t then _ else n.e) = _
 rw [if_pos ⟨h11, he⟩])
 · exact he)
 · (
 have hB : elseB l n = false := by simp [elseB, hn11]
 unfold split2; rw [if_neg (by rw [hB]; simp)]
 unfold split1; split
 · (
 show (if n.op = 11 ∧ n.e = n.t then _ else n.e) = _
 rw [if_neg (fun h => hn11 h.1)])
 · rfl))
 · (
 intro x hx
 rcases List.mem_append.1 hx with hx | hx
 · (
 unfold skips1 at hx
 split at hx
 · (
 rename_i h2
 rw [List.mem_singleton] at hx
 exact ⟨n.t, hx, h2, hT⟩)
 · cases hx)
 · (
 unfold skips2 at hx
 split at hx
 · (
 rename_i h2
 rw [List.mem_singleton] at hx
 simp [elseB] at h2
 exact ⟨n.e, hx, h2.2, hE h2.1.1⟩)
 · cases hx))
 · (
 intro N hN hl
 have h4 : ∀ z : Nat, (split2 l n (split1 l n out.length) z).op = n.op := fun z => by unfold split2 split1; split <;> split <;> rfl
 rcases leads_cases hl with ⟨_, h2⟩ | ⟨h1, h2⟩
 · (
 have h3 : (split2 l n (split1 l n out.length) (out.length + (skips1 l n).length)).t = if 2 ≤ ways l n.t then (out.length : Int) else n.t := by (
 unfold split2 split1; split <;> split <;> rfl)
 rw [h3] at h2
 split at h2 <;> omega)
 · (
 rw [h4] at h1
 have hE := hE h1
 by_cases hB : elseB l n = true
 · (
 have h3 : (split2 l n (split1 l n out.length) (out.length + (skips1 l n).length)).e = ((out.length + (skips1 l n).length : Nat) : Int) := by (
 unfold split2; rw [if_pos hB])
 rw [h3] at h2
 omega)
 · (
 have h3 : (split2 l n (split1 l n out.length) (out.length + (skips1 l n).length)).e = (split1 l n out.length).e := by (
 unfold split2; rw [if_neg hB])
 rw [h3] at h2
 unfold split1 at h2
 split at h2
 · (
 simp only at h2
 split at h2 <;> omega)
 · omega)))))
 rw [ho]
 have hlo : (out.set k n' ++ sk).length = out.length + sk.length := by simp
 have hget : ∀ j, j ≠ k → j < out.length → (out.set k n' ++ sk)[j]? = out[j]? := fun j h1 h2 => by (
 rw [List.getElem?_append_left (by simpa using h2), List.getElem?_set_ne (Ne.symm h1)])
 have hgk : (out.set k n' ++ sk)[k]? = some n' := by (
 rw [List.getElem?_append_left (by simpa using hko), List.getElem?_set]
 simp [hko])
 refine ⟨by omega, fun j h1 h2 => ?_, fun i hi m hm => ?_, fun N h1 h2 => ?_, fun i i' m m' N hi hi' hm hm' hN hl hl' => ?_⟩
 · (
 rw [hget j (by omega) (by omega)]
 exact h.old j (by omega) h2)
 · (
 by_cases e : i = k
 · (
 subst e
 rw [hn] at hm
 injection hm with hm
 subst hm
 exact ⟨n', hgk, hG⟩)
 · (
 obtain ⟨m', h1, h2⟩ := h.new i (by omega) m hm
 have := (List.getElem?_eq_some_iff.1 h1).1
 exact ⟨m', (hget i e this).trans h1, h2.later (by omega) fun N a b => hget N (by omega) b⟩))
 · (
 by_cases h3 : N < out.length
 · (
 obtain ⟨j, h4, h5⟩ := h.skips N h1 h3
 exact ⟨j, (hget N (by omega) h3).trans h4, h5⟩)
 · (
 rw [List.getElem?_append_right (by simpa using h3)]
 rw [List.length_set]
 have h6 : N - out.length < sk.length := by omega
 rw [List.getElem?_eq_getElem h6]
 obtain ⟨j, h7, h8⟩ := hsk _ (List.getElem_mem h6)
 exact ⟨j, by rw [h7], h8⟩))
 · (
 have hle : ∀ i m, i < k → (out.set k n' ++ sk)[i]? = some m → leadsB m (N : Nat) = true → N < out.length := fun i m hi hm hl => by (
 rw [hget i (by omega) (by omega)] at hm
 obtain ⟨m0, hm0⟩ : ∃ m0, l[i]? = some m0 := ⟨_, List.getElem?_eq_getElem (by omega)⟩
 obtain ⟨m1, h1, h2⟩ := h.new i hi m0 hm0
 rw [hm] at h1
 injection h1 with h1
 subst h1
 rcases h2.lead hR (List.mem_of_getElem? hm0) hl with ⟨_, a, _⟩ | ⟨N', a, _, b, _⟩
 · omega
 · omega)
 by_cases e : i = k
 · (
 by_cases e' : i' = k
 · omega
 · (
 subst e
 rw [hgk] at hm
 injection hm with hm
 subst hm
 have h1 := hfr N hN hl
 have h2 := hle i' m' (by omega) hm' hl'
 omega))
 · (
 by_cases e' : i' = k
 · (
 subst e'
 rw [hgk] at hm'
 injection hm' with hm'
 subst hm'
 have h1 := hfr N hN hl'
 have h2 := hle i m (by omega) hm hl
 omega)
 · (
 rw [hget i e (by omega)] at hm
 rw [hget i' e' (by omega)] at hm'
 exact h.only i i' m m' N (by omega) (by omega) hm hm' hN hl hl'))))
theorem splitTo_spl {regs : Int} {l : List Nd} (hR : Right regs l) : ∀ k, k ≤ l.length → Spl l k (splitTo l k)
 | 0, _ => Spl.start l
 | k + 1, hk => by (
 have hn : l[k]? = some l[k] := List.getElem?_eq_getElem hk
 rw [splitTo_succ hn]
 exact (splitTo_spl hR k (by omega)).step hR hn)
theorem split_spl {regs : Int} {l : List Nd} (hR : Right regs l) : Spl l l.length (splitL l) := splitTo_spl hR l.length (Nat.le_refl _)
theorem Right.split {regs : Int} {l : List Nd} (hR : Right regs l) (h256 : (splitL l).length ≤ 256) : Right regs (splitL l) := by (
 have hS := split_spl hR
 have hlo := hR.lo
 have hlen := hS.len
 have hcase : ∀ m ∈ splitL l, (∃ n ∈ l, SpN l (splitL l) n m) ∨ ∃ j : Int, m = skipN j ∧ 1 ≤ j ∧ j < l.length := fun m hm => by (
 obtain ⟨i, hi⟩ := List.mem_iff_getElem?.1 hm
 have hil := (List.getElem?_eq_some_iff.1 hi).1
 by_cases h : i < l.length
 · (
 obtain ⟨n, hn⟩ : ∃ n, l[i]? = some n := ⟨_, List.getElem?_eq_getElem h⟩
 obtain ⟨n', h1, h2⟩ := hS.new i h n hn
 rw [hi] at h1
 injection h1 with h1
 subst h1
 exact .inl ⟨n, List.mem_of_getElem? hn, h2⟩)
 · (
 obtain ⟨j, h1, _, h3⟩ := hS.skips i (by omega) hil
 rw [hi] at h1
 injection h1 with h1
 exact .inr ⟨j, h1, h3⟩))
 refine ⟨by omega, h256, hR.rlo, hR.rhi, fun m hm => ?_, fun m hm => ?_, fun m hm => ?_⟩
 · (
 rcases hcase m hm with ⟨n, hn, hG⟩ | ⟨j, rfl, _⟩
 · rw [hG.op]; exact hR.ok n hn
 · rfl)
 · (
 rcases hcase m hm with ⟨n, hn, hG⟩ | ⟨j, rfl, h1, h2⟩
 · (
 have hr := hR.rng n hn
 simp only [badR, Bool.or_eq_false_iff, Bool.not_eq_false'] at hr ⊢
 rw [hG.op, hG.d, hG.a, hG.b]
 have hin : ∀ j : Int, leadsB m j = true → 1 ≤ j ∧ j < ((splitL l).length : Int) := fun j hj => by (
 rcases hG.lead hR hn hj with ⟨a, b, _⟩ | ⟨N, rfl, a, b, _⟩
 · omega
 · omega)
 refine ⟨⟨hr.1.1, ?_⟩, ?_⟩
 · (
 by_cases h12 : n.op = 12
 · simp [okN, shT, h12]
 · (
 have := hin m.t (leads_then (by rw [hG.op]; exact h12))
 simp [okN, this.1, this.2]))
 · (
 by_cases h11 : n.op = 11
 · (
 have := hin m.e (leads_else (by rw [hG.op]; exact h11))
 simp [okN, this.1, this.2])
 · simp [okN, hasE, h11]))
 · (
 have : j < ((splitL l).length : Int) := by omega
 simp [badR, skipN, okR, okN, hasD, hasA, hasB, hasE, shT, opOk, inB, h1, this]))
 · (
 rcases hcase m hm with ⟨n, hn, hG⟩ | ⟨j, rfl, h1, h2⟩
 · (
 have hr := hR.frm n hn
 have hok := hR.ok n hn
 simp only [badF, Bool.or_eq_false_iff, Bool.not_eq_false'] at hr ⊢
 rw [hG.op, hG.d, hG.a, hG.b]
 refine ⟨⟨hr.1.1, ?_⟩, ?_⟩
 · (
 by_cases h12 : n.op = 12
 · rw [hG.same (.inr h12)]; exact hr.1.2
 · simp [okF, shT, hok, h12])
 · (
 by_cases h11 : n.op = 11
 · simp [okF, hasE, h11]
 · rw [hG.ne h11]; exact hr.2))
 · simp [badF, skipN, okF, hasD, hasA, hasB, hasE, shT, opOk, inB, isSet]))
theorem split_lone {regs : Int} {l : List Nd} (hR : Right regs l) : ∀ {k : Nat} {n' : Nd}, (splitL l)[k]? = some n' → n'.op ≠ 0 → ∀ {j : Int}, leadsB n' j = true → ¬ 2 ≤ ways (splitL l) j := by (
 have hS := split_spl hR
 have hlen := hS.len
 generalize splitL l = m at *
 intro k n' hk h0 j hj
 have hkm := (List.getElem?_eq_some_iff.1 hk).1
 have hkl : k < l.length := by (
 by_cases h : k < l.length
 · exact h
 · (
 obtain ⟨j', h1, _⟩ := hS.skips k (by omega) hkm
 rw [hk] at h1
 injection h1 with h1
 rw [h1] at h0
 exact absurd rfl h0))
 obtain ⟨n, hn⟩ : ∃ n, l[k]? = some n := ⟨_, List.getElem?_eq_getElem hkl⟩
 obtain ⟨n2, h1, hG⟩ := hS.new k hkl n hn
 rw [hk] at h1
 injection h1 with h1
 subst h1
 rw [hG.op] at h0
 have key : ∀ i, i < m.length → aheadP m j.toNat i = true → i = k := by (
 intro i him hi
 have hj0 : 0 ≤ j := by (
 rcases hG.lead hR (List.mem_of_getElem? hn) hj with ⟨a, _⟩ | ⟨N, rfl, _⟩ <;> omega)
 obtain ⟨x, hx⟩ : ∃ x, m[i]? = some x := ⟨_, List.getElem?_eq_getElem him⟩
 rw [aheadP_eq hx, Int.toNat_of_nonneg hj0] at hi
 rcases hG.lead hR (List.mem_of_getElem? hn) hj with ⟨a1, a2, a3, a4⟩ | ⟨N, rfl, a1, a2, a3⟩
 · (
 by_cases hil : i < l.length
 · (
 obtain ⟨y, hy⟩ : ∃ y, l[i]? = some y := ⟨_, List.getElem?_eq_getElem hil⟩
 obtain ⟨x2, h1, hG2⟩ := hS.new i hil y hy
 rw [hx] at h1
 injection h1 with h1
 subst h1
 rcases hG2.lead hR (List.mem_of_getElem? hy) hi with ⟨_, _, b3, _⟩ | ⟨N, rfl, b1, _⟩
 · exact sel_two (a4 h0) hil hkl (by rw [aheadP_eq hy, Int.toNat_of_nonneg hj0]; exact b3) (by rw [aheadP_eq hn, Int.toNat_of_nonneg hj0]; exact a3)
 · omega)
 · (
 obtain ⟨j', h1, h2, _⟩ := hS.skips i (by omega) him
 rw [hx] at h1
 injection h1 with h1
 rw [h1] at hi
 simp [leadsB, skipN] at hi
 rw [hi] at h2
 exact absurd h2 (a4 h0)))
 · (
 by_cases hil : i < l.length
 · exact hS.only i k x n' N hil hkl hx hk a1 hi hj
 · (
 obtain ⟨j', h1, h2, h3, h4⟩ := hS.skips i (by omega) him
 rw [hx] at h1
 injection h1 with h1
 rw [h1] at hi
 simp [leadsB, skipN] at hi
 omega)))
 have := sel_one (p := aheadP m j.toNat) (K := m.length) fun i i' hi hi' p1 p2 => by rw [key i hi p1, key i' hi' p2]
 unfold ways
 omega)
structure SplitR (l : List Nd) (s t : Rn) : Prop where
 alike : Alike s t
 pos : s.ended = false → t.pos = s.pos ∧ s.pos < l.length
theorem split_sim {regs : Int} {l : List Nd} (inp : List Int) (hR : Right regs l) : Sim l (splitL l) inp 2 (SplitR l) := by (
 have hS := split_spl hR
 refine ⟨by omega, fun h => ⟨h.alike.out, h.alike.ret, h.alike.ended⟩, fun {s t} h he => ?_⟩
 obtain ⟨hp, hl⟩ := h.pos he
 obtain ⟨n, hn⟩ : ∃ n, l[s.pos]? = some n := ⟨_, List.getElem?_eq_getElem hl⟩
 obtain ⟨n', hn', hG⟩ := hS.new s.pos hl n hn
 have hmem := List.mem_of_getElem? hn
 have het : t.ended = false := by rw [← h.alike.ended]; exact he
 obtain ⟨h1, h2, h3⟩ := h.alike.step (inp := inp) (nd_get hn) (nd_get (by rw [hp]; exact hn')) hG.op hG.d hG.a hG.b
 have hone : goR (splitL l) inp 1 t = stepR (splitL l) inp t := by rw [goR_step het]; rfl
 by_cases hend : (stepR l inp s).ended = true
 · (
 refine ⟨1, by omega, by omega, ?_⟩
 rw [hone]
 exact ⟨h1, fun e => by rw [hend] at e; cases e⟩)
 · (
 have hend : (stepR l inp s).ended = false := by simpa using hend
 have h12 := h3 hend
 have het2 : (stepR (splitL l) inp t).ended = false := by rw [← h1.ended]; exact hend
 -- one way
 have way : ∀ {j j' : Int}, 1 ≤ j → j < l.length → (j' = j ∨ ∃ N : Nat, j' = N ∧ (splitL l)[N]? = some (skipN j)) → (stepR l inp s).pos = j.toNat → (stepR (splitL l) inp t).pos = j'.toNat → ∃ k, 1 ≤ k ∧ k ≤ 2 ∧ SplitR l (stepR l inp s) (goR (splitL l) inp k t) := by (
 intro j j' g1 g2 hw e1 e2
 rcases hw with rfl | ⟨N, rfl, hN⟩
 · exact ⟨1, by omega, by omega, by rw [hone]; exact ⟨h1, fun _ => ⟨by rw [e1, e2], by omega⟩⟩⟩
 · (
 refine ⟨2, by omega, by omega, ?_⟩
 have hsk := stepR_skip (m := splitL l) (inp := inp) (t := stepR (splitL l) inp t) (j := j) (nd_get (by rw [e2, Int.toNat_natCast]; exact hN))
 have : goR (splitL l) inp 2 t = { stepR (splitL l) inp t with steps := (stepR (splitL l) inp t).steps + 1, pos := j.toNat } := by (
 rw [goR_step het, goR_step het2, hsk]; rfl)
 rw [this]
 exact ⟨⟨h1.regs, h1.read, h1.out, h1.ret, h1.ended, h1.ts⟩, fun _ => ⟨e1.symm, by omega⟩⟩))
 have wy : ∀ {j j' : Int}, Way l (splitL l) j j' → j' = j ∨ ∃ N : Nat, j' = N ∧ (splitL l)[N]? = some (skipN j) := fun h => by (
 rcases h with ⟨_, h⟩ | ⟨_, N, a, _, _, b⟩
 · exact .inl h
 · exact .inr ⟨N, a, b⟩)
 have hT := hR.then_ hmem h12
 have htw : n'.t = n.t ∨ ∃ N : Nat, n'.t = N ∧ (splitL l)[N]? = some (skipN n.t) := by (
 by_cases h0 : n.op = 0 ∨ n.op = 12
 · exact .inl (by rw [hG.same h0])
 · exact wy (hG.t h0))
 rcases h2 with ⟨e1, e2⟩ | ⟨h11, e1, e2⟩
 · exact way hT.1 hT.2 htw e1 e2
 · (
 have hE := hR.else_ hmem h11
 by_cases he2 : n.e = n.t
 · (
 rw [he2] at e1
 rw [hG.et h11 he2] at e2
 exact way hT.1 hT.2 htw e1 e2)
 · exact way hE.1 hE.2 (wy (hG.e h11 he2)) e1 e2)))
theorem split_start {regs : Int} {l : List Nd} (hR : Right regs l) : SplitR l (startR regs) (startR regs) :=
 ⟨⟨rfl, rfl, rfl, rfl, rfl, rfl⟩, fun _ => ⟨rfl, by have := hR.lo; show 0 < l.length; omega⟩⟩
end
section
open Go.RowKit
inductive Hop (m : List Nd) (inp : List Int) (th : Nat → Bool) : Nat → Rn → Prop
  | here {u : Rn} : th u.pos = false → Hop m inp th 0 u
  | next {k : Nat} {u : Rn} : th u.pos = true → Hop m inp th k (stepR m inp u) → Hop m inp th (k + 1) u
structure Cov (l m : List Nd) (inp : List Int) (p : Nat → Nat) (th : Nat → Bool) (Rel : Rn → Rn → Prop) : Prop where
  same : ∀ {s u}, Rel s u → s.out = u.out ∧ s.ret = u.ret ∧ s.ended = u.ended
  lt : ∀ {s u}, Rel s u → s.ended = false → u.pos < m.length
  at_ : ∀ {s u}, Rel s u → s.ended = false → th u.pos = false → s.pos = p u.pos
  thin : ∀ {s u}, Rel s u → s.ended = false → th u.pos = true → Rel s (stepR m inp u) ∧ (nd m u.pos).op ≠ 11
  thick : ∀ {s u}, Rel s u → s.ended = false → th u.pos = false → Rel (stepR l inp s) (stepR m inp u) ∧ ((nd m u.pos).op = 11 → (nd l s.pos).op = 11)
  reach : ∀ {s u}, Rel s u → s.ended = false → ∃ k, Hop m inp th k u
inductive Dist (m : List Nd) (th : Nat → Bool) : Nat → Nat → Prop
  | here {p : Nat} : p < m.length → th p = false → Dist m th 0 p
  | next {k p : Nat} : p < m.length → th p = true → Dist m th k (nd m p).t.toNat → Dist m th (k + 1) p
theorem Dist.one {m : List Nd} {th : Nat → Bool} {k p : Nat} (h : Dist m th k p) : ∀ {j : Nat}, Dist m th j p → k = j := by
  induction h with
  | here h1 h2 =>
    intro j hj
    cases hj with
    | here _ _ => rfl
    | next _ h3 _ => rw [h2] at h3; cases h3
  | next h1 h2 h3 ih =>
    intro j hj
    cases hj with
    | here _ h4 => rw [h2] at h4; cases h4
    | next _ _ h4 => rw [ih h4]
theorem Dist.cnt {m : List Nd} {th : Nat → Bool} {k p : Nat} (h : Dist m th k p) : ∀ x : List Bool, x.length = m.length → (∀ q, yn x q = true → ∃ j, k < j ∧ Dist m th j q) → Go.Proofs.YtmghkonmfbpjcaaGreatDoor.cnt x + k + 1 ≤ m.length := by
  induction h with
  | @here p h1 h2 =>
    intro x hl hx
    have h0 : yn x p = false := yno fun e => by
      obtain ⟨j, hj, hd⟩ := hx p e
      have := hd.one (Dist.here h1 h2)
      omega
    have := cnt_put (x := x) (k := p) (by omega) h0
    have h3 := cnt_le (x.set p true)
    rw [List.length_set] at h3
    omega
  | @next k p h1 h2 h3 ih =>
    intro x hl hx
    have h0 : yn x p = false := yno fun e => by
      obtain ⟨j, hj, hd⟩ := hx p e
      have := hd.one (Dist.next h1 h2 h3)
      omega
    have := cnt_put (x := x) (k := p) (by omega) h0
    have h4 := ih (x.set p true) (by simpa using hl) fun q hq => by
      rw [yn_set _ _ _ _ (by omega)] at hq
      split at hq
      · rename_i e
        exact ⟨k + 1, by omega, by rw [e]; exact Dist.next h1 h2 h3⟩
      · obtain ⟨j, hj, hd⟩ := hx q hq
        exact ⟨j, by omega, hd⟩
    omega
section
variable {l m r : List Nd} {inp : List Int} {p : Nat → Nat} {th : Nat → Bool} {Rel : Rn → Rn → Prop}
theorem Cov.dist (h : Cov l m inp p th Rel) {s : Rn} (he : s.ended = false) {k : Nat} {u : Rn} (hk : Hop m inp th k u) : Rel s u → Dist m th k u.pos := by
  induction hk with
  | here h1 => exact fun hr => .here (h.lt hr he) h1
  | @next k u h1 h2 ih =>
    intro hr
    obtain ⟨h3, h4⟩ := h.thin hr he h1
    refine .next (h.lt hr he) h1 ?_
    rw [← (sr_pos m inp u).2.2.2 h4]
    exact ih h3
theorem Cov.go (h : Cov l m inp p th Rel) {s : Rn} (he : s.ended = false) {k : Nat} {u : Rn} (hk : Hop m inp th k u) : Rel s u → Rel s (goR m inp k u) ∧ th (goR m inp k u).pos = false := by
  induction hk with
  | here h1 => exact fun hr => ⟨hr, h1⟩
  | @next k u h1 h2 ih =>
    intro hr
    rw [goR_step (by rw [← (h.same hr).2.2]; exact he)]
    exact ih (h.thin hr he h1).1
theorem Cov.sim (h : Cov l m inp p th Rel) : Sim l m inp (m.length + 1) Rel := by
  refine ⟨by omega, h.same, fun {s u} hr he => ?_⟩
  obtain ⟨k, hk⟩ := h.reach hr he
  have h1 := (h.dist he hk hr).cnt (List.replicate m.length false) (by simp) (fun q hq => by
    simp [yn, List.getD_eq_getElem?_getD, List.getElem?_replicate] at hq
    split at hq <;> simp at hq)
  obtain ⟨h2, h3⟩ := h.go he hk hr
  have h4 := (h.thick h2 he h3).1
  refine ⟨k + 1, by omega, by omega, ?_⟩
  rw [goR_add, goR_step (by rw [← (h.same h2).2.2]; exact he)]
  exact h4
theorem Cov.trans {p' : Nat → Nat} {th' : Nat → Bool} {Rel' : Rn → Rn → Prop} (h : Cov l m inp p th Rel) (h' : Cov m r inp p' th' Rel') :
    Cov l r inp (fun j => p (p' j)) (fun j => th' j || th (p' j)) (fun s v => ∃ u, Rel s u ∧ Rel' u v) := by
  refine ⟨fun ⟨u, h1, h2⟩ => ?_, fun ⟨u, h1, h2⟩ he => ?_, fun ⟨u, h1, h2⟩ he e => ?_, fun {s v} ⟨u, h1, h2⟩ he e => ?_, fun {s v} ⟨u, h1, h2⟩ he e => ?_, fun {s v} ⟨u, h1, h2⟩ he => ?_⟩
  · obtain ⟨a1, a2, a3⟩ := h.same h1
    obtain ⟨b1, b2, b3⟩ := h'.same h2
    exact ⟨a1.trans b1, a2.trans b2, a3.trans b3⟩
  · exact h'.lt h2 (by rw [← (h.same h1).2.2]; exact he)
  · have heu := (h.same h1).2.2.symm.trans he
    rw [Bool.or_eq_false_iff] at e
    have e2 := h'.at_ h2 heu e.1
    rw [h.at_ h1 he (by rw [e2]; exact e.2), e2]
  · have heu := (h.same h1).2.2.symm.trans he
    by_cases e1 : th' v.pos = true
    · obtain ⟨h3, h4⟩ := h'.thin h2 heu e1
      exact ⟨⟨u, h1, h3⟩, h4⟩
    · have e1 : th' v.pos = false := yno e1
      rw [e1, Bool.false_or, ← h'.at_ h2 heu e1] at e
      obtain ⟨h3, h4⟩ := h.thin h1 he e
      obtain ⟨h5, h6⟩ := h'.thick h2 heu e1
      exact ⟨⟨_, h3, h5⟩, fun x => h4 (h6 x)⟩
  · have heu := (h.same h1).2.2.symm.trans he
    rw [Bool.or_eq_false_iff] at e
    have e2 := h'.at_ h2 heu e.1
    obtain ⟨h3, h4⟩ := h.thick h1 he (by rw [e2]; exact e.2)
    obtain ⟨h5, h6⟩ := h'.thick h2 heu e.1
    exact ⟨⟨_, h3, h5⟩, fun x => h4 (h6 x)⟩
  · obtain ⟨k, hk⟩ := h.reach h1 he
    -- by the nodes in between of the first, and for each by those of the second
    have key : ∀ (k : Nat) (u : Rn), Hop m inp th k u → Rel s u → ∀ (j : Nat) (v : Rn), Hop r inp th' j v → Rel' u v → ∃ i, Hop r inp (fun j => th' j || th (p' j)) i v := by
      intro k
      induction k with
      | zero =>
        intro u hu h1 j
        have heu := (h.same h1).2.2.symm.trans he
        cases hu with
        | here hu =>
          induction j with
          | zero =>
            intro v hv h2
            cases hv with
            | here hv => exact ⟨0, .here (by rw [hv, ← h'.at_ h2 heu hv, hu]; rfl)⟩
          | succ j ih =>
            intro v hv h2
            cases hv with
            | next hv hv2 =>
              obtain ⟨i, hi⟩ := ih _ hv2 (h'.thin h2 heu hv).1
              exact ⟨i + 1, .next (by rw [hv]; rfl) hi⟩
      | succ k ihk =>
        intro u hu h1 j
        have heu := (h.same h1).2.2.symm.trans he
        cases hu with
        | next hu hu2 =>
          have h3 := (h.thin h1 he hu).1
          induction j with
          | zero =>
            intro v hv h2
            cases hv with
            | here hv =>
              have h4 := (h'.thick h2 heu hv).1
              obtain ⟨j, hj⟩ := h'.reach h4 ((h.same h3).2.2.symm.trans he)
              obtain ⟨i, hi⟩ := ihk _ hu2 h3 j _ hj h4
              exact ⟨i + 1, .next (by rw [hv, ← h'.at_ h2 heu hv, hu]; rfl) hi⟩
          | succ j ih =>
            intro v hv h2
            cases hv with
            | next hv hv2 =>
              obtain ⟨i, hi⟩ := ih _ hv2 (h'.thin h2 heu hv).1
              exact ⟨i + 1, .next (by rw [hv]; rfl) hi⟩
    obtain ⟨j, hj⟩ := h'.reach h2 ((h.same h1).2.2.symm.trans he)
    exact key k u hk h1 j v hj h2
end
def Doing (regs : Int) (l : List Nd) (regs' : Int) (m : List Nd) (inp : List Int) : Prop := ∃ p th Rel, Cov l m inp p th Rel ∧ Rel (startR regs) (startR regs')
section
variable {r1 r2 r3 : Int} {l m r : List Nd} {inp : List Int}
theorem Doing.trans (h : Doing r1 l r2 m inp) (h' : Doing r2 m r3 r inp) : Doing r1 l r3 r inp := by
  obtain ⟨p, th, Rel, h1, h2⟩ := h
  obtain ⟨p', th', Rel', h3, h4⟩ := h'
  exact ⟨_, _, _, h1.trans h3, _, h2, h4⟩
theorem Doing.self (hR : Right r1 l) : Doing r1 l r1 l inp := by
  refine ⟨id, fun _ => false, fun s u => s = u ∧ (s.ended = false → s.pos < l.length), ⟨fun h => ?_, fun h he => ?_, fun h he e => ?_, fun h he e => ?_, fun {s u} h he e => ?_, fun {s u} h he => ?_⟩, rfl, fun _ => ?_⟩
  · obtain ⟨rfl, _⟩ := h
    exact ⟨rfl, rfl, rfl⟩
  · obtain ⟨rfl, h⟩ := h
    exact h he
  · obtain ⟨rfl, h⟩ := h
    rfl
  · cases e
  · obtain ⟨rfl, h⟩ := h
    exact ⟨⟨rfl, fun e => (sr_edge hR (h he) e).2.1⟩, id⟩
  · exact ⟨0, .here rfl⟩
  · have := hR.lo
    show 0 < l.length
    omega
theorem find_one {q : Nat → Bool} {K n : Nat} (hn : n < K) (hp : q n = true) (hu : ∀ i, i < K → q i = true → i = n) : ((List.range K).find? q).getD 0 = n := by
  cases h : (List.range K).find? q with
  | none =>
    have := List.find?_eq_none.1 h n (List.mem_range.2 hn)
    exact absurd hp this
  | some i =>
    have h1 := List.find?_some h
    have h2 := List.mem_of_find?_eq_some h
    exact hu i (List.mem_range.1 h2) h1
theorem rk_inj {x : List Bool} {i j : Nat} (hi : yn x i = true) (hj : yn x j = true) (h : rk x i = rk x j) : i = j := by
  rcases Nat.lt_trichotomy i j with e | e | e
  · have := rk_lt e hi; omega
  · exact e
  · have := rk_lt e hj; omega
theorem Doing.trim (hR : Right r1 l) : Doing r1 l r1 (trimL l) inp := by
  have hT := hR.trim
  refine ⟨fun j => ((List.range l.length).find? fun i => yn (reachL l) i && rk (reachL l) i == j).getD 0, fun _ => false, Trimmed l, ⟨fun h => ⟨h.alike.out, h.alike.ret, h.alike.ended⟩, fun h he => ?_, fun {s u} h he e => ?_, fun h he e => ?_, fun {s u} h he e => ⟨h.step hR he, fun h11 => ?_⟩, fun {s u} h he => ⟨0, .here rfl⟩⟩, (run_trim (inp := inp) hR 0)⟩
  · obtain ⟨h1, h2, h3⟩ := h.pos he
    have := trimTo_get h3 (List.getElem?_eq_getElem h2) h2
    rw [h1]
    exact (List.getElem?_eq_some_iff.1 this).1
  · obtain ⟨h1, h2, h3⟩ := h.pos he
    rw [h1]
    refine (find_one h2 (by simp [h3]) fun i hi hq => ?_).symm
    simp only [Bool.and_eq_true, beq_iff_eq] at hq
    exact rk_inj hq.1 h3 hq.2
  · cases e
  · obtain ⟨h1, h2, h3⟩ := h.pos he
    have h4 : nd (trimL l) u.pos = trimN (reachL l) (nd l s.pos) := nd_get (by rw [h1]; exact trimTo_get h3 (nd_some h2) h2)
    rw [h4] at h11
    exact h11
structure Splits (l : List Nd) (s u : Rn) : Prop where
  alike : Alike s u
  pos : s.ended = false → s.pos < l.length ∧ (u.pos = s.pos ∨ l.length ≤ u.pos ∧ u.pos < (splitL l).length ∧ nd (splitL l) u.pos = skipN s.pos)
theorem Doing.split (hR : Right r1 l) : Doing r1 l r1 (splitL l) inp := by
  have hS := split_spl hR
  have hlo := hR.lo
  have hlen := hS.len
  have thin : ∀ {s u}, Splits l s u → s.ended = false → l.length ≤ u.pos → Splits l s (stepR (splitL l) inp u) ∧ (nd (splitL l) u.pos).op ≠ 11 ∧ (stepR (splitL l) inp u).pos = s.pos := fun {s u} h he e => by
    obtain ⟨h1, h2⟩ := h.pos he
    obtain ⟨_, _, h5⟩ := h2.resolve_left (by omega)
    have h6 := stepR_skip (m := splitL l) (inp := inp) (t := u) h5
    have h7 : (stepR (splitL l) inp u).pos = s.pos := by rw [h6]; simp
    refine ⟨⟨?_, fun _ => ⟨h1, .inl h7⟩⟩, by rw [h5]; simp [skipN], h7⟩
    rw [h6]
    exact ⟨h.alike.regs, h.alike.read, h.alike.out, h.alike.ret, h.alike.ended, h.alike.ts⟩
  refine ⟨id, fun j => decide (l.length ≤ j), Splits l, ⟨fun h => ⟨h.alike.out, h.alike.ret, h.alike.ended⟩, fun h he => ?_, fun {s u} h he e => ?_, fun {s u} h he e => ?_, fun {s u} h he e => ?_, fun {s u} h he => ?_⟩, ⟨⟨rfl, rfl, rfl, rfl, rfl, rfl⟩, fun _ => ⟨by show 0 < l.length; omega, .inl rfl⟩⟩⟩
  · obtain ⟨h1, h2 | h2⟩ := h.pos he
    · omega
    · exact h2.2.1
  · have e := of_decide_eq_false e
    obtain ⟨h1, h2 | h2⟩ := h.pos he
    · exact h2.symm
    · omega
  · obtain ⟨h1, h2, _⟩ := thin h he (of_decide_eq_true e)
    exact ⟨h1, h2⟩
  · have e := of_decide_eq_false e
    obtain ⟨hl, h2⟩ := h.pos he
    have hp : u.pos = s.pos := h2.elim id fun h2 => by omega
    have hn := nd_some hl
    obtain ⟨n', hn', hG⟩ := hS.new s.pos hl _ hn
    have hmem := nd_mem hl
    have hnu : nd (splitL l) u.pos = n' := nd_get (by rw [hp]; exact hn')
    obtain ⟨h1, h2, h3⟩ := h.alike.step (inp := inp) rfl hnu hG.op hG.d hG.a hG.b
    refine ⟨⟨h1, fun hend => ?_⟩, by rw [hnu, hG.op]; exact id⟩
    have h12 := h3 hend
    have way : ∀ {j j' : Int}, 1 ≤ j → j < l.length → (j' = j ∨ ∃ N : Nat, j' = N ∧ l.length ≤ N ∧ N < (splitL l).length ∧ (splitL l)[N]? = some (skipN j)) → (stepR l inp s).pos = j.toNat → (stepR (splitL l) inp u).pos = j'.toNat →
        (stepR l inp s).pos < l.length ∧ ((stepR (splitL l) inp u).pos = (stepR l inp s).pos ∨ l.length ≤ (stepR (splitL l) inp u).pos ∧ (stepR (splitL l) inp u).pos < (splitL l).length ∧ nd (splitL l) (stepR (splitL l) inp u).pos = skipN (stepR l inp s).pos) := by
      intro j j' g1 g2 hw e1 e2
      refine ⟨by omega, ?_⟩
      rcases hw with rfl | ⟨N, rfl, hN1, hN2, hN3⟩
      · exact .inl (by rw [e1, e2])
      · rw [e1, e2, Int.toNat_natCast]
        refine .inr ⟨hN1, hN2, ?_⟩
        rw [nd_get hN3, Int.toNat_of_nonneg (by omega)]
    have wy : ∀ {j j' : Int}, Way l (splitL l) j j' → j' = j ∨ ∃ N : Nat, j' = N ∧ l.length ≤ N ∧ N < (splitL l).length ∧ (splitL l)[N]? = some (skipN j) := fun h => by
      rcases h with ⟨_, h⟩ | ⟨_, N, a, b, c, d⟩
      · exact .inl h
      · exact .inr ⟨N, a, b, c, d⟩
    have hT := hR.then_ hmem h12
    have htw : n'.t = (nd l s.pos).t ∨ ∃ N : Nat, n'.t = N ∧ l.length ≤ N ∧ N < (splitL l).length ∧ (splitL l)[N]? = some (skipN (nd l s.pos).t) := by
      by_cases h0 : (nd l s.pos).op = 0 ∨ (nd l s.pos).op = 12
      · exact .inl (by rw [hG.same h0])
      · exact wy (hG.t h0)
    rcases h2 with ⟨e1, e2⟩ | ⟨h11, e1, e2⟩
    · exact way hT.1 hT.2 htw e1 e2
    · have hE := hR.else_ hmem h11
      by_cases he2 : (nd l s.pos).e = (nd l s.pos).t
      · rw [he2] at e1
        rw [hG.et h11 he2] at e2
        exact way hT.1 hT.2 htw e1 e2
      · exact way hE.1 hE.2 (wy (hG.e h11 he2)) e1 e2
  · by_cases e : l.length ≤ u.pos
    · have h1 := (thin h he e).2.2
      have hl := (h.pos he).1
      exact ⟨1, .next (decide_eq_true e) (.here (decide_eq_false (by rw [h1]; omega)))⟩
    · exact ⟨0, .here (decide_eq_false e)⟩
end
end
section
open Go.RowKit
set_option maxHeartbeats 8000000
attribute [local irreducible] Row madeCells
def RTab (tS tI : TypeId) (B : Nat) (b : Bool) (l : List Nd) (m : Nat) (v : Value) (W : World) : Prop :=
 ∃ vals : List Value, vals.length = m ∧ Row W B tS v vals ∧ ∀ k, k < m → ∃ (R : Option Addr) (c : Nat), vals[k]? = some (.slice R (edgesOf b l k).length c) ∧ Row W B tI (.slice R (edgesOf b l k).length c) (ints (edgesOf b l k))
def six {α : Type} (a b c d e f : α) : Nat → α
 | 0 => a
 | 1 => b
 | 2 => c
 | 3 => d
 | 4 => e
 | _ => f
structure RSt (tP tT tF tZ tB tS tI : TypeId) (B : Nat) (w : World) (pc tc : Array Value) (n : Nat) (l : List Nd) (nx ax : Value) (m1 m2 : Nat) (g : Nat → Nat) (x : Nat → List Bool) (W : World) : Prop where
 p : Blk W B tP pc
 t : Blk W (B + 1) tT tc
 o : Blk W (B + 1 + 1) tF nil6
 s : Blk W (B + 1 + 1 + 1) tZ #[.int .i64 (n : Int)]
 rows : ∀ i, i < 6 → Row W B tB (.slice (some ⟨g i, 0, none⟩) n n) (bools (x i)) ∧ (x i).length = n
 inj : ∀ i j, i < 6 → j < 6 → g i = g j → i = j
 nxt : RTab tS tI B true l m1 nx W
 ahd : RTab tS tI B false l m2 ax W
 apart : nx.ownBlock = none ∨ nx.ownBlock ≠ ax.ownBlock
 below : Below B w W
 sz : B ≤ W.heap.size
 ty : tP ≠ tB ∧ tT ≠ tB ∧ tF ≠ tB ∧ tZ ≠ tB ∧ tS ≠ tB ∧ tI ≠ tB ∧ tP ≠ tS ∧ tT ≠ tS ∧ tF ≠ tS ∧ tZ ≠ tS ∧ tI ≠ tS
section
variable {tP tT tF tZ tB tS tI : TypeId} {B : Nat} {w : World} {pc tc : Array Value} {n : Nat} {l : List Nd} {nx ax : Value} {m1 m2 : Nat} {g : Nat → Nat} {x : Nat → List Bool} {W W' : World}
end
def FxVPost (tB : TypeId) (l : List Nd) (t : Tm) (w : World) (e : Ending) (w' : World) : Prop :=
 Below w.heap.size w w' ∧ ∃ (F : Fx) (v0 v1 v2 v3 v4 v5 : Value), e = .returned (.agg #[v0, v1, v2, v3, v4, v5]) ∧ IsFx t l F ∧ Row w' w.heap.size tB v0 (bools F.down) ∧ Row w' w.heap.size tB v1 (bools F.up) ∧ Row w' w.heap.size tB v2 (bools F.early) ∧ Row w' w.heap.size tB v3 (bools F.delay) ∧ Row w' w.heap.size tB v4 (bools F.late) ∧ Row w' w.heap.size tB v5 (bools F.alone)
end
section
open Go.RowKit
def loopsOf : Code → List Code
 | .loop c => [c]
 | .seq a b => loopsOf a ++ loopsOf b
 | .block _ c => loopsOf c
 | .scope c => loopsOf c
 | .cond _ a b => loopsOf a ++ loopsOf b
 | _ => []
noncomputable def loopAt (c : Option Code) (k : Nat) : Code := ((c.map loopsOf).getD []).getD k .skip
def lets (a : Array Value) (j : Nat) : Value := a.getD j undef
def onlyExit (n : Nat) (R : Act → World → Prop) : Exit → Act → World → Prop
 | .exit m, a, w => m = n ∧ R a w
 | _, _, _ => False
end
section
open Go.RowKit
def upQ (t : Tm) (l : List Nd) (y : List Bool) (k : Nat) (m : Int) : Bool := yn (keepL t l) m.toNat && ((yn y m.toNat || m.toNat == k) || yn (recL t l) m.toNat)
def upA (t : Tm) (l : List Nd) (y : List Bool) (k j : Nat) : Bool := decide (0 < (edgesOf false l k).length) && ((edgesOf false l k).take j).all (upQ t l y k)
def earlyQ (t : Tm) (l : List Nd) (d u : List Bool) (m : Int) : Bool := !yn (keepL t l) m.toNat || !yn d m.toNat && !yn u m.toNat
def earlyA (t : Tm) (l : List Nd) (d u : List Bool) (k j : Nat) : Bool := decide ((edgesOf false l k).length = 0) || ((edgesOf false l k).take j).any (earlyQ t l d u)
def delayQ (t : Tm) (l : List Nd) (x : List Bool) (m : Int) : Bool := yn x m.toNat && !yn (recL t l) m.toNat
def delayA (t : Tm) (l : List Nd) (x : List Bool) (k j : Nat) : Bool := decide (0 < (edgesOf false l k).length) && ((edgesOf false l k).take j).all (delayQ t l x)
def lateA (l : List Nd) (y : List Bool) (k j : Nat) : Bool := ((edgesOf true l k).take j).any fun m => !yn y m.toNat
def aloneQ (t : Tm) (l : List Nd) (f y : List Bool) (k : Nat) (m : Int) : Bool := yn f m.toNat || !yn (recL t l) m.toNat && (yn y m.toNat || m.toNat == k)
def aloneA (t : Tm) (l : List Nd) (f y : List Bool) (k j : Nat) : Bool := ((edgesOf true l k).take j).all (aloneQ t l f y k)
end
section
open Go.RowKit
set_option maxHeartbeats 4000000
def smallL : List Nd := [⟨9, 0, 0, 0, 1, 0⟩, ⟨9, 1, 0, 0, 2, 0⟩, ⟨11, 0, 0, 0, 3, 5⟩, ⟨3, 2, 0, 1, 4, 0⟩, ⟨10, 0, 2, 0, 5, 0⟩, ⟨3, 2, 0, 1, 6, 0⟩, ⟨12, 0, 2, 0, 0, 0⟩]
theorem small_row (w : World) : Calls Tryz.prog 22 #[] w fun e w' => ∃ g, e = .returned (.agg #[.int .i64 3, .slice (some ⟨g, 0, none⟩) 7 7]) ∧ NRow w' w.heap.size 44 (.slice (some ⟨g, 0, none⟩) 7 7) smallL ∧ Below w.heap.size w w' := by (
 go_enter Tryz.func22, Tryz.ntmps22
 go_wp2
 refine bodyPost_ret (v := .agg #[.int .i64 3, .slice (some ⟨w.heap.size + 1, 0, none⟩) 7 7]) (by simp [results, Tryz.results22, go_sem]) rfl ⟨_, rfl, ?_, (by (with_reducible repeat first | apply Qa | assumption | apply Qb | apply Qc | apply Qd | apply Qe | refine Qf ?_ (by assumption) ?_); all_goals (try simp only [Sz]); first | done | omega | (try simp only [Sz] at *); omega)⟩
 refine NRow.close (l := smallL) (cur := (ncells smallL).toArray) (g := w.heap.size + 1) (cap := 7) (by omega) ?_ (by simp [smallL]) (by simp [maxLen]) (by simp [ncells_len, smallL]) (fun k _ => by simp)
 have h := Blk.new' (w := w.alloc (.cells #[.int .i64 3, .slice (some ⟨w.heap.size + 1, 0, none⟩) 7 7] 24)) (g := w.heap.size + 1) (t := 44) (cs := (ncells smallL).toArray) (by simp)
 unfold Blk at h
 exact h)
end
section
open Go.RowKit
def turnL (S : List Bool → Nat → Bool) : Nat → List Bool → List Bool
 | 0, x => x
 | k + 1, x => let y := turnL S k x; y.set k (S y k)
def turnsL (S : List Bool → Nat → Bool) (n : Nat) : Nat → List Bool → List Bool
 | 0, x => x
 | c + 1, x => turnL S n (turnsL S n c x)
theorem turnOk {S : List Bool → Nat → Bool} {n c : Nat} (hm : Mono S) {x : List Bool} (h : Sweep S n c 0 x) : ∀ k, k ≤ n → Sweep S n c k (turnL S k x)
 | 0, _ => h
 | k + 1, hk => (turnOk hm h k (by omega)).step hm (by omega) rfl
theorem turnsOk {S : List Bool → Nat → Bool} {n : Nat} (hm : Mono S) : ∀ c, Sweep S n c 0 (turnsL S n c (List.replicate n true))
 | 0 => by (
 unfold turnsL
 exact Sweep.start (by simp) fun i hi => by simp [yn, List.getD_eq_getElem?_getD, List.getElem?_replicate, hi])
 | c + 1 => (turnOk hm (turnsOk hm c) n (Nat.le_refl _)).turn
theorem great_turns {S : List Bool → Nat → Bool} {n : Nat} (hm : Mono S) : Great S n (turnsL S n (n + 1) (List.replicate n true)) := (turnsOk hm (n + 1)).great hm (by omega)
def sumT : Tm := ⟨3, 0, 1⟩
def fxOf (t : Tm) (l : List Nd) : Fx :=
 let d := turnsL (flowS true false (recL t l) (keepL t l) (noL l.length) (notL (noL l.length)) l) l.length (l.length + 1) (List.replicate l.length true)
 let u := turnsL (flowS false false (noL l.length) (notL (noL l.length)) (mk l.length fun k => yn (keepL t l) k && yn (recL t l) k) (keepL t l) l) l.length (l.length + 1) (List.replicate l.length true)
 let e := earlyL t l d u
 let y := turnsL (flowS false false e (notL (noL l.length)) (noL l.length) (notL (recL t l)) l) l.length (l.length + 1) (List.replicate l.length true)
 let f := lateL t l y
 ⟨d, u, e, y, f, turnsL (flowS true true (noL l.length) (notL (noL l.length)) f (notL (recL t l)) l) l.length (l.length + 1) (List.replicate l.length true)⟩
theorem fxOf_is (t : Tm) (l : List Nd) : IsFx t l (fxOf t l) :=
 ⟨great_turns (flowS_mono _ _ _ _ _ _ _), great_turns (flowS_mono _ _ _ _ _ _ _), rfl, great_turns (flowS_mono _ _ _ _ _ _ _), rfl, great_turns (flowS_mono _ _ _ _ _ _ _)⟩
end
section
open Go.RowKit
set_option maxHeartbeats 4000000
attribute [local irreducible] Row madeCells
def sort2 (x y : Int) : List Int := if y < x then [y, x] else [x, y]
def once2 (x y : Int) : List Int := if x = y then [x] else [x, y]
end
section
open Go.RowKit
set_option maxHeartbeats 4000000
def exitsS (n : Nd) : List Int := if n.op = 12 then [] else if n.op = 11 then (if n.e < n.t then once2 n.e n.t else once2 n.t n.e) else [n.t]
attribute [local irreducible] Row madeCells
end
section
open Go.RowKit
def tmsOf (l : List Nd) : Nat → List Tm
 | 0 => []
 | k + 1 => if hasB (nd l k).op && !(tmsOf l k).contains (nd l k).tm then tmsOf l k ++ [(nd l k).tm] else tmsOf l k
theorem tmsOf_yes {l : List Nd} {k : Nat} {n : Nd} (h : l[k]? = some n) (h1 : hasB n.op = true) (h2 : (tmsOf l k).contains n.tm = false) : tmsOf l (k + 1) = tmsOf l k ++ [n.tm] := by (
 rw [tmsOf, nd_get h, h1, h2]; rfl)
theorem tmsOf_no {l : List Nd} {k : Nat} {n : Nd} (h : l[k]? = some n) (h1 : hasB n.op = false) : tmsOf l (k + 1) = tmsOf l k := by (
 rw [tmsOf, nd_get h, h1]; rfl)
theorem tmsOf_seen {l : List Nd} {k : Nat} {n : Nd} (h : l[k]? = some n) (h2 : (tmsOf l k).contains n.tm = true) : tmsOf l (k + 1) = tmsOf l k := by (
 rw [tmsOf, nd_get h, h2]; simp)
theorem tmsOf_len (l : List Nd) : ∀ k, (tmsOf l k).length ≤ k
 | 0 => by simp [tmsOf]
 | k + 1 => by (
 have := tmsOf_len l k
 rw [tmsOf]
 split
 · rw [List.length_append]; simp; omega
 · omega)
end
end Go.Proofs.YtmghkonmfbpjcaaGreatDoor
