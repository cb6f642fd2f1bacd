/- Ms2 ReachR Each FactC Same MvA FactT SameB FactE FlowC. -/
import Derived.Test.YtmghkonmfbpjcabGC
import Derived.Test.YtmghkonmfbpjcabGA
import Derived.Test.YtmghkonmfbpjcabGB
import Derived.Deep.LoopGhost
import Derived.Deep.DeepCutAuto
import Derived.Deep.QuietTactic
import Derived.BigQuiet
import Derived.WalkSpells
import Derived.Deep.RegionLaw
import Derived.Laws.StructEq
import Derived.Deep.RegionHeld3
import Derived.Test.YtmghkonmfbpjcabCheckP
set_option linter.unusedVariables false
set_option linter.unusedSimpArgs false
namespace Go.Proofs.Ytmghkonmfbpjcab
section
open Go.RowKit
def sumR (l : List Nd) (inp : List Int) (c : Nat → Nat) : Nat → Rn → Nat
  | 0, _ => 0
  | k + 1, s => if s.ended = true then 0 else c s.pos + sumR l inp c k (stepR l inp s)
theorem sumR_ended {l : List Nd} {inp : List Int} {c : Nat → Nat} {s : Rn} (h : s.ended = true) : ∀ k, sumR l inp c k s = 0
  | 0 => rfl
  | k + 1 => by rw [sumR, if_pos h]
theorem sumR_step {l : List Nd} {inp : List Int} {c : Nat → Nat} {s : Rn} (h : s.ended = false) (k : Nat) : sumR l inp c (k + 1) s = c s.pos + sumR l inp c k (stepR l inp s) := by rw [sumR, if_neg (by rw [h]; simp)]
theorem sr_pos (l : List Nd) (inp : List Int) (s : Rn) : ((stepR l inp s).pos = (nd l s.pos).t.toNat ∨ (nd l s.pos).op = 11 ∧ (stepR l inp s).pos = (nd l s.pos).e.toNat) ∧ ((stepR l inp s).ended = false → (nd l s.pos).op ≠ 12) ∧ ((stepR l inp s).ended = true → s.ended = true ∨ (nd l s.pos).op = 12) ∧ ((nd l s.pos).op ≠ 11 → (stepR l inp s).pos = (nd l s.pos).t.toNat) := by
  have hB : hasB (nd l s.pos).op = true → (nd l s.pos).op ≠ 12 := fun h e => by rw [e] at h; exact absurd h (by decide)
  unfold stepR
  generalize nd l s.pos = n at hB ⊢
  simp only
  repeat' split
  all_goals first
    | exact ⟨.inl rfl, fun _ => by omega, fun h => .inl h, fun _ => rfl⟩
    | exact ⟨.inl rfl, fun _ => hB (by assumption), fun h => .inl h, fun _ => rfl⟩
    | exact ⟨.inr ⟨by assumption, rfl⟩, fun _ => by omega, fun h => .inl h, fun h => absurd (by assumption) h⟩
    | exact ⟨.inl rfl, fun h => by simp at h, fun h => .inr (by assumption), fun _ => rfl⟩
theorem sr_edge {regs : Int} {l : List Nd} (hR : Right regs l) {inp : List Int} {s : Rn} (hp : s.pos < l.length) (he : (stepR l inp s).ended = false) : Edge l s.pos (stepR l inp s).pos := by
  obtain ⟨h1, h2, _, _⟩ := sr_pos l inp s
  have h12 := h2 he
  have hm := nd_mem hp
  rcases h1 with h1 | ⟨h11, h1⟩
  · have := hR.then_ hm h12
    exact ⟨hp, by rw [h1]; omega, by rw [h1, Int.toNat_of_nonneg (by omega)]; exact leads_then h12⟩
  · have := hR.else_ hm h11
    exact ⟨hp, by rw [h1]; omega, by rw [h1, Int.toNat_of_nonneg (by omega)]; exact leads_else h11⟩
section
variable {regs : Int} {l : List Nd} {inp : List Int}
theorem scan_le (hR : Right regs l) {Q : Nat → Prop} {A B p : Nat → Nat} (hend : ∀ n, n < l.length → (nd l n).op = 12 → Q n → p n = 0) (hst : ∀ n m, Edge l n m → Q n → Q m ∧ A m + p n ≤ B m + p m) :
    ∀ (k : Nat) (s : Rn) (q : Nat), s.ended = false → s.pos < l.length → Q s.pos → A s.pos + q ≤ B s.pos + p s.pos → (goR l inp k s).ended = true → sumR l inp A k s + q ≤ sumR l inp B k s
  | 0, s, q, he, _, _, _, h => by rw [goR] at h; rw [he] at h; cases h
  | k + 1, s, q, he, hp, hQ, hq, h => by
    rw [goR_step he] at h
    rw [sumR_step he, sumR_step he]
    by_cases h2 : (stepR l inp s).ended = true
    · rw [sumR_ended h2, sumR_ended h2]
      have h12 := ((sr_pos l inp s).2.2.1 h2).resolve_left (by rw [he]; simp)
      have := hend _ hp h12 hQ
      omega
    · have h2 : (stepR l inp s).ended = false := by simpa using h2
      have hE := sr_edge hR hp h2
      obtain ⟨h3, h4⟩ := hst _ _ hE hQ
      have := scan_le hR hend hst k _ (p s.pos) h2 hE.2.1 h3 h4 h
      omega
theorem scan_in (hR : Right regs l) {Q : Nat → Prop} {A B p : Nat → Nat} (hst : ∀ n m, Edge l n m → Q n → Q m ∧ A m + p m ≤ B m + p n) :
    ∀ (k : Nat) (s : Rn) (q : Nat), s.pos < l.length → Q s.pos → A s.pos + p s.pos ≤ B s.pos + q → sumR l inp A k s ≤ sumR l inp B k s + q
  | 0, s, q, _, _, _ => by simp [sumR]
  | k + 1, s, q, hp, hQ, hq => by
    by_cases he : s.ended = true
    · rw [sumR_ended he, sumR_ended he]; omega
    have he : s.ended = false := by simpa using he
    rw [sumR_step he, sumR_step he]
    by_cases h2 : (stepR l inp s).ended = true
    · rw [sumR_ended h2, sumR_ended h2]; omega
    · have h2 : (stepR l inp s).ended = false := by simpa using h2
      have hE := sr_edge hR hp h2
      obtain ⟨h3, h4⟩ := hst _ _ hE hQ
      have := scan_in hR hst k _ (p s.pos) hE.2.1 h3 h4
      omega
theorem sum_mono {A B : Nat → Nat} (hR : Right regs l) (h : ∀ n, n < l.length → A n ≤ B n) : ∀ (k : Nat) (s : Rn), s.pos < l.length → sumR l inp A k s ≤ sumR l inp B k s := fun k s hp => by
  have := scan_in (inp := inp) hR (Q := fun _ => True) (A := A) (B := B) (p := fun _ => 0) (fun n m he _ => ⟨trivial, by have := h m he.2.1; omega⟩) k s 0 hp trivial (by have := h _ hp; omega)
  omega
end
def costP (t : Tm) (l : List Nd) (pt tk : List Bool) (n : Nat) : Nat := (yn pt n).toNat + (recB t (nd l n) && !yn tk n).toNat
def costR (t : Tm) (l : List Nd) (n : Nat) : Nat := (recB t (nd l n)).toNat
def costE (F : Fx) (n : Nat) : Nat := (yn F.early n).toNat
def costL (F : Fx) (n : Nat) : Nat := (yn F.late n).toNat
section
variable {regs : Int} {t : Tm} {l : List Nd} {F : Fx} {inp : List Int}
theorem yes1 {b : Bool} (h : b = true) : b.toNat = 1 := by rw [h]; rfl
theorem yes0 {b : Bool} (h : ¬ b = true) : b.toNat = 0 := by simp at h; rw [h]; rfl
theorem yno {b : Bool} (h : ¬ b = true) : b = false := by simpa using h
theorem yesle (b : Bool) : b.toNat ≤ 1 := by cases b <;> decide
open Classical in
noncomputable def oneIf (P : Prop) : Nat := if P then 1 else 0
theorem oneIf_yes {P : Prop} (h : P) : oneIf P = 1 := if_pos h
theorem oneIf_no {P : Prop} (h : ¬ P) : oneIf P = 0 := if_neg h
theorem oneIf_b (b : Bool) : b.toNat = oneIf (b = true) := by cases b <;> simp [oneIf]
theorem early_le_rec (h : IsFx t l F) (hR : Right regs l) (hl : Lone l) (ht : 3 ≤ t.op ∧ t.op ≤ 8) (k : Nat) (he : (goR l inp k (startR regs)).ended = true) :
    sumR l inp (costE F) k (startR regs) ≤ sumR l inp (costR t l) k (startR regs) := by
  have hlo := hR.lo
  have key := scan_le (inp := inp) hR (Q := fun _ => True) (A := costE F) (B := costR t l) (p := fun n => oneIf (F.D n ∧ ¬ Rc t l n)) (fun n hn h12 _ => oneIf_no fun hD => h.end_down ht hn h12 hD.1)
    (fun n m hE _ => ⟨trivial, by
      unfold costE costR
      rw [oneIf_b, oneIf_b]
      show oneIf (F.E m) + _ ≤ oneIf (Rc t l m) + _
      by_cases hd : F.D n ∧ ¬ Rc t l n
      · have h1 := h.not_early hl hd.1 hd.2 hE
        have h2 := (h.down_next hd.1 hd.2 hE).2
        rw [oneIf_no h1, oneIf_yes hd]
        by_cases hr : Rc t l m
        · rw [oneIf_yes hr]; omega
        · rw [oneIf_yes (P := F.D m ∧ ¬ Rc t l m) ⟨h2, hr⟩]; omega
      · rw [oneIf_no hd]
        by_cases h1 : F.E m
        · have h2 := ((h.earlyI hE.2.1).1 h1).1
          rw [oneIf_yes h1]
          by_cases hr : Rc t l m
          · rw [oneIf_yes hr]; omega
          · rw [oneIf_yes (P := F.D m ∧ ¬ Rc t l m) ⟨h2, hr⟩]; omega
        · rw [oneIf_no h1]; omega⟩) k (startR regs) 0 rfl (by show 0 < l.length; omega) trivial (by
      unfold costE costR
      rw [oneIf_b, oneIf_b]
      show oneIf (F.E 0) + _ ≤ oneIf (Rc t l 0) + oneIf (F.D 0 ∧ ¬ Rc t l 0)
      by_cases h1 : F.E 0
      · have h2 := ((h.earlyI hlo).1 h1).1
        rw [oneIf_yes h1]
        by_cases hr : Rc t l 0
        · rw [oneIf_yes hr]; omega
        · rw [oneIf_yes (P := F.D 0 ∧ ¬ Rc t l 0) ⟨h2, hr⟩]; omega
      · rw [oneIf_no h1]; omega) he
  omega
theorem early_le_late (h : IsFx t l F) (hR : Right regs l) (hl : Lone l) (ht : 3 ≤ t.op ∧ t.op ≤ 8) (k : Nat) (he : (goR l inp k (startR regs)).ended = true) :
    sumR l inp (costE F) k (startR regs) ≤ sumR l inp (costL F) k (startR regs) := by
  have hlo := hR.lo
  have base : ∀ m, m < l.length → Rch l m → oneIf (F.E m) ≤ oneIf (F.L m) + oneIf (F.Y m ∧ ¬ F.L m) := fun m hm hr => by
    by_cases h1 : F.E m
    · rw [oneIf_yes h1]
      by_cases h2 : F.L m
      · rw [oneIf_yes h2]; omega
      · rw [oneIf_yes (P := F.Y m ∧ ¬ F.L m) ⟨h.early_delay hm h1, h2⟩]; omega
    · rw [oneIf_no h1]; omega
  have key := scan_le (inp := inp) hR (Q := Rch l) (A := costE F) (B := costL F) (p := fun n => oneIf (F.Y n ∧ ¬ F.L n)) (fun n hn h12 hr => oneIf_no fun hY => h.end_down ht hn h12 (h.delay_down hR hr hY.1))
    (fun n m hE hr => ⟨hr.next hE, by
      unfold costE costL
      rw [oneIf_b, oneIf_b]
      show oneIf (F.E m) + oneIf (F.Y n ∧ ¬ F.L n) ≤ oneIf (F.L m) + oneIf (F.Y m ∧ ¬ F.L m)
      by_cases hY : F.Y n ∧ ¬ F.L n
      · obtain ⟨h1, h2⟩ := h.delay_next hY.1 hY.2 hE
        have h3 := h.not_early hl (h.delay_down hR hr hY.1) h1 hE
        rw [oneIf_no h3, oneIf_yes hY]
        by_cases h4 : F.L m
        · rw [oneIf_yes h4]; omega
        · rw [oneIf_yes (P := F.Y m ∧ ¬ F.L m) ⟨h2, h4⟩]; omega
      · rw [oneIf_no hY]
        exact base m hE.2.1 (hr.next hE)⟩) k (startR regs) 0 rfl (by show 0 < l.length; omega) Rch.zero (by
      unfold costE costL
      rw [oneIf_b, oneIf_b]
      exact base 0 hlo Rch.zero) he
  omega
theorem late_le_early (h : IsFx t l F) (hR : Right regs l) (hl : Lone l) (k : Nat) :
    sumR l inp (costL F) k (startR regs) ≤ sumR l inp (costE F) k (startR regs) := by
  have hlo := hR.lo
  have key := scan_in (inp := inp) hR (Q := Rch l) (A := costL F) (B := costE F) (p := fun n => oneIf (F.Y n ∧ ¬ F.L n))
    (fun n m hE hr => ⟨hr.next hE, by
      unfold costE costL
      rw [oneIf_b, oneIf_b]
      show oneIf (F.L m) + oneIf (F.Y m ∧ ¬ F.L m) ≤ oneIf (F.E m) + oneIf (F.Y n ∧ ¬ F.L n)
      by_cases hY : F.Y m
      · have h0 : oneIf (F.E m) + oneIf (F.Y n ∧ ¬ F.L n) ≥ 1 := by
          by_cases h1 : F.E m
          · rw [oneIf_yes h1]; omega
          · obtain ⟨h2, _, h3⟩ := h.delay_back hl hY h1 hE
            rw [oneIf_yes (P := F.Y n ∧ ¬ F.L n) ⟨h2, h3⟩]; omega
        by_cases h4 : F.L m
        · rw [oneIf_yes h4, oneIf_no (fun h5 => h5.2 h4)]; omega
        · rw [oneIf_no h4, oneIf_yes (P := F.Y m ∧ ¬ F.L m) ⟨hY, h4⟩]; omega
      · rw [oneIf_no (fun hL => hY (h.late_delay hE.2.1 hL)), oneIf_no (fun h5 => hY h5.1)]; omega⟩) k (startR regs) 0 (by show 0 < l.length; omega) Rch.zero (by
      unfold costE costL
      rw [oneIf_b, oneIf_b]
      show oneIf (F.L 0) + oneIf (F.Y 0 ∧ ¬ F.L 0) ≤ oneIf (F.E 0) + 0
      by_cases hY : F.Y 0
      · have h1 : F.E 0 := Classical.byContradiction fun h1 => by
          obtain ⟨m, hm⟩ := (((h.delayI hlo).1 hY).resolve_left h1).1
          have := hm.pos hR
          omega
        rw [oneIf_yes h1]
        by_cases h4 : F.L 0
        · rw [oneIf_yes h4, oneIf_no (fun h5 => h5.2 h4)]; omega
        · rw [oneIf_no h4, oneIf_yes (P := F.Y 0 ∧ ¬ F.L 0) ⟨hY, h4⟩]; omega
      · rw [oneIf_no (fun hL => hY (h.late_delay hlo hL)), oneIf_no (fun h5 => hY h5.1)]; omega)
  omega
def Stuck (t : Tm) (l : List Nd) (F : Fx) (n : Nat) : Prop := F.D n ∧ ¬ Rc t l n ∧ F.A n ∧ (F.L n ∨ ¬ F.Y n)
theorem Stuck.next (h : IsFx t l F) (hl : Lone l) {n m : Nat} (hs : Stuck t l F n) (hE : Edge l n m) : Stuck t l F m ∧ ¬ F.Y m := by
  obtain ⟨h1, h2, h3, h4⟩ := hs
  have hD := (h.down_next h1 h2 hE).2
  have hY : ¬ F.Y m := fun hY => by
    obtain ⟨a, _, b⟩ := h.delay_back hl hY (h.not_early hl h1 h2 hE) hE
    rcases h4 with h4 | h4
    · exact b h4
    · exact h4 a
  rcases (h.aloneI hE.1).1 h3 m hE with h5 | ⟨h5, h6⟩
  · exact absurd (h.late_delay hE.2.1 h5) hY
  · exact ⟨⟨hD, h5, h6, .inr hY⟩, hY⟩
theorem late_le_lazy (h : IsFx t l F) (hR : Right regs l) (hl : Lone l) (ht : 3 ≤ t.op ∧ t.op ≤ 8) {pt tk : List Bool} (hp : ∀ n, n < l.length → yn pt n = (yn F.late n && !yn F.alone n)) (hk : ∀ n, n < l.length → yn tk n = (recB t (nd l n) && (!yn F.late n || !yn F.alone n)))
    (k : Nat) (he : (goR l inp k (startR regs)).ended = true) : sumR l inp (costL F) k (startR regs) ≤ sumR l inp (costP t l pt tk) k (startR regs) := by
  have hlo := hR.lo
  have base : ∀ m, m < l.length → Rch l m → costL F m ≤ costP t l pt tk m + oneIf (Stuck t l F m) := fun m hm hr => by
    unfold costL costP
    rw [hp m hm, hk m hm]
    by_cases h1 : F.L m
    · by_cases h2 : F.A m
      · by_cases h3 : Rc t l m
        · have e1 : yn F.late m = true := h1
          have e2 : yn F.alone m = true := h2
          have e3 : recB t (nd l m) = true := h3
          rw [e1, e2, e3]
          simp
        · rw [oneIf_yes (P := Stuck t l F m) ⟨h.delay_down hR hr (h.late_delay hm h1), h3, h2, .inl h1⟩]
          have := yesle (yn F.late m)
          omega
      · have e1 : yn F.late m = true := h1
        have e2 : yn F.alone m = false := yno h2
        rw [e1, e2]
        simp
    · have e1 : yn F.late m = false := yno h1
      rw [e1]
      simp
  have key := scan_le (inp := inp) hR (Q := Rch l) (A := costL F) (B := costP t l pt tk) (p := fun n => oneIf (Stuck t l F n)) (fun n hn h12 hr => oneIf_no fun hS => h.end_down ht hn h12 hS.1)
    (fun n m hE hr => ⟨hr.next hE, by
      show costL F m + oneIf (Stuck t l F n) ≤ costP t l pt tk m + oneIf (Stuck t l F m)
      by_cases hS : Stuck t l F n
      · obtain ⟨h1, h2⟩ := hS.next h hl hE
        have h3 : costL F m = 0 := yes0 fun e => h2 (h.late_delay hE.2.1 e)
        rw [oneIf_yes hS, oneIf_yes h1, h3]
        omega
      · rw [oneIf_no hS]
        exact base m hE.2.1 (hr.next hE)⟩) k (startR regs) 0 rfl (by show 0 < l.length; omega) Rch.zero (base 0 hlo Rch.zero) he
  omega
theorem lazy_le_late (hR : Right regs l) {pt tk : List Bool} (hp : ∀ n, n < l.length → yn pt n = (yn F.late n && !yn F.alone n)) (hk : ∀ n, n < l.length → yn tk n = (recB t (nd l n) && (!yn F.late n || !yn F.alone n))) (k : Nat) :
    sumR l inp (costP t l pt tk) k (startR regs) ≤ sumR l inp (costL F) k (startR regs) := by
  have hlo := hR.lo
  refine sum_mono hR (fun n hn => ?_) k _ (by show 0 < l.length; omega)
  unfold costP costL
  rw [hp n hn, hk n hn]
  cases yn F.late n <;> cases yn F.alone n <;> cases recB t (nd l n) <;> decide
theorem early_le_rival (h : IsFx t l F) (hR : Right regs l) (hl : Lone l) (ht : 3 ≤ t.op ∧ t.op ≤ 8) {pt tk th : List Bool} (hp : ∀ n, n < l.length → yn pt n = true → F.D n)
    (hth : ∀ n, n < l.length → (yn th n = true ↔ yn pt n = true ∨ (∃ m, Edge l m n) ∧ ∀ m, Edge l m n → yn th m = true ∧ Kp t l m)) (hk : ∀ n, n < l.length → yn tk n = true → yn th n = true)
    (k : Nat) (he : (goR l inp k (startR regs)).ended = true) : sumR l inp (costE F) k (startR regs) ≤ sumR l inp (costP t l pt tk) k (startR regs) := by
  have hlo := hR.lo
  have hnp : ∀ n, n < l.length → ¬ F.D n → ¬ yn pt n = true := fun n hn hD e => hD (hp n hn e)
  have hU : ∀ n, n < l.length → yn th n = true → F.D n ∨ F.U n := fun n hn e => there_down h (fun m hm e hD => ((hth m hm).1 e).resolve_left (hnp m hm hD)) hn e
  have paid : ∀ m, m < l.length → Rc t l m → ¬ yn th m = true → 1 ≤ costP t l pt tk m := fun m hm hr e => by
    unfold costP
    have e1 : recB t (nd l m) = true := hr
    have e2 : yn tk m = false := by simpa using fun e3 => e (hk m hm e3)
    rw [e1, e2]
    simp
  have put : ∀ m, yn pt m = true → 1 ≤ costP t l pt tk m := fun m e => by
    unfold costP
    rw [yes1 e]; omega
  -- wanted, and not held: paid here, or still owed
  have owed : ∀ m, m < l.length → F.D m → ¬ yn th m = true → 1 ≤ costP t l pt tk m + oneIf (F.D m ∧ ¬ Rc t l m ∧ ¬ yn th m = true) := fun m hm hD e => by
    by_cases hr : Rc t l m
    · have := paid m hm hr e; omega
    · rw [oneIf_yes (P := F.D m ∧ ¬ Rc t l m ∧ ¬ yn th m = true) ⟨hD, hr, e⟩]; omega
  have key := scan_le (inp := inp) hR (Q := fun _ => True) (A := costE F) (B := costP t l pt tk) (p := fun n => oneIf (F.D n ∧ ¬ Rc t l n ∧ ¬ yn th n = true)) (fun n hn h12 _ => oneIf_no fun hD => h.end_down ht hn h12 hD.1)
    (fun n m hE _ => ⟨trivial, by
      show costE F m + oneIf (F.D n ∧ ¬ Rc t l n ∧ ¬ yn th n = true) ≤ costP t l pt tk m + oneIf (F.D m ∧ ¬ Rc t l m ∧ ¬ yn th m = true)
      have hm := hE.2.1
      by_cases hd : F.D n ∧ ¬ Rc t l n
      · have h1 : costE F m = 0 := yes0 (h.not_early hl hd.1 hd.2 hE)
        have h2 := (h.down_next hd.1 hd.2 hE).2
        rw [h1]
        by_cases hn : yn th n = true
        · rw [oneIf_no (fun h3 => h3.2.2 hn)]; omega
        · rw [oneIf_yes (P := F.D n ∧ ¬ Rc t l n ∧ ¬ yn th n = true) ⟨hd.1, hd.2, hn⟩]
          by_cases h3 : yn th m = true
          · rcases (hth m hm).1 h3 with h4 | ⟨_, h4⟩
            · have := put m h4; omega
            · exact absurd (h4 n hE).1 hn
          · have := owed m hm h2 h3; omega
      · rw [oneIf_no (P := F.D n ∧ ¬ Rc t l n ∧ ¬ yn th n = true) (fun h3 => hd ⟨h3.1, h3.2.1⟩)]
        by_cases h1 : F.E m
        · have h2 := ((h.earlyI hm).1 h1).1
          have h0 : costE F m = 1 := yes1 h1
          rw [h0]
          by_cases h3 : yn th m = true
          · rcases (hth m hm).1 h3 with h4 | ⟨_, h4⟩
            · have := put m h4; omega
            · obtain ⟨h5, h6⟩ := h4 n hE
              rcases h.early_back hl h1 hE with h7 | ⟨h7, h8⟩
              · exact absurd h6 h7
              · rcases hU n hE.1 h5 with h9 | h9
                · exact absurd h9 h7
                · exact absurd h9 h8
          · have := owed m hm h2 h3; omega
        · have h0 : costE F m = 0 := yes0 h1
          rw [h0]; omega⟩) k (startR regs) 0 rfl (by show 0 < l.length; omega) trivial (by
      show costE F 0 + 0 ≤ costP t l pt tk 0 + oneIf (F.D 0 ∧ ¬ Rc t l 0 ∧ ¬ yn th 0 = true)
      by_cases h1 : F.E 0
      · have h2 := ((h.earlyI hlo).1 h1).1
        have h0 : costE F 0 = 1 := yes1 h1
        rw [h0]
        by_cases h3 : yn th 0 = true
        · rcases (hth 0 hlo).1 h3 with h4 | ⟨⟨m, h4⟩, _⟩
          · have := put 0 h4; omega
          · have := h4.pos hR; omega
        · have := owed 0 hlo h2 h3; omega
      · have h0 : costE F 0 = 0 := yes0 h1
        rw [h0]; omega) he
  omega
end
end
section
open Go.RowKit
set_option maxHeartbeats 4000000
attribute [local irreducible] Row madeCells
theorem infoBoolG : (Try.prog.info? 4).map (fun i => (i.zero, i.size, i.bytes)) = some (some (.bool false), 1, 1) := by kernel_rfl
def BoolPost (t : TypeId) (x : List Bool) (w : World) (e : Ending) (w' : World) : Prop := ∃ v, e = .returned v ∧ Row w' w.heap.size t v (bools x) ∧ Below w.heap.size w w'
theorem Row.bool_at_ {w : World} {B g : Nat} {e : TypeId} {n c : Nat} {x : List Bool} (h : Row w B e (.slice (some ⟨g, 0, none⟩) n c) (bools x)) {k : Nat} (hk : k < x.length) :
 w.cell? ⟨g, k, none⟩ = some (.bool (yn x k)) ∧ w.frozen? ⟨g, k, none⟩ = false := by (
 obtain ⟨g0, o0, cp0, e0, _, _, cx, fx⟩ := h.bool hk
 injection e0 with e0 e1 e2
 injection e0 with e0
 injection e0 with e0 e3
 subst e0 e3
 rw [Nat.zero_add] at cx fx
 exact ⟨cx, fx⟩)
theorem Row.setb0 {w : World} {B : Nat} {e : TypeId} {g n cap : Nat} {x : List Bool} (h : Row w B e (.slice (some ⟨g, 0, none⟩) n cap) (bools x)) (k : Nat) (b : Bool) :
 Row (w.setCell ⟨g, k, none⟩ (.bool b)) B e (.slice (some ⟨g, 0, none⟩) n cap) (bools (x.set k b)) := by (
 have := h.setb k b
 rwa [Nat.zero_add] at this)
end
section
open Go.RowKit
set_option maxHeartbeats 2000000
attribute [local irreducible] Row madeCells
def SaysAt (P : Program) (F : FuncId) (caps : Array Value) (w : World) (k : Int) (b : Bool) : Prop :=
 ∀ W, Below w.heap.size w W → Calls P F (#[.int .i64 k] ++ caps) W fun e W' => e = .returned (.bool b) ∧ Below W.heap.size W W'
theorem idxSome_any (F : FuncId) (caps : Array Value) (p : Int → Bool) (S : Option Addr) (xs : List Int) (cap : Nat) (w : World) (hl : xs.length ≤ maxLen) (hS : ValsAt w S (ints xs))
 (hE : ∀ W args, (callFunc F args).run Try.prog W = .ok (.enter F args) W) (hF : ∀ m ∈ xs, SaysAt Try.prog F caps w m (p m)) :
 Calls Try.prog 104 #[.slice S xs.length cap, .func (.func F) #[] caps] w (IdxPost (xs.any p) w) := by (
 unfold maxLen at hl
 go_enter Try.func104, Try.ntmps104
 go_wp2
 go_loopw [8] (fun i wr => ∃ k : Nat, k ≤ xs.length ∧ i = .int .i64 k ∧ (xs.take k).any p = false ∧ Below w.heap.size w wr) (fun i _ => xs.length - (intOf i).toNat)
 case atStart => exact ⟨0, Nat.zero_le _, rfl, by simp, Below.refl _ _⟩
 case round => (
 obtain ⟨k, hk, rfl, hno, hbr⟩ := hrel
 have hzr := hbr.size
 have Hno := hide hno
 clear hno
 by_cases hlt : k < xs.length
 · (
 obtain ⟨b, off, v, rfl, hbl, hkn, hn⟩ := hS.get (k := k) (by rw [ints_length]; exact hlt)
 obtain ⟨s, hs, hv⟩ : ∃ s, xs[k]? = some s ∧ Value.int .i64 s = v := by simpa [ints] using hkn
 subst hv
 clear hkn
 have Hkn := hide hs
 have hm : s ∈ xs := List.mem_of_getElem? hs
 have c0 := ((bcell hbr).1 _ _ hbl).trans hn
 have hp := hF s hm wr hbr
 have Hp := hide hp
 clear hp hs
 have hbw : b < wr.heap.size := by omega
 go_wp2_with fail
 refine (Hp.out).mono ?_
 rintro e w1 ⟨rfl, hb1⟩
 have hbr1 := hbr.trans (hb1.mono hzr)
 cases ho : p s
 · (
 go_wp2_with fail
 go_roundw
 case rel => exact ⟨k + 1, by omega, by go_num, by rw [any_take_succ _ xs k s Hkn.out, Hno.out]; simp [ho], hbr1⟩
 case measure => simp [intOf]; omega)
 · (
 go_wp2_with fail
 go_ret
 exact ⟨k, rfl, by rw [any_of_take _ xs k s Hkn.out ho]; simp, hbr1⟩))
 · (
 go_wp2
 go_ret
 exact ⟨-1, rfl, by rw [← any_take_all _ xs k hlt, Hno.out]; rfl, hbr⟩)))
theorem anySome_any (F : FuncId) (caps : Array Value) (p : Int → Bool) (S : Option Addr) (xs : List Int) (cap : Nat) (w : World) (hl : xs.length ≤ maxLen) (hS : ValsAt w S (ints xs))
 (hE : ∀ W args, (callFunc F args).run Try.prog W = .ok (.enter F args) W) (hF : ∀ m ∈ xs, SaysAt Try.prog F caps w m (p m)) :
 Calls Try.prog 94 #[.slice S xs.length cap, .func (.func F) #[] caps] w fun e w' => e = .returned (.bool (xs.any p)) ∧ Below w.heap.size w w' := by (
 have h := idxSome_any F caps p S xs cap w hl hS hE hF
 have H := hide h
 clear h hF hS
 generalize xs.any p = q at *
 go_enter Try.func94, Try.ntmps94
 go_wp2_with (go_at_call 104; refine (H.out).mono ?_; rintro e w1 ⟨r, rfl, hr, hb1⟩)
 go_ret
 exact ⟨by rw [← hr]; rfl, hb1⟩)
theorem some_any (F : FuncId) (caps : Array Value) (p : Int → Bool) (S : Option Addr) (xs : List Int) (cap : Nat) (w : World) (hl : xs.length ≤ maxLen) (hS : ValsAt w S (ints xs))
 (hE : ∀ W args, (callFunc F args).run Try.prog W = .ok (.enter F args) W) (hF : ∀ m ∈ xs, SaysAt Try.prog F caps w m (p m)) :
 Calls Try.prog 71 #[.slice S xs.length cap, .func (.func F) #[] caps] w fun e w' => e = .returned (.bool (xs.any p)) ∧ Below w.heap.size w w' := by (
 have H := hide (anySome_any F caps p S xs cap w hl hS hE hF)
 clear hF hS
 generalize xs.any p = q at *
 go_enter Try.func71, Try.ntmps71
 go_wp2_with (go_at_call 94; refine (H.out).mono ?_; rintro e w1 ⟨rfl, hb1⟩)
 go_ret
 exact ⟨rfl, hb1⟩)
theorem each_any (F : FuncId) (caps : Array Value) (f : Nat → Bool) (regs : Int) (A : Option Addr) (n cap : Nat) (w : World) (hn : n ≤ 65536)
 (hE : ∀ W args, (callFunc F args).run Try.prog W = .ok (.enter F args) W) (hF : ∀ k : Nat, k < n → SaysAt Try.prog F caps w k (f k)) :
 Calls Try.prog 64 #[.agg #[.int .i64 regs, .slice A n cap], .func (.func F) #[] caps] w (BoolPost 4 (mk n f) w) := by (
 obtain ⟨ib, hbi, hbz, hbs, hbb⟩ := info_parts infoBoolG
 have hmk := run_make1 (P := Try.prog) 48 4 ib _ 1 Try.underlying48 hbi hbz hbs hbb (by omega) rfl n (by omega)
 go_enter Try.func64, Try.ntmps64
 go_wp2_with fail
 go_loopg [13] (n) (fun gk i wr => ∃ k : Nat, k ≤ n ∧ i = .int .i64 k ∧ gk = n - k ∧ ∃ x : List Bool, x.length = n ∧ (∀ j, j < k → yn x j = f j) ∧ Row wr w.heap.size 4 (.slice (some ⟨w.heap.size + 1, 0, none⟩) n n) (bools x) ∧ Below w.heap.size w wr)
 case atStart => exact ⟨0, Nat.zero_le _, rfl, rfl, List.replicate n false, by simp, fun j hj => by omega, by rw [bools, List.map_replicate]; exact (by repeat (first | ((with_reducible refine Row.made1' ?_ ?_ ?_); exact (by (try simp only [Sz]); first | done | omega | (try simp only [Sz] at *); omega); exact (by (try simp only [Sz]); first | done | omega | (try simp only [Sz] at *); omega); exact (by (try simp only [Sz]); first | done | omega | (try simp only [Sz] at *); omega)) | (with_reducible refine Row.drew ?_) | (with_reducible refine Row.drewN ?_ _) | (with_reducible refine Row.alloc ?_ _) | with_reducible assumption)), (by (with_reducible repeat first | apply Qa | assumption | apply Qb | apply Qc | apply Qd | apply Qe | refine Qf ?_ (by assumption) ?_); all_goals (try simp only [Sz]); first | done | omega | (try simp only [Sz] at *); omega)⟩
 case round => (
 obtain ⟨k, hk, rfl, hgk, x, hxl, hxf, hR, hB⟩ := hrel
 have Hgk := hide hgk
 have Hxf := hide hxf
 have hxlt := (hR.lt _ rfl).2
 clear hgk hxf hmk
 by_cases hlt : k < n
 · (
 have hp := hF k hlt wr hB
 have Hp := hide hp
 have HF := hide hF
 have HR := hide hR
 clear hp hF hR
 have u0 : (0 : Int) ≤ (k : Int) := by omega
 have u1 : (k : Int) < (n : Int) := by omega
 go_wp2_with fail
 refine (Hp.out).mono ?_
 rintro e w1 ⟨rfl, hb1⟩
 have hR1 := HR.out.below' hb1
 obtain ⟨g0, o0, cp0, e0, _, _, cx, fx⟩ := hR1.bool (k := k) (by rw [hxl]; exact hlt)
 injection e0 with e0 e1 e2
 injection e0 with e0
 injection e0 with e0 e3
 subst e0 e3
 simp only [Nat.zero_add] at cx fx
 clear e1 e2
 have hz1 := hb1.size
 have hx1 := Nat.lt_of_lt_of_le hxlt hz1
 have HR1 := hide hR1
 clear hR1
 go_wp2_with fail
 go_roundg (n - (k + 1))
 case measure => have := Hgk.out; omega
 case rel => (
 have hs := HR1.out.setb k (f k)
 rw [Nat.zero_add] at hs
 refine ⟨k + 1, by omega, by go_num, rfl, x.set k (f k), by simpa using hxl, fun j hj => ?_, hs, (hB.trans (hb1.mono hB.size)).setCell (by simp <;> omega) _⟩
 rw [yn_set _ _ _ _ (by rw [hxl]; exact hlt)]
 split
 · rename_i e; rw [e]
 · exact Hxf.out j (by omega)))
 · (
 have hkk : k = n := by omega
 subst hkk
 have hxe : x = mk k f := ext_yn (by rw [mk_len, hxl]) fun j hj => by rw [Hxf.out j (by omega), yn_mk (by omega)]
 subst hxe
 have HR := hide hR
 clear hR
 go_wp2_with fail
 go_ret
 exact ⟨_, rfl, HR.out, hB⟩)))
end
section
open Go.RowKit
set_option maxHeartbeats 2000000
attribute [local irreducible] Row madeCells
def tmA (t : Tm) : Array Value := #[.int .i64 t.op, .int .i64 t.a, .int .i64 t.b]
theorem of1_says (regs : Int) (A : Option Addr) (l : List Nd) (cap P T : Nat) (t : Tm) (w : World) (hP : Blk w P 24 #[.int .i64 regs, .slice A l.length cap]) (hT : Blk w T 42 (tmA t)) (hA : NodesAt w A l) {k : Nat} (hk : k < l.length) :
 SaysAt Try.prog 65 #[.pointer (some ⟨P, 0, none⟩), .pointer (some ⟨T, 0, none⟩)] w k (recB t (nd l k)) := by (
 intro W hW
 obtain ⟨b, off, n, rfl, hb, hn, hl⟩ := (hA.below hW).get hk
 rw [nd_get hn]
 obtain ⟨c0, c1, c2, c3, c4, c5⟩ := hl
 have hP' := hP.below hW hP.lt
 have hT' := hT.below hW hT.lt
 have p1 := hP'.cell 1
 have t0 := hT'.cell 0
 have t1 := hT'.cell 1
 have t2 := hT'.cell 2
 have lp := hP'.lt
 have lt := hT'.lt
 simp only [tmA, Yl] at p1 t0 t1 t2
 have u0 : (0 : Int) ≤ (k : Int) := by omega
 have u1 : (k : Int) < (l.length : Int) := by omega
 clear hP hT hP' hT' hA hn hW
 show Calls Try.prog 65 #[.int .i64 k, .pointer (some ⟨P, 0, none⟩), .pointer (some ⟨T, 0, none⟩)] W _
 unfold recB
 cases h1 : (n.op == t.op)
 · (
 go_enter Try.func65, Try.ntmps65
 go_wp2_with fail
 go_quiet (fail)
 go_wp2_with fail
 go_ret
 exact ⟨rfl, below_drewN (Below.refl _ _) _⟩)
 · (
 cases h2 : (n.a == t.a)
 · (
 go_enter Try.func65, Try.ntmps65
 go_wp2_with fail
 go_quiet (fail)
 go_wp2_with fail
 go_ret
 exact ⟨rfl, below_drewN (Below.refl _ _) _⟩)
 · (
 go_enter Try.func65, Try.ntmps65
 go_wp2_with fail
 go_quiet (fail)
 go_wp2_with fail
 go_ret
 exact ⟨by simp, below_drewN (Below.refl _ _) _⟩)))
theorem of2_says (regs : Int) (A : Option Addr) (l : List Nd) (cap P T : Nat) (t : Tm) (w : World) (hP : Blk w P 24 #[.int .i64 regs, .slice A l.length cap]) (hT : Blk w T 42 (tmA t)) (hA : NodesAt w A l) {k : Nat} (hk : k < l.length) :
 SaysAt Try.prog 66 #[.pointer (some ⟨P, 0, none⟩), .pointer (some ⟨T, 0, none⟩)] w k (keepB t (nd l k)) := by (
 intro W hW
 obtain ⟨b, off, n, rfl, hb, hn, hl⟩ := (hA.below hW).get hk
 rw [nd_get hn]
 obtain ⟨c0, c1, c2, c3, c4, c5⟩ := hl
 have hP' := hP.below hW hP.lt
 have hT' := hT.below hW hT.lt
 have p1 := hP'.cell 1
 have t0 := hT'.cell 0
 have t1 := hT'.cell 1
 have t2 := hT'.cell 2
 have lp := hP'.lt
 have lt := hT'.lt
 simp only [tmA, Yl] at p1 t0 t1 t2
 have u0 : (0 : Int) ≤ (k : Int) := by omega
 have u1 : (k : Int) < (l.length : Int) := by omega
 have hd : hasD n.op = !(decide (n.op < 1) || decide (9 < n.op)) := by (
 unfold hasD inB
 rw [Bool.eq_iff_iff]
 simp <;> omega)
 have Hd := hide hd
 clear hP hT hP' hT' hA hn hW hd
 show Calls Try.prog 66 #[.int .i64 k, .pointer (some ⟨P, 0, none⟩), .pointer (some ⟨T, 0, none⟩)] W _
 unfold keepB
 rw [Hd.out]
 by_cases h1 : n.op < 1
 · (
 have d1 : decide (n.op < 1) = true := by simp [h1]
 rw [d1]
 clear h1
 go_enter Try.func66, Try.ntmps66
 go_wp2
 go_ret
 exact ⟨rfl, (by (with_reducible repeat first | apply Qa | assumption | apply Qb | apply Qc | apply Qd | apply Qe | refine Qf ?_ (by assumption) ?_); all_goals (try simp only [Sz]); first | done | omega | (try simp only [Sz] at *); omega)⟩)
 · (
 have d1 : decide (n.op < 1) = false := by simp [h1]
 rw [d1]
 clear h1
 by_cases h2 : 9 < n.op
 · (
 have d2 : decide (9 < n.op) = true := by simp [h2]
 have d3 : decide (n.op > 9) = true := d2
 rw [d2]
 clear h2
 go_enter Try.func66, Try.ntmps66
 go_wp2
 go_ret
 exact ⟨rfl, (by (with_reducible repeat first | apply Qa | assumption | apply Qb | apply Qc | apply Qd | apply Qe | refine Qf ?_ (by assumption) ?_); all_goals (try simp only [Sz]); first | done | omega | (try simp only [Sz] at *); omega)⟩)
 · (
 have d2 : decide (9 < n.op) = false := by simp [h2]
 have d3 : decide (n.op > 9) = false := d2
 rw [d2]
 clear h2
 cases h3 : (n.d != t.a)
 · (
 go_enter Try.func66, Try.ntmps66
 go_wp2
 go_ret
 exact ⟨rfl, (by (with_reducible repeat first | apply Qa | assumption | apply Qb | apply Qc | apply Qd | apply Qe | refine Qf ?_ (by assumption) ?_); all_goals (try simp only [Sz]); first | done | omega | (try simp only [Sz] at *); omega)⟩)
 · (
 go_enter Try.func66, Try.ntmps66
 go_wp2
 go_ret
 exact ⟨by simp, (by (with_reducible repeat first | apply Qa | assumption | apply Qb | apply Qc | apply Qd | apply Qe | refine Qf ?_ (by assumption) ?_); all_goals (try simp only [Sz]); first | done | omega | (try simp only [Sz] at *); omega)⟩))))
theorem of31_says (L : Option Addr) (x : List Bool) (c g : Nat) (w : World) (hG : Blk w g 48 #[.slice L x.length c]) (hL : ValsAt w L (bools x)) {k : Nat} (hk : k < x.length) :
 SaysAt Try.prog 68 #[.pointer (some ⟨g, 0, none⟩)] w k (!yn x k) := by (
 intro W hW
 obtain ⟨b, off, rfl, hb, hc⟩ := (hL.below hW).bool hk
 have hG' := hG.below hW hG.lt
 have g0 := hG'.cell 0
 have lg := hG'.lt
 simp only [List.getElem?_toArray, List.getElem?_cons_zero] at g0
 have u0 : (0 : Int) ≤ (k : Int) := by omega
 have u1 : (k : Int) < (x.length : Int) := by omega
 clear hG hG' hL hW
 show Calls Try.prog 68 #[.int .i64 k, .pointer (some ⟨g, 0, none⟩)] W _
 go_enter Try.func68, Try.ntmps68
 go_wp2
 go_ret
 exact ⟨rfl, Below.refl _ _⟩)
theorem enter31 (W : World) (args : Array Value) : (callFunc 68 args).run Try.prog W = .ok (.enter 68 args) W := by kernel_rfl
theorem enter1 (W : World) (args : Array Value) : (callFunc 65 args).run Try.prog W = .ok (.enter 65 args) W := by kernel_rfl
theorem enter2 (W : World) (args : Array Value) : (callFunc 66 args).run Try.prog W = .ok (.enter 66 args) W := by kernel_rfl
theorem enter4 (W : World) (args : Array Value) : (callFunc 69 args).run Try.prog W = .ok (.enter 69 args) W := by kernel_rfl
theorem enter5 (W : World) (args : Array Value) : (callFunc 70 args).run Try.prog W = .ok (.enter 70 args) W := by kernel_rfl
theorem enter6 (W : World) (args : Array Value) : (callFunc 73 args).run Try.prog W = .ok (.enter 73 args) W := by kernel_rfl
theorem of3_any (regs : Int) (A : Option Addr) (n cap P : Nat) (L : Option Addr) (x : List Bool) (c : Nat) (w : World) (hn : n ≤ 65536) (hx : x.length = n) (hP : Blk w P 24 #[.int .i64 regs, .slice A n cap]) (hL : ValsAt w L (bools x)) :
 Calls Try.prog 67 #[.slice L n c, .pointer (some ⟨P, 0, none⟩)] w (BoolPost 4 (notL x) w) := by (
 subst hx
 have hE := fun (W : World) (hW : Below w.heap.size w W) (hb : Blk W w.heap.size 48 #[.slice L x.length c]) => each_any 68 #[.pointer (some ⟨w.heap.size, 0, none⟩)] (fun k => !yn x k) regs A x.length cap W hn enter31 (fun k hk => of31_says L x c w.heap.size W hb (hL.below hW) hk)
 have HE := hide hE
 have p0 := hP.cell 0
 have p1 := hP.cell 1
 have lp := hP.lt
 simp only [Yl] at p0 p1
 clear hE hP hL
 go_enter Try.func67, Try.ntmps67
 go_wp2_with (go_at_call 64; refine (HE.out _ (by (with_reducible repeat first | apply Qa | assumption | apply Qb | apply Qc | apply Qd | apply Qe | refine Qf ?_ (by assumption) ?_); all_goals (try simp only [Sz]); first | done | omega | (try simp only [Sz] at *); omega) (by repeat (first | ((with_reducible refine Blk.new' ?_); exact (by (try simp only [Sz]); first | done | omega | (try simp only [Sz] at *); omega)) | (with_reducible refine Blk.drew ?_) | (with_reducible refine Blk.drewN ?_ _) | (with_reducible refine Blk.alloc ?_ _) | with_reducible assumption))).mono ?_; rintro e w1 ⟨v, rfl, hr, hb⟩)
 go_ret
 exact ⟨_, rfl, hr.mono (by simp), (by (with_reducible repeat first | apply Qa | assumption | apply Qb | apply Qc | apply Qd | apply Qe | refine Qf ?_ (by assumption) ?_); all_goals (try simp only [Sz]); first | done | omega | (try simp only [Sz] at *); omega)⟩)
theorem of4_says (K R : Option Addr) (x y : List Bool) (c d g h : Nat) (w : World) (hG : Blk w g 48 #[.slice K x.length c]) (hH : Blk w h 48 #[.slice R y.length d]) (hK : ValsAt w K (bools x)) (hR : ValsAt w R (bools y)) {k : Nat} (hk : k < x.length) (hk2 : k < y.length) :
 SaysAt Try.prog 69 #[.pointer (some ⟨g, 0, none⟩), .pointer (some ⟨h, 0, none⟩)] w k (yn x k && yn y k) := by (
 intro W hW
 obtain ⟨b, off, rfl, hb, hc⟩ := (hK.below hW).bool hk
 obtain ⟨b2, off2, rfl, hb2, hc2⟩ := (hR.below hW).bool hk2
 have hG' := hG.below hW hG.lt
 have hH' := hH.below hW hH.lt
 have g0 := hG'.cell 0
 have h0 := hH'.cell 0
 have lg := hG'.lt
 have lh := hH'.lt
 simp only [List.getElem?_toArray, List.getElem?_cons_zero] at g0 h0
 have u0 : (0 : Int) ≤ (k : Int) := by omega
 have u1 : (k : Int) < (x.length : Int) := by omega
 have u2 : (k : Int) < (y.length : Int) := by omega
 clear hG hG' hH hH' hK hR hW
 show Calls Try.prog 69 #[.int .i64 k, .pointer (some ⟨g, 0, none⟩), .pointer (some ⟨h, 0, none⟩)] W _
 cases h1 : yn x k
 · (
 rw [h1] at hc
 go_enter Try.func69, Try.ntmps69
 go_wp2
 go_ret
 exact ⟨rfl, Below.refl _ _⟩)
 · (
 rw [h1] at hc
 go_enter Try.func69, Try.ntmps69
 go_wp2
 go_ret
 exact ⟨rfl, Below.refl _ _⟩))
def EdgeTab (w : World) (t : TypeId) (g GA n : Nat) (E : Nat → List Int) : Prop :=
 Blk w g t #[.slice (some ⟨GA, 0, none⟩) n n] ∧ GA < w.heap.size ∧ ∀ k, k < n → ∃ (R : Option Addr) (es : List Int) (c : Nat), w.cell? ⟨GA, k, none⟩ = some (.slice R es.length c) ∧ ValsAt w R (ints es) ∧ es.length ≤ 65536 ∧ ∀ m, m ∈ es ↔ m ∈ E k
theorem EdgeTab.below {w w' : World} {t : TypeId} {g GA n : Nat} {E : Nat → List Int} (h : EdgeTab w t g GA n E) (hb : Below w.heap.size w w') : EdgeTab w' t g GA n E := by (
 obtain ⟨h1, h2, h3⟩ := h
 refine ⟨h1.below hb h1.lt, Nat.lt_of_lt_of_le h2 hb.size, fun k hk => ?_⟩
 obtain ⟨R, es, c, c1, c2, c3⟩ := h3 k hk
 exact ⟨R, es, c, ((bcell hb).1 _ _ h2).trans c1, c2.below hb, c3⟩)
theorem any_same {es es' : List Int} {p : Int → Bool} (h : ∀ m, m ∈ es ↔ m ∈ es') : es.any p = es'.any p := by (
 rw [Bool.eq_iff_iff, List.any_eq_true, List.any_eq_true]
 simp only [h])
theorem len0_same {es es' : List Int} (h : ∀ m, m ∈ es ↔ m ∈ es') : (es.length == 0) = (es'.length == 0) := by (
 rw [Bool.eq_iff_iff]
 simp only [beq_iff_eq, List.length_eq_zero_iff, List.eq_nil_iff_forall_not_mem, h])
theorem of51_says (K D U : Option Addr) (x d u : List Bool) (kc dc uc g f : Nat) (cs : Array Value) (w : World) (hG : Blk w g 48 #[.slice K x.length kc]) (hF : Blk w f 82 cs) (f0 : cs[0]? = some (.slice D d.length dc)) (f1 : cs[1]? = some (.slice U u.length uc))
 (hK : ValsAt w K (bools x)) (hD : ValsAt w D (bools d)) (hU : ValsAt w U (bools u)) {m : Nat} (h1 : m < x.length) (h2 : m < d.length) (h3 : m < u.length) :
 SaysAt Try.prog 72 #[.pointer (some ⟨g, 0, none⟩), .pointer (some ⟨f, 0, none⟩)] w m (!yn x m || !yn d m && !yn u m) := by (
 intro W hW
 obtain ⟨b, off, rfl, hb, hc⟩ := (hK.below hW).bool h1
 obtain ⟨b2, off2, rfl, hb2, hc2⟩ := (hD.below hW).bool h2
 obtain ⟨b3, off3, rfl, hb3, hc3⟩ := (hU.below hW).bool h3
 have hG' := hG.below hW hG.lt
 have hF' := hF.below hW hF.lt
 have g0 := hG'.cell 0
 have q0 := (hF'.cell 0).trans f0
 have q1 := (hF'.cell 1).trans f1
 have lg := hG'.lt
 have lf := hF'.lt
 simp only [List.getElem?_toArray, List.getElem?_cons_zero] at g0
 have u0 : (0 : Int) ≤ (m : Int) := by omega
 have u1 : (m : Int) < (x.length : Int) := by omega
 have u2 : (m : Int) < (d.length : Int) := by omega
 have u3 : (m : Int) < (u.length : Int) := by omega
 clear hG hG' hF hF' hK hD hU hW f0 f1
 show Calls Try.prog 72 #[.int .i64 m, .pointer (some ⟨g, 0, none⟩), .pointer (some ⟨f, 0, none⟩)] W _
 cases e1 : yn x m
 · (
 rw [e1] at hc
 go_enter Try.func72, Try.ntmps72
 go_wp2
 go_ret
 exact ⟨rfl, Below.refl _ _⟩)
 · (
 rw [e1] at hc
 cases e2 : yn d m
 · (
 rw [e2] at hc2
 go_enter Try.func72, Try.ntmps72
 go_wp2
 go_ret
 exact ⟨rfl, Below.refl _ _⟩)
 · (
 rw [e2] at hc2
 go_enter Try.func72, Try.ntmps72
 go_wp2
 go_ret
 exact ⟨rfl, Below.refl _ _⟩)))
theorem of61_says (D : Option Addr) (d : List Bool) (dc f : Nat) (cs : Array Value) (w : World) (hF : Blk w f 82 cs) (f3 : cs[3]? = some (.slice D d.length dc)) (hD : ValsAt w D (bools d)) {m : Nat} (h2 : m < d.length) :
 SaysAt Try.prog 74 #[.pointer (some ⟨f, 0, none⟩)] w m (!yn d m) := by (
 intro W hW
 obtain ⟨b2, off2, rfl, hb2, hc2⟩ := (hD.below hW).bool h2
 have hF' := hF.below hW hF.lt
 have q0 := (hF'.cell 3).trans f3
 have lf := hF'.lt
 have u0 : (0 : Int) ≤ (m : Int) := by omega
 have u2 : (m : Int) < (d.length : Int) := by omega
 clear hF hF' hD hW f3
 show Calls Try.prog 74 #[.int .i64 m, .pointer (some ⟨f, 0, none⟩)] W _
 go_enter Try.func74, Try.ntmps74
 go_wp2
 go_ret
 exact ⟨rfl, Below.refl _ _⟩)
theorem enter51 (W : World) (args : Array Value) : (callFunc 72 args).run Try.prog W = .ok (.enter 72 args) W := by kernel_rfl
theorem enter61 (W : World) (args : Array Value) : (callFunc 74 args).run Try.prog W = .ok (.enter 74 args) W := by kernel_rfl
theorem of5_says (K D U : Option Addr) (x d u : List Bool) (kc dc uc g f a GA n : Nat) (E : Nat → List Int) (cs : Array Value) (w : World) (hG : Blk w g 48 #[.slice K x.length kc]) (hF : Blk w f 82 cs) (f0 : cs[0]? = some (.slice D d.length dc)) (f1 : cs[1]? = some (.slice U u.length uc))
 (hA : EdgeTab w 111 a GA n E) (hK : ValsAt w K (bools x)) (hD : ValsAt w D (bools d)) (hU : ValsAt w U (bools u)) (h1 : x.length = n) (h2 : d.length = n) (h3 : u.length = n) (hE : ∀ k m, m ∈ E k → 0 ≤ m ∧ m < (n : Int)) {k : Nat} (hk : k < n) :
 SaysAt Try.prog 70 #[.pointer (some ⟨f, 0, none⟩), .pointer (some ⟨a, 0, none⟩), .pointer (some ⟨g, 0, none⟩)] w k (yn d k && ((E k).length == 0 || (E k).any fun m => !yn x m.toNat || !yn d m.toNat && !yn u m.toNat)) := by (
 intro W hW
 obtain ⟨hB, hGA, hT⟩ := hA.below hW
 obtain ⟨R, es, c, hc, hR, hes, hsame⟩ := hT k hk
 have HD := hide (hD.below hW)
 obtain ⟨b2, off2, eD, hb2, hc2⟩ := HD.out.bool (k := k) (by omega)
 subst eD
 have hG' := hG.below hW hG.lt
 have hF' := hF.below hW hF.lt
 have q0 := (hF'.cell 0).trans f0
 have a0 := hB.cell 0
 have lf := hF'.lt
 have la := hB.lt
 simp only [List.getElem?_toArray, List.getElem?_cons_zero] at a0
 have u0 : (0 : Int) ≤ (k : Int) := by omega
 have u1 : (k : Int) < (n : Int) := by omega
 have u2 : (k : Int) < (d.length : Int) := by omega
 rw [← any_same hsame, ← len0_same hsame]
 have hS := some_any 72 #[.pointer (some ⟨g, 0, none⟩), .pointer (some ⟨f, 0, none⟩)] (fun m => !yn x m.toNat || !yn d m.toNat && !yn u m.toNat) R es c W (by unfold maxLen; omega) hR enter51 (fun m hm => by
  obtain ⟨m0, m1⟩ := hE k m ((hsame m).1 hm)
  obtain ⟨q, rfl⟩ := Int.eq_ofNat_of_zero_le m0
  exact of51_says K _ U x d u kc dc uc g f cs W hG' hF' f0 f1 (hK.below hW) HD.out (hU.below hW) (by omega) (by omega) (by omega))
 have HS := hide hS
 generalize (es.any fun m => !yn x m.toNat || !yn d m.toNat && !yn u m.toNat) = q at *
 clear hG hG' hF hF' hK hU hW f0 f1 hT hA hsame hB hS hD HD hE hR
 show Calls Try.prog 70 #[.int .i64 k, .pointer (some ⟨f, 0, none⟩), .pointer (some ⟨a, 0, none⟩), .pointer (some ⟨g, 0, none⟩)] W _
 cases e2 : yn d k
 · (
 rw [e2] at hc2
 go_enter Try.func70, Try.ntmps70
 go_wp2_with fail
 go_ret
 exact ⟨rfl, Below.refl _ _⟩)
 · (
 rw [e2] at hc2
 cases e3 : ((es.length : Int) == 0)
 · (
 have e4 : (es.length == 0) = false := by simp at e3 ⊢; exact e3
 rw [e4]
 go_enter Try.func70, Try.ntmps70
 go_wp2_with (go_at_call 71; refine (HS.out).mono ?_; rintro e w1 ⟨rfl, hb1⟩)
 go_ret
 exact ⟨by simp, hb1⟩)
 · (
 have e4 : (es.length == 0) = true := by simp at e3 ⊢; exact e3
 rw [e4]
 go_enter Try.func70, Try.ntmps70
 go_wp2_with fail
 go_ret
 exact ⟨rfl, Below.refl _ _⟩)))
theorem of6_says (D R0 : Option Addr) (d y : List Bool) (dc yc h f a GA n : Nat) (E : Nat → List Int) (cs : Array Value) (w : World) (hH : Blk w h 48 #[.slice R0 y.length yc]) (hF : Blk w f 82 cs) (f3 : cs[3]? = some (.slice D d.length dc))
 (hA : EdgeTab w 111 a GA n E) (hY : ValsAt w R0 (bools y)) (hD : ValsAt w D (bools d)) (h1 : y.length = n) (h2 : d.length = n) (hE : ∀ k m, m ∈ E k → 0 ≤ m ∧ m < (n : Int)) {k : Nat} (hk : k < n) :
 SaysAt Try.prog 73 #[.pointer (some ⟨f, 0, none⟩), .pointer (some ⟨h, 0, none⟩), .pointer (some ⟨a, 0, none⟩)] w k (yn d k && (yn y k || (E k).any fun m => !yn d m.toNat)) := by (
 intro W hW
 obtain ⟨hB, hGA, hT⟩ := hA.below hW
 obtain ⟨R, es, c, hc, hR, hes, hsame⟩ := hT k hk
 have HD := hide (hD.below hW)
 obtain ⟨b2, off2, eD, hb2, hc2⟩ := HD.out.bool (k := k) (by omega)
 subst eD
 obtain ⟨b3, off3, rfl, hb3, hc3⟩ := (hY.below hW).bool (k := k) (by omega)
 have hH' := hH.below hW hH.lt
 have hF' := hF.below hW hF.lt
 have q0 := (hF'.cell 3).trans f3
 have a0 := hB.cell 0
 have h0 := hH'.cell 0
 have lf := hF'.lt
 have la := hB.lt
 have lh := hH'.lt
 simp only [List.getElem?_toArray, List.getElem?_cons_zero] at a0 h0
 have u0 : (0 : Int) ≤ (k : Int) := by omega
 have u1 : (k : Int) < (n : Int) := by omega
 have u2 : (k : Int) < (d.length : Int) := by omega
 have u3 : (k : Int) < (y.length : Int) := by omega
 rw [← any_same hsame]
 have hS := some_any 74 #[.pointer (some ⟨f, 0, none⟩)] (fun m => !yn d m.toNat) R es c W (by unfold maxLen; omega) hR enter61 (fun m hm => by
  obtain ⟨m0, m1⟩ := hE k m ((hsame m).1 hm)
  obtain ⟨q, rfl⟩ := Int.eq_ofNat_of_zero_le m0
  exact of61_says _ d dc f cs W hF' f3 HD.out (by omega))
 have HS := hide hS
 generalize (es.any fun m => !yn d m.toNat) = q at *
 clear hF hF' hH hH' hW f3 hT hA hsame hB hS hD HD hE hR hY
 show Calls Try.prog 73 #[.int .i64 k, .pointer (some ⟨f, 0, none⟩), .pointer (some ⟨h, 0, none⟩), .pointer (some ⟨a, 0, none⟩)] W _
 cases e2 : yn d k
 · (
 rw [e2] at hc2
 go_enter Try.func73, Try.ntmps73
 go_wp2_with fail
 go_ret
 exact ⟨rfl, Below.refl _ _⟩)
 · (
 rw [e2] at hc2
 cases e3 : yn y k
 · (
 rw [e3] at hc3
 go_enter Try.func73, Try.ntmps73
 go_wp2_with (go_at_call 71; refine (HS.out).mono ?_; rintro e w1 ⟨rfl, hb1⟩)
 go_ret
 exact ⟨by simp, hb1⟩)
 · (
 rw [e3] at hc3
 go_enter Try.func73, Try.ntmps73
 go_wp2_with fail
 go_ret
 exact ⟨rfl, Below.refl _ _⟩)))
end
section
open Go.RowKit
set_option maxHeartbeats 2000000
theorem ext_get {α : Type} {x y : List α} (hl : x.length = y.length) (h : ∀ (i : Nat), i < x.length → x[i]? = y[i]?) : x = y := by (
 apply List.ext_getElem?
 intro i
 by_cases hi : i < x.length
 · exact h i hi
 · rw [List.getElem?_eq_none (by omega), List.getElem?_eq_none (by omega)])
theorem ValsAt.int {w : World} {A : Option Addr} {l : List Int} (h : ValsAt w A (ints l)) {k : Nat} (hk : k < l.length) :
 ∃ b off z, A = some ⟨b, off, none⟩ ∧ b < w.heap.size ∧ l[k]? = some z ∧ w.cell? ⟨b, off + k, none⟩ = some (.int .i64 z) := by (
 obtain ⟨b, off, v, e, hb, hv, hc⟩ := h.get (k := k) (by rw [ints_length]; exact hk)
 rw [ints_get, List.getElem?_eq_getElem hk] at hv
 simp at hv
 subst hv
 exact ⟨b, off, l[k], e, hb, List.getElem?_eq_getElem hk, hc⟩)
theorem SameInts_any (X Y : Option Addr) (xc yc : Nat) (x y : List Int) (w : World) (hX : ValsAt w X (ints x)) (hY : ValsAt w Y (ints y)) (hx : x.length ≤ maxLen) (hy : y.length ≤ maxLen) :
 Calls Try.prog 35 #[.slice X x.length xc, .slice Y y.length yc] w fun e w' => e = .returned (.bool (x == y)) ∧ ∃ d, w' = w.drewN d := by (
 unfold maxLen at hx hy
 by_cases hl : x.length = y.length
 · (
 have Hl := hide hl
 have h1 : ((x.length : Int) != (y.length : Int)) = false := by simp [hl]
 clear hl
 go_enter Try.func35, Try.ntmps35
 go_wp2_with fail
 go_loopg [5] (x.length) (fun gk i wr => ∃ k : Nat, k ≤ x.length ∧ i = .int .i64 k ∧ gk = x.length - k ∧ (∀ j, j < k → x[j]? = y[j]?) ∧ ∃ d, wr = w.drewN d)
 case atStart => exact ⟨0, Nat.zero_le _, rfl, by omega, fun j hj => by omega, 0, rfl⟩
 case round => (
 obtain ⟨k, hk, rfl, hgk, hno, d, rfl⟩ := hrel
 have Hgk := hide hgk
 have Hno := hide hno
 clear hgk hno
 by_cases hlt : k < x.length
 · (
 have hlt2 : k < y.length := by rw [← Hl.out]; exact hlt
 obtain ⟨xb, xo, u, rfl, hxb, hu, cx⟩ := hX.int hlt
 obtain ⟨yb, yo, v, rfl, hyb, hv, cy⟩ := hY.int hlt2
 have Hu := hide hu
 have Hv := hide hv
 have k0 : (0 : Int) ≤ (k : Int) := by omega
 have k1 : (k : Int) < (x.length : Int) := by omega
 have k2 : (k : Int) < (y.length : Int) := by omega
 clear hX hY hu hv
 cases hq : (u != v)
 case true => (
 have hf : (x == y) = false := by (
 rw [beq_eq_false_iff_ne]
 rintro rfl
 have := Hu.out.symm.trans Hv.out
 injection this with this
 subst this
 simp at hq)
 have Hf := hide hf
 clear hf
 go_wp2_with fail
 go_quiet (fail)
 go_wp2_with fail
 go_ret
 exact ⟨by rw [Hf.out]; rfl, d + nq, by simp⟩)
 case false => (
 have Hq := hide hq
 go_wp2_with fail
 go_quiet (fail)
 go_wp2_with fail
 go_roundg (x.length - (k + 1))
 case measure => have := Hgk.out; omega
 case rel => (
 refine ⟨k + 1, by omega, by go_num, rfl, fun j hj => ?_, d + nq, by simp⟩
 by_cases hjk : j = k
 · (
 subst hjk
 rw [Hu.out, Hv.out]
 have := Hq.out
 simp at this
 rw [this])
 · exact Hno.out j (by omega))))
 · (
 have hf : (x == y) = true := by (
 rw [beq_iff_eq]
 exact ext_get Hl.out fun i hi => Hno.out i (by omega))
 have Hf := hide hf
 clear hf
 go_wp2_with fail
 go_ret
 exact ⟨by rw [Hf.out]; rfl, _, rfl⟩)))
 · (
 have hf : (x == y) = false := by (
 rw [beq_eq_false_iff_ne]
 intro e
 exact hl (by rw [e]))
 rw [hf]
 have h1 : ((x.length : Int) != (y.length : Int)) = true := by simp; omega
 clear hf hl
 go_enter Try.func35, Try.ntmps35
 go_wp2_with fail
 go_ret
 exact ⟨rfl, 0, rfl⟩))
theorem infoNode : (Try.prog.info? 60).map (fun i => (i.zero, i.size, i.bytes)) = some (some (.agg #[.int .i64 0, .int .i64 0, .int .i64 0, .int .i64 0, .int .i64 0, .int .i64 0]), 6, 48) := by kernel_rfl
def NRowPost (B : Nat) (t : TypeId) (l : List Nd) (w : World) (e : Ending) (w' : World) : Prop := ∃ v, e = .returned v ∧ NRow w' B t v l ∧ Below w.heap.size w w'
theorem Clone_any (A : Option Addr) (l : List Nd) (cap : Nat) (w : World) (hA : NodesAt w A l) (hl : 1 ≤ l.length) (hl2 : l.length ≤ 65536) :
 Calls Try.prog 28 #[.slice A l.length cap] w (NRowPost w.heap.size 60 l w) := by (
 obtain ⟨i3, h3i, h3z, h3s, h3b⟩ := info_parts infoNode
 obtain ⟨b, off, n0, rfl, hb, hn0, hlie⟩ := hA.get (k := 0) (by omega)
 have HN := hide hn0
 clear hn0 hlie
 have hne := fun W => Lib.run_eql_slice_nil (P := Try.prog) W
 go_enter Try.func28, Try.ntmps28
 go_wp2_with (at_builtin; refine wpList_append_nodes (v := .slice (some ⟨w.heap.size, 0, none⟩) 0 0) (l := []) (base := w.heap.size) rfl _ _ _ rfl i3 _ 48 Try.underlying22 h3i h3z h3s h3b rfl rfl (NRow.empty rfl (Nat.le_refl _)) (some ⟨b, off, none⟩) l.length cap l rfl rfl (hA.below (by (with_reducible repeat first | apply Qa | assumption | apply Qb | apply Qc | apply Qd | apply Qe | refine Qf ?_ (by assumption) ?_); all_goals (try simp only [Sz]); first | done | omega | (try simp only [Sz] at *); omega)) (by simp [maxLen]; omega) (by simp; omega) (by simp) ?_; intro v2 w2 hr2 hg2 hat2)
 go_ret
 exact ⟨_, rfl, by simpa using hr2, ((Below.refl _ _).alloc (Nat.le_refl _) _).grown hg2 (by simp) (by simp [Value.ownBlock])⟩)
def Nd.val (n : Nd) : Value := .agg #[.int .i64 n.op, .int .i64 n.d, .int .i64 n.a, .int .i64 n.b, .int .i64 n.t, .int .i64 n.e]
theorem run_eq_node (x y : Nd) (w : World) : (Op.equalIn 10000 60 x.val y.val).run Try.prog w = .ok (x == y) w := by (
 have u3 := Try.underlying3
 have a3 : ∀ w, (isAgg 3).run Try.prog w = .ok false w := fun w => by kernel_rfl
 have z3 : ∀ w, (sizeOf 3).run Try.prog w = .ok 1 w := fun w => by kernel_rfl
 have hS : Try.prog.underlying 60 = some (.struct (Try.prog.fieldsOf 60)) := by kernel_rfl
 have hp : Try.prog.stoodInHeld 60 = false := by kernel_rfl
 obtain ⟨x0, x1, x2, x3, x4, x5⟩ := x
 obtain ⟨y0, y1, y2, y3, y4, y5⟩ := y
 simp only [Nd.val]
 rw [show (10000 : Nat) = 9999 + 1 from rfl, run_equalIn_agg w 9999 60 _ _ hS hp]
 simp only [Program.fieldsOf, Try.underlying60]
 go_simp
 have hb : ((⟨x0, x1, x2, x3, x4, x5⟩ : Nd) == ⟨y0, y1, y2, y3, y4, y5⟩) = (x0 == y0 && (x1 == y1 && (x2 == y2 && (x3 == y3 && (x4 == y4 && x5 == y5))))) := by (
 rw [Bool.eq_iff_iff]
 simp)
 rw [hb]
 by_cases h0 : x0 = y0 <;> by_cases h1 : x1 = y1 <;> by_cases h2 : x2 = y2 <;> by_cases h3 : x3 = y3 <;> by_cases h4 : x4 = y4 <;> by_cases h5 : x5 = y5 <;> simp [h0, h1, h2, h3, h4, h5])
theorem guardNode : Try.prog.eqGuardType Try.prog.depth 60 = false := by kernel_rfl
theorem SameProgs_any (r1 r2 : Int) (A B : Option Addr) (l m : List Nd) (ac bc : Nat) (w : World) (hA : NodesAt w A l) (hB : NodesAt w B m) (hl : l.length ≤ maxLen) (hm : m.length ≤ maxLen) :
 Calls Try.prog 15 #[.agg #[.int .i64 r1, .slice A l.length ac], .agg #[.int .i64 r2, .slice B m.length bc]] w fun e w' => e = .returned (.bool (r1 == r2 && l == m)) ∧ Below w.heap.size w w' := by (
 unfold maxLen at hl hm
 by_cases hr : r1 = r2
 · (
 have h0 : (r1 != r2) = false := by simp [hr]
 by_cases hll : l.length = m.length
 · (
 have Hl := hide hll
 have Hr := hide hr
 have h1 : ((l.length : Int) != (m.length : Int)) = false := by simp [hll]
 clear hll hr
 go_enter Try.func15, Try.ntmps15
 go_wp2_with fail
 go_loopg [5] (l.length) (fun gk i wr => ∃ k : Nat, k ≤ l.length ∧ i = .int .i64 k ∧ gk = l.length - k ∧ (∀ j, j < k → l[j]? = m[j]?) ∧ Blk wr w.heap.size 24 #[.int .i64 r1, .slice A l.length ac] ∧ Blk wr (w.heap.size + 1) 24 #[.int .i64 r2, .slice B m.length bc] ∧ Below w.heap.size w wr)
 case atStart => exact ⟨0, Nat.zero_le _, rfl, by omega, fun j hj => by omega, (by repeat (first | ((with_reducible refine Blk.new' ?_); exact (by (try simp only [Sz]); first | done | omega | (try simp only [Sz] at *); omega)) | (with_reducible refine Blk.drew ?_) | (with_reducible refine Blk.drewN ?_ _) | (with_reducible refine Blk.alloc ?_ _) | with_reducible assumption)), (by repeat (first | ((with_reducible refine Blk.new' ?_); exact (by (try simp only [Sz]); first | done | omega | (try simp only [Sz] at *); omega)) | (with_reducible refine Blk.drew ?_) | (with_reducible refine Blk.drewN ?_ _) | (with_reducible refine Blk.alloc ?_ _) | with_reducible assumption)), (by (with_reducible repeat first | apply Qa | assumption | apply Qb | apply Qc | apply Qd | apply Qe | refine Qf ?_ (by assumption) ?_); all_goals (try simp only [Sz]); first | done | omega | (try simp only [Sz] at *); omega)⟩
 case round => (
 obtain ⟨k, hk, rfl, hgk, hno, hP, hQ, hBl⟩ := hrel
 have Hgk := hide hgk
 have Hno := hide hno
 clear hgk hno
 have hz := hBl.size
 have p0 := hP.cell 0
 have p1 := hP.cell 1
 have q0 := hQ.cell 0
 have q1 := hQ.cell 1
 simp only [Yl] at p0 p1 q0 q1
 by_cases hlt : k < l.length
 · (
 have hlt2 : k < m.length := by rw [← Hl.out]; exact hlt
 obtain ⟨ab, ao, x, rfl, hab, hx, hxl⟩ := (hA.below hBl).get hlt
 obtain ⟨bb, bo, y, rfl, hbb, hy, hyl⟩ := (hB.below hBl).get hlt2
 have Hx := hide hx
 have Hy := hide hy
 have k0 : (0 : Int) ≤ (k : Int) := by omega
 have k1 : (k : Int) < (l.length : Int) := by omega
 have k2 : (k : Int) < (m.length : Int) := by omega
 obtain ⟨c0, c1, c2, c3, c4, c5⟩ := hxl
 obtain ⟨d0, d1, d2, d3, d4, d5⟩ := hyl
 have HP := hide hP
 have HQ := hide hQ
 have hgd := guardNode
 have hEq := fun W => run_eq_node x y W
 unfold Nd.val at hEq
 cases hq : (x == y)
 case false => (
 rw [hq] at hEq
 have Hq := hq
 have hf : (l == m) = false := by (
 rw [beq_eq_false_iff_ne]
 rintro rfl
 have := Hx.out.symm.trans Hy.out
 injection this with this
 subst this
 simp at Hq)
 have HQ1 := hide hq
 have HP' := hide hP
 have HQ' := hide hQ
 have Hf := hide hf
 clear hA hB hx hy hP hQ hq Hq hf
 go_wp2_with fail
 go_quiet (fail)
 go_wp2_with fail
 go_ret
 exact ⟨by rw [Hf.out]; simp, (by (with_reducible repeat first | apply Qa | assumption | apply Qb | apply Qc | apply Qd | apply Qe | refine Qf ?_ (by assumption) ?_); all_goals (try simp only [Sz]); first | done | omega | (try simp only [Sz] at *); omega)⟩)
 case true => (
 rw [hq] at hEq
 clear hA hB hx hy hP hQ
 have Hq := hide hq
 clear hq
 go_wp2_with fail
 go_quiet (fail)
 go_wp2_with fail
 go_roundg (l.length - (k + 1))
 case measure => have := Hgk.out; omega
 case rel => (
 refine ⟨k + 1, by omega, by go_num, rfl, fun j hj => ?_, HP.out.drewN _, HQ.out.drewN _, (by (with_reducible repeat first | apply Qa | assumption | apply Qb | apply Qc | apply Qd | apply Qe | refine Qf ?_ (by assumption) ?_); all_goals (try simp only [Sz]); first | done | omega | (try simp only [Sz] at *); omega)⟩
 by_cases hjk : j = k
 · (
 subst hjk
 rw [Hx.out, Hy.out]
 have := Hq.out
 rw [beq_iff_eq] at this
 rw [this])
 · exact Hno.out j (by omega))))
 · (
 have hf : (l == m) = true := by (
 rw [beq_iff_eq]
 exact ext_get Hl.out fun i hi => Hno.out i (by omega))
 have hf2 : (r1 == r2) = true := by rw [beq_iff_eq]; exact Hr.out
 have Hf := hide hf
 have Hf2 := hide hf2
 clear hf hf2 hP hQ hA hB
 go_wp2_with fail
 go_ret
 exact ⟨by rw [Hf.out, Hf2.out]; rfl, hBl⟩)))
 · (
 have hf : (l == m) = false := by (
 rw [beq_eq_false_iff_ne]
 intro e
 exact hll (by rw [e]))
 rw [hf]
 have h1 : ((l.length : Int) != (m.length : Int)) = true := by simp; omega
 clear hf hll hr
 go_enter Try.func15, Try.ntmps15
 go_wp2_with fail
 go_ret
 exact ⟨by simp, (by (with_reducible repeat first | apply Qa | assumption | apply Qb | apply Qc | apply Qd | apply Qe | refine Qf ?_ (by assumption) ?_); all_goals (try simp only [Sz]); first | done | omega | (try simp only [Sz] at *); omega)⟩))
 · (
 have h0 : (r1 != r2) = true := by simp [hr]
 have hf : (r1 == r2) = false := by simp [hr]
 rw [hf]
 clear hf hr
 go_enter Try.func15, Try.ntmps15
 go_wp2_with fail
 go_ret
 exact ⟨by simp, (by (with_reducible repeat first | apply Qa | assumption | apply Qb | apply Qc | apply Qd | apply Qe | refine Qf ?_ (by assumption) ?_); all_goals (try simp only [Sz]); first | done | omega | (try simp only [Sz] at *); omega)⟩))
end
section
open Go.RowKit
set_option maxHeartbeats 4000000
attribute [local irreducible] Row madeCells
def rkB (t : Tm) (n : Nd) : Bool := n == ⟨t.op, n.d, t.a, t.b, n.t, 0⟩
theorem rkB_eq {regs : Int} {l : List Nd} (hR : Right regs l) {n : Nd} (hn : n ∈ l) {t : Tm} (ht : 3 ≤ t.op ∧ t.op ≤ 8) : rkB t n = recB t n := by (
 have hf := hR.frm n hn
 obtain ⟨op, d, a, b, th, e⟩ := n
 rw [Bool.eq_iff_iff]
 simp only [rkB, recB, beq_iff_eq, Nd.mk.injEq, Bool.and_eq_true, true_and]
 constructor
 · (
 rintro ⟨h1, h2, h3, h4⟩
 exact ⟨⟨h1, h2⟩, h3⟩)
 · (
 rintro ⟨⟨h1, h2⟩, h3⟩
 refine ⟨h1, h2, h3, ?_⟩
 simp only [badF, Bool.or_eq_false_iff, Bool.not_eq_false'] at hf
 have h5 := hf.2
 have : hasE op = false := by simp [hasE]; omega
 simpa [okF, this] using h5))
set_option maxRecDepth 100000 in
theorem mvReckons_any (n : Nd) (t : Tm) (w : World) : Calls Try.prog 46 #[.agg #[.int .i64 n.op, .int .i64 n.d, .int .i64 n.a, .int .i64 n.b, .int .i64 n.t, .int .i64 n.e], .agg (tmA t)] w fun e w' => e = .returned (.bool (rkB t n)) ∧ Below w.heap.size w w' := by (
 have hEq := fun W => run_eq_node n ⟨t.op, n.d, t.a, t.b, n.t, 0⟩ W
 unfold Nd.val at hEq
 have hgd := guardNode
 unfold tmA rkB
 generalize (n == ⟨t.op, n.d, t.a, t.b, n.t, 0⟩) = q at *
 go_enter Try.func46, Try.ntmps46
 go_wp2_with fail
 go_ret
 exact ⟨rfl, (by (with_reducible repeat first | apply Qa | assumption | apply Qb | apply Qc | apply Qd | apply Qe | refine Qf ?_ (by assumption) ?_); all_goals (try simp only [Sz]); first | done | omega | (try simp only [Sz] at *); omega)⟩)
structure FxBox (tF : TypeId) (fb n : Nat) (A0 A1 A2 A3 A4 A5 : Option Addr) (c0 c1 c2 c3 c4 c5 : Nat) (F : Fx) (W : World) : Prop where
 box : Blk W fb tF #[.slice A0 n c0, .slice A1 n c1, .slice A2 n c2, .slice A3 n c3, .slice A4 n c4, .slice A5 n c5]
 down : ValsAt W A0 (bools F.down) ∧ F.down.length = n
 early : ValsAt W A2 (bools F.early) ∧ F.early.length = n
 late : ValsAt W A4 (bools F.late) ∧ F.late.length = n
 alone : ValsAt W A5 (bools F.alone) ∧ F.alone.length = n
theorem FxBox.later {tF : TypeId} {fb n : Nat} {A0 A1 A2 A3 A4 A5 : Option Addr} {c0 c1 c2 c3 c4 c5 : Nat} {F : Fx} {W W' : World} (h : FxBox tF fb n A0 A1 A2 A3 A4 A5 c0 c1 c2 c3 c4 c5 F W) (hb : Below W.heap.size W W') : FxBox tF fb n A0 A1 A2 A3 A4 A5 c0 c1 c2 c3 c4 c5 F W' :=
 ⟨h.box.below hb h.box.lt, ⟨h.down.1.below hb, h.down.2⟩, ⟨h.early.1.below hb, h.early.2⟩, ⟨h.late.1.below hb, h.late.2⟩, ⟨h.alone.1.below hb, h.alone.2⟩⟩
section
variable {fb n : Nat} {A0 A1 A2 A3 A4 A5 : Option Addr} {c0 c1 c2 c3 c4 c5 : Nat} {F : Fx} {w : World} {k : Nat}
set_option maxRecDepth 100000 in
theorem lazy1_says (h : FxBox 82 fb n A0 A1 A2 A3 A4 A5 c0 c1 c2 c3 c4 c5 F w) (hk : k < n) : SaysAt Try.prog 75 #[.pointer (some ⟨fb, 0, none⟩)] w k (yn F.late k && !yn F.alone k) := by (
 intro W hW
 have h := h.later hW
 obtain ⟨b4, o4, rfl, l4, e4⟩ := h.late.1.bool (k := k) (by rw [h.late.2]; exact hk)
 obtain ⟨b5, o5, rfl, l5, e5⟩ := h.alone.1.bool (k := k) (by rw [h.alone.2]; exact hk)
 have q4 := h.box.cell 4
 have q5 := h.box.cell 5
 have lq := h.box.lt
 simp only [Yl] at q4 q5
 have u0 : (0 : Int) ≤ (k : Int) := by omega
 have u1 : (k : Int) < (n : Int) := by omega
 clear h
 show Calls Try.prog 75 #[.int .i64 k, .pointer (some ⟨fb, 0, none⟩)] W _
 generalize yn F.late k = p at *
 generalize yn F.alone k = q at *
 cases p
 · (
 go_enter Try.func75, Try.ntmps75
 go_wp2_with fail
 go_ret
 exact ⟨rfl, Below.refl _ _⟩)
 · (
 go_enter Try.func75, Try.ntmps75
 go_wp2_with fail
 go_ret
 exact ⟨rfl, Below.refl _ _⟩))
set_option maxRecDepth 100000 in
theorem lazy2_says (h : FxBox 82 fb n A0 A1 A2 A3 A4 A5 c0 c1 c2 c3 c4 c5 F w) (hk : k < n) : SaysAt Try.prog 76 #[.pointer (some ⟨fb, 0, none⟩)] w k (!yn F.late k || !yn F.alone k) := by (
 intro W hW
 have h := h.later hW
 obtain ⟨b4, o4, rfl, l4, e4⟩ := h.late.1.bool (k := k) (by rw [h.late.2]; exact hk)
 obtain ⟨b5, o5, rfl, l5, e5⟩ := h.alone.1.bool (k := k) (by rw [h.alone.2]; exact hk)
 have q4 := h.box.cell 4
 have q5 := h.box.cell 5
 have lq := h.box.lt
 simp only [Yl] at q4 q5
 have u0 : (0 : Int) ≤ (k : Int) := by omega
 have u1 : (k : Int) < (n : Int) := by omega
 clear h
 show Calls Try.prog 76 #[.int .i64 k, .pointer (some ⟨fb, 0, none⟩)] W _
 generalize yn F.late k = p at *
 generalize yn F.alone k = q at *
 cases p
 · (
 go_enter Try.func76, Try.ntmps76
 go_wp2_with fail
 go_ret
 exact ⟨rfl, Below.refl _ _⟩)
 · (
 go_enter Try.func76, Try.ntmps76
 go_wp2_with fail
 go_ret
 exact ⟨rfl, Below.refl _ _⟩))
set_option maxRecDepth 100000 in
theorem busy1_says (h : FxBox 82 fb n A0 A1 A2 A3 A4 A5 c0 c1 c2 c3 c4 c5 F w) (hk : k < n) : SaysAt Try.prog 44 #[.pointer (some ⟨fb, 0, none⟩)] w k (yn F.early k) := by (
 intro W hW
 have h := h.later hW
 obtain ⟨b2, o2, rfl, l2, e2⟩ := h.early.1.bool (k := k) (by rw [h.early.2]; exact hk)
 have q2 := h.box.cell 2
 have lq := h.box.lt
 simp only [Yl] at q2
 have u0 : (0 : Int) ≤ (k : Int) := by omega
 have u1 : (k : Int) < (n : Int) := by omega
 clear h
 show Calls Try.prog 44 #[.int .i64 k, .pointer (some ⟨fb, 0, none⟩)] W _
 generalize yn F.early k = p at *
 go_enter Try.func44, Try.ntmps44
 go_wp2_with fail
 go_ret
 exact ⟨rfl, Below.refl _ _⟩)
set_option maxRecDepth 100000 in
theorem busy2_says : SaysAt Try.prog 45 #[] w k true := by (
 intro W hW
 show Calls Try.prog 45 #[.int .i64 k] W _
 go_enter Try.func45, Try.ntmps45
 go_wp2_with fail
 go_ret
 exact ⟨rfl, Below.refl _ _⟩)
end
end
section
open Go.RowKit
abbrev nil6 : Array Value := #[.slice none 0 0, .slice none 0 0, .slice none 0 0, .slice none 0 0, .slice none 0 0, .slice none 0 0]
abbrev Box := Nat × TypeId × Array Value
structure FTab (tS tI : TypeId) (B : Nat) (w : World) (GA GB n : Nat) (ks : List Box) (wr : World) (vs : Nat → Value) (ys : Nat → List Value) : Prop where
 ra : Row wr B tS (.slice (some ⟨GA, 0, none⟩) n n) ((List.range n).map vs)
 rb : Row wr B tS (.slice (some ⟨GB, 0, none⟩) n n) ((List.range n).map fun i => vs (n + i))
 tab : Tab wr B tI (2 * n) vs ys
 kept : ∀ q ∈ ks, Blk wr q.1 q.2.1 q.2.2 ∧ q.2.1 ≠ tI ∧ q.2.1 ≠ tS
 ne : GA ≠ GB
 below : Below B w wr
 sz : B ≤ wr.heap.size
section
variable {tS tI : TypeId} {B : Nat} {w : World} {GA GB n : Nat} {ks : List Box} {wr wr1 w2 : World} {vs : Nat → Value} {ys : Nat → List Value} {v1 : Value} {zs : List Value}
theorem FTab.blk (h : FTab tS tI B w GA GB n ks wr vs ys) {g : Nat} {t : TypeId} {cs : Array Value} (hq : (g, t, cs) ∈ ks) : Blk wr g t cs := (h.kept _ hq).1
theorem FTab.later (h : FTab tS tI B w GA GB n ks wr vs ys) (hb : Below wr.heap.size wr wr1) : FTab tS tI B w GA GB n ks wr1 vs ys :=
 ⟨h.ra.below' hb, h.rb.below' hb, h.tab.below hb, fun q hq => ⟨(h.kept q hq).1.below hb (h.kept q hq).1.lt, (h.kept q hq).2⟩, h.ne, h.below.trans (hb.mono h.sz), Nat.le_trans h.sz hb.size⟩
theorem FTab.cons (h : FTab tS tI B w GA GB n ks wr vs ys) {g : Nat} {t : TypeId} {cs : Array Value} (hb : Blk wr g t cs) (n1 : t ≠ tI) (n2 : t ≠ tS) : FTab tS tI B w GA GB n ((g, t, cs) :: ks) wr vs ys :=
 ⟨h.ra, h.rb, h.tab, fun q hq => by
  rcases List.mem_cons.1 hq with rfl | hq
  · exact ⟨hb, n1, n2⟩
  · exact h.kept q hq, h.ne, h.below, h.sz⟩
theorem FTab.tail {q : Box} (h : FTab tS tI B w GA GB n (q :: ks) wr vs ys) : FTab tS tI B w GA GB n ks wr vs ys :=
 ⟨h.ra, h.rb, h.tab, fun q hq => h.kept q (List.mem_cons_of_mem _ hq), h.ne, h.below, h.sz⟩
theorem FTab.grow (h : FTab tS tI B w GA GB n ks wr vs ys) (n2 : tI ≠ tS) {i : Nat} (hi : i < 2 * n) (hr : Row w2 B tI v1 zs) (hg : wr.grownBy w2 (vs i).ownBlock)
 (hat : v1.ownBlock = (vs i).ownBlock ∨ ∀ k, v1.ownBlock = some k → wr.heap.size ≤ k) :
 Row w2 B tS (.slice (some ⟨GA, 0, none⟩) n n) ((List.range n).map vs) ∧ Row w2 B tS (.slice (some ⟨GB, 0, none⟩) n n) ((List.range n).map fun i => vs (n + i)) ∧ Tab w2 B tI (2 * n) (upd vs i v1) (upd ys i zs) ∧
  (∀ q ∈ ks, Blk w2 q.1 q.2.1 q.2.2) ∧ Below B w w2 ∧ B ≤ w2.heap.size := by (
 have hri := h.tab.row hi
 obtain ⟨ca, hca⟩ := h.ra.blk
 obtain ⟨cb, hcb⟩ := h.rb.blk
 have a3 : (vs i).ownBlock ≠ some GA := hri.ne_blk hca n2
 have a4 : (vs i).ownBlock ≠ some GB := hri.ne_blk hcb n2
 exact ⟨h.ra.kept hg (.inr (by simp [Value.ownBlock]; exact fun e => a3 e.symm)), h.rb.kept hg (.inr (by simp [Value.ownBlock]; exact fun e => a4 e.symm)), h.tab.put hi hr hg hat,
  fun q hq => (h.kept q hq).1.grown hg (hri.ne_blk (h.kept q hq).1 (Ne.symm (h.kept q hq).2.1)), h.below.grown hg h.sz fun k hk => (hri.lt k hk).1, Nat.le_trans h.sz hg.size⟩)
theorem FTab.putA (h : FTab tS tI B w GA GB n ks wr vs ys) (n2 : tI ≠ tS) {i : Nat} (hi : i < n) (hr : Row w2 B tI v1 zs) (hg : wr.grownBy w2 (vs i).ownBlock)
 (hat : v1.ownBlock = (vs i).ownBlock ∨ ∀ k, v1.ownBlock = some k → wr.heap.size ≤ k) :
 FTab tS tI B w GA GB n ks (w2.setCell ⟨GA, i, none⟩ v1) (upd vs i v1) (upd ys i zs) := by (
 obtain ⟨ra', rb', tab', kept', below', sz'⟩ := h.grow n2 (by omega) hr hg hat
 obtain ⟨ca, hca⟩ := ra'.blk
 have hB := rowge h.ra
 refine ⟨?_, ?_, tab'.far (p := ⟨GA, i, none⟩) hca n2 _, fun q hq => ⟨(kept' q hq).far (Blk.ne_ (kept' q hq) hca (h.kept q hq).2.2) _, (h.kept q hq).2⟩, h.ne, below'.setCell hB _, by simpa using sz'⟩
 · (
 have := ra'.store i v1
 rw [Nat.zero_add] at this
 rwa [map_range_set _ _ hi] at this)
 · (
 have := rb'.far (p := ⟨GA, i, none⟩) (by simp [Value.ownBlock]; exact fun e => h.ne e.symm) v1
 rwa [show ((List.range n).map fun j => upd vs i v1 (n + j)) = (List.range n).map fun j => vs (n + j) from List.map_congr_left fun j hj => upd_other _ _ (by omega)]))
theorem FTab.putB (h : FTab tS tI B w GA GB n ks wr vs ys) (n2 : tI ≠ tS) {i : Nat} (hi : i < n) (hr : Row w2 B tI v1 zs) (hg : wr.grownBy w2 (vs (n + i)).ownBlock)
 (hat : v1.ownBlock = (vs (n + i)).ownBlock ∨ ∀ k, v1.ownBlock = some k → wr.heap.size ≤ k) :
 FTab tS tI B w GA GB n ks (w2.setCell ⟨GB, i, none⟩ v1) (upd vs (n + i) v1) (upd ys (n + i) zs) := by (
 obtain ⟨ra', rb', tab', kept', below', sz'⟩ := h.grow n2 (i := n + i) (by omega) hr hg hat
 obtain ⟨cb, hcb⟩ := rb'.blk
 have hB := rowge h.rb
 refine ⟨?_, ?_, tab'.far (p := ⟨GB, i, none⟩) hcb n2 _, fun q hq => ⟨(kept' q hq).far (Blk.ne_ (kept' q hq) hcb (h.kept q hq).2.2) _, (h.kept q hq).2⟩, h.ne, below'.setCell hB _, by simpa using sz'⟩
 · (
 have := ra'.far (p := ⟨GB, i, none⟩) (by simp [Value.ownBlock]; exact h.ne) v1
 rwa [show (List.range n).map (upd vs (n + i) v1) = (List.range n).map vs from List.map_congr_left fun j hj => upd_other _ _ (by have := List.mem_range.1 hj; omega)])
 · (
 have := rb'.store i v1
 rw [Nat.zero_add] at this
 rwa [map_range_set' _ _ hi] at this))
end
def nxL (l : List Nd) (k i : Nat) : List Int := if i < k then exitsL (nd l i) else []
def ahL (l : List Nd) (k m : Nat) : List Int := sel (aheadP l m) k
def ahJ (l : List Nd) (n : Nd) (k j m : Nat) : List Int := ahL l k m ++ (if (m : Int) ∈ (exitsL n).take j then [(k : Int)] else [])
def tabL (l : List Nd) (N : Nat) (A B : Nat → List Int) (i : Nat) : List Value := ints (if i < N then A i else B (i - N))
theorem nxL_succ {l : List Nd} {k : Nat} {n : Nd} (hn : l[k]? = some n) (i : Nat) : nxL l (k + 1) i = if i = k then exitsL n else nxL l k i := by (
 unfold nxL
 by_cases h : i = k
 · subst h; rw [if_pos (by omega), if_pos rfl, nd_get hn]
 · (
 rw [if_neg h]
 by_cases h2 : i < k
 · rw [if_pos (by omega), if_pos h2]
 · rw [if_neg (by omega), if_neg h2]))
theorem exitsL_leads (n : Nd) (m : Int) : m ∈ exitsL n ↔ leadsB n m = true := by (
 unfold exitsL leadsB
 by_cases h12 : n.op = 12
 · simp [h12]
 · (
 by_cases h11 : n.op = 11
 · (
 by_cases he : n.e = n.t
 · (
 simp [h11, he]
 exact eq_comm)
 · (
 simp [h11, he]
 exact or_congr eq_comm eq_comm))
 · (
 simp [h12, h11]
 exact eq_comm)))
theorem ahJ_zero (l : List Nd) (n : Nd) (k m : Nat) : ahJ l n k 0 m = ahL l k m := by simp [ahJ]
theorem ahJ_all {l : List Nd} {k : Nat} {n : Nd} (hn : l[k]? = some n) (m : Nat) {j : Nat} (hj : (exitsL n).length ≤ j) : ahJ l n k j m = ahL l (k + 1) m := by (
 unfold ahJ ahL
 rw [List.take_of_length_le hj]
 have hp : aheadP l m k = leadsB n m := aheadP_eq hn
 by_cases h : (m : Int) ∈ exitsL n
 · rw [if_pos h, sel_succ_true (by rw [hp]; exact (exitsL_leads n m).1 h)]
 · rw [if_neg h, List.append_nil, sel_succ_false (by rw [hp]; cases hq : leadsB n m with | false => rfl | true => exact absurd ((exitsL_leads n m).2 hq) h)])
theorem exitsL_nodup (n : Nd) : (exitsL n).Nodup := by (
 unfold exitsL
 split
 · simp
 · (
 split
 · rename_i h; simp; exact fun e => h.2 e.symm
 · simp))
theorem ahJ_step {l : List Nd} {n : Nd} {k j mm : Nat} (hj : (exitsL n)[j]? = some (mm : Int)) (m : Nat) : ahJ l n k (j + 1) m = if m = mm then ahJ l n k j m ++ [(k : Int)] else ahJ l n k j m := by (
 unfold ahJ
 have hnd := exitsL_nodup n
 obtain ⟨hjl, hje⟩ := List.getElem?_eq_some_iff.1 hj
 rw [List.take_add_one, hj]
 by_cases h : m = mm
 · (
 subst h
 have hno : ¬ (m : Int) ∈ (exitsL n).take j := by (
 intro hm
 obtain ⟨i, hi, he⟩ := List.mem_iff_getElem.1 hm
 rw [List.length_take] at hi
 rw [List.getElem_take] at he
 exact List.pairwise_iff_getElem.1 hnd i j (by omega) hjl (by omega) (he.trans hje.symm))
 simp [hno])
 · (
 have h2 : ¬ (m : Int) = (mm : Int) := by omega
 simp [h, h2]))
theorem ahJ_len (l : List Nd) (n : Nd) (k j m : Nat) : (ahJ l n k j m).length ≤ k + 1 := by (
 unfold ahJ ahL
 rw [List.length_append]
 have := sel_len (aheadP l m) k
 split <;> simp <;> omega)
theorem exits_edges {l : List Nd} {k : Nat} {n : Nd} (hn : l[k]? = some n) (hT : ∀ m ∈ exitsL n, 0 ≤ m ∧ m < (l.length : Int)) (m : Int) : m ∈ exitsL n ↔ m ∈ edgesOf true l k := by (
 unfold edgesOf
 simp only [if_true]
 rw [mem_sel]
 constructor
 · (
 intro h
 obtain ⟨h0, h1⟩ := hT m h
 obtain ⟨q, rfl⟩ := Int.eq_ofNat_of_zero_le h0
 exact ⟨q, by omega, by rw [nextP_eq hn]; exact (exitsL_leads n q).1 h, rfl⟩)
 · (
 rintro ⟨q, hq, hp, rfl⟩
 rw [nextP_eq hn] at hp
 exact (exitsL_leads n q).2 hp))
end
section
open Go.RowKit
set_option maxHeartbeats 2000000
end
section
open Go.RowKit
set_option maxHeartbeats 2000000
def fxE (regs : Int) (l : List Nd) (t : Tm) : Int :=
 if chk regs l ≠ 0 then chk regs l else if inB t.op 3 8 = false then 4 else if inB t.a 0 (regs - 1) = false ∨ inB t.b 0 (regs - 1) = false then 3 else 0
def tmV (t : Tm) : Value := .agg (tmA t)
theorem fcheckT_any (regs : Int) (A : Option Addr) (l : List Nd) (cap : Nat) (t : Tm) (w : World) (hl : l.length ≤ maxLen) (hA : NodesAt w A l) :
 Calls Try.prog 63 #[.agg #[.int .i64 regs, .slice A l.length cap], .agg #[.int .i64 t.op, .int .i64 t.a, .int .i64 t.b]] w fun e w' => e = .returned (.int .i64 (fxE regs l t)) ∧ Below w.heap.size w w' := by (
 have hC := fun W (hW : Below w.heap.size w W) => Check_any regs A l cap W hl (hA.below hW)
 have HC := hide hC
 clear hC
 unfold fxE
 by_cases hc : chk regs l = 0
 · (
 have h0 : (chk regs l != 0) = false := by simp [hc]
 have hR := right_of_chk hc
 have hr := hR.rlo
 have hr2 := hR.rhi
 rw [if_neg (by simp [hc])]
 clear hR
 have Hc := hide hc
 clear hc
 have hop : inB t.op 3 8 = !(decide (t.op < 3) || decide (8 < t.op)) := by (
 unfold inB; rw [Bool.eq_iff_iff]; simp <;> omega)
 rw [hop]
 clear hop
 by_cases h1 : t.op < 3
 · (
 have d1 : decide (t.op < 3) = true := by simp [h1]
 rw [d1]
 clear h1
 go_enter Try.func63, Try.ntmps63
 go_wp2_with (go_at_call 25; refine (HC.out _ (by (with_reducible repeat first | apply Qa | assumption | apply Qb | apply Qc | apply Qd | apply Qe | refine Qf ?_ (by assumption) ?_); all_goals (try simp only [Sz]); first | done | omega | (try simp only [Sz] at *); omega)).mono ?_; rintro e w1 ⟨rfl, hb1⟩; have hT1 : Blk w1 (w.heap.size + 1) 42 #[.int .i64 t.op, .int .i64 t.a, .int .i64 t.b] := Blk.below (Blk.new' (by simp)) hb1 (by simp); have lt := hT1.lt; have t0 := hT1.cell 0; simp only [List.getElem?_toArray, List.getElem?_cons_zero] at t0)
 go_ret
 exact ⟨by simp, (by (with_reducible repeat first | apply Qa | assumption | apply Qb | apply Qc | apply Qd | apply Qe | refine Qf ?_ (by assumption) ?_); all_goals (try simp only [Sz]); first | done | omega | (try simp only [Sz] at *); omega)⟩)
 · (
 have d1 : decide (t.op < 3) = false := by simp [h1]
 rw [d1]
 clear h1
 by_cases h2 : 8 < t.op
 · (
 have d2 : decide (8 < t.op) = true := by simp [h2]
 have d3 : decide (t.op > 8) = true := d2
 rw [d2]
 clear h2
 go_enter Try.func63, Try.ntmps63
 go_wp2_with (go_at_call 25; refine (HC.out _ (by (with_reducible repeat first | apply Qa | assumption | apply Qb | apply Qc | apply Qd | apply Qe | refine Qf ?_ (by assumption) ?_); all_goals (try simp only [Sz]); first | done | omega | (try simp only [Sz] at *); omega)).mono ?_; rintro e w1 ⟨rfl, hb1⟩; have hT1 : Blk w1 (w.heap.size + 1) 42 #[.int .i64 t.op, .int .i64 t.a, .int .i64 t.b] := Blk.below (Blk.new' (by simp)) hb1 (by simp); have lt := hT1.lt; have t0 := hT1.cell 0; simp only [List.getElem?_toArray, List.getElem?_cons_zero] at t0)
 go_ret
 exact ⟨by simp, (by (with_reducible repeat first | apply Qa | assumption | apply Qb | apply Qc | apply Qd | apply Qe | refine Qf ?_ (by assumption) ?_); all_goals (try simp only [Sz]); first | done | omega | (try simp only [Sz] at *); omega)⟩)
 · (
 have d2 : decide (8 < t.op) = false := by simp [h2]
 have d3 : decide (t.op > 8) = false := d2
 rw [d2]
 clear h2
 have hab : (inB t.a 0 (regs - 1) = false ∨ inB t.b 0 (regs - 1) = false) ↔ (min t.a t.b < 0 ∨ max t.a t.b ≥ regs) := by (
 unfold inB
 simp only [Bool.and_eq_false_iff, decide_eq_false_iff_not]
 omega)
 simp only [hab, Bool.false_or, Bool.not_false, Bool.true_eq_false, if_false]
 clear hab
 go_enter Try.func63, Try.ntmps63
 go_wp2_with (go_at_call 25; refine (HC.out _ (by (with_reducible repeat first | apply Qa | assumption | apply Qb | apply Qc | apply Qd | apply Qe | refine Qf ?_ (by assumption) ?_); all_goals (try simp only [Sz]); first | done | omega | (try simp only [Sz] at *); omega)).mono ?_; rintro e w1 ⟨rfl, hb1⟩; have hT1 : Blk w1 (w.heap.size + 1) 42 #[.int .i64 t.op, .int .i64 t.a, .int .i64 t.b] := Blk.below (Blk.new' (by simp)) hb1 (by simp); have hP1 : Blk w1 w.heap.size 24 #[.int .i64 regs, .slice A l.length cap] := Blk.below ((Blk.new' rfl).alloc _) hb1 (by simp <;> omega); have lt := hT1.lt; have lp := hP1.lt; have t0 := hT1.cell 0; have t1 := hT1.cell 1; have t2 := hT1.cell 2; have p0 := hP1.cell 0; simp only [Yl] at t0 t1 t2 p0)
 all_goals go_tidy
 all_goals go_ret
 all_goals refine ⟨?_, (by (with_reducible repeat first | apply Qa | assumption | apply Qb | apply Qc | apply Qd | apply Qe | refine Qf ?_ (by assumption) ?_); all_goals (try simp only [Sz]); first | done | omega | (try simp only [Sz] at *); omega)⟩
 all_goals (first | rfl | (rw [if_pos (by omega)]; rfl) | (rw [if_neg (by omega)]; rfl)))))
 · (
 have h0 : (chk regs l != 0) = true := by simp [hc]
 rw [if_pos hc]
 clear hc
 go_enter Try.func63, Try.ntmps63
 go_wp2_with (go_at_call 25; refine (HC.out _ (by (with_reducible repeat first | apply Qa | assumption | apply Qb | apply Qc | apply Qd | apply Qe | refine Qf ?_ (by assumption) ?_); all_goals (try simp only [Sz]); first | done | omega | (try simp only [Sz] at *); omega)).mono ?_; rintro e w1 ⟨rfl, hb1⟩)
 go_ret
 exact ⟨rfl, (by (with_reducible repeat first | apply Qa | assumption | apply Qb | apply Qc | apply Qd | apply Qe | refine Qf ?_ (by assumption) ?_); all_goals (try simp only [Sz]); first | done | omega | (try simp only [Sz] at *); omega)⟩))
def ndV (n : Nd) : Value := .agg #[.int .i64 n.op, .int .i64 n.d, .int .i64 n.a, .int .i64 n.b, .int .i64 n.t, .int .i64 n.e]
theorem sum_any (w : World) : Calls Try.prog 42 #[] w fun e w' => e = .returned (.agg #[.int .i64 3, .int .i64 0, .int .i64 1]) ∧ Below w.heap.size w w' := by (
 go_enter Try.func42, Try.ntmps42
 go_wp2
 refine bodyPost_ret (v := .agg #[.int .i64 3, .int .i64 0, .int .i64 1]) (by simp [results, Try.results42, go_sem]) rfl ⟨rfl, (by (with_reducible repeat first | apply Qa | assumption | apply Qb | apply Qc | apply Qd | apply Qe | refine Qf ?_ (by assumption) ?_); all_goals (try simp only [Sz]); first | done | omega | (try simp only [Sz] at *); omega)⟩)
end
section
open Go.RowKit
set_option maxHeartbeats 2000000
theorem fcheck1_any (S A : Option Addr) (n m len cap : Nat) (g : Nat) (w : World) (h0 : w.cell? ⟨g, 1, none⟩ = some (.slice A len cap)) :
 Calls Try.prog 96 #[.slice S n m, .pointer (some ⟨g, 0, none⟩)] w fun e w' => e = .returned (.bool ((n : Int) != (len : Int))) ∧ w = w' := by (
 go_enter Try.func96, Try.ntmps96
 go_wp2
 go_ret
 exact ⟨rfl, rfl⟩)
def slv (s : Option Addr × Nat × Nat) : Value := .slice s.1 s.2.1 s.2.2
theorem idxBools_any (S A : Option Addr) (ss : List (Option Addr × Nat × Nat)) (cap len cp : Nat) (g : Nat) (w : World) (hl : ss.length ≤ maxLen) (hS : ValsAt w S (ss.map slv))
 (hg : g < w.heap.size) (h0 : w.cell? ⟨g, 1, none⟩ = some (.slice A len cp)) :
 Calls Try.prog 105 #[.slice S ss.length cap, .func (.func 96) #[] #[.pointer (some ⟨g, 0, none⟩)]] w
  (IdxPost (ss.any fun s => (s.2.1 : Int) != (len : Int)) w) := by (
 unfold maxLen at hl
 go_enter Try.func105, Try.ntmps105
 go_wp2
 go_loopw [8] (fun i wr => ∃ k : Nat, k ≤ ss.length ∧ i = .int .i64 k ∧ (ss.take k).any (fun s => (s.2.1 : Int) != (len : Int)) = false ∧ Below w.heap.size w wr) (fun i _ => ss.length - (intOf i).toNat)
 case atStart => exact ⟨0, Nat.zero_le _, rfl, by simp, Below.refl _ _⟩
 case round => (
 obtain ⟨k, hk, rfl, hno, hbr⟩ := hrel
 have hzr := hbr.size
 have Hno := hide hno
 clear hno
 by_cases hlt : k < ss.length
 · (
 obtain ⟨b, off, v, rfl, hbl, hkn, hn⟩ := hS.get (k := k) (by simpa using hlt)
 obtain ⟨s, hs, hv⟩ : ∃ s, ss[k]? = some s ∧ slv s = v := by simpa using hkn
 subst hv
 clear hkn
 have Hkn := hide hs
 clear hs
 have c0 := ((bcell hbr).1 _ _ hbl).trans hn
 unfold slv at c0
 have g0 := ((bcell hbr).1 _ 1 hg).trans h0
 have hp := fcheck1_any s.1 A s.2.1 s.2.2 len cp g wr g0
 have Hp := hide hp
 clear hp
 have hbw : b < wr.heap.size := by omega
 cases ho : ((s.2.1 : Int) != (len : Int))
 · (
 rw [ho] at Hp
 go_wp2_with (go_at_call 96; refine (Hp.out).mono ?_; rintro e w1 ⟨rfl, rfl⟩)
 go_roundw
 case rel => exact ⟨k + 1, by omega, by go_num, by rw [any_take_succ _ ss k s Hkn.out, Hno.out]; simp [ho], hbr⟩
 case measure => simp [intOf]; omega)
 · (
 rw [ho] at Hp
 go_wp2_with (go_at_call 96; refine (Hp.out).mono ?_; rintro e w1 ⟨rfl, rfl⟩)
 go_ret
 exact ⟨k, rfl, by rw [any_of_take _ ss k s Hkn.out ho]; simp, hbr⟩))
 · (
 go_wp2
 go_ret
 exact ⟨-1, rfl, by rw [← any_take_all _ ss k hlt, Hno.out]; rfl, hbr⟩)))
theorem anyBools_any (S A : Option Addr) (ss : List (Option Addr × Nat × Nat)) (cap len cp : Nat) (g : Nat) (w : World) (hl : ss.length ≤ maxLen) (hS : ValsAt w S (ss.map slv))
 (hg : g < w.heap.size) (h0 : w.cell? ⟨g, 1, none⟩ = some (.slice A len cp)) :
 Calls Try.prog 95 #[.slice S ss.length cap, .func (.func 96) #[] #[.pointer (some ⟨g, 0, none⟩)]] w
  fun e w' => e = .returned (.bool (ss.any fun s => (s.2.1 : Int) != (len : Int))) ∧ Below w.heap.size w w' := by (
 have h := idxBools_any S A ss cap len cp g w hl hS hg h0
 have H := hide h
 clear h h0
 generalize (ss.any fun s => (s.2.1 : Int) != (len : Int)) = q at *
 go_enter Try.func95, Try.ntmps95
 go_wp2_with (go_at_call 105; refine (H.out).mono ?_; rintro e w1 ⟨r, rfl, hr, hb1⟩)
 go_ret
 exact ⟨by rw [← hr]; rfl, hb1⟩)
def okLens (n g p q t : Nat) : Bool := ((g : Int) == n) && ((p : Int) == n) && ((q : Int) == n) && ((t : Int) == n)
def fchk (regs : Int) (l : List Nd) (g p q t : Nat) : Int :=
 if chk regs l ≠ 0 then chk regs l else if okLens l.length g p q t = true then 0 else 1
theorem FCheck_any (regs : Int) (A : Option Addr) (l : List Nd) (cap : Nat) (bk em : Bool) (G P Q T : Option Addr) (g p q t gc pc qc tc : Nat) (w : World) (hl : l.length ≤ maxLen) (hA : NodesAt w A l) :
 Calls Try.prog 79 #[.agg #[.int .i64 regs, .slice A l.length cap], .agg #[.bool bk, .bool em, .slice G g gc, .slice P p pc, .slice Q q qc, .slice T t tc]] w
  fun e w' => e = .returned (.int .i64 (fchk regs l g p q t)) ∧ Below w.heap.size w w' := by (
 by_cases h : chk regs l = 0
 · (
 have hf : fchk regs l g p q t = if okLens l.length g p q t = true then 0 else 1 := by unfold fchk; simp [h]
 have hq : (([(G, g, gc), (P, p, pc), (Q, q, qc), (T, t, tc)] : List (Option Addr × Nat × Nat)).any fun s => (s.2.1 : Int) != (l.length : Int)) = !okLens l.length g p q t := by (
 simp only [List.any_cons, List.any_nil, okLens, bne, Bool.not_and, Bool.or_assoc, Bool.or_false])
 have H := hide h
 have Hf := hide hf
 have Hq := hide hq
 clear h hf hq
 generalize hokl : okLens l.length g p q t = ok at *
 have Hok := hide hokl
 clear hokl
 go_enter Try.func79, Try.ntmps79
 go_wp2_with (first
  | (go_at_call 25; refine (Check_any _ _ _ _ _ hl (hA.below (by (with_reducible repeat first | apply Qa | assumption | apply Qb | apply Qc | apply Qd | apply Qe | refine Qf ?_ (by assumption) ?_); all_goals (try simp only [Sz]); first | done | omega | (try simp only [Sz] at *); omega))).mono ?_; rw [H.out]; rintro e w1 ⟨rfl, hb1⟩; obtain ⟨hc1, hf1⟩ := bcell hb1; have hz1 := hb1.size; simp only [World.size_alloc] at hz1 hc1 hf1; have hy1 := Nat.lt_of_succ_le hz1; have hx1 := Nat.lt_of_succ_lt hy1)
  )
 have hV : ValsAt (w1.alloc (.cells #[.slice G g gc, .slice P p pc, .slice Q q qc, .slice T t tc] 48)) (some ⟨w1.heap.size, 0, none⟩) (([(G, g, gc), (P, p, pc), (Q, q, qc), (T, t, tc)] : List (Option Addr × Nat × Nat)).map slv) := by (
 refine ValsAt.mk (by simp) ?_
 intro i v hi
 rcases i with _ | _ | _ | _ | i <;> simp [slv] at hi ⊢ <;> exact hi)
 have g0 : (w1.alloc (.cells #[.slice G g gc, .slice P p pc, .slice Q q qc, .slice T t tc] 48)).cell? ⟨w.heap.size, 1, none⟩ = some (.slice A l.length cap) := by (
 rw [cpast hx1, hc1 _ _ (by omega), cpast (by simp)]
 simp)
 refine (anyBools_any _ A _ _ l.length cap _ _ (by simp [maxLen]) hV (by simp; omega) g0).mono ?_
 rw [Hq.out]
 rintro e w2 ⟨rfl, hb2⟩
 have hz2 := hb2.size
 simp only [World.size_alloc] at hz2
 have hB : Below w.heap.size w w2 := (by (with_reducible repeat first | apply Qa | assumption | apply Qb | apply Qc | apply Qd | apply Qe | refine Qf ?_ (by assumption) ?_); all_goals (try simp only [Sz]); first | done | omega | (try simp only [Sz] at *); omega)
 clear hb2 hb1 hV g0 hc1 hf1
 cases ok
 · (
 go_wp2_with fail
 go_ret
 exact ⟨by rw [Hf.out]; rfl, hB⟩)
 · (
 go_wp2_with fail
 go_ret
 exact ⟨by rw [Hf.out]; rfl, hB⟩))
 · (
 have hf : fchk regs l g p q t = chk regs l := by unfold fchk; simp [h]
 rw [hf]
 clear hf
 generalize hq : chk regs l = q' at *
 have Hq := hide hq
 clear hq
 go_enter Try.func79, Try.ntmps79
 go_wp2_with (go_at_call 25; refine (Check_any _ _ _ _ _ hl (hA.below (by (with_reducible repeat first | apply Qa | assumption | apply Qb | apply Qc | apply Qd | apply Qe | refine Qf ?_ (by assumption) ?_); all_goals (try simp only [Sz]); first | done | omega | (try simp only [Sz] at *); omega))).mono ?_; rw [Hq.out]; rintro e w1 ⟨rfl, hb1⟩; obtain ⟨hc1, hf1⟩ := bcell hb1; have hz1 := hb1.size; simp only [World.size_alloc] at hz1 hc1 hf1)
 go_ret
 exact ⟨rfl, (by (with_reducible repeat first | apply Qa | assumption | apply Qb | apply Qc | apply Qd | apply Qe | refine Qf ?_ (by assumption) ?_); all_goals (try simp only [Sz]); first | done | omega | (try simp only [Sz] at *); omega)⟩))
end
end Go.Proofs.Ytmghkonmfbpjcab
