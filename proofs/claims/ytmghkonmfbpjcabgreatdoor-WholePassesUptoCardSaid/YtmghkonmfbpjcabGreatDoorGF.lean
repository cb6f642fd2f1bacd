/- Parts. -/
import Derived.Test.YtmghkonmfbpjcabGreatDoorMvE
import Derived.OwnWalkIn
import Derived.RangeFuncNested
import Derived.RangeFuncBound
import Derived.Shelf.RegionOpen
import Derived.LoopNIn
import Derived.LoopIn
import Derived.WideKeyEntry
set_option linter.unusedVariables false
set_option linter.unusedSimpArgs false
set_option maxRecDepth 100000
set_option maxHeartbeats 8000000
namespace Go.Proofs.YtmghkonmfbpjcabGreatDoor
open Go.Proofs.Tryz
section
open Go.RowKit
section
variable {regs : Int} {t : Tm} {l : List Nd} {pt tk th : List Bool} {inp : List Int}
end
section
variable {regs : Int} {t : Tm} {l : List Nd} {F : Fx}
theorem bRP (h : fxE regs l t = 0) : TmOk regs t := by
 have h1 := mH h
 have ho := bAS h
 have h2 := h
 unfold fxE at h2
 rw [if_neg (by simp [h1])] at h2
 split at h2
 ·cases h2
 ·split at h2
  ·cases h2
  ·rename_i h3
   refine ⟨ho, ?_, ?_⟩ <;> (try simp [inB] at h3) <;> omega
theorem rkb {n : Nat} (hR : bM regs l) (ht : 3 ≤ t.op ∧ t.op ≤ 8) (hn : n < l.length) : rkB t (nd l n) = fJ t (nd l n) := bFY hR (bGF hn) ht
end
end
section
open Go.RowKit
end
section
open Go.RowKit
theorem uW (x : List Bool) {i : Nat} : ∀ {j : Nat}, i ≤ j → rk x i ≤ rk x j
 | 0, h => by rw [show i = 0 by omega]; exact Nat.le_refl _
 | j + 1, h => by (
 by_cases e : i = j + 1
 · subst e; exact Nat.le_refl _
 · (
 have := uW x (i := i) (j := j) Zb
 rw [rk]
 omega))
theorem bQR {x : List Bool} {i j : Nat} (h : i < j) (hi : yn x i = true) : rk x i < rk x j := by (
 have := uW x (i := i + 1) (j := j) h
 rw [vT hi] at this
 omega)
theorem kX {x : List Bool} {l : List Nd} {m : Nd} : ∀ {k : Nat}, k ≤ l.length → m ∈ eA x l k → ∃ i n, yn x i = true ∧ l[i]? = some n ∧ m = kK x n
 | 0, _, h => by cases h
 | k + 1, hk, h => by (
 have hn : l[k]? = some l[k] := Vx hk
 by_cases hy : yn x k = true
 · (
 rw [kW hy hn] at h
 rcases List.mem_append.1 h with e | e
 · exact kX Zb e
 · exact ⟨k, _, hy, hn, by simpa using e⟩)
 · (
 rw [sU (by simpa using hy)] at h
 exact kX Zb h))
theorem bFZ {l : List Nd} (h : 1 ≤ l.length) : yn (dO l) 0 = true := by (
 have hc := (iW (jX l) l.length).1.2 0 Zb
 unfold dO
 rw [hc]
 simp [eB])
theorem bM.reach {regs : Int} {l : List Nd} (hR : bM regs l) {i : Nat} {n : Nd} (hi : yn (dO l) i = true) (hn : l[i]? = some n) {m : Int} (hm : bU n m = true) : 1 ≤ m ∧ m < l.length ∧ yn (dO l) m.toNat = true := by (
 have hmem := V4 hn
 have hb : ∀ m : Int, bU n m = true → 1 ≤ m ∧ m < l.length := fun m hm => by (
 rcases dI hm with ⟨h1, rfl⟩ | ⟨h1, rfl⟩
 · exact hR.then_ hmem h1
 · exact hR.else_ hmem h1)
 obtain ⟨h1, h2⟩ := hb m hm
 refine ⟨h1, h2, nO hi hn (by rw [Ue Zb]; exact hm) (fun m hm => by have := hb m hm; omega)⟩)
theorem bM.trim {regs : Int} {l : List Nd} (hR : bM regs l) : bM regs (iS l) := by (
 have hlo := hR.lo
 have h0 := bFZ hlo
 have h1 : rk (dO l) 1 = 1 := by rw [vT h0]; rfl
 have hlen : (iS l).length = rk (dO l) l.length := kY _ _ _
 have hr1 := uW (dO l) (i := 1) (j := l.length) hlo
 have hin : ∀ {i : Nat} {n : Nd}, yn (dO l) i = true → l[i]? = some n → ∀ {m : Int}, bU n m = true → 1 ≤ ((rk (dO l) m.toNat : Nat) : Int) ∧ ((rk (dO l) m.toNat : Nat) : Int) < ((rk (dO l) l.length : Nat) : Int) := fun hi hn m hm => by (
 obtain ⟨a1, a2, a3⟩ := hR.reach hi hn hm
 have := uW (dO l) (i := 1) (j := m.toNat) Zb
 have := bQR (j := l.length) Zb a3
 omega)
 refine ⟨Zb, by have := sV l; have := hR.hi; omega, hR.rlo, hR.rhi, fun n hn => ?_, fun n hn => ?_, fun n hn => ?_⟩
 · (
 obtain ⟨i, n0, hi, hg, rfl⟩ := kX (Nat.le_refl _) hn
 clear hn
 obtain ⟨n, hn⟩ := Exq n0
 subst hn
 have hn := hg
 exact hR.ok n (V4 hn))
 · (
 obtain ⟨i, n0, hi, hg, rfl⟩ := kX (Nat.le_refl _) hn
 clear hn
 obtain ⟨n, hn⟩ := Exq n0
 subst hn
 have hn := hg
 have hr := hR.rng n (V4 hn)
 rw [hlen]
 simp only [kI, Uf, Bool.not_eq_false'] at hr ⊢
 refine ⟨⟨hr.1.1, ?_⟩, ?_⟩
 · (
 show okN _ (if n.op = 12 then n.t else ((rk (dO l) n.t.toNat : Nat) : Int)) (shT n.op) = true
 by_cases h12 : n.op = 12
 · simp [okN, shT, h12]
 · (
 rw [if_neg h12]
 have := hin hi hn (gK h12)
 simp [okN, this.1, this.2]))
 · (
 show okN _ (if n.op = 11 then ((rk (dO l) n.e.toNat : Nat) : Int) else n.e) (fL n.op) = true
 by_cases h11 : n.op = 11
 · (
 rw [if_pos h11]
 have := hin hi hn (iK h11)
 simp [okN, this.1, this.2])
 · simp [okN, fL, h11]))
 · (
 obtain ⟨i, n0, hi, hg, rfl⟩ := kX (Nat.le_refl _) hn
 clear hn
 obtain ⟨n, hn⟩ := Exq n0
 subst hn
 have hn := hg
 have hr := hR.frm n (V4 hn)
 have hok := hR.ok n (V4 hn)
 simp only [badF, Uf, Bool.not_eq_false'] at hr ⊢
 refine ⟨⟨hr.1.1, ?_⟩, ?_⟩
 · (
 show okF (if n.op = 12 then n.t else _) (shT n.op) = true
 by_cases h12 : n.op = 12
 · rw [if_pos h12]; exact hr.1.2
 · simp [okF, shT, hok, h12])
 · (
 show okF (if n.op = 11 then _ else n.e) (fL n.op) = true
 by_cases h11 : n.op = 11
 · simp [okF, fL, h11]
 · rw [if_neg h11]; exact hr.2)))
end
section
open Go.RowKit
def Way (l out : List Nd) (j j' : Int) : Prop := (¬ 2 ≤ eE l j ∧ j' = j) ∨ (2 ≤ eE l j ∧ ∃ N : Nat, j' = N ∧ l.length ≤ N ∧ N < out.length ∧ out[N]? = some (cM j))
structure SpN (l out : List Nd) (n n' : Nd) : Prop where
 op : n'.op = n.op
 d : n'.d = n.d
 a : n'.a = n.a
 b : n'.b = n.b
 same : n.op = 0 ∨ n.op = 12 → n' = n
 t : ¬ (n.op = 0 ∨ n.op = 12) → Way l out n.t n'.t
 e : n.op = 11 → n.e ≠ n.t → Way l out n.e n'.e
 et : n.op = 11 → n.e = n.t → n'.e = n'.t
 ne : n.op ≠ 11 → n'.e = n.e
theorem Way.later {l out out' : List Nd} {j j' : Int} (h : Way l out j j') (hl : out.length ≤ out'.length) (hg : ∀ N : Nat, l.length ≤ N → N < out.length → out'[N]? = out[N]?) : Way l out' j j' :=
 h.imp id fun ⟨h1, N, h2, h3, h4, h5⟩ => ⟨h1, N, h2, h3, Zb, (hg N h3 h4).trans h5⟩
theorem SpN.later {l out out' : List Nd} {n n' : Nd} (h : SpN l out n n') (hl : out.length ≤ out'.length) (hg : ∀ N : Nat, l.length ≤ N → N < out.length → out'[N]? = out[N]?) : SpN l out' n n' :=
 ⟨h.op, h.d, h.a, h.b, h.same, fun x => (h.t x).later hl hg, fun x y => (h.e x y).later hl hg, h.et, h.ne⟩
theorem SpN.lead {regs : Int} {l out : List Nd} {n n' : Nd} (hR : bM regs l) (hn : n ∈ l) (h : SpN l out n n') {m : Int} (hm : bU n' m = true) :
 (1 ≤ m ∧ m < l.length ∧ bU n m = true ∧ (n.op ≠ 0 → ¬ 2 ≤ eE l m)) ∨ ∃ N : Nat, m = N ∧ l.length ≤ N ∧ N < out.length ∧ ∃ j, out[N]? = some (cM j) ∧ bU n j = true ∧ 2 ≤ eE l j := by (
 have hb : ∀ m : Int, bU n m = true → 1 ≤ m ∧ m < l.length := fun m hm => by (
 rcases dI hm with ⟨h1, rfl⟩ | ⟨h1, rfl⟩
 · exact hR.then_ hn h1
 · exact hR.else_ hn h1)
 have hw : ∀ {j j'}, bU n j = true → Way l out j j' → (1 ≤ j' ∧ j' < l.length ∧ bU n j' = true ∧ (n.op ≠ 0 → ¬ 2 ≤ eE l j')) ∨ ∃ N : Nat, j' = N ∧ l.length ≤ N ∧ N < out.length ∧ ∃ j, out[N]? = some (cM j) ∧ bU n j = true ∧ 2 ≤ eE l j := by (
 rintro j j' hj (⟨h1, rfl⟩ | ⟨h1, N, rfl, h3, h4, h5⟩)
 · exact .inl ⟨(hb _ hj).1, (hb _ hj).2, hj, fun _ => h1⟩
 · exact .inr ⟨N, rfl, h3, h4, j, h5, hj, h1⟩)
 by_cases h0 : n.op = 0 ∨ n.op = 12
 · (
 rw [h.same h0] at hm
 have := hb m hm
 refine .inl ⟨this.1, this.2, hm, fun hne => ?_⟩
 have h12 : n.op = 12 := h0.resolve_left hne
 simp [bU, h12] at hm)
 · (
 rcases dI hm with ⟨h1, h2⟩ | ⟨h1, h2⟩
 · (
 rw [h2]
 exact hw (gK Zb) (h.t h0))
 · (
 rw [h.op] at h1
 rw [h2]
 by_cases he : n.e = n.t
 · (
 rw [h.et h1 he]
 exact hw (gK Zb) (h.t h0))
 · exact hw (iK h1) (h.e h1 he))))
structure Spl (l : List Nd) (k : Nat) (out : List Nd) : Prop where
 len : l.length ≤ out.length
 old : ∀ j, k ≤ j → j < l.length → out[j]? = l[j]?
 new : ∀ i, i < k → ∀ n, l[i]? = some n → ∃ n', out[i]? = some n' ∧ SpN l out n n'
 skips : ∀ N, l.length ≤ N → N < out.length → ∃ j : Int, out[N]? = some (cM j) ∧ 2 ≤ eE l j ∧ 1 ≤ j ∧ j < l.length
 only : ∀ i i' n n' N, i < k → i' < k → out[i]? = some n → out[i']? = some n' → l.length ≤ N → bU n (N : Nat) = true → bU n' (N : Nat) = true → i = i'
theorem Spl.start (l : List Nd) : Spl l 0 l := ⟨Nat.le_refl _, fun _ _ _ => rfl, fun i hi => absurd hi Zb, fun N h1 h2 => absurd h1 Zb, fun i i' n n' N hi => absurd hi Zb⟩
theorem Spl.step {regs : Int} {l : List Nd} (hR : bM regs l) {k : Nat} {n : Nd} (hn : l[k]? = some n) {out : List Nd} (h : Spl l k out) : Spl l (k + 1) (cY l k n out) := by (
 have hk : k < l.length := (List.getElem?_eq_some_iff.1 hn).1
 have hmem := V4 hn
 have hlen := h.len
 have hko : k < out.length := Zb
 obtain ⟨n', sk, ho, hG, hsk, hfr⟩ : ∃ n' sk, cY l k n out = out.set k n' ++ sk ∧ SpN l (out.set k n' ++ sk) n n' ∧ (∀ x ∈ sk, ∃ j : Int, x = cM j ∧ 2 ≤ eE l j ∧ 1 ≤ j ∧ j < l.length) ∧ (∀ N : Nat, l.length ≤ N → bU n' (N : Nat) = true → out.length ≤ N) := by (
 by_cases h0 : n.op = 0 ∨ n.op = 12
 · (
 refine ⟨n, [], by rw [gE h0, List.append_nil, rS (by rw [h.old k (Nat.le_refl _) hk]; exact hn)], ⟨rfl, rfl, rfl, rfl, fun _ => rfl, fun hn => absurd h0 hn, fun h1 => absurd h1 Zb, fun h1 => absurd h1 Zb, fun _ => rfl⟩, fun x hx => absurd hx Zf, fun N hN hl => ?_⟩
 rcases dI hl with ⟨h1, h2⟩ | ⟨h1, h2⟩
 · have := hR.then_ hmem h1; omega
 · have := hR.else_ hmem h1; omega)
 · (
 have hT := hR.then_ hmem (fun e => h0 (.inr e))
 have hE := fun h11 => hR.else_ hmem h11
 refine ⟨_, _, pA hko (fun e => h0 (.inl e)) (fun e => h0 (.inr e)), ?_, ?_, ?_⟩
 · (
 have hlen1 : ∀ (a : Nd) (b : List Nd) (i : Nat), (out.set k a ++ b)[out.length + i]? = b[i]? := fun a b i => by (
 rw [Ul Zf]
 simp)
 have hl2 : ∀ (a : Nd) (b : List Nd), (out.set k a ++ b).length = out.length + b.length := fun a b => by simp
 refine ⟨?_, ?_, ?_, ?_, fun e => absurd e h0, fun _ => ?_, fun h11 hne => ?_, fun h11 he => ?_, fun hn11 => ?_⟩
 · exact Jk
 · exact Jk
 · exact Jk
 · exact Jk
 · (
 by_cases h2 : 2 ≤ eE l n.t
 · (
 refine .inr ⟨h2, out.length, ?_, hlen, ?_, ?_⟩
 · unfold dB bY; rw [if_pos h2]; split <;> rfl
 · rw [hl2]; unfold dM; rw [if_pos h2]; simp
 · (
 have := hlen1 (dB l n (bY l n out.length) (out.length + (dM l n).length)) (dM l n ++ fU l n) 0
 rw [Nat.add_zero] at this
 rw [this]; unfold dM; rw [if_pos h2]; rfl))
 · (
 refine .inl ⟨h2, ?_⟩
 unfold dB bY; rw [if_neg h2]; split <;> rfl))
 · (
 by_cases h2 : 2 ≤ eE l n.e
 · (
 have hB : fF l n = true := by simp [fF, h11, hne, h2]
 refine .inr ⟨h2, out.length + (dM l n).length, ?_, Zb, ?_, ?_⟩
 · unfold dB; rw [if_pos hB]
 · rw [hl2]; unfold fU; rw [if_pos hB]; simp
 · (
 rw [hlen1, Ul (Nat.le_refl _)]
 unfold fU; rw [if_pos hB]; simp))
 · (
 have hB : fF l n = false := by simp [fF, h2]
 refine .inl ⟨h2, ?_⟩
 unfold dB; rw [if_neg (by rw [hB]; simp)]
 unfold bY; split
 · (
 show (if n.op = 11 ∧ n.e = n.t then _ else n.e) = n.e
 rw [if_neg (fun h => hne h.2)])
 · rfl))
 · (
 have hB : fF l n = false := by simp [fF, he]
 unfold dB; rw [if_neg (by rw [hB]; simp)]
 unfold bY; split
 · (
 show (if n.op = 11 ∧ n.e = n.t then _ else n.e) = _
 rw [if_pos ⟨h11, he⟩])
 · exact he)
 · (
 have hB : fF l n = false := by simp [fF, hn11]
 unfold dB; rw [if_neg (by rw [hB]; simp)]
 unfold bY; split
 · (
 show (if n.op = 11 ∧ n.e = n.t then _ else n.e) = _
 rw [if_neg (fun h => hn11 h.1)])
 · rfl))
 · (
 intro x hx
 rcases List.mem_append.1 hx with hx | hx
 · (
 unfold dM at hx
 split at hx
 · (
 rename_i h2
 rw [List.mem_singleton] at hx
 exact ⟨n.t, hx, h2, hT⟩)
 · cases hx)
 · (
 unfold fU at hx
 split at hx
 · (
 rename_i h2
 rw [List.mem_singleton] at hx
 simp [fF] at h2
 exact ⟨n.e, hx, h2.2, hE h2.1.1⟩)
 · cases hx))
 · (
 intro N hN hl
 have h4 : ∀ z : Nat, (dB l n (bY l n out.length) z).op = n.op := fun z => by unfold dB bY; split <;> split <;> rfl
 rcases dI hl with ⟨_, h2⟩ | ⟨h1, h2⟩
 · (
 have h3 : (dB l n (bY l n out.length) (out.length + (dM l n).length)).t = if 2 ≤ eE l n.t then (out.length : Int) else n.t := by (
 unfold dB bY; split <;> split <;> rfl)
 rw [h3] at h2
 split at h2 <;> omega)
 · (
 rw [h4] at h1
 have hE := hE h1
 by_cases hB : fF l n = true
 · (
 have h3 : (dB l n (bY l n out.length) (out.length + (dM l n).length)).e = ((out.length + (dM l n).length : Nat) : Int) := by (
 unfold dB; rw [if_pos hB])
 rw [h3] at h2
 omega)
 · (
 have h3 : (dB l n (bY l n out.length) (out.length + (dM l n).length)).e = (bY l n out.length).e := by (
 unfold dB; rw [if_neg hB])
 rw [h3] at h2
 unfold bY at h2
 split at h2
 · (
 simp only at h2
 split at h2 <;> omega)
 · omega)))))
 rw [ho]
 have hlo : (out.set k n' ++ sk).length = out.length + sk.length := Zf
 have hget : ∀ j, j ≠ k → j < out.length → (out.set k n' ++ sk)[j]? = out[j]? := fun j h1 h2 => by (
 rw [Uk (by simpa using h2), List.getElem?_set_ne (Ne.symm h1)])
 have hgk : (out.set k n' ++ sk)[k]? = some n' := by (
 rw [Uk (by simpa using hko), List.getElem?_set]
 simp [hko])
 refine ⟨Zb, fun j h1 h2 => ?_, fun i hi m hm => ?_, fun N h1 h2 => ?_, fun i i' m m' N hi hi' hm hm' hN hl hl' => ?_⟩
 · (
 rw [hget j Zb Zb]
 exact h.old j Zb h2)
 · (
 by_cases e : i = k
 · (
 subst e
 rw [hn] at hm
 injection hm with hm
 subst hm
 exact ⟨n', hgk, hG⟩)
 · (
 obtain ⟨m', h1, h2⟩ := h.new i Zb m hm
 have := (List.getElem?_eq_some_iff.1 h1).1
 exact ⟨m', (hget i e this).trans h1, h2.later Zb fun N a b => hget N Zb b⟩))
 · (
 by_cases h3 : N < out.length
 · (
 obtain ⟨j, h4, h5⟩ := h.skips N h1 h3
 exact ⟨j, (hget N Zb h3).trans h4, h5⟩)
 · (
 rw [Ul (by simpa using h3)]
 rw [List.length_set]
 have h6 : N - out.length < sk.length := Zb
 rw [Vx h6]
 obtain ⟨j, h7, h8⟩ := hsk _ (List.getElem_mem h6)
 exact ⟨j, by rw [h7], h8⟩))
 · (
 have hle : ∀ i m, i < k → (out.set k n' ++ sk)[i]? = some m → bU m (N : Nat) = true → N < out.length := fun i m hi hm hl => by (
 rw [hget i Zb Zb] at hm
 obtain ⟨m0, hm0⟩ : ∃ m0, l[i]? = some m0 := ⟨_, Vx Zb⟩
 obtain ⟨m1, h1, h2⟩ := h.new i hi m0 hm0
 rw [hm] at h1
 injection h1 with h1
 subst h1
 rcases h2.lead hR (V4 hm0) hl with ⟨_, a, _⟩ | ⟨N', a, _, b, _⟩
 · omega
 · omega)
 by_cases e : i = k
 · (
 by_cases e' : i' = k
 · omega
 · (
 subst e
 rw [hgk] at hm
 injection hm with hm
 subst hm
 have h1 := hfr N hN hl
 have h2 := hle i' m' Zb hm' hl'
 omega))
 · (
 by_cases e' : i' = k
 · (
 subst e'
 rw [hgk] at hm'
 injection hm' with hm'
 subst hm'
 have h1 := hfr N hN hl'
 have h2 := hle i m Zb hm hl
 omega)
 · (
 rw [hget i e Zb] at hm
 rw [hget i' e' Zb] at hm'
 exact h.only i i' m m' N Zb Zb hm hm' hN hl hl'))))
theorem tY {regs : Int} {l : List Nd} (hR : bM regs l) : ∀ k, k ≤ l.length → Spl l k (cK l k)
 | 0, _ => Spl.start l
 | k + 1, hk => by (
 have hn : l[k]? = some l[k] := Vx hk
 rw [cR hn]
 exact (tY hR k Zb).step hR hn)
theorem bJE {regs : Int} {l : List Nd} (hR : bM regs l) : Spl l l.length (gA l) := tY hR l.length (Nat.le_refl _)
theorem bM.split {regs : Int} {l : List Nd} (hR : bM regs l) (h256 : (gA l).length ≤ 256) : bM regs (gA l) := by (
 have hS := bJE hR
 have hlo := hR.lo
 have hlen := hS.len
 have hcase : ∀ m ∈ gA l, (∃ n ∈ l, SpN l (gA l) n m) ∨ ∃ j : Int, m = cM j ∧ 1 ≤ j ∧ j < l.length := fun m hm => by (
 obtain ⟨i, hi⟩ := List.mem_iff_getElem?.1 hm
 have hil := (List.getElem?_eq_some_iff.1 hi).1
 by_cases h : i < l.length
 · (
 obtain ⟨n, hn⟩ : ∃ n, l[i]? = some n := ⟨_, Vx h⟩
 obtain ⟨n', h1, h2⟩ := hS.new i h n hn
 rw [hi] at h1
 injection h1 with h1
 subst h1
 exact .inl ⟨n, V4 hn, h2⟩)
 · (
 obtain ⟨j, h1, _, h3⟩ := hS.skips i Zb hil
 rw [hi] at h1
 injection h1 with h1
 exact .inr ⟨j, h1, h3⟩))
 refine ⟨Zb, h256, hR.rlo, hR.rhi, fun m hm => ?_, fun m hm => ?_, fun m hm => ?_⟩
 · (
 rcases hcase m hm with ⟨n, hn, hG⟩ | ⟨j, rfl, _⟩
 · rw [hG.op]; exact hR.ok n hn
 · rfl)
 · (
 rcases hcase m hm with ⟨n, hn, hG⟩ | ⟨j, rfl, h1, h2⟩
 · (
 have hr := hR.rng n hn
 simp only [kI, Uf, Bool.not_eq_false'] at hr ⊢
 rw [hG.op, hG.d, hG.a, hG.b]
 have hin : ∀ j : Int, bU m j = true → 1 ≤ j ∧ j < ((gA l).length : Int) := fun j hj => by (
 rcases hG.lead hR hn hj with ⟨a, b, _⟩ | ⟨N, rfl, a, b, _⟩
 · omega
 · omega)
 refine ⟨⟨hr.1.1, ?_⟩, ?_⟩
 · (
 by_cases h12 : n.op = 12
 · simp [okN, shT, h12]
 · (
 have := hin m.t (gK (by rw [hG.op]; exact h12))
 simp [okN, this.1, this.2]))
 · (
 by_cases h11 : n.op = 11
 · (
 have := hin m.e (iK (by rw [hG.op]; exact h11))
 simp [okN, this.1, this.2])
 · simp [okN, fL, h11]))
 · (
 have : j < ((gA l).length : Int) := Zb
 simp [kI, cM, okR, okN, dE, dC, cG, fL, shT, gG, inB, h1, this]))
 · (
 rcases hcase m hm with ⟨n, hn, hG⟩ | ⟨j, rfl, h1, h2⟩
 · (
 have hr := hR.frm n hn
 have hok := hR.ok n hn
 simp only [badF, Uf, Bool.not_eq_false'] at hr ⊢
 rw [hG.op, hG.d, hG.a, hG.b]
 refine ⟨⟨hr.1.1, ?_⟩, ?_⟩
 · (
 by_cases h12 : n.op = 12
 · rw [hG.same (.inr h12)]; exact hr.1.2
 · simp [okF, shT, hok, h12])
 · (
 by_cases h11 : n.op = 11
 · simp [okF, fL, h11]
 · rw [hG.ne h11]; exact hr.2))
 · simp [badF, cM, okF, dE, dC, cG, fL, shT, gG, inB, oL]))
end
section
open Go.RowKit
inductive Hop (m : List Nd) (inp : List Int) (th : Nat → Bool) : Nat → Rn → Prop
 | here {u : Rn} : th u.pos = false → Hop m inp th 0 u
 | next {k : Nat} {u : Rn} : th u.pos = true → Hop m inp th k (jB m inp u) → Hop m inp th (k + 1) u
section
variable {l m r : List Nd} {inp : List Int} {p : Nat → Nat} {th : Nat → Bool} {Rel : Rn → Rn → Prop}
end
section
variable {r1 r2 r3 : Int} {l m r : List Nd} {inp : List Int}
end
end
section
open Go.RowKit
attribute [local irreducible] Row madeCells
theorem wJ : (prog.info? 25).map (fun i => (i.zero, i.size, i.bytes)) = some (some (.slice none 0 0), 1, 24) := Zc
theorem rO (n S : Nat) (w : World) (hn : n ≤ 256) (hS : Blk w S 3 #[.int .i64 (n : Int)]) :
 Calls prog 148 #[.pointer (some ⟨S, 0, none⟩)] w (fun e w' => e = .returned (.slice (some ⟨w.heap.size, 0, none⟩) n n) ∧ Row w' w.heap.size 4 (.slice (some ⟨w.heap.size, 0, none⟩) n n) (bE (List.replicate n true)) ∧ Below w.heap.size w w') := by (
 obtain ⟨ib, hbi, hbz, hbs, hbb⟩ := info_parts gR
 have hmk := dN (P := prog) 74 4 ib _ 1 underlying74 hbi hbz hbs hbb Zb rfl n Zb
 have s0 := hS.cell 0
 have ls := hS.lt
 simp only [List.getElem?_toArray, List.getElem?_cons_zero] at s0
 go_enter func148, ntmps148
 go_wp2_with fail
 go_loopg [3] (n) (fun gk i wr => ∃ k : Nat, k ≤ n ∧ i = .int .i64 k ∧ gk = n - k ∧ ∃ x : List Bool, x.length = n ∧ (∀ j, j < k → yn x j = true) ∧ Row wr w.heap.size 4 (.slice (some ⟨w.heap.size, 0, none⟩) n n) (bE x) ∧ Below w.heap.size w wr)
 case atStart => exact Jh
 case round => (
 obtain ⟨k, hk, rfl, hgk, x, hxl, hxf, hR, hB⟩ := hrel
 have Hgk := bA hgk
 have Hxf := bA hxf
 have hxlt := (hR.lt _ rfl).2
 have s0 := ((bB hB).1 _ _ ls).trans s0
 have ls := V6 ls hB.size
 clear hgk hxf hmk
 by_cases hlt : k < n
 · (
 obtain ⟨g0, o0, cp0, e0, _, _, cx, fx⟩ := hR.bool (k := k) Xl
 injection e0 with e0 e1 e2
 injection e0 with e0
 injection e0 with e0 e3
 subst e0 e3
 simp only [Nat.zero_add] at cx fx
 clear e1 e2
 have HR := bA hR
 clear hR
 refine Vs fun u0 u1 => ?_
 go_wp2_with fail
 go_roundg (n - (k + 1))
 case measure => exact Jg
 case rel => (
 have hs := HR.o.setb k true
 rw [Nat.zero_add] at hs
 refine ⟨k + 1, Zb, by go_num, rfl, x.set k true, by simpa using hxl, fun j hj => ?_, hs, hB.setCell Zd _⟩
 rw [cL _ _ _ _ Xl]
 split
 · rfl
 · exact Hxf.o j Zb))
 · (
 have hkk : k = n := Zb
 subst hkk
 have hxe : x = List.replicate k true := nV (by simp [hxl]) fun j hj => (by
  have hj' : j < k := Zb
  rw [Hxf.o j hj']
  simp [yn, Vy, List.getElem?_replicate, hj'])
 subst hxe
 have HR := bA hR
 clear hR
 go_wp2_with fail
 go_ret
 exact ⟨rfl, HR.o, hB⟩)))
def oG (tS tI : TypeId) (B : Nat) (b : Bool) (l : List Nd) (m : Nat) (v : Value) (W : World) : Prop :=
 ∃ vals : List Value, vals.length = m ∧ Row W B tS v vals ∧ ∀ k, k < m → ∃ (R : Option Addr) (c : Nat), vals[k]? = some (.slice R (bF b l k).length c) ∧ Row W B tI (.slice R (bF b l k).length c) (bN (bF b l k))
theorem oG.later {tS tI : TypeId} {B : Nat} {b : Bool} {l : List Nd} {m : Nat} {v : Value} {W W' : World} (h : oG tS tI B b l m v W) (hb : Below W.heap.size W W') : oG tS tI B b l m v W' := by (
 obtain ⟨vals, h1, h2, h3⟩ := h
 refine ⟨vals, h1, h2.below' hb, fun k hk => ?_⟩
 obtain ⟨R, c, e, hr⟩ := h3 k hk
 exact ⟨R, c, e, hr.below' hb⟩)
theorem oG.far {tS tI t : TypeId} {B : Nat} {b : Bool} {l : List Nd} {m : Nat} {v : Value} {W : World} {p : Addr} {cs : Array Value} (h : oG tS tI B b l m v W) (hp : Blk W p.block t cs) (n1 : tS ≠ t) (n2 : tI ≠ t) (u : Value) : oG tS tI B b l m v (W.setCell p u) := by (
 obtain ⟨vals, h1, h2, h3⟩ := h
 refine ⟨vals, h1, h2.far (h2.ne_blk hp n1) u, fun k hk => ?_⟩
 obtain ⟨R, c, e, hr⟩ := h3 k hk
 exact ⟨R, c, e, hr.far (hr.ne_blk hp n2) u⟩)
theorem oG.nil (tS tI : TypeId) (B : Nat) (b : Bool) (l : List Nd) (W : World) : oG tS tI B b l 0 (.slice none 0 0) W := ⟨[], rfl, Row.nil_ _ _ _, fun k hk => by omega⟩
theorem oG.add {tS tI : TypeId} {B : Nat} {b : Bool} {l : List Nd} {m : Nat} {v v' : Value} {W W' : World} {vals : List Value} (h1 : vals.length = m) (h2 : Row W B tS v vals)
 (h3 : ∀ k, k < m → ∃ (R : Option Addr) (c : Nat), vals[k]? = some (.slice R (bF b l k).length c) ∧ Row W B tI (.slice R (bF b l k).length c) (bN (bF b l k)))
 (n1 : tI ≠ tS) {R : Option Addr} {c : Nat} (hr : Row W B tI (.slice R (bF b l m).length c) (bN (bF b l m)))
 (hg : W.grownBy W' v.ownBlock) (ha : Row W' B tS v' (vals ++ [.slice R (bF b l m).length c])) : oG tS tI B b l (m + 1) v' W' := by (
 refine ⟨_, by simp [h1], ha, fun k hk => ?_⟩
 by_cases hkm : k = m
 · (
 subst hkm
 exact ⟨R, c, by rw [Ul Zb, h1, Nat.sub_self]; rfl, hr.kept hg (hr.ne_row h2 n1)⟩)
 · (
 obtain ⟨R', c', e, hr'⟩ := h3 k Zb
 exact ⟨R', c', by rw [Uk Zb]; exact e, hr'.kept hg (hr'.ne_row h2 n1)⟩))
theorem oG.grown {tS tI : TypeId} {B : Nat} {b : Bool} {l : List Nd} {m : Nat} {v u : Value} {ys : List Value} {W W' : World} (h : oG tS tI B b l m v W) (n1 : tI ≠ tS) (hu : Row W B tS u ys) (hg : W.grownBy W' u.ownBlock) (hne : v.ownBlock = none ∨ v.ownBlock ≠ u.ownBlock) : oG tS tI B b l m v W' := by (
 obtain ⟨vals, h1, h2, h3⟩ := h
 refine ⟨vals, h1, h2.kept hg hne, fun k hk => ?_⟩
 obtain ⟨R, c, e, hr⟩ := h3 k hk
 exact ⟨R, c, e, hr.kept hg (hr.ne_row hu n1)⟩)
def six {α : Type} (a b c d e f : α) : Nat → α
 | 0 => a
 | 1 => b
 | 2 => c
 | 3 => d
 | 4 => e
 | _ => f
structure RSt (tP tT tF tZ tB tS tI : TypeId) (B : Nat) (w : World) (pc tc : Array Value) (n : Nat) (l : List Nd) (nx ax : Value) (m1 m2 : Nat) (g : Nat → Nat) (x : Nat → List Bool) (W : World) : Prop where
 p : Blk W B tP pc
 t : Blk W (B + 1) tT tc
 o : Blk W (B + 1 + 1) tF nil6
 s : Blk W (B + 1 + 1 + 1) tZ #[.int .i64 (n : Int)]
 rows : ∀ i, i < 6 → Row W B tB (.slice (some ⟨g i, 0, none⟩) n n) (bE (x i)) ∧ (x i).length = n
 inj : ∀ i j, i < 6 → j < 6 → g i = g j → i = j
 nxt : oG tS tI B true l m1 nx W
 ahd : oG tS tI B false l m2 ax W
 apart : nx.ownBlock = none ∨ nx.ownBlock ≠ ax.ownBlock
 below : Below B w W
 sz : B ≤ W.heap.size
 ty : tP ≠ tB ∧ tT ≠ tB ∧ tF ≠ tB ∧ tZ ≠ tB ∧ tS ≠ tB ∧ tI ≠ tB ∧ tP ≠ tS ∧ tT ≠ tS ∧ tF ≠ tS ∧ tZ ≠ tS ∧ tI ≠ tS
section
variable {tP tT tF tZ tB tS tI : TypeId} {B : Nat} {w : World} {pc tc : Array Value} {n : Nat} {l : List Nd} {nx ax : Value} {m1 m2 : Nat} {g : Nat → Nat} {x : Nat → List Bool} {W W' : World}
theorem RSt.later (h : RSt tP tT tF tZ tB tS tI B w pc tc n l nx ax m1 m2 g x W) (hb : Below W.heap.size W W') : RSt tP tT tF tZ tB tS tI B w pc tc n l nx ax m1 m2 g x W' :=
 ⟨h.p.below hb h.p.lt, h.t.below hb h.t.lt, h.o.below hb h.o.lt, h.s.below hb h.s.lt, fun i hi => ⟨(h.rows i hi).1.below' hb, (h.rows i hi).2⟩, h.inj, h.nxt.later hb, h.ahd.later hb, h.apart, h.below.trans (hb.mono h.sz), Nat.le_trans h.sz hb.size, h.ty⟩
theorem RSt.set (h : RSt tP tT tF tZ tB tS tI B w pc tc n l nx ax m1 m2 g x W) {i : Nat} (hi : i < 6) (k : Nat) (b : Bool) :
 RSt tP tT tF tZ tB tS tI B w pc tc n l nx ax m1 m2 g (upd x i ((x i).set k b)) (W.setCell ⟨g i, k, none⟩ (.bool b)) := by (
 obtain ⟨hr, hl⟩ := h.rows i hi
 obtain ⟨cs, hc⟩ := hr.blk
 have hge := qQ hr
 obtain ⟨n1, n2, n3, n4, n5, n6, _⟩ := h.ty
 refine ⟨h.p.far (Blk.ne_ h.p hc n1) _, h.t.far (Blk.ne_ h.t hc n2) _, h.o.far (Blk.ne_ h.o hc n3) _, h.s.far (Blk.ne_ h.s hc n4) _, fun j hj => ?_, h.inj, h.nxt.far (p := ⟨g i, k, none⟩) hc n5 n6 _, h.ahd.far (p := ⟨g i, k, none⟩) hc n5 n6 _, h.apart, h.below.setCell hge _, by simpa using h.sz, h.ty⟩
 by_cases hji : j = i
 · (
 subst hji
 rw [bI]
 have := hr.setb k b
 rw [Nat.zero_add] at this
 exact ⟨this, by simpa using hl⟩)
 · (
 rw [bC _ _ hji]
 exact ⟨(h.rows j hj).1.far (by simp [Value.ownBlock]; exact fun e => hji (h.inj j i hj hi e)) _, (h.rows j hj).2⟩))
theorem RSt.addN (h : RSt tP tT tF tZ tB tS tI B w pc tc n l nx ax m1 m2 g x W) {v' R : Value} {vals : List Value} {Rr : Option Addr} {c : Nat} (h1 : vals.length = m1) (h2 : Row W B tS nx vals)
 (h3 : ∀ k, k < m1 → ∃ (R : Option Addr) (c : Nat), vals[k]? = some (.slice R (bF true l k).length c) ∧ Row W B tI (.slice R (bF true l k).length c) (bN (bF true l k)))
 (hr : Row W B tI (.slice Rr (bF true l m1).length c) (bN (bF true l m1))) (hg : W.grownBy W' nx.ownBlock) (ha : Row W' B tS v' (vals ++ [.slice Rr (bF true l m1).length c]))
 (hat : v'.ownBlock = nx.ownBlock ∨ ∀ k, v'.ownBlock = some k → W.heap.size ≤ k) : RSt tP tT tF tZ tB tS tI B w pc tc n l v' ax (m1 + 1) m2 g x W' := by (
 obtain ⟨n1, n2, n3, n4, n5, n6, n7, n8, n9, n10, n11⟩ := h.ty
 obtain ⟨va, a1, a2, a3⟩ := h.ahd
 have hap : ax.ownBlock = none ∨ ax.ownBlock ≠ nx.ownBlock := by (
 rcases hq : ax.ownBlock with _ | q
 · exact Jc
 · (
 rcases h.apart with e | e
 · exact .inr Xo
 · exact .inr (fun e' => e (by rw [hq]; exact e'.symm))))
 refine ⟨h.p.grown hg (h2.ne_blk h.p (Ne.symm n7)), h.t.grown hg (h2.ne_blk h.t (Ne.symm n8)), h.o.grown hg (h2.ne_blk h.o (Ne.symm n9)), h.s.grown hg (h2.ne_blk h.s (Ne.symm n10)), fun i hi => ⟨(h.rows i hi).1.kept hg ((h.rows i hi).1.ne_row h2 (Ne.symm n5)), (h.rows i hi).2⟩, h.inj,
  oG.add h1 h2 h3 n11 hr hg ha, h.ahd.grown n11 h2 hg hap, ?_, h.below.grown hg h.sz fun k hk => (h2.lt k hk).1, Nat.le_trans h.sz hg.size, h.ty⟩
 rcases hat with e | e
 · rw [e]; exact h.apart
 · (
 rcases hq : v'.ownBlock with _ | q
 · exact Jc
 · (
 refine .inr fun e' => ?_
 have h1 := e q hq
 have h2 := (a2.lt q e'.symm).2
 omega)))
theorem RSt.addA (h : RSt tP tT tF tZ tB tS tI B w pc tc n l nx ax m1 m2 g x W) {v' R : Value} {vals : List Value} {Rr : Option Addr} {c : Nat} (h1 : vals.length = m2) (h2 : Row W B tS ax vals)
 (h3 : ∀ k, k < m2 → ∃ (R : Option Addr) (c : Nat), vals[k]? = some (.slice R (bF false l k).length c) ∧ Row W B tI (.slice R (bF false l k).length c) (bN (bF false l k)))
 (hr : Row W B tI (.slice Rr (bF false l m2).length c) (bN (bF false l m2))) (hg : W.grownBy W' ax.ownBlock) (ha : Row W' B tS v' (vals ++ [.slice Rr (bF false l m2).length c]))
 (hat : v'.ownBlock = ax.ownBlock ∨ ∀ k, v'.ownBlock = some k → W.heap.size ≤ k) : RSt tP tT tF tZ tB tS tI B w pc tc n l nx v' m1 (m2 + 1) g x W' := by (
 obtain ⟨n1, n2, n3, n4, n5, n6, n7, n8, n9, n10, n11⟩ := h.ty
 obtain ⟨va, a1, a2, a3⟩ := h.nxt
 refine ⟨h.p.grown hg (h2.ne_blk h.p (Ne.symm n7)), h.t.grown hg (h2.ne_blk h.t (Ne.symm n8)), h.o.grown hg (h2.ne_blk h.o (Ne.symm n9)), h.s.grown hg (h2.ne_blk h.s (Ne.symm n10)), fun i hi => ⟨(h.rows i hi).1.kept hg ((h.rows i hi).1.ne_row h2 (Ne.symm n5)), (h.rows i hi).2⟩, h.inj,
  h.nxt.grown n11 h2 hg h.apart, oG.add h1 h2 h3 n11 hr hg ha, ?_, h.below.grown hg h.sz fun k hk => (h2.lt k hk).1, Nat.le_trans h.sz hg.size, h.ty⟩
 rcases hat with e | e
 · rw [e]; exact h.apart
 · (
 rcases hq : nx.ownBlock with _ | q
 · exact Jc
 · (
 refine .inr fun e' => ?_
 have h1 := e q e'.symm
 have h2 := (a2.lt q hq).2
 omega)))
end
def bQN (tB : TypeId) (l : List Nd) (t : Tm) (w : World) (e : Ending) (w' : World) : Prop :=
 Below w.heap.size w w' ∧ ∃ (F : Fx) (v0 v1 v2 v3 v4 v5 : Value), e = .returned (.agg #[v0, v1, v2, v3, v4, v5]) ∧ yG t l F ∧ Row w' w.heap.size tB v0 (bE F.down) ∧ Row w' w.heap.size tB v1 (bE F.up) ∧ Row w' w.heap.size tB v2 (bE F.early) ∧ Row w' w.heap.size tB v3 (bE F.delay) ∧ Row w' w.heap.size tB v4 (bE F.late) ∧ Row w' w.heap.size tB v5 (bE F.alone)
end
section
open Go.RowKit
def nQ : Code → List Code
 | .loop c => [c]
 | .seq a b => nQ a ++ nQ b
 | .block _ c => nQ c
 | .scope c => nQ c
 | .cond _ a b => nQ a ++ nQ b
 | _ => []
noncomputable def bRJ (c : Option Code) (k : Nat) : Code := ((c.map nQ).getD []).getD k .skip
def fK (a : Array Value) (j : Nat) : Value := a.getD j undef
def lI (n : Nat) (R : Act → World → Prop) : Exit → Act → World → Prop
 | .exit m, a, w => m = n ∧ R a w
 | _, _, _ => False
theorem iO {P : Program} {c : Code} {Q : Exit → Act → World → Prop} {a : Act} {w : World} {n : Nat} (R : Act → World → Prop) (h : c.wp P (lI n R) a w) (hq : ∀ a' w', R a' w' → Q (.exit n) a' w') : c.wp P Q a w :=
 Code.wp_mono (fun e a' w' hr => by
  cases e with
  | exit m => obtain ⟨rfl, hr⟩ := hr; exact hq _ _ hr
  | _ => exact hr.elim) h
end
section
open Go.RowKit
theorem vI {es : List Int} {j : Nat} {m : Int} (h : es[j]? = some m) (q : Int → Bool) : (es.take (j + 1)).all q = ((es.take j).all q && q m) := by (
 rw [List.take_add_one, h, List.all_append]
 simp)
theorem bBS {es : List Int} {j : Nat} {m : Int} (h : es[j]? = some m) (q : Int → Bool) : (es.take (j + 1)).any q = ((es.take j).any q || q m) := by (
 rw [List.take_add_one, h, List.any_append]
 simp)
theorem nD {es : List Int} {j : Nat} (h : es.length ≤ j) : es.take j = es := List.take_of_length_le h
theorem sC {bk : Bool} {l : List Nd} {k j : Nat} (hj : j < (bF bk l k).length) : ∃ (mm : Nat) (n : Nd), (bF bk l k)[j]? = some (mm : Int) ∧ mm < l.length ∧ l[mm]? = some n := by (
 obtain ⟨x, hx⟩ : ∃ x, (bF bk l k)[j]? = some x := ⟨_, Vx hj⟩
 have hm : x ∈ bF bk l k := V4 hx
 unfold bF at hm
 obtain ⟨i, hi, _, rfl⟩ := jS.1 hm
 exact ⟨i, l[i], hx, hi, Vx hi⟩)
theorem wU (bk : Bool) (l : List Nd) (k : Nat) : (bF bk l k).length ≤ l.length := by (
 unfold bF
 exact kP _ _)
def upQ (t : Tm) (l : List Nd) (y : List Bool) (k : Nat) (m : Int) : Bool := yn (cI t l) m.toNat && ((yn y m.toNat || m.toNat == k) || yn (cQ t l) m.toNat)
def upA (t : Tm) (l : List Nd) (y : List Bool) (k j : Nat) : Bool := decide (0 < (bF false l k).length) && ((bF false l k).take j).all (upQ t l y k)
theorem bLL (t : Tm) (l : List Nd) (y : List Bool) (k : Nat) : upA t l y k 0 = decide (0 < (bF false l k).length) := by simp [upA]
theorem bOY (t : Tm) (l : List Nd) (y : List Bool) (k j : Nat) (h : (bF false l k).length ≤ j) : upA t l y k j = upV t l y k := by (
 unfold upA upV
 rw [nD h]
 rfl)
theorem bLM {t : Tm} {l : List Nd} {y : List Bool} {k j mm : Nat} {n : Nd} (h : (bF false l k)[j]? = some (mm : Int)) (hn : l[mm]? = some n) :
 upA t l y k (j + 1) = (upA t l y k j && (lM t n && ((yn y mm || mm == k) || fJ t n))) := by (
 unfold upA
 rw [vI h, ← Bool.and_assoc]
 congr 1
 unfold upQ
 rw [Int.toNat_natCast, zZ hn, vD hn])
theorem bCG {y : List Bool} {n k mm : Nat} (hl : y.length = n) (hk : k < n) : yn (y.set k true) mm = (yn y mm || mm == k) := by (
 rw [cL _ _ _ _ (by rw [hl]; exact hk)]
 by_cases h : mm = k
 · simp [h]
 · simp [h])
def bNU (t : Tm) (l : List Nd) (d u : List Bool) (m : Int) : Bool := !yn (cI t l) m.toNat || !yn d m.toNat && !yn u m.toNat
def nW (t : Tm) (l : List Nd) (d u : List Bool) (k j : Nat) : Bool := decide ((bF false l k).length = 0) || ((bF false l k).take j).any (bNU t l d u)
theorem bDT (t : Tm) (l : List Nd) (d u : List Bool) (k : Nat) : nW t l d u k 0 = decide ((bF false l k).length = 0) := by simp [nW]
theorem bHB (t : Tm) (l : List Nd) (d u : List Bool) (k j : Nat) (h : (bF false l k).length ≤ j) (hk : k < l.length) : yn (iY t l d u) k = (yn d k && nW t l d u k j) := by (
 unfold nW iY
 rw [nD h, oU hk]
 congr 1)
theorem bDU {t : Tm} {l : List Nd} {d u : List Bool} {k j mm : Nat} {n : Nd} (h : (bF false l k)[j]? = some (mm : Int)) (hn : l[mm]? = some n) :
 nW t l d u k (j + 1) = (nW t l d u k j || (!lM t n || !yn d mm && !yn u mm)) := by (
 unfold nW
 rw [bBS h, ← Bool.or_assoc]
 congr 1
 unfold bNU
 rw [Int.toNat_natCast, zZ hn])
def bNW (t : Tm) (l : List Nd) (x : List Bool) (m : Int) : Bool := yn x m.toNat && !yn (cQ t l) m.toNat
def nX (t : Tm) (l : List Nd) (x : List Bool) (k j : Nat) : Bool := decide (0 < (bF false l k).length) && ((bF false l k).take j).all (bNW t l x)
theorem bDW (t : Tm) (l : List Nd) (x : List Bool) (k : Nat) : nX t l x k 0 = decide (0 < (bF false l k).length) := by simp [nX]
theorem bHC (t : Tm) (l : List Nd) (e x : List Bool) (k j : Nat) (h : (bF false l k).length ≤ j) : bAU t l e x k = (yn e k || nX t l x k j) := by (
 unfold nX bAU
 rw [nD h]
 rfl)
theorem bDX {t : Tm} {l : List Nd} {x : List Bool} {k j mm : Nat} {n : Nd} (h : (bF false l k)[j]? = some (mm : Int)) (hn : l[mm]? = some n) :
 nX t l x k (j + 1) = (nX t l x k j && (yn x mm && !fJ t n)) := by (
 unfold nX
 rw [vI h, ← Bool.and_assoc]
 congr 1
 unfold bNW
 rw [Int.toNat_natCast, vD hn])
def sA (l : List Nd) (y : List Bool) (k j : Nat) : Bool := ((bF true l k).take j).any fun m => !yn y m.toNat
theorem bGN (l : List Nd) (y : List Bool) (k : Nat) : sA l y k 0 = false := by simp [sA]
theorem bJZ {t : Tm} {l : List Nd} {y : List Bool} {k j : Nat} {n : Nd} (h : (bF true l k).length ≤ j) (hk : k < l.length) (hn : l[k]? = some n) : yn (nK t l y) k = (yn y k && (fJ t n || sA l y k j)) := by (
 unfold sA nK
 rw [nD h, oU hk, vD hn])
theorem bGO {l : List Nd} {y : List Bool} {k j mm : Nat} (h : (bF true l k)[j]? = some (mm : Int)) : sA l y k (j + 1) = (sA l y k j || !yn y mm) := by (
 unfold sA
 rw [bBS h, Int.toNat_natCast])
def bOD (t : Tm) (l : List Nd) (f y : List Bool) (k : Nat) (m : Int) : Bool := yn f m.toNat || !yn (cQ t l) m.toNat && (yn y m.toNat || m.toNat == k)
def gZ (t : Tm) (l : List Nd) (f y : List Bool) (k j : Nat) : Bool := ((bF true l k).take j).all (bOD t l f y k)
theorem bEP (t : Tm) (l : List Nd) (f y : List Bool) (k : Nat) : gZ t l f y k 0 = true := by simp [gZ]
theorem bHO (t : Tm) (l : List Nd) (f y : List Bool) (k j : Nat) (h : (bF true l k).length ≤ j) : gZ t l f y k j = bBC t l f y k := by (
 unfold gZ bBC
 rw [nD h]
 rfl)
theorem bEQ {t : Tm} {l : List Nd} {f y : List Bool} {k j mm : Nat} {n : Nd} (h : (bF true l k)[j]? = some (mm : Int)) (hn : l[mm]? = some n) :
 gZ t l f y k (j + 1) = (gZ t l f y k j && (yn f mm || !fJ t n && (yn y mm || mm == k))) := by (
 unfold gZ
 rw [vI h]
 congr 1
 unfold bOD
 rw [Int.toNat_natCast, vD hn])
theorem bAB {S : List Bool → Nat → Bool} {n : Nat} (hm : jN S) : ∀ c k, k ≤ n → ∃ x, dT S n c k x := by (
 intro c
 induction c with
 | zero =>
  intro k
  induction k with
  | zero => exact fun _ => ⟨List.replicate n true, dT.start Zf fun i hi => by simp [yn, Vy, List.getElem?_replicate, hi]⟩
  | succ k ih => exact fun hk => (ih Zb).elim fun x hx => ⟨_, hx.step hm Zb rfl⟩
 | succ c ihc =>
  intro k
  induction k with
  | zero => exact fun _ => (ihc n (Nat.le_refl _)).elim fun x hx => ⟨x, hx.turn⟩
  | succ k ih => exact fun hk => (ih Zb).elim fun x hx => ⟨_, hx.step hm Zb rfl⟩)
theorem bAR {S : List Bool → Nat → Bool} {n : Nat} (hm : jN S) : ∃ y, eU S n y := (bAB hm (n + 1) 0 (Nat.zero_le _)).elim fun x hx => ⟨x, hx.great hm Zb⟩
theorem eU.unself {S : List Bool → Nat → Bool} {n : Nat} (hm : jN S) {y : List Bool} (h : eU (lE S n) n y) : eU S n y := by (
 obtain ⟨x, hx⟩ := bAR (n := n) hm
 rw [h.unique (hx.self hm)]
 exact hx)
theorem Row.int_at_ {w : World} {B : Nat} {e : TypeId} {R : Option Addr} {n c : Nat} {es : List Int} (h : Row w B e (.slice R n c) (bN es)) {j : Nat} {m : Int} (hj : es[j]? = some m) :
 ∃ g o, R = some ⟨g, o, none⟩ ∧ g < w.heap.size ∧ w.cell? ⟨g, o + j, none⟩ = some (.int .i64 m) := by (
 obtain ⟨g, o, v, e1, h1, h2, h3⟩ := h.vals.get (k := j) (by rw [bJ]; exact (List.getElem?_eq_some_iff.1 hj).1)
 rw [kC, hj] at h2
 refine ⟨g, o, e1, h1, ?_⟩
 rw [h3, ← Option.some.inj h2])
theorem eZ {α : Type} (f : Nat → α) (i : Nat) (x y : α) : upd (upd f i x) i y = upd f i y := funext fun j => by (
 by_cases h : j = i
 · exact Jj
 · rw [bC _ _ h, bC _ _ h, bC _ _ h])
theorem oW {α : Type} (f : Nat → α) (i : Nat) : upd f i (f i) = f := funext fun j => by (
 by_cases h : j = i
 · rw [h, bI]
 · rw [bC _ _ h])
theorem Row.cell_at {w : World} {B g o : Nat} {e : TypeId} {n c : Nat} {es : List Int} (h : Row w B e (.slice (some ⟨g, o, none⟩) n c) (bN es)) {j : Nat} {m : Int} (hj : es[j]? = some m) :
 w.cell? ⟨g, o + j, none⟩ = some (.int .i64 m) := by (
 obtain ⟨g', o', e1, _, h2⟩ := h.int_at_ hj
 injection e1 with e1
 injection e1 with ea eb _
 subst ea eb
 exact h2)
end
section
open Go.RowKit
def fT : List Nd := [⟨9, 0, 0, 0, 1, 0⟩, ⟨9, 1, 0, 0, 2, 0⟩, ⟨11, 0, 0, 0, 3, 5⟩, ⟨3, 2, 0, 1, 4, 0⟩, ⟨10, 0, 2, 0, 5, 0⟩, ⟨3, 2, 0, 1, 6, 0⟩, ⟨12, 0, 2, 0, 0, 0⟩]
theorem bJG (w : World) : Calls prog 24 #[] w fun e w' => ∃ g, e = .returned (.agg #[.int .i64 3, .slice (some ⟨g, 0, none⟩) 7 7]) ∧ cO w' w.heap.size 39 (.slice (some ⟨g, 0, none⟩) 7 7) fT ∧ Below w.heap.size w w' := by (
 go_enter func24, ntmps24
 go_wp2
 refine bodyPost_ret (v := .agg #[.int .i64 3, .slice (some ⟨w.heap.size + 1, 0, none⟩) 7 7]) (by simp [results, results24, go_sem]) rfl ⟨_, rfl, ?_, Yc⟩
 refine bO.close (l := fT) (cur := (ndK.cells fT).toArray) (g := w.heap.size + 1) (cap := 7) Zb ?_ (by simp [fT]) Xu (by simp [jI, fT]) (fun k _ => by simp)
 have h := Blk.new' (w := w.alloc (.cells #[.int .i64 3, .slice (some ⟨w.heap.size + 1, 0, none⟩) 7 7] 24)) (g := w.heap.size + 1) (t := 39) (cs := (ndK.cells fT).toArray) Zf
 unfold Blk at h
 exact h)
end
section
open Go.RowKit
def bLP (S : List Bool → Nat → Bool) : Nat → List Bool → List Bool
 | 0, x => x
 | k + 1, x => let y := bLP S k x; y.set k (S y k)
def oX (S : List Bool → Nat → Bool) (n : Nat) : Nat → List Bool → List Bool
 | 0, x => x
 | c + 1, x => bLP S n (oX S n c x)
theorem bLO {S : List Bool → Nat → Bool} {n c : Nat} (hm : jN S) {x : List Bool} (h : dT S n c 0 x) : ∀ k, k ≤ n → dT S n c k (bLP S k x)
 | 0, _ => h
 | k + 1, hk => (bLO hm h k Zb).step hm Zb rfl
theorem bIB {S : List Bool → Nat → Bool} {n : Nat} (hm : jN S) : ∀ c, dT S n c 0 (oX S n c (List.replicate n true))
 | 0 => by (
 unfold oX
 exact dT.start Zf fun i hi => by simp [yn, Vy, List.getElem?_replicate, hi])
 | c + 1 => (bLO hm (bIB hm c) n (Nat.le_refl _)).turn
theorem mG {S : List Bool → Nat → Bool} {n : Nat} (hm : jN S) : eU S n (oX S n (n + 1) (List.replicate n true)) := (bIB hm (n + 1)).great hm Zb
def bNT (t : Tm) (l : List Nd) : Fx :=
 let d := oX (cU true false (cQ t l) (cI t l) (noL l.length) (cX (noL l.length)) l) l.length (l.length + 1) (List.replicate l.length true)
 let u := oX (cU false false (noL l.length) (cX (noL l.length)) (mk l.length fun k => yn (cI t l) k && yn (cQ t l) k) (cI t l) l) l.length (l.length + 1) (List.replicate l.length true)
 let e := iY t l d u
 let y := oX (cU false false e (cX (noL l.length)) (noL l.length) (cX (cQ t l)) l) l.length (l.length + 1) (List.replicate l.length true)
 let f := nK t l y
 ⟨d, u, e, y, f, oX (cU true true (noL l.length) (cX (noL l.length)) f (cX (cQ t l)) l) l.length (l.length + 1) (List.replicate l.length true)⟩
theorem bIM (t : Tm) (l : List Nd) : yG t l (bNT t l) :=
 ⟨mG (dP _ _ _ _ _ _ _), mG (dP _ _ _ _ _ _ _), rfl, mG (dP _ _ _ _ _ _ _), rfl, mG (dP _ _ _ _ _ _ _)⟩
end
section
open Go.RowKit
attribute [local irreducible] Row madeCells
end
section
open Go.RowKit
attribute [local irreducible] Row madeCells
end
section
open Go.RowKit
def eT (l : List Nd) : Nat → List Tm
 | 0 => []
 | k + 1 => if cG (nd l k).op && !(eT l k).contains (nd l k).tm then eT l k ++ [(nd l k).tm] else eT l k
theorem yN {l : List Nd} {k : Nat} {n : Nd} (h : l[k]? = some n) (h1 : cG n.op = true) (h2 : (eT l k).contains n.tm = false) : eT l (k + 1) = eT l k ++ [n.tm] := by (
 rw [eT, dJ h, h1, h2]; rfl)
theorem bBR {l : List Nd} {k : Nat} {n : Nd} (h : l[k]? = some n) (h1 : cG n.op = false) : eT l (k + 1) = eT l k := by (
 rw [eT, dJ h, h1]; rfl)
theorem vG {l : List Nd} {k : Nat} {n : Nd} (h : l[k]? = some n) (h2 : (eT l k).contains n.tm = true) : eT l (k + 1) = eT l k := by (
 rw [eT, dJ h, h2]; simp)
theorem nC (l : List Nd) : ∀ k, (eT l k).length ≤ k
 | 0 => by simp [eT]
 | k + 1 => by (
 have := nC l k
 rw [eT]
 split
 · rw [Vz]; simp; omega
 · omega)
end
section
open Go.RowKit
def bCV (l : List Nat) : List Value := l.map fun (j : Nat) => Value.int .i64 (Int.ofNat j)
theorem kB (l : List Nat) : (bCV l).length = l.length := Uj _
theorem tE (l : List Nat) (m : Nat) : bCV (l ++ [m]) = bCV l ++ [.int .i64 (m : Int)] := by rw [bCV, List.map_append]; rfl
structure iI (l : List Nd) (x : List Bool) (wk : List Nat) : Prop where
 under : iQ (eB l) l.length x
 zero : yn x 0 = true
 mem : ∀ j ∈ wk, yn x j = true
 shut : ∀ j, yn x j = true → j ∈ wk ∨ pB l x j
 len : wk.length ≤ cnt x
structure oQ (l : List Nd) (x : List Bool) (wk : List Nat) (k : Nat) (n : Nd) (i : Nat) : Prop where
 under : iQ (eB l) l.length x
 zero : yn x 0 = true
 mem : ∀ j ∈ wk, yn x j = true
 self : yn x k = true
 shut : ∀ j, yn x j = true → j ∈ wk ∨ j = k ∨ pB l x j
 len : wk.length + 1 ≤ cnt x
 way0 : 1 ≤ i → ∀ m : Nat, n.t = m → yn x m = true
 way1 : 2 ≤ i → ∀ m : Nat, n.e = m → yn x m = true
theorem iI.lt {l : List Nd} {x : List Bool} {wk : List Nat} (h : iI l x wk) {j : Nat} (hj : j ∈ wk) : j < l.length := by
 have h1 := h.mem j hj
 rcases Nat.lt_or_ge j x.length with h2 | h2
 ·rw [← h.under.1]; exact h2
 ·rw [zY h2] at h1; cases h1
theorem iI.start {l : List Nd} (hl : 1 ≤ l.length) : iI l ((List.replicate l.length false).set 0 true) [0] := by
 have h0 : yn ((List.replicate l.length false).set 0 true) 0 = true := by rw [cL _ _ _ _ Zh]; simp
 refine ⟨tW l hl, h0, fun j hj => ?_, fun j hj => ?_, ?_⟩
 ·simp at hj; subst hj; exact h0
 ·rw [cL _ _ _ _ Zh] at hj
  by_cases hj0 : j = 0
  ·subst hj0; exact .inl Zf
  ·rw [if_neg hj0] at hj
   simp [yn, Vy, List.getElem?_replicate] at hj
   split at hj <;> simp at hj
 ·exact bAX h0
theorem iI.done {l : List Nd} {x : List Bool} (h : iI l x []) : x = dO l := by
 refine sD (jX l) (rV h.under.1 h.zero fun j _ hy => ?_) h.under
 rcases h.shut j hy with h1 | h1
 ·cases h1
 ·exact h1
theorem iI.take {l : List Nd} {x : List Bool} {wk : List Nat} {k : Nat} (h : iI l x (wk ++ [k])) (n : Nd) : oQ l x wk k n 0 := by
 refine ⟨h.under, h.zero, fun j hj => h.mem j (by simp [hj]), h.mem k Zf, fun j hj => ?_, by have := h.len; simpa using this, fun h => absurd h Zb, fun h => absurd h Zb⟩
 rcases h.shut j hj with h1 | h1
 ·simp only [Um, List.mem_singleton] at h1
  rcases h1 with h1 | h1
  ·exact .inl h1
  ·exact .inr (.inl h1)
 ·exact .inr (.inr h1)
theorem bCA {l : List Nd} {x : List Bool} {j m : Nat} (hm : m < x.length) (h : pB l x j) : pB l (x.set m true) j := fun n hn q hq => eY hm (h n hn q hq)
theorem oQ.old {l : List Nd} {x : List Bool} {wk : List Nat} {k i m : Nat} {n : Nd} (h : oQ l x wk k n i) (hy : yn x m = true) (hi : (i = 0 ∧ n.t = m) ∨ (i = 1 ∧ n.e = m)) : oQ l x wk k n (i + 1) :=
 ⟨h.under, h.zero, h.mem, h.self, h.shut, h.len, fun _ q hq => by
  rcases hi with ⟨rfl, h1⟩ | ⟨rfl, h1⟩
  ·obtain rfl : q = m := Zb
   exact hy
  ·exact h.way0 Zb q hq, fun h2 q hq => by
  rcases hi with ⟨rfl, h1⟩ | ⟨rfl, h1⟩
  ·omega
  ·obtain rfl : q = m := Zb
   exact hy⟩
theorem oQ.new {l : List Nd} {x : List Bool} {wk : List Nat} {k i m : Nat} {n : Nd} (h : oQ l x wk k n i) (hk : l[k]? = some n) (hl : bU n m = true) (hm : m < l.length) (hy : yn x m = false) (hi : (i = 0 ∧ n.t = m) ∨ (i = 1 ∧ n.e = m)) :
  oQ l (x.set m true) (wk ++ [m]) k n (i + 1) := by
 have hxl : m < x.length := by rw [h.under.1]; exact hm
 have hyy : yn (x.set m true) m = true := by rw [cL _ _ _ _ hxl]; simp
 refine ⟨yM h.under h.self hk hl hm, eY hxl h.zero, fun j hj => ?_, eY hxl h.self, fun j hj => ?_, ?_, fun _ q hq => ?_, fun h2 q hq => ?_⟩
 ·simp only [Um, List.mem_singleton] at hj
  rcases hj with hj | rfl
  ·exact eY hxl (h.mem j hj)
  ·exact hyy
 ·rw [cL _ _ _ _ hxl] at hj
  by_cases hjm : j = m
  ·exact .inl (by simp [hjm])
  ·rw [if_neg hjm] at hj
   rcases h.shut j hj with h1 | h1 | h1
   ·exact .inl (by simp [h1])
   ·exact .inr (.inl h1)
   ·exact .inr (.inr (bCA hxl h1))
 ·rw [vB hxl hy]
  have := h.len
  simp
  omega
 ·rcases hi with ⟨rfl, h1⟩ | ⟨rfl, h1⟩
  ·obtain rfl : q = m := Zb
   exact hyy
  ·exact eY hxl (h.way0 Zb q hq)
 ·rcases hi with ⟨rfl, h1⟩ | ⟨rfl, h1⟩
  ·omega
  ·obtain rfl : q = m := Zb
   exact hyy
theorem oQ.end_ {l : List Nd} {x : List Bool} {wk : List Nat} {k i : Nat} {n : Nd} (h : oQ l x wk k n i) (hk : l[k]? = some n) (h0 : n.op ≠ 12 → 1 ≤ i) (h1 : n.op = 11 → 2 ≤ i) : iI l x wk := by
 refine ⟨h.under, h.zero, h.mem, fun j hj => ?_, by have := h.len; omega⟩
 rcases h.shut j hj with h2 | h2 | h2
 ·exact .inl h2
 ·subst h2
  refine .inr fun n2 hn q hq => ?_
  rw [hk] at hn
  injection hn with hn
  subst hn
  rcases dI hq with ⟨h3, h4⟩ | ⟨h3, h4⟩
  ·exact h.way0 (h0 h3) q h4.symm
  ·exact h.way1 (h1 h3) q h4.symm
 ·exact .inr h2
def xQ (l : List Nd) (x : List Bool) (wk : List Nat) : Nat := 2 * (l.length - cnt x) + wk.length
theorem bLQ (l : List Nd) (x : List Bool) (wk : List Nat) (k : Nat) : xQ l x wk + 1 = xQ l x (wk ++ [k]) := by simp [xQ]; omega
theorem oQ.todo_new {l : List Nd} {x : List Bool} {wk : List Nat} {k i m : Nat} {n : Nd} (h : oQ l x wk k n i) (hm : m < l.length) (hy : yn x m = false) : xQ l (x.set m true) (wk ++ [m]) + 1 = xQ l x wk := by
 have hxl : m < x.length := by rw [h.under.1]; exact hm
 have h1 := vB hxl hy
 have h2 := tM (x.set m true)
 rw [List.length_set, h.under.1] at h2
 simp only [xQ, Vz, V8]
 omega
theorem Row.pop {w : World} {B : Nat} {e : TypeId} {A : Option Addr} {n c : Nat} {xs : List Value} {u : Value} (h : Row w B e (.slice A n c) (xs ++ [u])) : Row w B e (.slice A xs.length c) xs := by
 rcases h with ⟨_, h⟩ | ⟨g, o, cap, cur, hv, hb, hh, h1, h2, h3, h4⟩
 ·simp at h
 ·injection hv with hA hn hc
  subst hA hc
  simp only [Vz, V8] at h1
  refine .inr ⟨g, o, c, cur, rfl, hb, hh, Zb, h2, h3, fun j x hj => h4 j x ?_⟩
  rw [Uk (List.getElem?_eq_some_iff.1 hj).1]
  exact hj
theorem Row.own {W W' : World} {row : Option Nat} {B : Nat} {e : TypeId} {v : Value} {xs : List Value} (h : Row W B e v xs) (hg : W.grownBy W' row) (hr : ∀ r, row = some r → ∃ o : Obj, W.heap[r]? = some o ∧ o.isCells = false) : Row W' B e v xs :=
 h.kept hg (by
  rcases h with ⟨rfl, _⟩ | ⟨g, o, cap, cur, rfl, _, hh, _⟩
  ·exact Jc
  ·refine .inr fun e => ?_
   obtain ⟨o2, h2, h3⟩ := hr g (by rw [← e]; rfl)
   rw [hh] at h2
   cases h2
   cases h3)
theorem bO.own {W W' : World} {row : Option Nat} {B : Nat} {e : TypeId} {v : Value} {xs : List Nd} (h : cO W B e v xs) (hg : W.grownBy W' row) (hr : ∀ r, row = some r → ∃ o : Obj, W.heap[r]? = some o ∧ o.isCells = false) : cO W' B e v xs :=
 h.kept hg (by
  rcases h.open with ⟨rfl, _⟩ | ⟨g, cap, cur, rfl, _, hh, _⟩
  ·exact Jc
  ·refine .inr fun e => ?_
   obtain ⟨o2, h2, h3⟩ := hr g (by rw [← e]; rfl)
   rw [hh] at h2
   cases h2
   cases h3)
theorem Blk.own {W W' : World} {row : Option Nat} {g : Nat} {t : TypeId} {cs : Array Value} (h : Blk W g t cs) (hg : W.grownBy W' row) (hr : ∀ r, row = some r → ∃ o : Obj, W.heap[r]? = some o ∧ o.isCells = false) : Blk W' g t cs :=
 h.grown hg (fun e => by
  obtain ⟨o2, h2, h3⟩ := hr g e
  unfold Blk at h
  rw [h] at h2
  cases h2
  cases h3)
theorem kR {W W' w : World} {row : Option Nat} {B D : Nat} (h : Below B w W) (hg : W.grownBy W' row) (hB : B ≤ W.heap.size) (hr : ∀ r, row = some r → D ≤ r) (hD : B ≤ D) : Below B w W' := h.grown hg hB fun k hk => by have := hr k hk; omega
theorem Row.keeps {W W' : World} {B : Nat} {e : TypeId} {v : Value} {xs : List Value} (h : Row W B e v xs) (hg : W.grownBy W' v.ownBlock) : KeepsOthers W W' :=
 KeepsOthers.of_grownBy hg fun j o e ho => by
  rcases h with ⟨rfl, _⟩ | ⟨g, o2, cap, cur, rfl, _, hh, _⟩
  ·cases e
  ·injection e with e
   subst e
   rw [hh] at ho
   cases ho
   rfl
theorem bO.keeps {W W' : World} {B : Nat} {e : TypeId} {v : Value} {xs : List Nd} (h : cO W B e v xs) (hg : W.grownBy W' v.ownBlock) : KeepsOthers W W' :=
 KeepsOthers.of_grownBy hg fun j o e ho => by
  rcases h.open with ⟨rfl, _⟩ | ⟨g, cap, cur, rfl, _, hh, _⟩
  ·cases e
  ·injection e with e
   subst e
   rw [hh] at ho
   cases ho
   rfl
end
section
open Go.RowKit Go.Maps
def bAN (k : Nat) : Lit := .int .i64 (k : Int)
theorem bIK {j k : Nat} (h : j ≠ k) : bAN j ≠ bAN k := by (
 unfold bAN
 intro e
 injection e with e1 e2
 omega)
def mQ (x : List Bool) : Nat → DataW Unit
 | 0 => .map []
 | k + 1 => if yn x k = true then (mQ x k).put (bAN k) (.lit (.int .i64 (rk x k))) else mQ x k
theorem bAK (x : List Bool) : ∀ k, IsMap (mQ x k)
 | 0 => isMap_empty
 | k + 1 => by (
 unfold mQ
 split
 · exact (bAK x k).put _ _
 · exact bAK x k)
theorem pJ {x : List Bool} {k : Nat} (h : yn x k = true) : mQ x (k + 1) = (mQ x k).put (bAN k) (.lit (.int .i64 (rk x k))) := by rw [mQ, if_pos h]
theorem vA {x : List Bool} {k : Nat} (h : yn x k = false) : mQ x (k + 1) = mQ x k := by rw [mQ, if_neg Xi]
theorem wC (x : List Bool) : ∀ (k j : Nat), k ≤ j → Maps.has (mQ x k) (bAN j) = false
 | 0, j, _ => rfl
 | k + 1, j, h => by (
 cases hy : yn x k with
 | true => rw [pJ hy, has_put_other (bIK Zb)]; exact wC x k j Zb
 | false => rw [vA hy]; exact wC x k j Zb)
theorem bAL (x : List Bool) (z : DataW Unit) : ∀ (k j : Nat), j < k → yn x j = true → (mQ x k).atKey (bAN j) z = .lit (.int .i64 (rk x j))
 | 0, j, h, _ => absurd h (Nat.not_lt_zero _)
 | k + 1, j, h, hy => by (
 by_cases hjk : j = k
 · (
 subst hjk
 rw [pJ hy]
 exact atKey_put_same (bAK x j) (by unfold bAN; trivial) _ _)
 · (
 cases hk : yn x k with
 | true => rw [pJ hk, atKey_put_other (bIK hjk)]; exact bAL x z k j Zb hy
 | false => rw [vA hk]; exact bAL x z k j Zb hy))
theorem pK {x : List Bool} {k : Nat} (ht : Tidy (mQ x k)) (h : Maps.size (mQ x k) = rk x k) : Maps.size (mQ x (k + 1)) = rk x (k + 1) := by (
 cases hk : yn x k with
 | true => rw [pJ hk, vT hk, size_put ht, h, wC x k k (Nat.le_refl _)]; simp
 | false => rw [vA hk, bMK hk]; exact h)
theorem uE {W W' : World} {row : Option Nat} {P : Program} {k : TypeId} {R : Value → Option (DataW Unit × List MemPlace)} {b m : Nat} {D : DataW Unit} (h : W.ownsMap P k R b m D) (hg : W.grownBy W' row) (hr : row ≠ some b) : W'.ownsMap P k R b m D := by (
 obtain ⟨es, clock, hb, F, r⟩ := h
 exact ⟨es, clock, (hg.block b (cJ hb) (fun e => hr e.symm)).trans hb, F, r⟩)
theorem xV {W W' : World} {P : Program} {k : TypeId} {R : Value → Option (DataW Unit × List MemPlace)} {b m : Nat} {D : DataW Unit} (h : W.ownsMap P k R b m D) (hb : Below W.heap.size W W') : W'.ownsMap P k R b m D := by (
 obtain ⟨es, clock, hh, F, r⟩ := h
 exact ⟨es, clock, (hb.block b (cJ hh)).trans hh, F, r⟩)
theorem vX {W : World} {P : Program} {k : TypeId} {R : Value → Option (DataW Unit × List MemPlace)} {b m g : Nat} {D : DataW Unit} {t : TypeId} {cs : Array Value} (h : W.ownsMap P k R b m D) (hg : Blk W g t cs) : b ≠ g := by (
 obtain ⟨es, clock, hh, F, r⟩ := h
 rintro rfl
 unfold Blk at hg
 rw [hh] at hg
 cases hg)
theorem bCO {W : World} {P : Program} {k : TypeId} {R : Value → Option (DataW Unit × List MemPlace)} {b m : Nat} {D : DataW Unit} (h : W.ownsMap P k R b m D) (p : Addr) (u : Value) : (W.setCell p u).ownsMap P k R b m D := by (
 obtain ⟨es, clock, hh, F, r⟩ := h
 refine ⟨es, clock, (KeepsOthers.setCell W p u).same b _ hh rfl, F, r⟩)
theorem bFX {W : World} {B g m : Nat} {D : DataW Unit} {P : Program} {k : TypeId} {R : Value → Option (DataW Unit × List MemPlace)} {e : TypeId} {v : Value} {xs : List Value} (h : Row W B e v xs) (hm : W.ownsMap P k R g m D) : v.ownBlock ≠ some g := by (
 rcases h with ⟨rfl, _⟩ | ⟨g', o, cap, cur, rfl, _, hh, _⟩
 · exact Jb
 · (
 intro he
 simp [Value.ownBlock] at he
 subst he
 exact vX (t := e) (cs := cur) hm Xw rfl))
theorem bCP {W : World} {B g m : Nat} {D : DataW Unit} {P : Program} {k : TypeId} {R : Value → Option (DataW Unit × List MemPlace)} {e : TypeId} {v : Value} {xs : List Nd} (h : cO W B e v xs) (hm : W.ownsMap P k R g m D) : v.ownBlock ≠ some g := by (
 rcases h.open with ⟨rfl, _⟩ | ⟨g', cap, cur, rfl, _, hh, _⟩
 · exact Jb
 · (
 intro he
 simp [Value.ownBlock] at he
 subst he
 exact vX (t := e) (cs := cur) hm Xw rfl))
end
section
open Go.RowKit
theorem Yz {P : Prop} (h : P := by (
 rw [Oper.semAt_eq _ _ _ (by rw [ho]; intro c hc'; cases hc')]
 simp [execOp, ho, resolve, invoke, builtin, hs, hx, hrun, Result.andThen]
 exact h v' w' h2 h3 h4)) : P := h
def eJ (B : Nat) : Nat → List Deferred → World → Prop
 | _, [], _ => True
 | S, d :: ds, w => ∃ D, d = { target := .collected D, args := #[] } ∧ B ≤ D ∧ D < S ∧ w.heap[D]? = some (.deferred (some [])) ∧ eJ B D ds w
theorem eJ.mono {B : Nat} : ∀ {ds : List Deferred} {S S' : Nat} {w : World}, eJ B S ds w → S ≤ S' → eJ B S' ds w
 | [], _, _, _, _, _ => trivial
 | d :: ds, S, S', w, ⟨D, h1, h2, h3, h4, h5⟩, h => ⟨D, h1, h2, V6 h3 h, h4, h5⟩
theorem eJ.of_heap {B : Nat} : ∀ {ds : List Deferred} {S : Nat} {w w' : World}, eJ B S ds w → (∀ k, k < S → w.heap[k]? = some (.deferred (some [])) → w'.heap[k]? = some (.deferred (some []))) → eJ B S ds w'
 | [], _, _, _, _, _ => trivial
 | d :: ds, S, w, w', ⟨D, h1, h2, h3, h4, h5⟩, h => ⟨D, h1, h2, h3, h D h3 h4, h5.of_heap fun k hk => h k (Nat.lt_trans hk h3)⟩
theorem eJ.keeps {B S : Nat} {ds : List Deferred} {w w' : World} (h : eJ B S ds w) (hk : KeepsOthers w w') : eJ B S ds w' := h.of_heap fun k _ e => hk.same k _ e rfl
theorem eJ.below {B S : Nat} {ds : List Deferred} {w w' : World} (h : eJ B S ds w) (hb : Below w.heap.size w w') : eJ B S ds w' := h.of_heap fun k _ e => (hb.block k (cJ e)).trans e
theorem eJ.own {B S : Nat} {ds : List Deferred} {w w' : World} {row : Option Nat} (h : eJ B S ds w) (hg : w.grownBy w' row) (hr : ∀ r, row = some r → S ≤ r) : eJ B S ds w' :=
 h.of_heap fun k hk e => (hg.block k (cJ e) fun e2 => by have := hr k e2.symm; omega).trans e
theorem eJ.put {B S D : Nat} {ds : List Deferred} {w : World} (h : eJ B S ds w) (o : Obj) (hD : S ≤ D) : eJ B S ds (w.putObj D o) := h.of_heap fun k hk e => (World.putObj_heap_other Zb).trans e
theorem eJ.add {B S D : Nat} {ds : List Deferred} {w : World} (h : eJ B S ds w) (hD : S ≤ D) (hB : B ≤ D) (hd : w.heap[D]? = some (.deferred (some []))) : eJ B w.heap.size ({ target := .collected D, args := #[] } :: ds) w :=
 ⟨D, rfl, hB, cJ hd, hd, h.mono hD⟩
theorem iU {P : Program} {n : Nat} {fn : Func} {tmps : Array Value} {R : Ending → World → Prop} {B : Nat} (I : World → Prop)
 (hp : ∀ W D, I W → B ≤ D → W.heap[D]? = some (.deferred (some [])) → I (W.putObj D (.deferred none))) (he : ∀ W, I W → ∃ v, (results fn tmps).run P W = .ok v W ∧ R (.returned v) W) :
 ∀ (ds : List Deferred) (S : Nat) (W : World), eJ B S ds W → I W → LeavesInM Fence.wide n P fn tmps R ds .returning W
| [], S, W, _, hI => he W hI
| d :: ds, S, W, ⟨D, h1, h2, h3, h4, h5⟩, hI => by (
 refine ⟨Zf, .inl ⟨D, W.putObj D (.deferred none), by rw [h1], run_takeDeferred h4, ?_⟩⟩
 exact iU I hp he ds D _ (h5.put _ (Nat.le_refl _)) (hp W D hI h2 h4))
theorem pO {P : Program} {f : FuncId} {fn : Func} {c : Code} {args : Array Value} {w : World} {R : Ending → World → Prop} (hf : P.funcs[f]? = some fn) (hb : fn.body = some c)
 (h : c.wp P (bodyPostM Fence.wide 4 P fn R) { tmps := args ++ Array.replicate (fn.ntmps - args.size) undef, defers := [] } w) : Calls P f args w R :=
 callsIn_wide.1 (callsIn_of_wp_marks (n:= 4) hf hb trivial (wpIn_wide.2 h))
theorem eW {W : World} {D : Nat} (o : Obj) : W.grownBy (W.putObj D o) (some D) := grownBy_putObj' W D o
theorem iB {F : Fence} {n : Nat} {P : Program} {c : Code} {Q : Exit → Act → World → Prop} {a : Act} {w : World} (A : Act) (W : World) (h : c.wpIn F n P (fun e a' w' => e = .normal ∧ a' = A ∧ w' = W) a w) (hq : Q .normal A W) : c.wpIn F n P Q a w :=
 wpIn_mono h fun e a' w' ⟨h1, h2, h3⟩ => by subst h1 h2 h3; exact hq
theorem rR {F : Fence} {n : Nat} {P : Program} {e : TypeId} {v : Value} {xs : List Value} {w : World} {base : Nat} {ops : Array Oper} {o : Oper} {a : Act} {K : Act → World → Prop} {Q : Exit → Act → World → Prop} {E : Prop} (hgd : o.guard = none) (s x : Operand) (t : TypeId)
 (ho : o.op = .call { callee := .builtin .append, args := #[s, x], argTypes := #[t, t] })
 (i : TypeInfo) (z : Value) (bytes : Nat) (ht : P.underlying t = some (.slice e)) (hi : P.info? e = some i) (hz : i.zero = some z)
 (hsize : i.size = 1) (hby : i.bytes = bytes) (hzs : z.cells.size = 1) (hs : a.eval s = v) (hr : Row w base e v xs) (A : Option Addr) (m c : Nat) (news : List Value) (hx : a.eval x = .slice A m c)
 (hnl : m = news.length) (hn : bG w A news)
 (h1 : ∀ u ∈ news, u.oneCell' = true) (h63 : xs.length + news.length ≤ maxLen) (hbytes : (xs.length + news.length) * bytes ≤ 140737488355328) (hbase : base ≤ w.heap.size)
 (h : ∀ v' w', Row w' base e v' (xs ++ news) → w.grownBy w' v.ownBlock → (v'.ownBlock = v.ownBlock ∨ ∀ k, v'.ownBlock = some k → w.heap.size ≤ k) → K (a.put o.dst v') w') :
 if Region.wanted o (yielded ops a.tmps) = true then Oper.wpIn F n P o a w K Q else E := by (
 have hw : Region.wanted o (yielded ops a.tmps) = true := by simp [Region.wanted, hgd]
 rw [if_pos hw]
 subst hnl
 obtain ⟨v', w', hrun, h2, h3, h4⟩ := pE (P := P) t o.type i z bytes ht hi hz hsize hby hzs hr A c news hn h1 h63 hbytes hbase
 unfold Oper.wpIn
 refine ⟨?_, ?_⟩
 · simp [Oper.about, ho, resolve, Target.leads, Sem.run_pure]
 · exact Yz)
theorem kL {F : Fence} {n : Nat} {P : Program} {e : TypeId} {v : Value} {l : List Nd} {w : World} {base : Nat} {ops : Array Oper} {o : Oper} {a : Act} {K : Act → World → Prop} {Q : Exit → Act → World → Prop} {E : Prop} (hgd : o.guard = none) (s x : Operand) (t : TypeId)
 (ho : o.op = .call { callee := .builtin .append, args := #[s, x], argTypes := #[t, t] })
 (i : TypeInfo) (z : Value) (bytes : Nat) (ht : P.underlying t = some (.slice e)) (hi : P.info? e = some i) (hz : i.zero = some z)
 (hsize : i.size = 6) (hby : i.bytes = bytes) (hzs : z.cells.size = 6) (hs : a.eval s = v) (hr : cO w base e v l) (A : Option Addr) (m c : Nat) (news : List Nd) (hx : a.eval x = .slice A m c)
 (hnl : m = news.length) (hn : bH w A news)
 (h63 : l.length + news.length ≤ maxLen) (hbytes : (l.length + news.length) * bytes ≤ 140737488355328) (hbase : base ≤ w.heap.size)
 (h : ∀ v' w', cO w' base e v' (l ++ news) → w.grownBy w' v.ownBlock → (v'.ownBlock = v.ownBlock ∨ ∀ k, v'.ownBlock = some k → w.heap.size ≤ k) → K (a.put o.dst v') w') :
 if Region.wanted o (yielded ops a.tmps) = true then Oper.wpIn F n P o a w K Q else E := by (
 have hw : Region.wanted o (yielded ops a.tmps) = true := by simp [Region.wanted, hgd]
 rw [if_pos hw]
 subst hnl
 obtain ⟨v', w', hrun, h2, h3, h4⟩ := rT (P := P) t o.type i z bytes ht hi hz hsize hby hzs hr A c news hn h63 hbytes hbase
 unfold Oper.wpIn
 refine ⟨?_, ?_⟩
 · simp [Oper.about, ho, resolve, Target.leads, Sem.run_pure]
 · exact Yz)
def bGE (R : Act → World → Prop) : Exit → Act → World → Prop
 | .normal, a, w => R a w
 | _, _, _ => False
theorem bIX {P : Program} {c : Code} {Q : Exit → Act → World → Prop} {a : Act} {w : World} (R : Act → World → Prop) (h : c.wp P (bGE R) a w) (hq : ∀ a' w', R a' w' → Q .normal a' w') : c.wp P Q a w :=
 wp_mono h fun e a' w' hr => by cases e <;> first | exact hq _ _ hr | exact hr.elim
end
section
open Go.RowKit Go.Shelf
attribute [local go_sem] Oper.semAt_some
def fM (op : Int) : Nat := if op = 12 then 0 else if op = 11 then 2 else 1
theorem qE (p : Option Addr) (w : World) : Calls prog 65 #[.pointer p] w fun e w' => e = .returned (.func (.func 95) #[] #[.pointer (some ⟨w.heap.size, 0, none⟩)]) ∧ w' = w.alloc (.cells #[.pointer p] 96) := by (
 go_enter func65, ntmps65
 go_wp2
 go_ret
 exact ⟨rfl, rfl⟩)
theorem bKL (F : Fence) (n : Nat) (hf : F.fn 95) (hro : F.round = none) (hn : 1 ≤ n) (l gb b : Nat) (op : Int) (J : Nat → World → Prop)
 (hc : ∀ i W, J i W → W.cell? ⟨gb, 0, none⟩ = some (.pointer (some ⟨b, 0, none⟩)) ∧ W.cell? ⟨b, 0, none⟩ = some (.int .i64 op))
 (y0 : op ≠ 12 → ∀ W, J 0 W → YieldAt F (n - 1) prog l #[.pointer (some ⟨b, 4, none⟩)] W fun e W' => e = .returned (.bool true) ∧ J 1 W')
 (y1 : op = 11 → ∀ W, J 1 W → YieldAt F (n - 1) prog l #[.pointer (some ⟨b, 5, none⟩)] W fun e W' => e = .returned (.bool true) ∧ J 2 W')
 (W : World) (h0 : J 0 W) :
 CallsIn F n prog 95 #[.func (.yield l) #[] #[], .pointer (some ⟨gb, 0, none⟩)] W fun e W' => (∃ v, e = .returned v) ∧ J (fM op) W' := by (
 have hJ := hc 0 W h0
 obtain ⟨c0, c1⟩ := hJ
 refine callsIn_of_wp func95 rfl hf ?_ hro
 simp only [ntmps95, List.size_toArray, List.length_cons, List.length_nil, Nat.reduceAdd, Nat.reduceSub, Array.replicate_succ, Array.replicate_zero, List.push_toArray, List.append_toArray, List.nil_append, List.cons_append]
 by_cases h12 : op = 12
 · (
 have he : fM op = 0 := by simp [fM, h12]
 have He : Hid (fM op = 0) := he
 clear he y0 y1 hc
 have q12 : (op == 12) = true := by simp [h12]
 clear h12
 gi_wp2
 refine ⟨fun _ h => (by cases h), ?_⟩
 gi_wp2
 refine bodyPost_ret (results_none rfl _ _ _) rfl ?_
 exact ⟨⟨_, rfl⟩, by rw [He.o]; exact h0⟩)
 · (
 have q12 : (op == 12) = false := by simp [h12]
 obtain ⟨fn, tmps, assign, body, hy, hR⟩ := y0 h12 W h0
 by_cases h11 : op = 11
 · (
 have q11 : (op == 11) = true := by simp [h11]
 have he : fM op = 2 := by simp [fM, h11]
 have He : Hid (fM op = 2) := he
 have Y1 : Hid (∀ W, J 1 W → YieldAt F (n - 1) prog l #[.pointer (some ⟨b, 5, none⟩)] W fun e W' => e = .returned (.bool true) ∧ J 2 W') := y1 h11
 have Hc : Hid (∀ i W, J i W → W.cell? ⟨gb, 0, none⟩ = some (.pointer (some ⟨b, 0, none⟩)) ∧ W.cell? ⟨b, 0, none⟩ = some (.int .i64 op)) := hc
 clear he h12 h11 y0 y1 hc
 gi_wp2
 refine hR.mono ?_
 rintro e W1 ⟨rfl, hJ1⟩
 obtain ⟨d0, d1⟩ := Hc.o 1 W1 hJ1
 obtain ⟨fn', tmps', assign', body', hy', hR'⟩ := Y1.out W1 hJ1
 clear hy hR c0 c1
 gi_wp2
 refine hR'.mono ?_
 rintro e W2 ⟨rfl, hJ2⟩
 gi_wp2
 go_end0
 exact ⟨⟨_, rfl⟩, by rw [He.o]; exact hJ2⟩)
 · (
 have q11 : (op == 11) = false := by simp [h11]
 have he : fM op = 1 := by simp [fM, h12, h11]
 have He : Hid (fM op = 1) := he
 have Hc : Hid (∀ i W, J i W → W.cell? ⟨gb, 0, none⟩ = some (.pointer (some ⟨b, 0, none⟩)) ∧ W.cell? ⟨b, 0, none⟩ = some (.int .i64 op)) := hc
 clear he h12 h11 y0 y1 hc
 gi_wp2
 refine hR.mono ?_
 rintro e W1 ⟨rfl, hJ1⟩
 obtain ⟨d0, d1⟩ := Hc.o 1 W1 hJ1
 clear hy hR c0 c1
 gi_wp2
 go_end0
 exact ⟨⟨_, rfl⟩, by rw [He.o]; exact hJ1⟩)))
def bMJ (B : Nat) (J : World → Prop) (W : World) : Exit → Act → World → Prop
 | .normal, _, W' => KeepsFrom B W W' ∧ J W'
 | _, _, _ => False
theorem iR {g : Operand} {p : Tmp} {assign body : Code} {Q : Exit → Act → World → Prop} {a : Act} {w : World} (gb b : Nat) (op : Int)
 (hg : a.eval g = .func (.func 95) #[] #[.pointer (some ⟨gb, 0, none⟩)])
 (I : Nat → World → Prop) (hI : OwnFrom w.heap.size I)
 (hc : ∀ i W, I i W → W.cell? ⟨gb, 0, none⟩ = some (.pointer (some ⟨b, 0, none⟩)) ∧ W.cell? ⟨b, 0, none⟩ = some (.int .i64 op))
 (h0 : I 0 w)
 (hbody : ∀ (l i : Nat), (i = 0 ∧ op ≠ 12 ∨ i = 1 ∧ op = 11) → ∃ a₁ : Act, (∀ (W : World) (K : Act → World → Prop), K a₁ W → assign.wpIn (Fence.wide.inRound l) 2 prog (Exit.then K (fun _ _ _ => False)) { tmps := a.tmps.setIfInBounds p (.pointer (some ⟨b, 4 + i, none⟩)), defers := [] } W) ∧
  ∀ W, I i W → body.wpIn (Fence.wide.inRound l) 2 prog (bMJ w.heap.size (I (i + 1)) W) a₁ W)
 (hdone : ∀ (D : Nat) (W : World), w.heap.size ≤ D → I (fM op) W → W.heap[D]? = some (.deferred (some [])) → Q .normal { a with defers := { target := .collected D, args := #[] } :: a.defers } W) :
 (Code.rangeFunc g #[p] assign body).wp prog Q a w := by (
 refine (wpIn_wide (n := 4)).1 (wpIn_rangeFunc fun fn hfn => ?_)
 obtain ⟨mk, hmk⟩ := Exq (fun st pe => { state := st, pending := pe, fn, tmps := a.tmps, params := #[p], assign, body, defers := w.heap.size } : LoopState → Option Code → Loop)
 -- the world with the two blocks of the loop's own
 obtain ⟨V, hV⟩ : ∃ V, (w.alloc (.deferred (some []))).alloc (.loop (mk .ready none)) = V := ⟨_, rfl⟩
 have lV : V.heap[w.heap.size + 1]? = some (.loop (mk .ready none)) := by (
 rw [← hV]; have := World.alloc_heap_new (w.alloc (.deferred (some []))) (.loop (mk .ready none)); rwa [World.size_alloc] at this)
 have dV : V.heap[w.heap.size]? = some (.deferred (some [])) := by (
 rw [← hV]; exact (Below.heap_alloc _ _ _ Zf).trans (World.alloc_heap_new w _))
 have iV : I 0 V := by rw [← hV]; exact hI.alloc _ (hI.alloc _ h0)
 -- what holds between two rounds
 let J : Nat → World → Prop := fun i W => I i W ∧ W.heap[w.heap.size + 1]? = some (.loop (mk .ready none)) ∧ W.heap[w.heap.size]? = some (.deferred (some []))
 have round : ∀ (i : Nat) (W : World), (i = 0 ∧ op ≠ 12 ∨ i = 1 ∧ op = 11) → J i W → YieldAt Fence.wide 2 prog (w.heap.size + 1) #[.pointer (some ⟨b, 4 + i, none⟩)] W fun e W' => e = .returned (.bool true) ∧ J (i + 1) W' := by (
 rintro i W hi ⟨hw, hl, hd⟩
 have hlt : w.heap.size + 1 < W.heap.size := (Array.getElem?_eq_some_iff.1 hl).1
 have hy := run_yield (P := prog) (args := #[.pointer (some ⟨b, 4 + i, none⟩)]) hl (by rw [hmk]; rfl)
 rw [hmk] at hy
 have hy' : (Instr.yield (w.heap.size + 1) #[.pointer (some ⟨b, 4 + i, none⟩)]).run prog W = .ok (.round (w.heap.size + 1) fn (a.tmps.setIfInBounds p (.pointer (some ⟨b, 4 + i, none⟩))) assign body) W := by (
 have hz : ((#[p] : Array Tmp).zip (#[.pointer (some ⟨b, 4 + i, none⟩)] : Array Value)).foldl (fun tmps (t, v) => tmps.setIfInBounds t v) a.tmps = a.tmps.setIfInBounds p (.pointer (some ⟨b, 4 + i, none⟩)) := Zf
 rw [← hz]
 exact hy)
 obtain ⟨a₁, hassign, hbd⟩ := hbody (w.heap.size + 1) i hi
 refine ⟨fn, _, assign, body, hy', roundIn_of_wpIn hfn (hassign W _ ⟨_, run_beginRound hl (by rw [hmk]), ?_⟩)⟩
 obtain ⟨W1, hW1⟩ := Exq (W.putObj (w.heap.size + 1) (.loop { mk .ready none with state := .busy }))
 rw [← hW1]
 have hl1 : W1.heap[w.heap.size + 1]? = some (.loop { mk .ready none with state := .busy }) := by rw [hW1]; exact World.putObj_heap_same hlt
 have hd1 : W1.heap[w.heap.size]? = some (.deferred (some [])) := by rw [hW1]; exact (World.putObj_heap_other Zb).trans hd
 have hw1 : I i W1 := by rw [hW1]; exact hI.putObj _ hw Zb hl rfl
 refine wpIn_mono (hbd W1 hw1) ?_
 rintro e a3 W3 hp
 cases e with
 | normal =>
  obtain ⟨hk, hn⟩ := hp
  have hl3 := hk.same _ _ Zb hl1 rfl
  have hd3 := hk.same _ _ (Nat.le_refl _) hd1 rfl
  have hr := run_endRound (P := prog) none hl3
  refine ⟨_, _, hr, rfl, hI.putObj _ hn Zb hl3 rfl, ?_, (World.putObj_heap_other Zb).trans hd3⟩
  rw [World.putObj_heap_same (Array.getElem?_eq_some_iff.1 hl3).1, hmk]
  rfl
 | ret => exact hp.elim
 | exit id => exact hp.elim
 | goto t => exact hp.elim
 | panic ch => exact hp.elim
 | outgrown => exact hp.elim)
 refine ⟨w.heap.size + 1, [{ target := .collected w.heap.size, args := #[] }], V, { target := .fn (.func 95) #[.pointer (some ⟨gb, 0, none⟩)], args := #[.func (.yield (w.heap.size + 1)) #[] #[]] }, V, 95,
  #[.func (.yield (w.heap.size + 1)) #[] #[], .pointer (some ⟨gb, 0, none⟩)], V, ?_, ?_, fun _ _ => trivial, ?_, fun _ => by omega, ?_⟩
 · rw [← hV, hmk]; exact run_enterLoop_outer _ _ _ _ _
 · (
 simp only [resolve, hg]
 simp [go_sem])
 · (
 have he := enters_of func95 Zc rfl
 simp [invoke, go_sem, he])
 · (
 refine (bKL Fence.wide 3 trivial rfl Zb (w.heap.size + 1) gb b op J (fun i W h => hc i W h.1) (fun h W hj => round 0 W (.inl ⟨rfl, h⟩) hj) (fun h W hj => round 1 W (.inr ⟨rfl, h⟩) hj) V (And.intro iV (And.intro lV dV))).mono ?_
 rintro e W2 ⟨⟨v, rfl⟩, hw, hl, hd⟩
 have hend := run_endLoop (P := prog) hl (by rw [hmk]; simp)
 have hpe : (mk .ready none).pending = none := by rw [hmk]
 rw [hpe] at hend
 refine ⟨none, _, hend, ?_⟩
 exact hdone _ _ (Nat.le_refl _) (hI.putObj _ hw Zb hl rfl) ((World.putObj_heap_other Zb).trans hd)))
end
section
open Go.RowKit
def sR (l : List Nd) (k m : Nat) : Nat := (sel (fO l m) k).length
theorem bLH (l : List Nd) (m : Nat) : sR l l.length m = eE l m := by simp [sR, eE]
theorem bOX (l : List Nd) (k m : Nat) : sR l k m ≤ k := kP _ _
def qL (n : Nd) (i m : Nat) : Nat := (if 1 ≤ i ∧ n.t = (m : Int) then 1 else 0) + (if 2 ≤ i ∧ n.e = (m : Int) ∧ n.e ≠ n.t then 1 else 0)
theorem bIY (n : Nd) (m : Nat) : qL n 0 m = 0 := by simp [qL]
theorem bIZ {l : List Nd} {k : Nat} {n : Nd} (h : l[k]? = some n) (m : Nat) : sR l (k + 1) m = sR l k m + qL n (fM n.op) m := by (
 have hp : fO l m k = bU n m := kS h
 have hw : qL n (fM n.op) m = if bU n m = true then 1 else 0 := by (
 unfold qL fM bU
 by_cases h12 : n.op = 12
 · simp [h12]
 · (
 by_cases h11 : n.op = 11
 · (
 by_cases ht : n.t = (m : Int)
 · (
 by_cases he : n.e = (m : Int)
 · simp [h11, ht, he]
 · simp [h11, ht, he])
 · (
 by_cases he : n.e = (m : Int)
 · (
 have : n.e ≠ n.t := Zb
 simp [h11, ht, he]
 omega)
 · simp [h11, ht, he]))
 · (
 by_cases ht : n.t = (m : Int)
 · simp [h12, h11, ht]
 · simp [h12, h11, ht])))
 unfold sR
 rw [hw]
 cases hl : bU n m with
 | true => rw [iC (hp.trans hl)]; simp
 | false => rw [gF (hp.trans hl)]; simp)
def lK (n : Nd) (i : Nat) : Int := if i = 0 then 0 else if i = 1 then n.t else n.e
theorem bLF {n : Nd} {i mm : Nat} (h : (i = 0 ∧ n.t = mm) ∨ (i = 1 ∧ n.e = mm)) (hm : 1 ≤ mm) (hl : (mm : Int) ≠ lK n i) (m : Nat) : qL n (i + 1) m = qL n i m + (if m = mm then 1 else 0) := by (
 rcases h with ⟨rfl, h⟩ | ⟨rfl, h⟩
 · (
 unfold qL
 rw [h]
 by_cases hmm : m = mm
 · subst hmm; simp
 · (
 have : ¬ ((mm : Int) = (m : Int)) := Zb
 simp [hmm, this]))
 · (
 unfold qL lK at *
 simp only [Nat.one_ne_zero, ↓reduceIte] at hl
 rw [h]
 by_cases hmm : m = mm
 · (
 subst hmm
 simp [hl])
 · (
 have : ¬ ((mm : Int) = (m : Int)) := Zb
 simp [hmm, this])))
theorem bLE {n : Nd} {i mm : Nat} (h : (i = 0 ∧ n.t = mm) ∨ (i = 1 ∧ n.e = mm)) (hm : 1 ≤ mm) (hl : (mm : Int) = lK n i) (m : Nat) : qL n (i + 1) m = qL n i m := by (
 rcases h with ⟨rfl, h⟩ | ⟨rfl, h⟩
 · (
 unfold lK at hl
 simp at hl
 omega)
 · (
 unfold qL lK at *
 simp only [Nat.one_ne_zero, ↓reduceIte] at hl
 have : n.e = n.t := Zb
 simp [this]))
theorem uH {n : Nd} {i mm : Nat} (h : (i = 0 ∧ n.t = mm) ∨ (i = 1 ∧ n.e = mm)) : lK n (i + 1) = mm := by (
 rcases h with ⟨rfl, h⟩ | ⟨rfl, h⟩ <;> simp [lK, h])
theorem bOW (n : Nd) (i m : Nat) : qL n i m ≤ 2 := by unfold qL; split <;> split <;> omega
end
section
open Go.RowKit
theorem Y0 {P : Prop} (h : P := by (
 rcases n with ⟨op, d, a, b, t, e⟩
 simp only at *
 simp [fS, cF, dB, bY, fF, fU, dM, hw, het, h11, hwe])) : P := h
def fS (l : List Nd) (n : Nd) (N : Nat) : Nat → Nd
 | 0 => n
 | 1 => { n with t := if 2 ≤ eE l n.t then (N : Int) else n.t }
 | _ => { n with t := if 2 ≤ eE l n.t then (N : Int) else n.t, e := if n.e = n.t then (if 2 ≤ eE l n.t then (N : Int) else n.t) else if 2 ≤ eE l n.e then ((N + (dM l n).length : Nat) : Int) else n.e }
def cF (l : List Nd) (n : Nd) : Nat → List Nd
 | 0 => []
 | 1 => dM l n
 | _ => dM l n ++ (if n.e ≠ n.t ∧ 2 ≤ eE l n.e then [cM n.e] else [])
theorem bOV (l : List Nd) (n : Nd) (N i : Nat) : (fS l n N i).op = n.op := by (
 rcases i with _ | _ | i <;> rfl)
theorem bBZ (l : List Nd) (n : Nd) (i : Nat) : (cF l n i).length ≤ 2 := by (
 have := vN l n
 rcases i with _ | _ | i
 · simp [cF]
 · simp only [cF]; omega
 · simp only [cF, Vz]; split <;> simp <;> omega)
theorem bPM {l : List Nd} {n : Nd} {k : Nat} {out : List Nd} (h0 : n.op ≠ 0) (hk : out[k]? = some n) : cY l k n out = out.set k (fS l n out.length (fM n.op)) ++ cF l n (fM n.op) := by (
 have hko : k < out.length := (List.getElem?_eq_some_iff.1 hk).1
 by_cases h12 : n.op = 12
 · (
 rw [gE (.inr h12)]
 simp [fM, h12, fS, cF, rS hk])
 · (
 rw [pA hko h0 h12]
 by_cases h11 : n.op = 11
 · (
 have he : fM n.op = 2 := by simp [fM, h11]
 rw [he]
 by_cases hw : 2 ≤ eE l n.t
 · (
 by_cases het : n.e = n.t
 · simp [fS, cF, dB, bY, fF, fU, hw, het, h11]
 · (
 by_cases hwe : 2 ≤ eE l n.e
 · simp [fS, cF, dB, bY, fF, fU, hw, het, h11, hwe]
 · simp [fS, cF, dB, bY, fF, fU, hw, het, h11, hwe]))
 · (
 by_cases het : n.e = n.t
 · (
 rcases n with ⟨op, d, a, b, t, e⟩
 simp only at *
 subst het
 simp [fS, cF, dB, bY, fF, fU, dM, hw, h11])
 · (
 by_cases hwe : 2 ≤ eE l n.e
 · exact Y0
 · exact Y0)))
 · (
 have he : fM n.op = 1 := by simp [fM, h12, h11]
 rw [he]
 by_cases hw : 2 ≤ eE l n.t
 · simp [fS, cF, dB, bY, fF, fU, hw, h11]
 · simp [fS, cF, dB, bY, fF, fU, hw, h11])))
theorem bGG {l : List Nd} {n : Nd} {N : Nat} (h : 2 ≤ eE l n.t) : fS l n N 1 = n.put 4 N ∧ cF l n 1 = cF l n 0 ++ [cM n.t] := by (
 simp [fS, cF, dM, h, Nd.put])
theorem bJV {l : List Nd} {n : Nd} {N : Nat} (h : ¬ 2 ≤ eE l n.t) : fS l n N 1 = n ∧ cF l n 1 = cF l n 0 := by (
 simp [fS, cF, dM, h])
theorem bGH {l : List Nd} {n : Nd} {N : Nat} (h : n.e = n.t) : fS l n N 2 = (fS l n N 1).put 5 (fS l n N 1).t ∧ cF l n 2 = cF l n 1 := by (
 simp [fS, cF, h, Nd.put])
theorem bGI {l : List Nd} {n : Nd} {N : Nat} (he : n.e ≠ n.t) (h : 2 ≤ eE l n.e) : fS l n N 2 = (fS l n N 1).put 5 ((N + (cF l n 1).length : Nat) : Int) ∧ cF l n 2 = cF l n 1 ++ [cM n.e] := by (
 simp [fS, cF, he, h, Nd.put])
theorem bJW {l : List Nd} {n : Nd} {N : Nat} (he : n.e ≠ n.t) (h : ¬ 2 ≤ eE l n.e) : fS l n N 2 = fS l n N 1 ∧ cF l n 2 = cF l n 1 := by (
 simp [fS, cF, he, h])
theorem bCX {l : List Nd} {n : Nd} {N i mm : Nat} (h : (i = 0 ∧ n.t = (mm : Int)) ∨ (i = 1 ∧ n.e = (mm : Int) ∧ n.e ≠ n.t)) (hw : 2 ≤ eE l mm) :
 fS l n N (i + 1) = (fS l n N i).put (4 + i) ((N + (cF l n i).length : Nat) : Int) ∧ cF l n (i + 1) = cF l n i ++ [cM mm] := by (
 rcases h with ⟨rfl, h⟩ | ⟨rfl, h, hne⟩
 · (
 rw [← h] at hw ⊢
 obtain ⟨h1, h2⟩ := bGG (N := N) hw
 exact ⟨h1, h2⟩)
 · (
 rw [← h] at hw ⊢
 exact bGI hne hw))
theorem bPL {l : List Nd} {n : Nd} {N i mm : Nat} (h : (i = 0 ∧ n.t = (mm : Int)) ∨ (i = 1 ∧ n.e = (mm : Int) ∧ n.e ≠ n.t)) (hw : ¬ 2 ≤ eE l mm) :
 fS l n N (i + 1) = fS l n N i ∧ cF l n (i + 1) = cF l n i := by (
 rcases h with ⟨rfl, h⟩ | ⟨rfl, h, hne⟩
 · (
 rw [← h] at hw
 exact bJV hw)
 · (
 rw [← h] at hw
 exact bJW hne hw))
theorem bQW (l : List Nd) (n : Nd) (N : Nat) : (fS l n N 0).t = n.t := rfl
theorem bQX (l : List Nd) (n : Nd) (N : Nat) : (fS l n N 1).e = n.e := rfl
end
section
open Go.RowKit Go.Maps Go.ChangeMaps
open Go.WideMaps (KeyLaw)
theorem xU {w : World} {b : Nat} {o : Obj} (h : w.heap[b]? = some o) : setBlock w b o = w := by (
 have he : w.heap.setIfInBounds b o = w.heap := by (
 apply Array.ext_getElem?
 intro i
 rw [Array.getElem?_setIfInBounds]
 split
 · (
 rename_i hi
 subst hi
 split
 · exact h.symm
 · (
 rename_i hlt
 rw [Array.getElem?_eq_none Zb] at h
 cases h))
 · rfl)
 unfold setBlock
 rw [he])
theorem pD (w : World) (b : Nat) (o o' : Obj) : setBlock (setBlock w b o) b o' = setBlock w b o' := by (
 unfold setBlock
 simp)
theorem bLI {k : IntKind} {a b : Int} (h : Value.int k a = .int k b) : a = b := by injection h
theorem pM {H : Type} {k : IntKind} {a b : Int} (h : (DataW.lit (.int k a) : DataW H) = .lit (.int k b)) : a = b := by injection h with h; injection h
theorem rZ {α : Type} {a b : α} {w w' : World} (h : (Result.ok a w : Result α) = .ok b w') : w = w' := by cases h; rfl
theorem bRI {α : Type} {a b : α} {w w' : World} (h : (Result.ok a w : Result α) = .ok b w') : a = b := by cases h; rfl
theorem bCZ {P : Program} {H : Type} {w : World} {t k e : TypeId} {b n : Nat} {D : DataW H} (KL : KeyLaw P k) (ht : P.underlying t = some (.map k e)) (he : P.underlying e = some (.int .i64))
 (hz : ∀ u : World, (zeroValue e).run P u = .ok (.int .i64 0) u) (h : w.ownsMap P k (plainElem P e) b n D) (hn : n < maxLen) {key : Value} {kl : Lit} (hkey : keyOf P k key = some kl) :
 ∃ c, (Instr.lookup t (.map (some b)) key false).run P w = .ok (.int .i64 c) w ∧ D.atKey kl (.lit (.int .i64 0)) = .lit (.int .i64 c) ∧
  ∃ v0 st w1, (Instr.mapEntry t (.map (some b)) key).run P w = .ok (.tuple #[v0, goInt st]) w1 ∧ w.grownBy w1 (some b) ∧ (Instr.lookup t (.map (some b)) key false).run P w1 = .ok (.int .i64 c) w1 ∧
   ∀ val, (Lit.int .i64 val).wf = true → ∃ w3, (Instr.entryStore t (.map (some b)) (goInt st) (.int .i64 val)).run P w1 = .ok () w3 ∧ w3.ownsMap P k (plainElem P e) b (n + 1) (D.put kl (.lit (.int .i64 val))) ∧ w1.grownBy w3 (some b) := by (
 have K : Keyed P k := Keyed.of_law KL
 have h0 := h
 obtain ⟨c, hlook, hat, hwc⟩ := h.lookup_int K ht he (hz w) hkey
 obtain ⟨es, clock, hb, F, hs, hD⟩ := h
 obtain ⟨v0, st, es1, clock1, hme, _, hst⟩ := Go.WideElems.entry_then_store KL ht hz hb F hkey
 have hb1 : (setBlock w b (.map es1 clock1)).heap[b]? = some (.map es1 clock1) := heap_setBlock_same hb _
 refine ⟨c, hlook, hat, v0, st, _, hme, ⟨rfl, rfl, rfl, by simp [setBlock], fun i _ hi => heap_setBlock_other hb _ (fun e => hi (by rw [e]))⟩, ?_, fun val hwv => ?_⟩
 · (
 rcases KL.find w hkey es.toList F.keys with ⟨h1, h2⟩ | ⟨j, e0, h1, h2, h3⟩
 · (
 have r1 : (Instr.mapEntry t (.map (some b)) key).run P w = .ok (.tuple #[.int .i64 0, goInt clock]) (setBlock w b (.map (es.push ⟨key, .int .i64 0, clock⟩) (clock + 1))) := by (
 simp [Instr.mapEntry, run_underlying ht, MapKept.run_getObj_map hb, KL.check w false hkey, h1, hz, MapKept.run_setObj_map _ hb, Result.andThen, setBlock])
 have r2 : (Instr.mapUpdate t (.map (some b)) key (.int .i64 0)).run P w = .ok () (setBlock w b (.map (es.push ⟨key, .int .i64 0, clock⟩) (clock + 1))) := by (
 simp [Instr.mapUpdate, run_underlying ht, MapKept.run_getObj_map hb, KL.check w false hkey, h1, MapKept.run_setObj_map _ hb, Result.andThen, setBlock])
 have r1 := rZ (hme.symm.trans r1)
 obtain ⟨w', q1, q2, _⟩ := h0.update K ht hn hkey (plainElem_int he (show (Lit.int .i64 0).wf = true by decide))
 have q1 := rZ (r2.symm.trans q1)
 rw [← q1, ← r1] at q2
 obtain ⟨c1, p1, p2, _⟩ := q2.lookup_int K ht he (hz _) hkey
 rw [atKey_put_same h0.isMap (K.key hkey)] at p2
 have hl0 : (Instr.lookup t (.map (some b)) key false).run P w = .ok (.int .i64 0) w := by (
 simp [Instr.lookup, run_underlying ht, MapKept.run_getObj_map hb, KL.check w _ hkey, h1, hz, Result.andThen])
 have hl0 := bRI (hlook.symm.trans hl0)
 have hl0 := bLI hl0
 have p2 := pM p2
 rw [p1, hl0, ← p2])
 · (
 have hj : es[j]? = some e0 := by simpa using h2
 have hsame : es.modify j (fun e => { e with key := key }) = es := by (
 apply Array.ext'
 rw [Array.toList_modify, modify_eq_set _ _ _ _ h2]
 have : ({ e0 with key := key } : MapEntry) = e0 := by rw [← h3]
 rw [this]
 exact Go.WideElems.set_self _ _ _ h2)
 have r1 : (Instr.mapEntry t (.map (some b)) key).run P w = .ok (.tuple #[e0.val, goInt e0.born]) (setBlock w b (.map es clock)) := by (
 simp [Instr.mapEntry, run_underlying ht, MapKept.run_getObj_map hb, KL.check w false hkey, h1, hj, h3, KL.stays w hkey, hsame, MapKept.run_setObj_map _ hb, Result.andThen, setBlock])
 have r1 := rZ (hme.symm.trans r1)
 rw [r1, xU hb]
 exact hlook))
 · (
 obtain ⟨es', clock', s1, s2⟩ := hst _ (.int .i64 val) hb1
 rw [pD] at s1
 obtain ⟨w', q1, q2, _⟩ := h0.update K ht hn hkey (plainElem_int he hwv)
 have q1 := rZ (s2.symm.trans q1)
 rw [← q1] at q2
 refine ⟨_, s1, q2, ?_⟩
 have hg : (setBlock w b (.map es1 clock1)).grownBy (setBlock (setBlock w b (.map es1 clock1)) b (.map es' clock')) (some b) := ⟨rfl, rfl, rfl, by simp [setBlock], fun i _ hi => heap_setBlock_other hb1 _ (fun e => hi (by rw [e]))⟩
 rw [pD] at hg
 exact hg))
end
section
open Go.RowKit
def Tm.val (n : Tm) : Value := .agg #[.int .i64 n.op, .int .i64 n.a, .int .i64 n.b]
theorem uC (x y : Tm) (w : World) : (Op.equalIn 10000 56 x.val y.val).run prog w = .ok (x == y) w := by (
 have u3 := underlying3
 have a3 : ∀ w, (isAgg 3).run prog w = .ok false w := fun w => by kernel_rfl
 have z3 : ∀ w, (sizeOf 3).run prog w = .ok 1 w := fun w => by kernel_rfl
 have hS : prog.underlying 56 = some (.struct (prog.fieldsOf 56)) := Zc
 have hp : prog.stoodInHeld 56 = false := Zc
 obtain ⟨x0, x1, x2⟩ := x
 obtain ⟨y0, y1, y2⟩ := y
 simp only [Tm.val]
 rw [show (10000 : Nat) = 9999 + 1 from rfl, run_equalIn_agg w 9999 56 _ _ hS hp]
 simp only [Program.fieldsOf, underlying56]
 go_simp
 have hb : ((⟨x0, x1, x2⟩ : Tm) == ⟨y0, y1, y2⟩) = (x0 == y0 && (x1 == y1 && x2 == y2)) := by (
 rw [Bool.eq_iff_iff]
 simp)
 rw [hb]
 by_cases h0 : x0 = y0 <;> by_cases h1 : x1 = y1 <;> by_cases h2 : x2 = y2 <;> simp [h0, h1, h2])
theorem zL : prog.eqGuardType prog.depth 56 = false := Zc
theorem bDF : (prog.info? 56).map (fun i => (i.zero, i.size, i.bytes)) = some (some (.agg #[.int .i64 0, .int .i64 0, .int .i64 0]), 3, 24) := Zc
theorem mS (a : List Tm) (y t : Tm) : (a ++ [y]).contains t = (a.contains t || (y == t)) := by (
 rw [Bool.eq_iff_iff]
 simp only [List.contains_iff_mem, Um, List.mem_singleton, Bool.or_eq_true, beq_iff_eq]
 exact or_congr_right eq_comm)
end
end Go.Proofs.YtmghkonmfbpjcabGreatDoor
