/- RunU CRow RunG RunH RunC RunO CRow2 RunD. -/
import Derived.Test.YtmghkonmfbpjcabGreatRunT
import Derived.Test.YtmghkonmfbpjcabGreatGA
import Derived.Test.YtmghkonmfbpjcabGreatGD
import Derived.Test.YtmghkonmfbpjcabGreatGI
import Derived.Maps.RangeWalk
import Derived.Test.YtmghkonmfbpjcabGreatGB
import Derived.Deep.DeepCutAuto
import Derived.Deep.Cut
import Derived.Deep.RegionLaw
import Derived.Test.YtmghkonmfbpjcabGreatGG
import Derived.Test.YtmghkonmfbpjcabGreatGC
import Derived.Deep.RegionHeld3
import Derived.Shelf.SlSortCmp.WholeK
import Derived.Laws.CopyRow
import Derived.Laws.IdiomCopy
import Derived.Deep.QuietTactic
import Derived.BigQuiet
set_option linter.unusedVariables false
set_option linter.unusedSimpArgs false
set_option maxRecDepth 100000
namespace Go.Proofs.YtmghkonmfbpjcabGreat
section
open Go.RowKit
open Go.Maps
set_option maxHeartbeats 2000000
attribute [local irreducible] Row madeCells TCount
section
variable {regs : Int} {l : List Nd}
theorem Right.dR (h : Right regs l) {n : Nd} (hn : n ∈ l) (hd : hasD n.op = true) : 0 ≤ n.d ∧ n.d < (regs.toNat : Int) := by (
 have h1 := h.rng n hn
 have h2 := h.rlo
 simp only [badR, okR, hd, Bool.or_eq_false_iff, Bool.not_eq_false', Bool.not_true, Bool.false_or, Bool.and_eq_true, decide_eq_true_eq] at h1
 omega)
theorem Right.aR (h : Right regs l) {n : Nd} (hn : n ∈ l) (hd : hasA n.op = true) : 0 ≤ n.a ∧ n.a < (regs.toNat : Int) := by (
 have h1 := h.rng n hn
 have h2 := h.rlo
 simp only [badR, okR, hd, Bool.or_eq_false_iff, Bool.not_eq_false', Bool.not_true, Bool.false_or, Bool.and_eq_true, decide_eq_true_eq] at h1
 omega)
theorem Right.bR (h : Right regs l) {n : Nd} (hn : n ∈ l) (hd : hasB n.op = true) : 0 ≤ n.b ∧ n.b < (regs.toNat : Int) := by (
 have h1 := h.rng n hn
 have h2 := h.rlo
 simp only [badR, okR, hd, Bool.or_eq_false_iff, Bool.not_eq_false', Bool.not_true, Bool.false_or, Bool.and_eq_true, decide_eq_true_eq] at h1
 omega)
theorem Right.t0 (h : Right regs l) {n : Nd} (hn : n ∈ l) : 0 ≤ n.t := by (
 by_cases h12 : n.op = 12
 · (
 have h := h.frm n hn
 simp only [badF, okF, shT, h12, Bool.or_eq_false_iff, Bool.not_eq_false', Bool.or_eq_true, beq_iff_eq] at h
 rcases h.1.2 with e | e
 · simp at e
 · omega)
 · (
 have := h.then_ hn h12
 omega))
theorem wf_small_ {z : Int} (h0 : -1000 ≤ z) (h1 : z ≤ 1000) : (Lit.int .i64 z).wf = true := by (
 unfold Lit.wf
 rw [Bool.and_eq_true]
 exact ⟨decide_eq_true (by show (-9223372036854775808 : Int) ≤ _; omega), decide_eq_true (by show _ ≤ (9223372036854775807 : Int); omega)⟩)
theorem Right.key_ (h : Right regs l) {n : Nd} (hn : n ∈ l) (hB : hasB n.op = true) : ∃ k, keyOf Tryz.prog 26 (Tm.val ⟨n.op, n.a, n.b⟩) = some k := by (
 have hA : hasA n.op = true := by (
 simp only [hasB, hasA, inB, Bool.and_eq_true, Bool.or_eq_true, decide_eq_true_eq] at *
 omega)
 have ha := h.aR hn hA
 have hb := h.bR hn hB
 have h2 := h.rhi
 have h3 := h.rlo
 simp only [hasB, inB, Bool.and_eq_true, decide_eq_true_eq] at hB
 exact keyTerm ⟨n.op, n.a, n.b⟩ (wf_small_ (by show _ ≤ n.op; omega) (by show n.op ≤ _; omega)) (wf_small_ (by show _ ≤ n.a; omega) (by show n.a ≤ _; omega)) (wf_small_ (by show _ ≤ n.b; omega) (by show n.b ≤ _; omega)))
end
theorem step_any (w : World) (regs : Int) (A : Option Addr) (l : List Nd) (cap : Nat) (inp : List Int) (mb gr gm : Nat) (Ai : Option Addr) (ci : Nat) (ov : Value) (s : Rn) (W : World) (hM : MSt w regs A l cap inp mb gr gm Ai ci ov s W) (hA : NodesAt w A l) (hR : Right regs l) (hok : RnOk regs l inp s) (hst : s.steps < 1000000) :
 Calls Tryz.prog 75 #[.pointer (some ⟨mb, 0, none⟩), .int .i64 s.pos] W fun e' W' => e' = .returned (.int .i64 (stepR l inp s).pos) ∧ ∃ Ai' ci' ov', MSt w regs A l cap inp mb gr gm Ai' ci' ov' (stepR l inp s) W' := by (
 obtain ⟨r1, r2, r3, r4, r5, r6⟩ := hok
 have hr64 : regs.toNat ≤ 64 := by have := hR.rhi; omega
 have hg : l[s.pos]? = some (nd l s.pos) := by rw [nd, List.getD_eq_getElem?_getD, List.getElem?_eq_getElem r2]; rfl
 have hn := List.mem_of_getElem? hg
 obtain ⟨n, hnn⟩ : ∃ n, n = nd l s.pos := ⟨_, rfl⟩
 rw [← hnn] at hg hn
 have ht0 := hR.t0 hn
 have hop := hR.ok n hn
 obtain ⟨op, d, a, b, t, e⟩ := n
 have hL : ((t.toNat : Nat) : Int) = t := Int.toNat_of_nonneg ht0
 have fin : ∀ {z : Int} {s' : Rn} {E : Ending} {W' : World} (p : Nat), z = (p : Int) → stepR l inp s = { s' with pos := p } → (E = .returned (.int .i64 z) ∧ ∃ Ai' ci' ov', MSt w regs A l cap inp mb gr gm Ai' ci' ov' s' W') →
  (E = .returned (.int .i64 (stepR l inp s).pos) ∧ ∃ Ai' ci' ov', MSt w regs A l cap inp mb gr gm Ai' ci' ov' (stepR l inp s) W') := by (
 rintro z s' E W' p rfl h2 ⟨rfl, A', c', o', h⟩
 rw [h2]
 exact ⟨rfl, A', c', o', h.pos_ p⟩)
 have hS : stepR l inp s = stepR l inp s := rfl
 conv at hS => rhs; unfold stepR
 simp only [← hnn] at hS
 by_cases h1 : op = 1
 · (
 subst h1
 exact (step_set w regs A l cap inp mb gr gm Ai ci ov s W hM hA hR.hi r2 hst r1 hr64 d a b t e hg (hR.dR hn rfl)).mono fun E W' h => fin t.toNat hL.symm (by rw [hS]; rfl) h)
 by_cases h2 : op = 2
 · (
 subst h2
 exact (step_copy w regs A l cap inp mb gr gm Ai ci ov s W hM hA hR.hi r2 hst r1 hr64 d a b t e hg (hR.dR hn rfl) (hR.aR hn rfl)).mono fun E W' h => fin t.toNat hL.symm (by rw [hS]; rfl) h)
 by_cases hB : hasB op = true
 · (
 have hDA : hasD op = true ∧ hasA op = true := by (
 simp only [hasB, hasD, hasA, inB, Bool.and_eq_true, Bool.or_eq_true, decide_eq_true_eq] at *
 omega)
 obtain ⟨kl, hkl⟩ := hR.key_ hn hB
 exact (step_reckon w regs A l cap inp mb gr gm Ai ci ov s W hM hA hR.hi r2 hst r1 hr64 op d a b t e hg (hR.dR hn hDA.1) (hR.aR hn hDA.2) (hR.bR hn hB) hB kl hkl (by omega)).mono fun E W' h => fin t.toNat hL.symm (by rw [hS, if_neg h1, if_neg h2, if_pos hB]; rfl) h)
 by_cases h9 : op = 9
 · (
 subst h9
 by_cases hi : s.read < inp.length
 · exact (step_in1 w regs A l cap inp mb gr gm Ai ci ov s W hM hA hR.hi r2 hst r1 hr64 d a b t e hg (hR.dR hn rfl) hi).mono fun E W' h => fin t.toNat hL.symm (by rw [hS, if_neg h1, if_neg h2, if_neg hB, if_pos rfl, if_pos hi]) h
 · exact (step_in0 w regs A l cap inp mb gr gm Ai ci ov s W hM hA hR.hi r2 hst r1 hr64 d a b t e hg (hR.dR hn rfl) (by omega)).mono fun E W' h => fin t.toNat hL.symm (by rw [hS, if_neg h1, if_neg h2, if_neg hB, if_pos rfl, if_neg hi]) h)
 by_cases h10 : op = 10
 · (
 subst h10
 exact (step_out w regs A l cap inp mb gr gm Ai ci ov s W hM hA hR.hi r2 hst r1 hr64 d a b t e hg (hR.aR hn rfl) (by omega)).mono fun E W' h => fin t.toNat hL.symm (by rw [hS, if_neg h1, if_neg h2, if_neg hB, if_neg h9, if_pos rfl]) h)
 by_cases h11 : op = 11
 · (
 subst h11
 by_cases hz : rg s.regs a = 0
 · (
 have he := hR.else_ hn rfl
 exact (step_if0 w regs A l cap inp mb gr gm Ai ci ov s W hM hA hR.hi r2 hst r1 hr64 d a b t e hg (hR.aR hn rfl) hz).mono fun E W' h => fin e.toNat (by simp only at he; omega) (by rw [hS, if_neg h1, if_neg h2, if_neg hB, if_neg h9, if_neg h10, if_pos rfl, if_pos hz]) h)
 · exact (step_if1 w regs A l cap inp mb gr gm Ai ci ov s W hM hA hR.hi r2 hst r1 hr64 d a b t e hg (hR.aR hn rfl) hz).mono fun E W' h => fin t.toNat hL.symm (by rw [hS, if_neg h1, if_neg h2, if_neg hB, if_neg h9, if_neg h10, if_pos rfl, if_neg hz]) h)
 by_cases h12 : op = 12
 · (
 subst h12
 exact (step_end w regs A l cap inp mb gr gm Ai ci ov s W hM hA hR.hi r2 hst r1 hr64 d a b t e hg (hR.aR hn rfl)).mono fun E W' h => fin t.toNat hL.symm (by rw [hS, if_neg h1, if_neg h2, if_neg hB, if_neg h9, if_neg h10, if_neg h11, if_pos rfl]) h)
 have h0 : op = 0 := by (
 simp only [opOk, hasB, inB, Bool.and_eq_true, decide_eq_true_eq] at *
 omega)
 subst h0
 exact (step_skip w regs A l cap inp mb gr gm Ai ci ov s W hM hA hR.hi r2 hst r1 hr64 d a b t e hg).mono fun E W' h => fin t.toNat hL.symm (by rw [hS, if_neg h1, if_neg h2, if_neg hB, if_neg h9, if_neg h10, if_neg h11, if_neg h12]) h)
end
section
open Go.RowKit
abbrev Ct := Tm × Int
def Ct.cells (n : Ct) : List Value := [.int .i64 n.1.op, .int .i64 n.1.a, .int .i64 n.1.b, .int .i64 n.2]
def Ct.lies (n : Ct) (w : World) (b off : Nat) : Prop :=
 w.cell? ⟨b, off, none⟩ = some (.int .i64 n.1.op) ∧ w.cell? ⟨b, off + 1, none⟩ = some (.int .i64 n.1.a) ∧ w.cell? ⟨b, off + 2, none⟩ = some (.int .i64 n.1.b) ∧ w.cell? ⟨b, off + 3, none⟩ = some (.int .i64 n.2)
def CtsAt (w : World) (A : Option Addr) (l : List Ct) : Prop :=
 l ≠ [] → ∃ b off, A = some ⟨b, off, none⟩ ∧ b < w.heap.size ∧ ∀ (i : Nat) (n : Ct), l[i]? = some n → n.lies w b (off + i * 4)
theorem Ct.lies.below {n : Ct} {B : Nat} {w w' : World} {b off : Nat} (h : n.lies w b off) (hb : Below B w w') (hl : b < B) : n.lies w' b off := by (
 obtain ⟨hc, _⟩ := bcell hb
 obtain ⟨h0, h1, h2, h3⟩ := h
 exact ⟨(hc _ _ hl).trans h0, (hc _ _ hl).trans h1, (hc _ _ hl).trans h2, (hc _ _ hl).trans h3⟩)
theorem CtsAt.below {w w' : World} {A : Option Addr} {l : List Ct} (h : CtsAt w A l) (hb : Below w.heap.size w w') : CtsAt w' A l := fun hn => by (
 obtain ⟨b, off, e, hl, hc⟩ := h hn
 exact ⟨b, off, e, Nat.lt_of_lt_of_le hl hb.size, fun i n hi => (hc i n hi).below hb hl⟩)
theorem CtsAt.mk {w : World} {b off : Nat} {l : List Ct} (hb : b < w.heap.size) (h : ∀ (i : Nat) (n : Ct), l[i]? = some n → n.lies w b (off + i * 4)) : CtsAt w (some ⟨b, off, none⟩) l :=
 fun _ => ⟨b, off, rfl, hb, h⟩
theorem CtsAt.get {w : World} {A : Option Addr} {l : List Ct} (h : CtsAt w A l) {k : Nat} (hk : k < l.length) :
 ∃ b off n, A = some ⟨b, off, none⟩ ∧ b < w.heap.size ∧ l[k]? = some n ∧ n.lies w b (off + k * 4) := by (
 obtain ⟨b, off, e, hb, hc⟩ := h (by intro h0; subst h0; simp at hk)
 exact ⟨b, off, l[k], e, hb, List.getElem?_eq_getElem hk, hc k _ (List.getElem?_eq_getElem hk)⟩)
theorem CtsAt.nil {w : World} {A : Option Addr} : CtsAt w A [] := fun h => absurd rfl h
def ccells : List Ct → List Value
 | [] => []
 | n :: l => n.cells ++ ccells l
theorem Ct.cells_len (n : Ct) : n.cells.length = 4 := rfl
theorem ccells_len (l : List Ct) : (ccells l).length = l.length * 4 := by (
 induction l with
 | nil => rfl
 | cons n l ih => simp only [ccells, List.length_append, Ct.cells_len, ih, List.length_cons]; omega)
theorem ccells_append (a b : List Ct) : ccells (a ++ b) = ccells a ++ ccells b := by (
 induction a with
 | nil => rfl
 | cons n a ih => simp only [List.cons_append, ccells, ih, List.append_assoc])
theorem ccells_get : ∀ (l : List Ct) (i j : Nat), j < 4 → (ccells l)[i * 4 + j]? = (l[i]?).bind fun n => n.cells[j]?
 | [], i, j, hj => by simp [ccells]
 | n :: l, 0, j, hj => by (
 simp only [ccells, Nat.zero_mul, Nat.zero_add, List.getElem?_cons_zero, Option.bind_some]
 rw [List.getElem?_append_left (by rw [Ct.cells_len]; exact hj)])
 | n :: l, i + 1, j, hj => by (
 simp only [ccells, List.getElem?_cons_succ]
 rw [List.getElem?_append_right (by rw [Ct.cells_len]; omega), Ct.cells_len, show (i + 1) * 4 + j - 4 = i * 4 + j by omega]
 exact ccells_get l i j hj)
theorem ccells_one (l : List Ct) : ∀ u ∈ ccells l, u.oneCell' = true := by (
 induction l with
 | nil => intro u hu; cases hu
 | cons n l ih =>
  intro u hu
  simp only [ccells, List.mem_append] at hu
  rcases hu with hu | hu
  · (
 simp only [Ct.cells, List.mem_cons, List.not_mem_nil, or_false] at hu
 rcases hu with rfl | rfl | rfl | rfl <;> rfl)
  · exact ih u hu)
theorem clies_iff {n : Ct} {w : World} {b off : Nat} : n.lies w b off ↔ ∀ j, j < 4 → w.cell? ⟨b, off + j, none⟩ = n.cells[j]? := by (
 constructor
 · (
 rintro ⟨h0, h1, h2, h3⟩ j hj
 match j, hj with
 | 0, _ => exact h0
 | 1, _ => exact h1
 | 2, _ => exact h2
 | 3, _ => exact h3)
 · (
 intro h
 exact ⟨h 0 (by omega), h 1 (by omega), h 2 (by omega), h 3 (by omega)⟩))
theorem CtsAt.cell {w : World} {b off : Nat} {l : List Ct} (h : CtsAt w (some ⟨b, off, none⟩) l) (k : Nat) (hk : k < l.length * 4) : w.cell? ⟨b, off + k, none⟩ = (ccells l)[k]? := by (
 have hd : k / 4 < l.length := by omega
 obtain ⟨b', off', n, e, _, hn, hl⟩ := h.get hd
 injection e with e
 injection e with e1 e2
 subst e1 e2
 have h3' : k % 4 < 4 := Nat.mod_lt _ (by omega)
 have := clies_iff.1 hl (k % 4) h3'
 rw [show off + k / 4 * 4 + k % 4 = off + k by omega] at this
 have hg := ccells_get l (k / 4) (k % 4) h3'
 rw [show k / 4 * 4 + k % 4 = k by omega, hn] at hg
 rw [this, hg]
 rfl)
def CRow (w : World) (base : Nat) (e : TypeId) (v : Value) (l : List Ct) : Prop := w.ownsRow base e 4 v l.length (ccells l)
section
variable {w w' : World} {base : Nat} {e : TypeId} {v : Value} {l : List Ct}
theorem CRow.nil_ (w : World) (base : Nat) (e : TypeId) : CRow w base e (.slice none 0 0) [] := ⟨rfl, .inl ⟨rfl, rfl⟩⟩
theorem CRow.open (h : CRow w base e v l) : (v = .slice none 0 0 ∧ l = []) ∨ ∃ g cap cur, v = .slice (some ⟨g, 0, none⟩) l.length cap ∧ base ≤ g ∧ w.heap[g]? = some (.cells cur e (0, 0)) ∧ l.length ≤ cap ∧ cap ≤ maxLen ∧ cur.size = cap * 4 ∧
 ∀ k, k < l.length * 4 → cur[k]? = (ccells l)[k]? := by (
 obtain ⟨hl, ⟨hv, hn⟩ | ⟨g, cap, cur, hv, hb, hh, h1, h2, h3, h4⟩⟩ := h
 · exact .inl ⟨hv, List.eq_nil_of_length_eq_zero hn⟩
 · (
 refine .inr ⟨g, cap, cur, hv, hb, hh, h1, h2, h3, fun k hk => ?_⟩
 rw [← h4, List.getElem?_take, if_pos hk, Array.getElem?_toList]))
theorem CRow.close {g cap : Nat} {cur : Array Value} (hb : base ≤ g) (hh : w.heap[g]? = some (.cells cur e (0, 0))) (h1 : l.length ≤ cap) (h2 : cap ≤ maxLen) (h3 : cur.size = cap * 4)
 (h4 : ∀ k, k < l.length * 4 → cur[k]? = (ccells l)[k]?) : CRow w base e (.slice (some ⟨g, 0, none⟩) l.length cap) l := by (
 refine ⟨ccells_len l, .inr ⟨g, cap, cur, rfl, hb, hh, h1, h2, h3, ?_⟩⟩
 refine List.ext_getElem? fun k => ?_
 rw [List.getElem?_take]
 split
 · (
 rename_i hk
 rw [Array.getElem?_toList]
 exact h4 k hk)
 · (
 rename_i hk
 rw [List.getElem?_eq_none (by rw [ccells_len]; omega)]))
theorem CRow.lt (h : CRow w base e v l) : ∀ k, v.ownBlock = some k → base ≤ k ∧ k < w.heap.size := by (
 rintro k hk
 rcases h.open with ⟨rfl, _⟩ | ⟨g, cap, cur, rfl, hb, hh, _⟩
 · simp [Value.ownBlock] at hk
 · (
 simp [Value.ownBlock] at hk
 subst hk
 exact ⟨hb, lt_of_heap hh⟩))
theorem CRow.of_block (h : CRow w base e v l) (hk : ∀ k, v.ownBlock = some k → w'.heap[k]? = w.heap[k]?) : CRow w' base e v l := by (
 obtain ⟨hl, ⟨hv, hn⟩ | ⟨g, cap, cur, hv, hb, hh, r⟩⟩ := h
 · exact ⟨hl, .inl ⟨hv, hn⟩⟩
 · exact ⟨hl, .inr ⟨g, cap, cur, hv, hb, (hk g (by rw [hv]; rfl)).trans hh, r⟩⟩)
theorem CRow.kept {row : Option Nat} (h : CRow w base e v l) (hg : w.grownBy w' row) (hne : v.ownBlock = none ∨ v.ownBlock ≠ row) : CRow w' base e v l :=
 h.of_block fun k hk => hg.block k (h.lt k hk).2 (by
  rcases hne with hn | hn
  · rw [hn] at hk; cases hk
  · rw [← hk]; exact hn)
theorem CRow.below {B : Nat} (h : CRow w base e v l) (hb : Below B w w') (hB : ∀ k, v.ownBlock = some k → k < B) : CRow w' base e v l := h.of_block fun k hk => hb.block k (hB k hk)
theorem CRow.below' (h : CRow w base e v l) (hb : Below w.heap.size w w') : CRow w' base e v l := h.of_block fun k hk => hb.block k (h.lt k hk).2
theorem CRow.alloc (h : CRow w base e v l) (o : Obj) : CRow (w.alloc o) base e v l := h.of_block fun k hk => Below.heap_alloc w o k (h.lt k hk).2
theorem CRow.drew (h : CRow w base e v l) : CRow w.drew base e v l := h
theorem CRow.drewN (h : CRow w base e v l) (n : Nat) : CRow (w.drewN n) base e v l := h
theorem CRow.far (h : CRow w base e v l) {p : Addr} (hp : v.ownBlock ≠ some p.block) (u : Value) : CRow (w.setCell p u) base e v l :=
 h.of_block fun k hk => Below.heap_setCell w p u k (by rintro rfl; exact hp hk)
theorem CRow.mono {base' : Nat} (h : CRow w base e v l) (hb : base' ≤ base) : CRow w base' e v l := by (
 obtain ⟨hl, h | ⟨g, cap, cur, hv, hg, r⟩⟩ := h
 · exact ⟨hl, .inl h⟩
 · exact ⟨hl, .inr ⟨g, cap, cur, hv, Nat.le_trans hb hg, r⟩⟩)
theorem CRow.shape (h : CRow w base e v l) : ∃ A cap, v = .slice A l.length cap ∧ l.length ≤ cap ∧ cap ≤ maxLen := by (
 rcases h.open with ⟨rfl, rfl⟩ | ⟨g, cap, cur, rfl, _, _, hc, hm, _⟩
 · exact ⟨none, 0, rfl, Nat.le_refl _, Nat.zero_le _⟩
 · exact ⟨_, cap, rfl, hc, hm⟩)
theorem CRow.nodes {A : Option Addr} {n cap : Nat} (h : CRow w base e (.slice A n cap) l) : CtsAt w A l := fun hn => by (
 rcases h.open with ⟨_, rfl⟩ | ⟨g, cap, cur, hv, hb, hh, _, _, _, hc⟩
 · exact absurd rfl hn
 · (
 injection hv with hA
 subst hA
 refine ⟨g, 0, rfl, lt_of_heap hh, fun i n hi => clies_iff.2 fun j hj => ?_⟩
 have hlt : i < l.length := (List.getElem?_eq_some_iff.1 hi).1
 have := hc (i * 4 + j) (by omega)
 rw [ccells_get l i j hj, hi] at this
 rw [Nat.zero_add]
 simp only [World.cell?, hh, this]
 simp))
theorem CRow.get (h : CRow w base e v l) {k : Nat} (hk : k < l.length) :
 ∃ g cap n, v = .slice (some ⟨g, 0, none⟩) l.length cap ∧ base ≤ g ∧ g < w.heap.size ∧ l[k]? = some n ∧ n.lies w g (k * 4) ∧ ∀ j, j < l.length * 4 → w.frozen? ⟨g, j, none⟩ = false := by (
 have hN := h.shape
 rcases h.open with ⟨_, rfl⟩ | ⟨g, cap, cur, rfl, hb, hh, hcl, hcm, hcs, hc⟩
 · simp at hk
 · (
 have hn := (h.nodes).get hk
 obtain ⟨b, off, n, e1, _, hn, hl⟩ := hn
 injection e1 with e1
 injection e1 with e1 e2
 subst e1 e2
 rw [Nat.zero_add] at hl
 exact ⟨g, cap, n, rfl, hb, lt_of_heap hh, hn, hl, fun j hj => by simp [World.frozen?, hh]⟩))
theorem CRow.ne_blk {g : Nat} {t : TypeId} {cs : Array Value} (h : CRow w base e v l) (hg : Blk w g t cs) (hne : e ≠ t) : v.ownBlock ≠ some g := by (
 rcases h.open with ⟨rfl, _⟩ | ⟨g', cap, cur, rfl, _, hh, _⟩
 · simp [Value.ownBlock]
 · (
 intro he
 simp [Value.ownBlock] at he
 subst he
 have hB : Blk w g' e cur := by unfold Blk; exact hh
 exact hB.ne_ hg hne rfl))
theorem CRow.ne_row {base' : Nat} {e' : TypeId} {u : Value} {ys : List Value} (h : CRow w base e v l) (h' : Row w base' e' u ys) (hne : e ≠ e') : v.ownBlock = none ∨ v.ownBlock ≠ u.ownBlock := by (
 rcases h' with ⟨rfl, _⟩ | ⟨g', o, cap, cur, rfl, _, hh, _⟩
 · (
 rcases hv : v.ownBlock with _ | k
 · exact .inl rfl
 · exact .inr (by simp [Value.ownBlock]))
 · exact .inr (h.ne_blk (cs := cur) (t := e') (by unfold Blk; exact hh) hne))
theorem run_append_counts {P : Program} (t ty : TypeId) (i : TypeInfo) (z : Value) (bytes : Nat) (ht : P.underlying t = some (.slice e)) (hi : P.info? e = some i) (hz : i.zero = some z)
 (hsize : i.size = 4) (hby : i.bytes = bytes) (hzs : z.cells.size = 4) (hr : CRow w base e v l) (A : Option Addr) (c : Nat) (news : List Ct) (hn : CtsAt w A news)
 (h3'3 : l.length + news.length ≤ maxLen) (hbytes : (l.length + news.length) * bytes ≤ 140737488355328) (hbase : base ≤ w.heap.size) :
 ∃ v' w', (Builtin.append_ #[t, t] ty #[v, .slice A news.length c]).run P w = .ok v' w' ∧ CRow w' base e v' (l ++ news) ∧ w.grownBy w' v.ownBlock ∧ (v'.ownBlock = v.ownBlock ∨ ∀ k, v'.ownBlock = some k → w.heap.size ≤ k) := by (
 by_cases hne : news = []
 · (
 subst hne
 refine ⟨v, w, ?_, by simpa using hr, World.grownBy.refl w _, .inl rfl⟩
 rcases hr.open with ⟨rfl, rfl⟩ | ⟨g, cap, cur, rfl, _, _, hnc, _⟩
 · rcases A with _ | A <;> simp [Builtin.append_, run_underlying ht, sizeOf, typeInfo, hi, hsize, Builtin.lenOf, Builtin.firstCells, loadCells, loadCellsFrom]
 · rcases A with _ | A <;> simp [Builtin.append_, run_underlying ht, sizeOf, typeInfo, hi, hsize, Builtin.lenOf, Builtin.firstCells, loadCells, loadCellsFrom, hnc, storeCells])
 · (
 obtain ⟨b, off, rfl, hb, hcell⟩ := hn hne
 have hnews : ∀ j u, (ccells news)[j]? = some u → w.cell? ((⟨b, off, none⟩ : Addr).add j) = some u := fun j u hj => by (
 rw [Addr.add_lit, ← hj]
 exact CtsAt.cell hn j (by rw [← ccells_len]; exact (List.getElem?_eq_some_iff.1 hj).1))
 obtain ⟨v', w', hrun, h2, h3, h4, h5⟩ := run_append_own_at (P := P) w base t ty e i z 4 bytes ht hi hz hsize hby hzs (by omega) v l.length (ccells l) hr ⟨b, off, none⟩ news.length c (ccells news) (ccells_len _) hnews (ccells_one _) h3'3 hbytes hbase
 refine ⟨v', w', hrun, ?_, h3, h5.imp id fun h k hk => by rw [h] at hk; injection hk with hk; omega⟩
 show w'.ownsRow base e 4 v' (l ++ news).length (ccells (l ++ news))
 rw [List.length_append, ccells_append]
 exact h2))
theorem wp_append_counts {P : Program} {o : Oper} {a : Act} {K : Act → World → Prop} {Q : Exit → Act → World → Prop} (s x : Operand) (t : TypeId)
 (ho : o.op = .call { callee := .builtin .append, args := #[s, x], argTypes := #[t, t] })
 (i : TypeInfo) (z : Value) (bytes : Nat) (ht : P.underlying t = some (.slice e)) (hi : P.info? e = some i) (hz : i.zero = some z)
 (hsize : i.size = 4) (hby : i.bytes = bytes) (hzs : z.cells.size = 4) (hs : a.eval s = v) (hr : CRow w base e v l) (A : Option Addr) (n c : Nat) (news : List Ct) (hx : a.eval x = .slice A n c)
 (hnl : n = news.length) (hn : CtsAt w A news)
 (h3'3 : l.length + news.length ≤ maxLen) (hbytes : (l.length + news.length) * bytes ≤ 140737488355328) (hbase : base ≤ w.heap.size)
 (h : ∀ v' w', CRow w' base e v' (l ++ news) → w.grownBy w' v.ownBlock → (v'.ownBlock = v.ownBlock ∨ ∀ k, v'.ownBlock = some k → w.heap.size ≤ k) → K (a.put o.dst v') w') : o.wp P a w K Q := by (
 subst hnl
 obtain ⟨v', w', hrun, h2, h3, h4⟩ := run_append_counts (P := P) t o.type i z bytes ht hi hz hsize hby hzs hr A c news hn h3'3 hbytes hbase
 unfold Oper.wp execOp
 simp only [ho, resolve, invoke, builtin, Sem.run_bind, Sem.run_pure, Result.andThen_ok, List.map_toArray, List.map_cons, List.map_nil, hs, hx, hrun]
 exact h v' w' h2 h3 h4)
theorem step_append_counts {P : Program} {ops : Array Oper} {o : Oper} {a : Act} {K : Act → World → Prop} {Q : Exit → Act → World → Prop} {E : Prop} (hgd : o.guard = none) (s x : Operand) (t : TypeId)
 (ho : o.op = .call { callee := .builtin .append, args := #[s, x], argTypes := #[t, t] })
 (i : TypeInfo) (z : Value) (bytes : Nat) (ht : P.underlying t = some (.slice e)) (hi : P.info? e = some i) (hz : i.zero = some z)
 (hsize : i.size = 4) (hby : i.bytes = bytes) (hzs : z.cells.size = 4) (hs : a.eval s = v) (hr : CRow w base e v l) (A : Option Addr) (n c : Nat) (news : List Ct) (hx : a.eval x = .slice A n c)
 (hnl : n = news.length) (hn : CtsAt w A news)
 (h3'3 : l.length + news.length ≤ maxLen) (hbytes : (l.length + news.length) * bytes ≤ 140737488355328) (hbase : base ≤ w.heap.size)
 (h : ∀ v' w', CRow w' base e v' (l ++ news) → w.grownBy w' v.ownBlock → (v'.ownBlock = v.ownBlock ∨ ∀ k, v'.ownBlock = some k → w.heap.size ≤ k) → K (a.put o.dst v') w') :
 if Region.wanted o (yielded ops a.tmps) = true then Oper.wp P o a w K Q else E := by (
 have hw : Region.wanted o (yielded ops a.tmps) = true := by simp [Region.wanted, hgd]
 rw [if_pos hw]
 exact wp_append_counts s x t ho i z bytes ht hi hz hsize hby hzs hs hr A n c news hx hnl hn h3'3 hbytes hbase h)
theorem counts_one' {w : World} {n : Ct} {t : TypeId} {g : Nat} (h : g = w.heap.size) : CtsAt (w.alloc (.cells #[.int .i64 n.1.op, .int .i64 n.1.a, .int .i64 n.1.b, .int .i64 n.2] t)) (some ⟨g, 0, none⟩) [n] := by (
 subst h
 refine CtsAt.mk (by simp) fun i m hi => ?_
 rcases i with _ | i
 · (
 simp at hi
 subst hi
 simp [Ct.lies])
 · simp at hi)
end
end
section
open Go.RowKit
open Go.Maps
set_option maxHeartbeats 4000000
theorem keyTerm_inv {key : Value} {kl : Lit} (h : keyOf Tryz.prog 26 key = some kl) : ∃ t : Tm, key = t.val := by (
 obtain ⟨s, hs⟩ : ∃ s, Tryz.prog.types.size + 1 = s + 2 := ⟨Tryz.prog.types.size - 1, by kernel_rfl⟩
 simp only [keyOf, Tryz.underlying26] at h
 replace h : (if (Tryz.prog.keyType 26 && key.formed Tryz.prog 26) = true then (Tryz.prog.keyLits (Tryz.prog.types.size + 1) 26 key.cells.toList).map fun ls => Lit.string (keyBytes ls) else none) = some kl := h
 split at h
 · (
 rename_i hf
 rw [Bool.and_eq_true] at hf
 have hf := hf.2
 cases key with
 | agg cs =>
  simp only [Value.formed, Tryz.underlying26, cellsTerm, beq_iff_eq] at hf
  obtain ⟨l⟩ := cs
  match l, hf with
  | [x, y, z], _ =>
   rw [hs] at h
   simp only [Program.keyLits, Tryz.underlying26, cellsTerm, Value.cells] at h
   obtain ⟨ls, h, _⟩ := Option.map_eq_some_iff.1 h
   split at h
   · (
 obtain ⟨lss, h, _⟩ := Option.map_eq_some_iff.1 h
 simp only [List.mapM_cons, List.mapM_nil, cellsInt, Tryz.underlying3, List.drop_zero, List.drop_succ_cons, List.take_succ_cons, List.take_zero, bind, Option.bind_eq_some_iff] at h
 obtain ⟨r0, h0, _, ⟨r1, h1, _, ⟨r2, h2, _⟩, _⟩, _⟩ := h
 obtain ⟨n0, rfl⟩ : ∃ n, x = .int .i64 n := by (
 cases x <;> simp at h0
 exact ⟨_, by rw [h0.1.1]⟩)
 obtain ⟨n1, rfl⟩ : ∃ n, y = .int .i64 n := by (
 cases y <;> simp at h1
 exact ⟨_, by rw [h1.1.1]⟩)
 obtain ⟨n2, rfl⟩ : ∃ n, z = .int .i64 n := by (
 cases z <;> simp at h2
 exact ⟨_, by rw [h2.1.1]⟩)
 exact ⟨⟨n0, n1, n2⟩, rfl⟩)
   · cases h
 | _ => simp [Value.formed, Tryz.underlying26] at hf)
 · cases h)
structure Got (D : DataW Unit) (ts : List Tm) (left : Lit → Bool) (cs : List Ct) : Prop where
 val : ∀ x ∈ cs, x.2 = (ts.count x.1 : Int) ∧ ∃ kl, keyOf Tryz.prog 26 x.1.val = some kl ∧ left kl = false ∧ Maps.has D kl = true
 all : ∀ kl, Maps.has D kl = true → left kl = false → ∃ x ∈ cs, keyOf Tryz.prog 26 x.1.val = some kl
 one : (cs.map Prod.fst).Nodup
 sub : ∀ kl, left kl = true → Maps.has D kl = true
theorem Got.start (D : DataW Unit) (ts : List Tm) : Got D ts (Maps.has D) [] :=
 ⟨fun x hx => (by cases hx), fun kl h1 h2 => (by rw [h1] at h2; cases h2), List.nodup_nil, fun kl h => h⟩
theorem Got.step {D : DataW Unit} {ts : List Tm} {left : Lit → Bool} {cs : List Ct} (h : Got D ts left cs) {t : Tm} {kl : Lit} (hk : keyOf Tryz.prog 26 t.val = some kl) (hl : left kl = true) {c : Int} (hc : c = (ts.count t : Int)) :
 Got D ts (fun z => left z && !z.sameKey kl) (cs ++ [(t, c)]) := by (
 obtain ⟨sb, rfl⟩ := lawTerm.str hk
 have hkl : WideAt.IsKeyLit (.string sb) := trivial
 refine ⟨fun x hx => ?_, fun kl' h1 h2 => ?_, ?_, fun kl' hl' => h.sub kl' (by rw [Bool.and_eq_true] at hl'; exact hl'.1)⟩
 · (
 rcases List.mem_append.1 hx with hx | hx
 · (
 obtain ⟨h1, kl', h2, h3, h4⟩ := h.val x hx
 exact ⟨h1, kl', h2, by rw [h3]; rfl, h4⟩)
 · (
 simp at hx
 subst hx
 exact ⟨hc, _, hk, by rw [WideAt.sameKey_self hkl]; simp, h.sub _ hl⟩))
 · (
 rw [Bool.and_eq_false_iff] at h2
 by_cases he : kl' = .string sb
 · exact ⟨(t, c), by simp, by rw [he]; exact hk⟩
 · (
 rcases h2 with h2 | h2
 · (
 obtain ⟨x, hx, hxk⟩ := h.all kl' h1 h2
 exact ⟨x, by simp [hx], hxk⟩)
 · exact absurd (WideAt.sameKey_eq (by simpa using h2)) he))
 · (
 rw [List.map_append, List.nodup_append]
 refine ⟨h.one, by simp, fun a ha b hb => ?_⟩
 simp at hb
 subst hb
 rintro rfl
 obtain ⟨x, hx, hxe⟩ := List.mem_map.1 ha
 obtain ⟨_, kl', h2, h3, _⟩ := h.val x hx
 rw [hxe, hk] at h2
 rw [← Option.some.inj h2, hl] at h3
 cases h3))
theorem Got.count {D : DataW Unit} {ts : List Tm} {left : Lit → Bool} {cs : List Ct} (h : Got D ts left cs) (hall : ∀ kl, left kl = false)
 (h1 : ∀ l, Maps.has D l = true → ∃ t ∈ ts, keyOf Tryz.prog 26 t.val = some l) (h2 : ∀ t ∈ ts, ∃ l, keyOf Tryz.prog 26 t.val = some l ∧ Maps.has D l = true)
 {ds : List Ct} (hp : ds.Perm cs) (hA : Asc ds) : ds = countsL ts := by (
 have hmem : ∀ x ∈ ds, x.2 = (ts.count x.1 : Int) ∧ x.1 ∈ ts := fun x hx => by (
 obtain ⟨e1, kl, e2, _, e3⟩ := h.val x (hp.mem_iff.1 hx)
 obtain ⟨t, ht, e4⟩ := h1 kl e3
 have : x.1 = t := tm_inj (lawTerm.inj e2 e4)
 exact ⟨e1, this ▸ ht⟩)
 refine asc_unique _ _ hA (countsL_asc ts) (fun x hx => ?_) (countsL_pos ts) fun t => ?_
 · (
 obtain ⟨e1, e2⟩ := hmem x hx
 rw [e1]
 exact Int.natCast_pos.2 (List.count_pos_iff.2 e2))
 · (
 rw [countsL_cnt]
 by_cases ht : t ∈ ts
 · (
 obtain ⟨l, e1, e2⟩ := h2 t ht
 obtain ⟨x, hx, e3⟩ := h.all l e2 (hall l)
 have hxt : x.1 = t := tm_inj (lawTerm.inj e3 e1)
 subst hxt
 rw [cntOf_mem hA (hp.mem_iff.2 hx)]
 exact (h.val x hx).1)
 · (
 rw [List.count_eq_zero_of_not_mem ht]
 exact cntOf_none fun x hx e => ht (e ▸ (hmem x hx).2))))
end
section
open Go.RowKit
open Go.Maps
set_option maxHeartbeats 8000000
attribute [local irreducible] Row CRow madeCells TCount
def runE (regs : Int) (l : List Nd) (inp : List Int) (fuel : Int) : Int := if chk regs l = 0 then (if 256 < inp.length then 2 else if fuel < 0 ∨ 131072 < fuel then 3 else 0) else chk regs l
structure Rs where
 out : List Int
 ret : Int
 ended : Bool
 steps : Nat
 cts : List Ct
deriving DecidableEq
def Rn.told (s : Rn) : Rs := ⟨s.out, s.ret, s.ended, s.steps, countsL s.ts⟩
def noRs : Rs := ⟨[], 0, false, 0, []⟩
def runS (regs : Int) (l : List Nd) (inp : List Int) (fuel : Int) : Rs := if runE regs l inp fuel = 0 then (runR regs l inp fuel.toNat).told else noRs
def ResAt (tI tC : TypeId) (B : Nat) (W : World) (v : Value) (r : Rs) : Prop := ∃ ov cv, v = .agg #[ov, .int .i64 r.ret, .bool r.ended, .int .i64 r.steps, cv] ∧ Row W B tI ov (ints r.out) ∧ CRow W B tC cv r.cts
def RunPost (tI tC : TypeId) (regs : Int) (l : List Nd) (inp : List Int) (fuel : Int) (w : World) (e : Ending) (w' : World) : Prop :=
 Below w.heap.size w w' ∧ ∃ v, e = .returned (.tuple #[v, .int .i64 (runE regs l inp fuel)]) ∧ ResAt tI tC w.heap.size w' v (runS regs l inp fuel)
theorem ResAt.none_ {tI tC : TypeId} {B : Nat} {W : World} : ResAt tI tC B W (.agg #[.slice none 0 0, .int .i64 0, .bool false, .int .i64 0, .slice none 0 0]) noRs :=
 ⟨_, _, rfl, Row.nil_ _ _ _, CRow.nil_ _ _ _⟩
theorem Run_err1 (regs : Int) (A : Option Addr) (l : List Nd) (cap : Nat) (Ai : Option Addr) (inp : List Int) (ci : Nat) (fuel : Int) (w : World) (hl : l.length ≤ maxLen) (hA : NodesAt w A l) (h0 : chk regs l ≠ 0) :
 Calls Tryz.prog 40 #[.agg #[.int .i64 regs, .slice A l.length cap], .slice Ai inp.length ci, .int .i64 fuel] w (RunPost 3 103 regs l inp fuel w) := by (
 have hC := fun W (hW : Below w.heap.size w W) => Check_any regs A l cap W hl (hA.below hW)
 have HC := hide hC
 have hE : runE regs l inp fuel = chk regs l := by rw [runE, if_neg h0]
 have hS : runS regs l inp fuel = noRs := by rw [runS, if_neg (by rw [hE]; exact h0)]
 unfold RunPost
 rw [hE, hS]
 have hne : (chk regs l != 0) = true := by simpa using h0
 clear hC hE hS h0 hA
 generalize chk regs l = c at *
 go_enter Tryz.func40, Tryz.ntmps40
 go_wp2_with fail
 refine (HC.out _ (by (with_reducible repeat first | apply Qa | assumption | apply Qb | apply Qc | apply Qd | apply Qe | refine Qf ?_ (by assumption) ?_); all_goals (try simp only [Sz]); first | done | omega | (try simp only [Sz] at *); omega)).mono ?_
 rintro e w1 ⟨rfl, hb1⟩
 have hB : Below w.heap.size w w1 := (by (with_reducible repeat first | apply Qa | assumption | apply Qb | apply Qc | apply Qd | apply Qe | refine Qf ?_ (by assumption) ?_); all_goals (try simp only [Sz]); first | done | omega | (try simp only [Sz] at *); omega)
 have hP : Blk w1 (w.heap.size + 1) 71 #[.slice none 0 0, .int .i64 0, .bool false, .int .i64 0, .slice none 0 0] := Blk.below (Blk.new' (by simp)) hb1 (by simp)
 have p0 := hP.cell 0
 have p1 := hP.cell 1
 have p2 := hP.cell 2
 have p3 := hP.cell 3
 have p4 := hP.cell 4
 have f0 := hP.frozen 0
 have f1 := hP.frozen 1
 have f2 := hP.frozen 2
 have f3 := hP.frozen 3
 have f4 := hP.frozen 4
 have lp := hP.lt
 simp only [Yl] at p0 p1 p2 p3 p4
 go_wp2_with fail
 refine bodyPost_ret (v := .tuple #[.agg #[.slice none 0 0, .int .i64 0, .bool false, .int .i64 0, .slice none 0 0], .int .i64 c]) (by simp [results, Tryz.results40, go_sem, p0, p1, p2, p3, p4, World.cell?_setCell_same, World.cell?_setCell_other]) rfl ?_
 exact ⟨(by (with_reducible repeat first | apply Qa | assumption | apply Qb | apply Qc | apply Qd | apply Qe | refine Qf ?_ (by assumption) ?_); all_goals (try simp only [Sz]); first | done | omega | (try simp only [Sz] at *); omega), _, rfl, ResAt.none_⟩)
theorem Run_err2 (regs : Int) (A : Option Addr) (l : List Nd) (cap : Nat) (Ai : Option Addr) (inp : List Int) (ci : Nat) (fuel : Int) (w : World) (hl : l.length ≤ maxLen) (hA : NodesAt w A l) (h0 : chk regs l = 0) (h1 : 256 < inp.length) :
 Calls Tryz.prog 40 #[.agg #[.int .i64 regs, .slice A l.length cap], .slice Ai inp.length ci, .int .i64 fuel] w (RunPost 3 103 regs l inp fuel w) := by (
 have hC := fun W (hW : Below w.heap.size w W) => Check_any regs A l cap W hl (hA.below hW)
 rw [h0] at hC
 have HC := hide hC
 have hE : runE regs l inp fuel = 2 := by rw [runE, if_pos h0, if_pos h1]
 have hS : runS regs l inp fuel = noRs := by rw [runS, hE]; rfl
 unfold RunPost
 rw [hE, hS]
 clear hC hE hS h0 hA
 have h2 : (256 : Int) < (inp.length : Int) := by omega
 clear h1
 go_enter Tryz.func40, Tryz.ntmps40
 go_wp2_with fail
 refine (HC.out _ (by (with_reducible repeat first | apply Qa | assumption | apply Qb | apply Qc | apply Qd | apply Qe | refine Qf ?_ (by assumption) ?_); all_goals (try simp only [Sz]); first | done | omega | (try simp only [Sz] at *); omega)).mono ?_
 rintro e w1 ⟨rfl, hb1⟩
 have hB : Below w.heap.size w w1 := (by (with_reducible repeat first | apply Qa | assumption | apply Qb | apply Qc | apply Qd | apply Qe | refine Qf ?_ (by assumption) ?_); all_goals (try simp only [Sz]); first | done | omega | (try simp only [Sz] at *); omega)
 have hP : Blk w1 (w.heap.size + 1) 71 #[.slice none 0 0, .int .i64 0, .bool false, .int .i64 0, .slice none 0 0] := Blk.below (Blk.new' (by simp)) hb1 (by simp)
 have p0 := hP.cell 0
 have p1 := hP.cell 1
 have p2 := hP.cell 2
 have p3 := hP.cell 3
 have p4 := hP.cell 4
 have f0 := hP.frozen 0
 have f1 := hP.frozen 1
 have f2 := hP.frozen 2
 have f3 := hP.frozen 3
 have f4 := hP.frozen 4
 have lp := hP.lt
 simp only [Yl] at p0 p1 p2 p3 p4
 go_wp2_with fail
 refine bodyPost_ret (v := .tuple #[.agg #[.slice none 0 0, .int .i64 0, .bool false, .int .i64 0, .slice none 0 0], .int .i64 2]) (by simp [results, Tryz.results40, go_sem, p0, p1, p2, p3, p4, World.cell?_setCell_same, World.cell?_setCell_other]) rfl ?_
 exact ⟨(by (with_reducible repeat first | apply Qa | assumption | apply Qb | apply Qc | apply Qd | apply Qe | refine Qf ?_ (by assumption) ?_); all_goals (try simp only [Sz]); first | done | omega | (try simp only [Sz] at *); omega), _, rfl, ResAt.none_⟩)
theorem Run_err3a (regs : Int) (A : Option Addr) (l : List Nd) (cap : Nat) (Ai : Option Addr) (inp : List Int) (ci : Nat) (fuel : Int) (w : World) (hl : l.length ≤ maxLen) (hA : NodesAt w A l) (h0 : chk regs l = 0) (h1 : inp.length ≤ 256) (h2 : fuel < 0) :
 Calls Tryz.prog 40 #[.agg #[.int .i64 regs, .slice A l.length cap], .slice Ai inp.length ci, .int .i64 fuel] w (RunPost 3 103 regs l inp fuel w) := by (
 have hC := fun W (hW : Below w.heap.size w W) => Check_any regs A l cap W hl (hA.below hW)
 rw [h0] at hC
 have HC := hide hC
 have hE : runE regs l inp fuel = 3 := by rw [runE, if_pos h0, if_neg (by omega), if_pos (.inl h2)]
 have hS : runS regs l inp fuel = noRs := by rw [runS, hE]; rfl
 unfold RunPost
 rw [hE, hS]
 clear hC hE hS h0 hA
 have h3 : ¬ (256 : Int) < (inp.length : Int) := by omega
 go_enter Tryz.func40, Tryz.ntmps40
 go_wp2_with fail
 refine (HC.out _ (by (with_reducible repeat first | apply Qa | assumption | apply Qb | apply Qc | apply Qd | apply Qe | refine Qf ?_ (by assumption) ?_); all_goals (try simp only [Sz]); first | done | omega | (try simp only [Sz] at *); omega)).mono ?_
 rintro e w1 ⟨rfl, hb1⟩
 have hB : Below w.heap.size w w1 := (by (with_reducible repeat first | apply Qa | assumption | apply Qb | apply Qc | apply Qd | apply Qe | refine Qf ?_ (by assumption) ?_); all_goals (try simp only [Sz]); first | done | omega | (try simp only [Sz] at *); omega)
 have hP : Blk w1 (w.heap.size + 1) 71 #[.slice none 0 0, .int .i64 0, .bool false, .int .i64 0, .slice none 0 0] := Blk.below (Blk.new' (by simp)) hb1 (by simp)
 have p0 := hP.cell 0
 have p1 := hP.cell 1
 have p2 := hP.cell 2
 have p3 := hP.cell 3
 have p4 := hP.cell 4
 have f0 := hP.frozen 0
 have f1 := hP.frozen 1
 have f2 := hP.frozen 2
 have f3 := hP.frozen 3
 have f4 := hP.frozen 4
 have lp := hP.lt
 simp only [Yl] at p0 p1 p2 p3 p4
 go_wp2_with fail
 refine bodyPost_ret (v := .tuple #[.agg #[.slice none 0 0, .int .i64 0, .bool false, .int .i64 0, .slice none 0 0], .int .i64 3]) (by simp [results, Tryz.results40, go_sem, p0, p1, p2, p3, p4, World.cell?_setCell_same, World.cell?_setCell_other]) rfl ?_
 exact ⟨(by (with_reducible repeat first | apply Qa | assumption | apply Qb | apply Qc | apply Qd | apply Qe | refine Qf ?_ (by assumption) ?_); all_goals (try simp only [Sz]); first | done | omega | (try simp only [Sz] at *); omega), _, rfl, ResAt.none_⟩)
theorem Run_err3b (regs : Int) (A : Option Addr) (l : List Nd) (cap : Nat) (Ai : Option Addr) (inp : List Int) (ci : Nat) (fuel : Int) (w : World) (hl : l.length ≤ maxLen) (hA : NodesAt w A l) (h0 : chk regs l = 0) (h1 : inp.length ≤ 256) (h2 : 131072 < fuel) :
 Calls Tryz.prog 40 #[.agg #[.int .i64 regs, .slice A l.length cap], .slice Ai inp.length ci, .int .i64 fuel] w (RunPost 3 103 regs l inp fuel w) := by (
 have hC := fun W (hW : Below w.heap.size w W) => Check_any regs A l cap W hl (hA.below hW)
 rw [h0] at hC
 have HC := hide hC
 have hE : runE regs l inp fuel = 3 := by rw [runE, if_pos h0, if_neg (by omega), if_pos (.inr h2)]
 have hS : runS regs l inp fuel = noRs := by rw [runS, hE]; rfl
 unfold RunPost
 rw [hE, hS]
 clear hC hE hS h0 hA
 have h3 : ¬ (256 : Int) < (inp.length : Int) := by omega
 have h4 : ¬ fuel < 0 := by omega
 go_enter Tryz.func40, Tryz.ntmps40
 go_wp2_with fail
 refine (HC.out _ (by (with_reducible repeat first | apply Qa | assumption | apply Qb | apply Qc | apply Qd | apply Qe | refine Qf ?_ (by assumption) ?_); all_goals (try simp only [Sz]); first | done | omega | (try simp only [Sz] at *); omega)).mono ?_
 rintro e w1 ⟨rfl, hb1⟩
 have hB : Below w.heap.size w w1 := (by (with_reducible repeat first | apply Qa | assumption | apply Qb | apply Qc | apply Qd | apply Qe | refine Qf ?_ (by assumption) ?_); all_goals (try simp only [Sz]); first | done | omega | (try simp only [Sz] at *); omega)
 have hP : Blk w1 (w.heap.size + 1) 71 #[.slice none 0 0, .int .i64 0, .bool false, .int .i64 0, .slice none 0 0] := Blk.below (Blk.new' (by simp)) hb1 (by simp)
 have p0 := hP.cell 0
 have p1 := hP.cell 1
 have p2 := hP.cell 2
 have p3 := hP.cell 3
 have p4 := hP.cell 4
 have f0 := hP.frozen 0
 have f1 := hP.frozen 1
 have f2 := hP.frozen 2
 have f3 := hP.frozen 3
 have f4 := hP.frozen 4
 have lp := hP.lt
 simp only [Yl] at p0 p1 p2 p3 p4
 go_wp2_with fail
 refine bodyPost_ret (v := .tuple #[.agg #[.slice none 0 0, .int .i64 0, .bool false, .int .i64 0, .slice none 0 0], .int .i64 3]) (by simp [results, Tryz.results40, go_sem, p0, p1, p2, p3, p4, World.cell?_setCell_same, World.cell?_setCell_other]) rfl ?_
 exact ⟨(by (with_reducible repeat first | apply Qa | assumption | apply Qb | apply Qc | apply Qd | apply Qe | refine Qf ?_ (by assumption) ?_); all_goals (try simp only [Sz]); first | done | omega | (try simp only [Sz] at *); omega), _, rfl, ResAt.none_⟩)
end
section
open Go.RowKit
set_option maxHeartbeats 4000000
attribute [local irreducible] Row CRow madeCells
abbrev Ct.val (n : Ct) : Value := .agg #[.int .i64 n.1.op, .int .i64 n.1.a, .int .i64 n.1.b, .int .i64 n.2]
theorem cntOf_at : ∀ {cs : List Ct} {k : Nat} {x : Ct} {t : Tm}, cs[k]? = some x → x.1 = t → (∀ j y, j < k → cs[j]? = some y → y.1 ≠ t) → cntOf cs t = x.2
 | [], k, x, t, h, _, _ => by simp at h
 | (u, n) :: cs, 0, x, t, h, ht, _ => by (
 simp at h
 subst h
 rw [cntOf_cons, if_pos ht])
 | (u, n) :: cs, k + 1, x, t, h, ht, hno => by (
 rw [cntOf_cons, if_neg (hno 0 (u, n) (by omega) rfl)]
 exact cntOf_at (by simpa using h) ht fun j y hj hy => hno (j + 1) y (by omega) (by simpa using hy))
theorem cntOf_no {cs : List Ct} {t : Tm} (h : ∀ j y, j < cs.length → cs[j]? = some y → y.1 ≠ t) : cntOf cs t = 0 :=
 cntOf_none fun x hx => by (
 obtain ⟨j, hj, e⟩ := List.getElem_of_mem hx
 exact h j x hj (by rw [List.getElem?_eq_getElem hj, e]))
theorem Times_any (O : Option Addr) (on oc : Nat) (rt : Int) (en : Bool) (st : Int) (C : Option Addr) (cc : Nat) (cs : List Ct) (t : Tm) (w : World) (hC : CtsAt w C cs) (hl : cs.length ≤ maxLen) :
 Calls Tryz.prog 41 #[.agg #[.slice O on oc, .int .i64 rt, .bool en, .int .i64 st, .slice C cs.length cc], .agg #[.int .i64 t.op, .int .i64 t.a, .int .i64 t.b]] w fun e w' => e = .returned (.int .i64 (cntOf cs t)) ∧ Below w.heap.size w w' := by (
 unfold maxLen at hl
 go_enter Tryz.func41, Tryz.ntmps41
 go_wp2_with fail
 go_loopg [10] (cs.length) (fun gk i wr => ∃ k : Nat, k ≤ cs.length ∧ i = .int .i64 k ∧ gk = cs.length - k ∧ (∀ j y, j < k → cs[j]? = some y → y.1 ≠ t) ∧ Blk wr (w.heap.size + 1) 26 #[.int .i64 t.op, .int .i64 t.a, .int .i64 t.b] ∧ Below w.heap.size w wr)
 case atStart => exact ⟨0, Nat.zero_le _, rfl, by omega, fun j y hj => by omega, (by repeat (first | ((with_reducible refine Blk.new' ?_); exact (by (try simp only [Sz]); first | done | omega | (try simp only [Sz] at *); omega)) | (with_reducible refine Blk.drew ?_) | (with_reducible refine Blk.drewN ?_ _) | (with_reducible refine Blk.alloc ?_ _) | with_reducible assumption)), (by (with_reducible repeat first | apply Qa | assumption | apply Qb | apply Qc | apply Qd | apply Qe | refine Qf ?_ (by assumption) ?_); all_goals (try simp only [Sz]); first | done | omega | (try simp only [Sz] at *); omega)⟩
 case round => (
 obtain ⟨k, hk, rfl, hgk, hno, hT, hBl⟩ := hrel
 have Hgk := hide hgk
 have Hno := hide hno
 clear hgk hno
 by_cases hlt : k < cs.length
 · (
 obtain ⟨b, o, x, rfl, hab, hx, hxl⟩ := (hC.below hBl).get hlt
 have Hx := hide hx
 have k0 : (0 : Int) ≤ (k : Int) := by omega
 have k1 : (k : Int) < (cs.length : Int) := by omega
 obtain ⟨c0, c1, c2, c3⟩ := hxl
 have q0 := hT.cell 0
 have q1 := hT.cell 1
 have q2 := hT.cell 2
 have lT := hT.lt
 simp only [Yl] at q0 q1 q2
 have hgd := guardTerm
 have hEq := fun W => run_eq_term x.1 t W
 unfold Tm.val at hEq
 have HT := hide hT
 have HB := hide hBl
 cases hq : (x.1 == t)
 case false => (
 rw [hq] at hEq
 have Hq := hide hq
 clear hC hx hq hT hBl
 go_wp2_with fail
 go_roundg (cs.length - (k + 1))
 case measure => have := Hgk.out; omega
 case rel => (
 have hBl := HB.out
 refine ⟨k + 1, by omega, by go_num, rfl, fun j y hj hy => ?_, HT.out.alloc _, (by (with_reducible repeat first | apply Qa | assumption | apply Qb | apply Qc | apply Qd | apply Qe | refine Qf ?_ (by assumption) ?_); all_goals (try simp only [Sz]); first | done | omega | (try simp only [Sz] at *); omega)⟩
 by_cases hjk : j = k
 · (
 subst hjk
 rw [Hx.out] at hy
 injection hy with hy
 subst hy
 simpa using Hq.out)
 · exact Hno.out j y (by omega) hy))
 case true => (
 rw [hq] at hEq
 have hf : cntOf cs t = x.2 := cntOf_at Hx.out (by simpa using hq) Hno.out
 have Hf := hide hf
 clear hC hx hq hf hT hBl
 go_wp2_with fail
 go_ret
 have hBl := HB.out
 exact ⟨by rw [Hf.out]; rfl, (by (with_reducible repeat first | apply Qa | assumption | apply Qb | apply Qc | apply Qd | apply Qe | refine Qf ?_ (by assumption) ?_); all_goals (try simp only [Sz]); first | done | omega | (try simp only [Sz] at *); omega)⟩))
 · (
 have hf : cntOf cs t = 0 := cntOf_no fun j y hj hy => Hno.out j y (by omega) hy
 have Hf := hide hf
 clear hf hC
 go_wp2_with fail
 go_ret
 exact ⟨by rw [Hf.out]; rfl, hBl⟩)))
end
section
open Go.RowKit
set_option maxHeartbeats 4000000
def cmpI (x y : Int) : Int := if x < y then -1 else if y < x then 1 else 0
theorem Compare_any (x y : Int) (w : World) : Calls Tryz.prog 99 #[.int .i64 x, .int .i64 y] w fun e w' => e = .returned (.int .i64 (cmpI x y)) ∧ w' = w := by
  go_enter Tryz.func99, Tryz.ntmps99
  go_wp2
  all_goals (go_ret; refine ⟨?_, rfl⟩; unfold cmpI; (repeat' split) <;> first | rfl | (exfalso; omega))
def orL : List Int → Int
  | [] => 0
  | x :: l => if x = 0 then orL l else x
theorem Or_any (x y z : Int) (g c : Nat) (w : World) (h0 : w.cell? ⟨g, 0, none⟩ = some (.int .i64 x)) (h1 : w.cell? ⟨g, 1, none⟩ = some (.int .i64 y)) (h2 : w.cell? ⟨g, 2, none⟩ = some (.int .i64 z)) :
    Calls Tryz.prog 98 #[.slice (some ⟨g, 0, none⟩) 3 c] w fun e w' => e = .returned (.int .i64 (orL [x, y, z])) ∧ w' = w := by
  have hV : ValsAt w (some ⟨g, 0, none⟩) (ints [x, y, z]) := fun _ => ⟨g, 0, rfl, by
    rcases Nat.lt_or_ge g w.heap.size with hl | hl
    · exact hl
    · rw [World.cell?] at h0
      simp [Array.getElem?_eq_none hl] at h0, fun i v hi => by
    rcases i with _ | _ | _ | i
    · simp [ints] at hi; subst hi; exact h0
    · simp [ints] at hi; subst hi; exact h1
    · simp [ints] at hi; subst hi; exact h2
    · simp [ints] at hi⟩
  clear h0 h1 h2
  go_enter Tryz.func98, Tryz.ntmps98
  go_wp2_with fail
  go_loopg [8] (3) (fun gk i wr => ∃ k : Nat, k ≤ 3 ∧ i = .int .i64 k ∧ gk = 3 - k ∧ (∀ j u, j < k → [x, y, z][j]? = some u → u = 0) ∧ wr = w)
  case atStart => exact ⟨0, by omega, rfl, rfl, fun j u hj => by omega, rfl⟩
  case round =>
    obtain ⟨k, hk, rfl, hgk, hno, rfl⟩ := hrel
    have Hgk := hide hgk
    have Hno := hide hno
    clear hgk hno
    by_cases hlt : k < 3
    · obtain ⟨b, o, u, e1, hb, hu, cu⟩ := hV.int (k := k) hlt
      injection e1 with e1
      injection e1 with e1 e2 _
      subst e1 e2
      have Hu := hide hu
      rw [Nat.zero_add] at cu
      have k0 : (0 : Int) ≤ (k : Int) := by omega
      have k1 : (k : Int) < 3 := by omega
      clear hV hu
      by_cases hq : u = 0
      · subst hq
        go_wp2_with fail
        go_roundg (3 - (k + 1))
        case measure => have := Hgk.out; omega
        case rel =>
          refine ⟨k + 1, by omega, by go_num, rfl, fun j v hj hv => ?_, rfl⟩
          by_cases hjk : j = k
          · subst hjk
            rw [Hu.out] at hv
            exact (Option.some.inj hv).symm
          · exact Hno.out j v (by omega) hv
      · have hq2 : (u != 0) = true := by simpa using hq
        have hr : orL [x, y, z] = u := by
          have hno := Hno.out
          have hu := Hu.out
          rcases k with _ | _ | _ | k
          · simp at hu; subst hu; simp [orL, hq]
          · have := hno 0 x (by omega) rfl; simp at hu; subst hu; simp [orL, hq, this]
          · have h1 := hno 0 x (by omega) rfl; have h2 := hno 1 y (by omega) rfl; simp at hu; subst hu; simp [orL, hq, h1, h2]
          · omega
        have Hr := hide hr
        clear hr
        go_wp2_with fail
        go_ret
        exact ⟨by rw [Hr.out]; rfl, rfl⟩
    · have hr : orL [x, y, z] = 0 := by
        have hno := Hno.out
        have h1 := hno 0 x (by omega) rfl
        have h2 := hno 1 y (by omega) rfl
        have h3 := hno 2 z (by omega) rfl
        simp [orL, h1, h2, h3]
      have Hr := hide hr
      clear hr hV
      go_wp2_with fail
      go_ret
      exact ⟨by rw [Hr.out]; rfl, rfl⟩
def cmpT (a b : Tm) : Int := orL [cmpI a.op b.op, cmpI a.a b.a, cmpI a.b b.b]
theorem cmpT_lt (a b : Tm) : decide (cmpT a b < 0) = ltT a b := by
  unfold cmpT ltT orL orL orL orL cmpI
  repeat' split
  all_goals simp
  all_goals omega
open Go.Shelf Go.Lib Go.Sort in
theorem order_any (a b : Tm) (w : World) : Calls Tryz.prog 78 #[.agg #[.int .i64 a.op, .int .i64 a.a, .int .i64 a.b], .agg #[.int .i64 b.op, .int .i64 b.a, .int .i64 b.b]] w fun e w' => e = .returned (.int .i64 (cmpT a b)) ∧ ∃ q os', w' = grow (w.drewN q) os' := by
  have HC := fun x y W => hide (Compare_any x y W)
  have HO := fun x y z g c W (hB : Blk W g 3 #[.int .i64 x, .int .i64 y, .int .i64 z]) => hide (Or_any x y z g c W (hB.cell 0) (hB.cell 1) (hB.cell 2))
  go_enter Tryz.func78, Tryz.ntmps78
  go_upto_region 1 with fail
  go_region_held3 (fun w' => w'.cell? ⟨w.heap.size, 0, none⟩ = some (.int .i64 a.op) ∧ w'.cell? ⟨w.heap.size, 1, none⟩ = some (.int .i64 a.a) ∧ w'.cell? ⟨w.heap.size, 2, none⟩ = some (.int .i64 a.b) ∧ w'.cell? ⟨w.heap.size + 1, 0, none⟩ = some (.int .i64 b.op) ∧ w'.cell? ⟨w.heap.size + 1, 1, none⟩ = some (.int .i64 b.a) ∧ w'.cell? ⟨w.heap.size + 1, 2, none⟩ = some (.int .i64 b.b)) (((try go_split_ands); (try dsimp only); (repeat' apply And.intro) <;> (first | assumption | go_keep)))
    (first | (go_at_call 99; refine ((HC _ _ _).out).mono ?_; rintro e w3 ⟨rfl, rfl⟩) | (go_at_call 98; refine ((HO _ _ _ _ _ _ (by repeat (first | ((with_reducible refine Blk.new' ?_); exact (by (try simp only [Sz]); first | done | omega | (try simp only [Sz] at *); omega)) | (with_reducible refine Blk.drew ?_) | (with_reducible refine Blk.drewN ?_ _) | (with_reducible refine Blk.alloc ?_ _) | with_reducible assumption))).out).mono ?_; rintro e w3 ⟨rfl, rfl⟩))
  all_goals go_wp2_with fail
  all_goals go_tidy
  all_goals go_ret
  exact ⟨rfl, 1, _, by rw [alloc_eq_grow, alloc_eq_grow, alloc_eq_grow, grow_grow, grow_grow]; rfl⟩
open Go.Shelf Go.Lib Go.Sort in
theorem closure_any (x y : Ct) (w : World) : Calls Tryz.prog 77 #[.agg #[.int .i64 x.1.op, .int .i64 x.1.a, .int .i64 x.1.b, .int .i64 x.2], .agg #[.int .i64 y.1.op, .int .i64 y.1.a, .int .i64 y.1.b, .int .i64 y.2]] w fun e w' => e = .returned (.int .i64 (cmpT x.1 y.1)) ∧ ∃ q os', w' = grow (w.drewN q) os' := by
  have HO := fun W => hide (order_any x.1 y.1 W)
  go_enter Tryz.func77, Tryz.ntmps77
  go_wp2_with (go_at_call 78; refine ((HO _).out).mono ?_; rintro e w3 ⟨rfl, q, os, rfl⟩)
  go_ret
  exact ⟨rfl, q, _, by rw [alloc_eq_grow, alloc_eq_grow, grow_grow]; exact grow_grow (w.drewN q) _ os⟩
instance : Inhabited Ct := ⟨(⟨0, 0, 0⟩, 0)⟩
open Go.Shelf Go.Lib Go.Sort in
theorem cmpLays_run (blk off size : Nat) (w : World) : CmpLays Tryz.prog 77 #[] Ct.cells 4 (fun x y => cmpT x.1 y.1) blk off size w :=
  fun _ _ _ _ x y => closure_any x y _
open Go.Shelf Go.Lib Go.Sort in
theorem swo_run : SWO (ltOf fun x y : Ct => cmpT x.1 y.1) where
  irrefl x := by unfold ltOf; rw [cmpT_lt]; exact ltT_irrefl _
  trans x y z h1 h2 := by unfold ltOf at *; rw [cmpT_lt] at *; exact ltT_trans h1 h2
  ntrans x y z h1 h2 := by
    unfold ltOf at *
    rw [cmpT_lt] at *
    simp only [ltT, decide_eq_false_iff_not] at *
    omega
end
section
open Go.RowKit
def Ct.put (n : Ct) (j : Nat) (z : Int) : Ct :=
 match j with
 | 0 => (⟨z, n.1.a, n.1.b⟩, n.2)
 | 1 => (⟨n.1.op, z, n.1.b⟩, n.2)
 | 2 => (⟨n.1.op, n.1.a, z⟩, n.2)
 | 3 => (n.1, z)
 | _ => n
theorem Ct.put_cells (n : Ct) (j : Nat) (z : Int) (hj : j < 4) : Ct.cells (Ct.put n j z) = (Ct.cells n).set j (.int .i64 z) := by (
 match j, hj with
 | 0, _ => rfl
 | 1, _ => rfl
 | 2, _ => rfl
 | 3, _ => rfl)
section
variable {w w' : World} {base : Nat} {e : TypeId} {v : Value} {l : List Ct}
theorem CRow.store {g n cap : Nat} (h : CRow w base e (.slice (some ⟨g, 0, none⟩) n cap) l) {k j : Nat} {x : Ct} (hk : l[k]? = some x) (hj : j < 4) (z : Int) :
 CRow (w.setCell ⟨g, k * 4 + j, none⟩ (.int .i64 z)) base e (.slice (some ⟨g, 0, none⟩) n cap) (l.set k (Ct.put x j z)) := by (
 have hlt : k < l.length := (List.getElem?_eq_some_iff.1 hk).1
 rcases h.open with ⟨hv, _⟩ | ⟨g', cap', cur, hv, hb, hh, h1, h2, h3, hc⟩
 · cases hv
 · (
 injection hv with hA hn hcp
 injection hA with hA
 injection hA with hg _
 subst hg hn hcp
 have := CRow.close (w := w.setCell ⟨g, k * 4 + j, none⟩ (.int .i64 z)) (base := base) (e := e) (g := g) (cap := cap) (l := l.set k (Ct.put x j z)) hb (heap_setCell_own hh _) (by simpa using h1) h2 (by simpa using h3) (fun i hi => ?_)
 · rwa [List.length_set] at this
 · (
 rw [List.length_set] at hi
 rw [Array.getElem?_setIfInBounds]
 have e6 : i % 4 < 4 := Nat.mod_lt _ (by omega)
 have ei : i = i / 4 * 4 + i % 4 := by omega
 have hget : (ccells (l.set k (Ct.put x j z)))[i]? = ((l.set k (Ct.put x j z))[i / 4]?).bind fun n => (Ct.cells n)[i % 4]? := by (
 have := ccells_get (l.set k (Ct.put x j z)) (i / 4) (i % 4) e6
 rwa [← ei] at this)
 have hold : cur[i]? = (l[i / 4]?).bind fun n => (Ct.cells n)[i % 4]? := by (
 rw [hc i hi]
 have := ccells_get l (i / 4) (i % 4) e6
 rwa [← ei] at this)
 rw [hget, List.getElem?_set]
 by_cases hik : k = i / 4
 · (
 rw [if_pos hik, if_pos hlt, Option.bind_some, Ct.put_cells _ _ _ hj, List.getElem?_set]
 by_cases hij : j = i % 4
 · rw [if_pos (show k * 4 + j = i by omega), if_pos (show k * 4 + j < cur.size by omega), if_pos hij, if_pos (by rw [Ct.cells_len]; exact hj)]
 · (
 rw [if_neg hij, if_neg (by omega), hold, ← hik, hk]
 rfl))
 · rw [if_neg hik, if_neg (by omega), hold])))
end
end
section
open Go.RowKit
set_option maxHeartbeats 8000000
attribute [local irreducible] Row CRow madeCells
def posT (cs : List Ct) (t : Tm) : Nat := (cs.takeWhile fun x => ltT x.1 t).length
theorem infoCount : (Tryz.prog.info? 103).map (fun i => (i.zero, i.size, i.bytes)) = some (some (.agg #[.int .i64 0, .int .i64 0, .int .i64 0, .int .i64 0]), 4, 32) := by kernel_rfl
def OncePost (tC : TypeId) (B : Nat) (v : Value) (cs : List Ct) (t : Tm) (w : World) (e : Ending) (w' : World) : Prop :=
 ∃ v', e = .returned v' ∧ CRow w' B tC v' (onceL cs t) ∧ w.grownBy w' v.ownBlock ∧ (v'.ownBlock = v.ownBlock ∨ ∀ k, v'.ownBlock = some k → w.heap.size ≤ k)
end
end Go.Proofs.YtmghkonmfbpjcabGreat
