/- RunU RunG RunH RunO CRow2 RunD RunE. -/
import Derived.Test.YtmghkonmfbpjcaaGreatDoorRunT
import Derived.Test.YtmghkonmfbpjcaaGreatDoorGA
import Derived.Test.YtmghkonmfbpjcaaGreatDoorGL
import Derived.Test.YtmghkonmfbpjcaaGreatDoorGB
import Derived.Maps.RangeWalk
import Derived.Deep.DeepCutAuto
import Derived.Deep.Cut
import Derived.Deep.RegionLaw
import Derived.Test.YtmghkonmfbpjcaaGreatDoorGI
import Derived.Deep.RegionHeld3
import Derived.Shelf.SlSortCmp.WholeK
import Derived.Laws.CopyRow
import Derived.Laws.IdiomCopy
import Derived.Deep.QuietTactic
import Derived.BigQuiet
set_option linter.unusedVariables false
set_option linter.unusedSimpArgs false
namespace Go.Proofs.YtmghkonmfbpjcaaGreatDoor
section
open Go.RowKit
open Go.Maps
set_option maxHeartbeats 2000000
attribute [local irreducible] Row madeCells TCount
section
variable {regs : Int} {l : List Nd}
theorem Right.dR (h : Right regs l) {n : Nd} (hn : n ∈ l) (hd : hasD n.op = true) : 0 ≤ n.d ∧ n.d < (regs.toNat : Int) := by (
 have h1 := h.rng n hn
 have h2 := h.rlo
 simp only [badR, okR, hd, Bool.or_eq_false_iff, Bool.not_eq_false', Bool.not_true, Bool.false_or, Bool.and_eq_true, decide_eq_true_eq] at h1
 omega)
theorem Right.aR (h : Right regs l) {n : Nd} (hn : n ∈ l) (hd : hasA n.op = true) : 0 ≤ n.a ∧ n.a < (regs.toNat : Int) := by (
 have h1 := h.rng n hn
 have h2 := h.rlo
 simp only [badR, okR, hd, Bool.or_eq_false_iff, Bool.not_eq_false', Bool.not_true, Bool.false_or, Bool.and_eq_true, decide_eq_true_eq] at h1
 omega)
theorem Right.bR (h : Right regs l) {n : Nd} (hn : n ∈ l) (hd : hasB n.op = true) : 0 ≤ n.b ∧ n.b < (regs.toNat : Int) := by (
 have h1 := h.rng n hn
 have h2 := h.rlo
 simp only [badR, okR, hd, Bool.or_eq_false_iff, Bool.not_eq_false', Bool.not_true, Bool.false_or, Bool.and_eq_true, decide_eq_true_eq] at h1
 omega)
theorem Right.t0 (h : Right regs l) {n : Nd} (hn : n ∈ l) : 0 ≤ n.t := by (
 by_cases h12 : n.op = 12
 · (
 have h := h.frm n hn
 simp only [badF, okF, shT, h12, Bool.or_eq_false_iff, Bool.not_eq_false', Bool.or_eq_true, beq_iff_eq] at h
 rcases h.1.2 with e | e
 · simp at e
 · omega)
 · (
 have := h.then_ hn h12
 omega))
theorem wf_small_ {z : Int} (h0 : -1000 ≤ z) (h1 : z ≤ 1000) : (Lit.int .i64 z).wf = true := by (
 unfold Lit.wf
 rw [Bool.and_eq_true]
 exact ⟨decide_eq_true (by show (-9223372036854775808 : Int) ≤ _; omega), decide_eq_true (by show _ ≤ (9223372036854775807 : Int); omega)⟩)
theorem Right.key_ (h : Right regs l) {n : Nd} (hn : n ∈ l) (hB : hasB n.op = true) : ∃ k, keyOf Tryz.prog 41 (Tm.val ⟨n.op, n.a, n.b⟩) = some k := by (
 have hA : hasA n.op = true := by (
 simp only [hasB, hasA, inB, Bool.and_eq_true, Bool.or_eq_true, decide_eq_true_eq] at *
 omega)
 have ha := h.aR hn hA
 have hb := h.bR hn hB
 have h2 := h.rhi
 have h3 := h.rlo
 simp only [hasB, inB, Bool.and_eq_true, decide_eq_true_eq] at hB
 exact keyTerm ⟨n.op, n.a, n.b⟩ (wf_small_ (by show _ ≤ n.op; omega) (by show n.op ≤ _; omega)) (wf_small_ (by show _ ≤ n.a; omega) (by show n.a ≤ _; omega)) (wf_small_ (by show _ ≤ n.b; omega) (by show n.b ≤ _; omega)))
end
theorem step_any (w : World) (regs : Int) (A : Option Addr) (l : List Nd) (cap : Nat) (inp : List Int) (mb gr gm : Nat) (Ai : Option Addr) (ci : Nat) (ov : Value) (s : Rn) (W : World) (hM : MSt w regs A l cap inp mb gr gm Ai ci ov s W) (hA : NodesAt w A l) (hR : Right regs l) (hok : RnOk regs l inp s) (hst : s.steps < 1000000) :
 Calls Tryz.prog 28 #[.pointer (some ⟨mb, 0, none⟩), .int .i64 s.pos] W fun e' W' => e' = .returned (.int .i64 (stepR l inp s).pos) ∧ ∃ Ai' ci' ov', MSt w regs A l cap inp mb gr gm Ai' ci' ov' (stepR l inp s) W' := by (
 obtain ⟨r1, r2, r3, r4, r5, r6⟩ := hok
 have hr64 : regs.toNat ≤ 64 := by have := hR.rhi; omega
 have hg : l[s.pos]? = some (nd l s.pos) := by rw [nd, List.getD_eq_getElem?_getD, List.getElem?_eq_getElem r2]; rfl
 have hn := List.mem_of_getElem? hg
 obtain ⟨n, hnn⟩ : ∃ n, n = nd l s.pos := ⟨_, rfl⟩
 rw [← hnn] at hg hn
 have ht0 := hR.t0 hn
 have hop := hR.ok n hn
 obtain ⟨op, d, a, b, t, e⟩ := n
 have hL : ((t.toNat : Nat) : Int) = t := Int.toNat_of_nonneg ht0
 have fin : ∀ {z : Int} {s' : Rn} {E : Ending} {W' : World} (p : Nat), z = (p : Int) → stepR l inp s = { s' with pos := p } → (E = .returned (.int .i64 z) ∧ ∃ Ai' ci' ov', MSt w regs A l cap inp mb gr gm Ai' ci' ov' s' W') →
  (E = .returned (.int .i64 (stepR l inp s).pos) ∧ ∃ Ai' ci' ov', MSt w regs A l cap inp mb gr gm Ai' ci' ov' (stepR l inp s) W') := by (
 rintro z s' E W' p rfl h2 ⟨rfl, A', c', o', h⟩
 rw [h2]
 exact ⟨rfl, A', c', o', h.pos_ p⟩)
 have hS : stepR l inp s = stepR l inp s := rfl
 conv at hS => rhs; unfold stepR
 simp only [← hnn] at hS
 by_cases h1 : op = 1
 · (
 subst h1
 exact (step_set w regs A l cap inp mb gr gm Ai ci ov s W hM hA hR.hi r2 hst r1 hr64 d a b t e hg (hR.dR hn rfl)).mono fun E W' h => fin t.toNat hL.symm (by rw [hS]; rfl) h)
 by_cases h2 : op = 2
 · (
 subst h2
 exact (step_copy w regs A l cap inp mb gr gm Ai ci ov s W hM hA hR.hi r2 hst r1 hr64 d a b t e hg (hR.dR hn rfl) (hR.aR hn rfl)).mono fun E W' h => fin t.toNat hL.symm (by rw [hS]; rfl) h)
 by_cases hB : hasB op = true
 · (
 have hDA : hasD op = true ∧ hasA op = true := by (
 simp only [hasB, hasD, hasA, inB, Bool.and_eq_true, Bool.or_eq_true, decide_eq_true_eq] at *
 omega)
 obtain ⟨kl, hkl⟩ := hR.key_ hn hB
 exact (step_reckon w regs A l cap inp mb gr gm Ai ci ov s W hM hA hR.hi r2 hst r1 hr64 op d a b t e hg (hR.dR hn hDA.1) (hR.aR hn hDA.2) (hR.bR hn hB) hB kl hkl (by omega)).mono fun E W' h => fin t.toNat hL.symm (by rw [hS, if_neg h1, if_neg h2, if_pos hB]; rfl) h)
 by_cases h9 : op = 9
 · (
 subst h9
 by_cases hi : s.read < inp.length
 · exact (step_in1 w regs A l cap inp mb gr gm Ai ci ov s W hM hA hR.hi r2 hst r1 hr64 d a b t e hg (hR.dR hn rfl) hi).mono fun E W' h => fin t.toNat hL.symm (by rw [hS, if_neg h1, if_neg h2, if_neg hB, if_pos rfl, if_pos hi]) h
 · exact (step_in0 w regs A l cap inp mb gr gm Ai ci ov s W hM hA hR.hi r2 hst r1 hr64 d a b t e hg (hR.dR hn rfl) (by omega)).mono fun E W' h => fin t.toNat hL.symm (by rw [hS, if_neg h1, if_neg h2, if_neg hB, if_pos rfl, if_neg hi]) h)
 by_cases h10 : op = 10
 · (
 subst h10
 exact (step_out w regs A l cap inp mb gr gm Ai ci ov s W hM hA hR.hi r2 hst r1 hr64 d a b t e hg (hR.aR hn rfl) (by omega)).mono fun E W' h => fin t.toNat hL.symm (by rw [hS, if_neg h1, if_neg h2, if_neg hB, if_neg h9, if_pos rfl]) h)
 by_cases h11 : op = 11
 · (
 subst h11
 by_cases hz : rg s.regs a = 0
 · (
 have he := hR.else_ hn rfl
 exact (step_if0 w regs A l cap inp mb gr gm Ai ci ov s W hM hA hR.hi r2 hst r1 hr64 d a b t e hg (hR.aR hn rfl) hz).mono fun E W' h => fin e.toNat (by simp only at he; omega) (by rw [hS, if_neg h1, if_neg h2, if_neg hB, if_neg h9, if_neg h10, if_pos rfl, if_pos hz]) h)
 · exact (step_if1 w regs A l cap inp mb gr gm Ai ci ov s W hM hA hR.hi r2 hst r1 hr64 d a b t e hg (hR.aR hn rfl) hz).mono fun E W' h => fin t.toNat hL.symm (by rw [hS, if_neg h1, if_neg h2, if_neg hB, if_neg h9, if_neg h10, if_pos rfl, if_neg hz]) h)
 by_cases h12 : op = 12
 · (
 subst h12
 exact (step_end w regs A l cap inp mb gr gm Ai ci ov s W hM hA hR.hi r2 hst r1 hr64 d a b t e hg (hR.aR hn rfl)).mono fun E W' h => fin t.toNat hL.symm (by rw [hS, if_neg h1, if_neg h2, if_neg hB, if_neg h9, if_neg h10, if_neg h11, if_pos rfl]) h)
 have h0 : op = 0 := by (
 simp only [opOk, hasB, inB, Bool.and_eq_true, decide_eq_true_eq] at *
 omega)
 subst h0
 exact (step_skip w regs A l cap inp mb gr gm Ai ci ov s W hM hA hR.hi r2 hst r1 hr64 d a b t e hg).mono fun E W' h => fin t.toNat hL.symm (by rw [hS, if_neg h1, if_neg h2, if_neg hB, if_neg h9, if_neg h10, if_neg h11, if_neg h12]) h)
end
section
open Go.RowKit
open Go.Maps
set_option maxHeartbeats 4000000
set_option maxRecDepth 100000 in
theorem keyTerm_inv {key : Value} {kl : Lit} (h : keyOf Tryz.prog 41 key = some kl) : ∃ t : Tm, key = t.val := by (
 obtain ⟨s, hs⟩ : ∃ s, Tryz.prog.types.size + 1 = s + 2 := ⟨Tryz.prog.types.size - 1, by kernel_rfl⟩
 simp only [keyOf, Tryz.underlying41] at h
 replace h : (if (Tryz.prog.keyType 41 && key.formed Tryz.prog 41) = true then (Tryz.prog.keyLits (Tryz.prog.types.size + 1) 41 key.cells.toList).map fun ls => Lit.string (keyBytes ls) else none) = some kl := h
 split at h
 · (
 rename_i hf
 rw [Bool.and_eq_true] at hf
 have hf := hf.2
 cases key with
 | agg cs =>
  simp only [Value.formed, Tryz.underlying41, cellsTerm, beq_iff_eq] at hf
  obtain ⟨l⟩ := cs
  match l, hf with
  | [x, y, z], _ =>
   rw [hs] at h
   simp only [Program.keyLits, Tryz.underlying41, cellsTerm, Value.cells] at h
   obtain ⟨ls, h, _⟩ := Option.map_eq_some_iff.1 h
   split at h
   · (
 obtain ⟨lss, h, _⟩ := Option.map_eq_some_iff.1 h
 simp only [List.mapM_cons, List.mapM_nil, cellsInt, Tryz.underlying3, List.drop_zero, List.drop_succ_cons, List.take_succ_cons, List.take_zero, bind, Option.bind_eq_some_iff] at h
 obtain ⟨r0, h0, _, ⟨r1, h1, _, ⟨r2, h2, _⟩, _⟩, _⟩ := h
 obtain ⟨n0, rfl⟩ : ∃ n, x = .int .i64 n := by (
 cases x <;> simp at h0
 exact ⟨_, by rw [h0.1.1]⟩)
 obtain ⟨n1, rfl⟩ : ∃ n, y = .int .i64 n := by (
 cases y <;> simp at h1
 exact ⟨_, by rw [h1.1.1]⟩)
 obtain ⟨n2, rfl⟩ : ∃ n, z = .int .i64 n := by (
 cases z <;> simp at h2
 exact ⟨_, by rw [h2.1.1]⟩)
 exact ⟨⟨n0, n1, n2⟩, rfl⟩)
   · cases h
 | _ => simp [Value.formed, Tryz.underlying41] at hf)
 · cases h)
structure Got (D : DataW Unit) (ts : List Tm) (left : Lit → Bool) (cs : List Ct) : Prop where
 val : ∀ x ∈ cs, x.2 = (ts.count x.1 : Int) ∧ ∃ kl, keyOf Tryz.prog 41 x.1.val = some kl ∧ left kl = false ∧ Maps.has D kl = true
 all : ∀ kl, Maps.has D kl = true → left kl = false → ∃ x ∈ cs, keyOf Tryz.prog 41 x.1.val = some kl
 one : (cs.map Prod.fst).Nodup
 sub : ∀ kl, left kl = true → Maps.has D kl = true
theorem Got.start (D : DataW Unit) (ts : List Tm) : Got D ts (Maps.has D) [] :=
 ⟨fun x hx => (by cases hx), fun kl h1 h2 => (by rw [h1] at h2; cases h2), List.nodup_nil, fun kl h => h⟩
theorem Got.step {D : DataW Unit} {ts : List Tm} {left : Lit → Bool} {cs : List Ct} (h : Got D ts left cs) {t : Tm} {kl : Lit} (hk : keyOf Tryz.prog 41 t.val = some kl) (hl : left kl = true) {c : Int} (hc : c = (ts.count t : Int)) :
 Got D ts (fun z => left z && !z.sameKey kl) (cs ++ [(t, c)]) := by (
 obtain ⟨sb, rfl⟩ := lawTerm.str hk
 have hkl : WideAt.IsKeyLit (.string sb) := trivial
 refine ⟨fun x hx => ?_, fun kl' h1 h2 => ?_, ?_, fun kl' hl' => h.sub kl' (by rw [Bool.and_eq_true] at hl'; exact hl'.1)⟩
 · (
 rcases List.mem_append.1 hx with hx | hx
 · (
 obtain ⟨h1, kl', h2, h3, h4⟩ := h.val x hx
 exact ⟨h1, kl', h2, by rw [h3]; rfl, h4⟩)
 · (
 simp at hx
 subst hx
 exact ⟨hc, _, hk, by rw [WideAt.sameKey_self hkl]; simp, h.sub _ hl⟩))
 · (
 rw [Bool.and_eq_false_iff] at h2
 by_cases he : kl' = .string sb
 · exact ⟨(t, c), by simp, by rw [he]; exact hk⟩
 · (
 rcases h2 with h2 | h2
 · (
 obtain ⟨x, hx, hxk⟩ := h.all kl' h1 h2
 exact ⟨x, by simp [hx], hxk⟩)
 · exact absurd (WideAt.sameKey_eq (by simpa using h2)) he))
 · (
 rw [List.map_append, List.nodup_append]
 refine ⟨h.one, by simp, fun a ha b hb => ?_⟩
 simp at hb
 subst hb
 rintro rfl
 obtain ⟨x, hx, hxe⟩ := List.mem_map.1 ha
 obtain ⟨_, kl', h2, h3, _⟩ := h.val x hx
 rw [hxe, hk] at h2
 rw [← Option.some.inj h2, hl] at h3
 cases h3))
theorem Got.count {D : DataW Unit} {ts : List Tm} {left : Lit → Bool} {cs : List Ct} (h : Got D ts left cs) (hall : ∀ kl, left kl = false)
 (h1 : ∀ l, Maps.has D l = true → ∃ t ∈ ts, keyOf Tryz.prog 41 t.val = some l) (h2 : ∀ t ∈ ts, ∃ l, keyOf Tryz.prog 41 t.val = some l ∧ Maps.has D l = true)
 {ds : List Ct} (hp : ds.Perm cs) (hA : Asc ds) : ds = countsL ts := by (
 have hmem : ∀ x ∈ ds, x.2 = (ts.count x.1 : Int) ∧ x.1 ∈ ts := fun x hx => by (
 obtain ⟨e1, kl, e2, _, e3⟩ := h.val x (hp.mem_iff.1 hx)
 obtain ⟨t, ht, e4⟩ := h1 kl e3
 have : x.1 = t := tm_inj (lawTerm.inj e2 e4)
 exact ⟨e1, this ▸ ht⟩)
 refine asc_unique _ _ hA (countsL_asc ts) (fun x hx => ?_) (countsL_pos ts) fun t => ?_
 · (
 obtain ⟨e1, e2⟩ := hmem x hx
 rw [e1]
 exact Int.natCast_pos.2 (List.count_pos_iff.2 e2))
 · (
 rw [countsL_cnt]
 by_cases ht : t ∈ ts
 · (
 obtain ⟨l, e1, e2⟩ := h2 t ht
 obtain ⟨x, hx, e3⟩ := h.all l e2 (hall l)
 have hxt : x.1 = t := tm_inj (lawTerm.inj e3 e1)
 subst hxt
 rw [cntOf_mem hA (hp.mem_iff.2 hx)]
 exact (h.val x hx).1)
 · (
 rw [List.count_eq_zero_of_not_mem ht]
 exact cntOf_none fun x hx e => ht (e ▸ (hmem x hx).2))))
end
section
open Go.RowKit
open Go.Maps
set_option maxHeartbeats 8000000
attribute [local irreducible] Row CRow madeCells TCount
def runE (regs : Int) (l : List Nd) (inp : List Int) (fuel : Int) : Int := if chk regs l = 0 then (if 256 < inp.length then 2 else if fuel < 0 ∨ 131072 < fuel then 3 else 0) else chk regs l
structure Rs where
 out : List Int
 ret : Int
 ended : Bool
 steps : Nat
 cts : List Ct
deriving DecidableEq
def Rn.told (s : Rn) : Rs := ⟨s.out, s.ret, s.ended, s.steps, countsL s.ts⟩
def noRs : Rs := ⟨[], 0, false, 0, []⟩
def runS (regs : Int) (l : List Nd) (inp : List Int) (fuel : Int) : Rs := if runE regs l inp fuel = 0 then (runR regs l inp fuel.toNat).told else noRs
def ResAt (tI tC : TypeId) (B : Nat) (W : World) (v : Value) (r : Rs) : Prop := ∃ ov cv, v = .agg #[ov, .int .i64 r.ret, .bool r.ended, .int .i64 r.steps, cv] ∧ Row W B tI ov (ints r.out) ∧ CRow W B tC cv r.cts
def RunPost (tI tC : TypeId) (regs : Int) (l : List Nd) (inp : List Int) (fuel : Int) (w : World) (e : Ending) (w' : World) : Prop :=
 Below w.heap.size w w' ∧ ∃ v, e = .returned (.tuple #[v, .int .i64 (runE regs l inp fuel)]) ∧ ResAt tI tC w.heap.size w' v (runS regs l inp fuel)
theorem ResAt.none_ {tI tC : TypeId} {B : Nat} {W : World} : ResAt tI tC B W (.agg #[.slice none 0 0, .int .i64 0, .bool false, .int .i64 0, .slice none 0 0]) noRs :=
 ⟨_, _, rfl, Row.nil_ _ _ _, CRow.nil_ _ _ _⟩
set_option maxRecDepth 100000 in
theorem Run_err1 (regs : Int) (A : Option Addr) (l : List Nd) (cap : Nat) (Ai : Option Addr) (inp : List Int) (ci : Nat) (fuel : Int) (w : World) (hl : l.length ≤ maxLen) (hA : NodesAt w A l) (h0 : chk regs l ≠ 0) :
 Calls Tryz.prog 8 #[.agg #[.int .i64 regs, .slice A l.length cap], .slice Ai inp.length ci, .int .i64 fuel] w (RunPost 3 66 regs l inp fuel w) := by (
 have hC := fun W (hW : Below w.heap.size w W) => Check_any regs A l cap W hl (hA.below hW)
 have HC := hide hC
 have hE : runE regs l inp fuel = chk regs l := by rw [runE, if_neg h0]
 have hS : runS regs l inp fuel = noRs := by rw [runS, if_neg (by rw [hE]; exact h0)]
 unfold RunPost
 rw [hE, hS]
 have hne : (chk regs l != 0) = true := by simpa using h0
 clear hC hE hS h0 hA
 generalize chk regs l = c at *
 go_enter Tryz.func8, Tryz.ntmps8
 go_wp2_with fail
 refine (HC.out _ (by (with_reducible repeat first | apply Qa | assumption | apply Qb | apply Qc | apply Qd | apply Qe | refine Qf ?_ (by assumption) ?_); all_goals (try simp only [Sz]); first | done | omega | (try simp only [Sz] at *); omega)).mono ?_
 rintro e w1 ⟨rfl, hb1⟩
 have hB : Below w.heap.size w w1 := (by (with_reducible repeat first | apply Qa | assumption | apply Qb | apply Qc | apply Qd | apply Qe | refine Qf ?_ (by assumption) ?_); all_goals (try simp only [Sz]); first | done | omega | (try simp only [Sz] at *); omega)
 have hP : Blk w1 (w.heap.size + 1) 33 #[.slice none 0 0, .int .i64 0, .bool false, .int .i64 0, .slice none 0 0] := Blk.below (Blk.new' (by simp)) hb1 (by simp)
 have p0 := hP.cell 0
 have p1 := hP.cell 1
 have p2 := hP.cell 2
 have p3 := hP.cell 3
 have p4 := hP.cell 4
 have f0 := hP.frozen 0
 have f1 := hP.frozen 1
 have f2 := hP.frozen 2
 have f3 := hP.frozen 3
 have f4 := hP.frozen 4
 have lp := hP.lt
 simp only [Yl] at p0 p1 p2 p3 p4
 go_wp2_with fail
 refine bodyPost_ret (v := .tuple #[.agg #[.slice none 0 0, .int .i64 0, .bool false, .int .i64 0, .slice none 0 0], .int .i64 c]) (by simp [results, Tryz.results8, go_sem, p0, p1, p2, p3, p4, World.cell?_setCell_same, World.cell?_setCell_other]) rfl ?_
 exact ⟨(by (with_reducible repeat first | apply Qa | assumption | apply Qb | apply Qc | apply Qd | apply Qe | refine Qf ?_ (by assumption) ?_); all_goals (try simp only [Sz]); first | done | omega | (try simp only [Sz] at *); omega), _, rfl, ResAt.none_⟩)
set_option maxRecDepth 100000 in
theorem Run_err2 (regs : Int) (A : Option Addr) (l : List Nd) (cap : Nat) (Ai : Option Addr) (inp : List Int) (ci : Nat) (fuel : Int) (w : World) (hl : l.length ≤ maxLen) (hA : NodesAt w A l) (h0 : chk regs l = 0) (h1 : 256 < inp.length) :
 Calls Tryz.prog 8 #[.agg #[.int .i64 regs, .slice A l.length cap], .slice Ai inp.length ci, .int .i64 fuel] w (RunPost 3 66 regs l inp fuel w) := by (
 have hC := fun W (hW : Below w.heap.size w W) => Check_any regs A l cap W hl (hA.below hW)
 rw [h0] at hC
 have HC := hide hC
 have hE : runE regs l inp fuel = 2 := by rw [runE, if_pos h0, if_pos h1]
 have hS : runS regs l inp fuel = noRs := by rw [runS, hE]; rfl
 unfold RunPost
 rw [hE, hS]
 clear hC hE hS h0 hA
 have h2 : (256 : Int) < (inp.length : Int) := by omega
 clear h1
 go_enter Tryz.func8, Tryz.ntmps8
 go_wp2_with fail
 refine (HC.out _ (by (with_reducible repeat first | apply Qa | assumption | apply Qb | apply Qc | apply Qd | apply Qe | refine Qf ?_ (by assumption) ?_); all_goals (try simp only [Sz]); first | done | omega | (try simp only [Sz] at *); omega)).mono ?_
 rintro e w1 ⟨rfl, hb1⟩
 have hB : Below w.heap.size w w1 := (by (with_reducible repeat first | apply Qa | assumption | apply Qb | apply Qc | apply Qd | apply Qe | refine Qf ?_ (by assumption) ?_); all_goals (try simp only [Sz]); first | done | omega | (try simp only [Sz] at *); omega)
 have hP : Blk w1 (w.heap.size + 1) 33 #[.slice none 0 0, .int .i64 0, .bool false, .int .i64 0, .slice none 0 0] := Blk.below (Blk.new' (by simp)) hb1 (by simp)
 have p0 := hP.cell 0
 have p1 := hP.cell 1
 have p2 := hP.cell 2
 have p3 := hP.cell 3
 have p4 := hP.cell 4
 have f0 := hP.frozen 0
 have f1 := hP.frozen 1
 have f2 := hP.frozen 2
 have f3 := hP.frozen 3
 have f4 := hP.frozen 4
 have lp := hP.lt
 simp only [Yl] at p0 p1 p2 p3 p4
 go_wp2_with fail
 refine bodyPost_ret (v := .tuple #[.agg #[.slice none 0 0, .int .i64 0, .bool false, .int .i64 0, .slice none 0 0], .int .i64 2]) (by simp [results, Tryz.results8, go_sem, p0, p1, p2, p3, p4, World.cell?_setCell_same, World.cell?_setCell_other]) rfl ?_
 exact ⟨(by (with_reducible repeat first | apply Qa | assumption | apply Qb | apply Qc | apply Qd | apply Qe | refine Qf ?_ (by assumption) ?_); all_goals (try simp only [Sz]); first | done | omega | (try simp only [Sz] at *); omega), _, rfl, ResAt.none_⟩)
set_option maxRecDepth 100000 in
theorem Run_err3a (regs : Int) (A : Option Addr) (l : List Nd) (cap : Nat) (Ai : Option Addr) (inp : List Int) (ci : Nat) (fuel : Int) (w : World) (hl : l.length ≤ maxLen) (hA : NodesAt w A l) (h0 : chk regs l = 0) (h1 : inp.length ≤ 256) (h2 : fuel < 0) :
 Calls Tryz.prog 8 #[.agg #[.int .i64 regs, .slice A l.length cap], .slice Ai inp.length ci, .int .i64 fuel] w (RunPost 3 66 regs l inp fuel w) := by (
 have hC := fun W (hW : Below w.heap.size w W) => Check_any regs A l cap W hl (hA.below hW)
 rw [h0] at hC
 have HC := hide hC
 have hE : runE regs l inp fuel = 3 := by rw [runE, if_pos h0, if_neg (by omega), if_pos (.inl h2)]
 have hS : runS regs l inp fuel = noRs := by rw [runS, hE]; rfl
 unfold RunPost
 rw [hE, hS]
 clear hC hE hS h0 hA
 have h3 : ¬ (256 : Int) < (inp.length : Int) := by omega
 go_enter Tryz.func8, Tryz.ntmps8
 go_wp2_with fail
 refine (HC.out _ (by (with_reducible repeat first | apply Qa | assumption | apply Qb | apply Qc | apply Qd | apply Qe | refine Qf ?_ (by assumption) ?_); all_goals (try simp only [Sz]); first | done | omega | (try simp only [Sz] at *); omega)).mono ?_
 rintro e w1 ⟨rfl, hb1⟩
 have hB : Below w.heap.size w w1 := (by (with_reducible repeat first | apply Qa | assumption | apply Qb | apply Qc | apply Qd | apply Qe | refine Qf ?_ (by assumption) ?_); all_goals (try simp only [Sz]); first | done | omega | (try simp only [Sz] at *); omega)
 have hP : Blk w1 (w.heap.size + 1) 33 #[.slice none 0 0, .int .i64 0, .bool false, .int .i64 0, .slice none 0 0] := Blk.below (Blk.new' (by simp)) hb1 (by simp)
 have p0 := hP.cell 0
 have p1 := hP.cell 1
 have p2 := hP.cell 2
 have p3 := hP.cell 3
 have p4 := hP.cell 4
 have f0 := hP.frozen 0
 have f1 := hP.frozen 1
 have f2 := hP.frozen 2
 have f3 := hP.frozen 3
 have f4 := hP.frozen 4
 have lp := hP.lt
 simp only [Yl] at p0 p1 p2 p3 p4
 go_wp2_with fail
 refine bodyPost_ret (v := .tuple #[.agg #[.slice none 0 0, .int .i64 0, .bool false, .int .i64 0, .slice none 0 0], .int .i64 3]) (by simp [results, Tryz.results8, go_sem, p0, p1, p2, p3, p4, World.cell?_setCell_same, World.cell?_setCell_other]) rfl ?_
 exact ⟨(by (with_reducible repeat first | apply Qa | assumption | apply Qb | apply Qc | apply Qd | apply Qe | refine Qf ?_ (by assumption) ?_); all_goals (try simp only [Sz]); first | done | omega | (try simp only [Sz] at *); omega), _, rfl, ResAt.none_⟩)
set_option maxRecDepth 100000 in
theorem Run_err3b (regs : Int) (A : Option Addr) (l : List Nd) (cap : Nat) (Ai : Option Addr) (inp : List Int) (ci : Nat) (fuel : Int) (w : World) (hl : l.length ≤ maxLen) (hA : NodesAt w A l) (h0 : chk regs l = 0) (h1 : inp.length ≤ 256) (h2 : 131072 < fuel) :
 Calls Tryz.prog 8 #[.agg #[.int .i64 regs, .slice A l.length cap], .slice Ai inp.length ci, .int .i64 fuel] w (RunPost 3 66 regs l inp fuel w) := by (
 have hC := fun W (hW : Below w.heap.size w W) => Check_any regs A l cap W hl (hA.below hW)
 rw [h0] at hC
 have HC := hide hC
 have hE : runE regs l inp fuel = 3 := by rw [runE, if_pos h0, if_neg (by omega), if_pos (.inr h2)]
 have hS : runS regs l inp fuel = noRs := by rw [runS, hE]; rfl
 unfold RunPost
 rw [hE, hS]
 clear hC hE hS h0 hA
 have h3 : ¬ (256 : Int) < (inp.length : Int) := by omega
 have h4 : ¬ fuel < 0 := by omega
 go_enter Tryz.func8, Tryz.ntmps8
 go_wp2_with fail
 refine (HC.out _ (by (with_reducible repeat first | apply Qa | assumption | apply Qb | apply Qc | apply Qd | apply Qe | refine Qf ?_ (by assumption) ?_); all_goals (try simp only [Sz]); first | done | omega | (try simp only [Sz] at *); omega)).mono ?_
 rintro e w1 ⟨rfl, hb1⟩
 have hB : Below w.heap.size w w1 := (by (with_reducible repeat first | apply Qa | assumption | apply Qb | apply Qc | apply Qd | apply Qe | refine Qf ?_ (by assumption) ?_); all_goals (try simp only [Sz]); first | done | omega | (try simp only [Sz] at *); omega)
 have hP : Blk w1 (w.heap.size + 1) 33 #[.slice none 0 0, .int .i64 0, .bool false, .int .i64 0, .slice none 0 0] := Blk.below (Blk.new' (by simp)) hb1 (by simp)
 have p0 := hP.cell 0
 have p1 := hP.cell 1
 have p2 := hP.cell 2
 have p3 := hP.cell 3
 have p4 := hP.cell 4
 have f0 := hP.frozen 0
 have f1 := hP.frozen 1
 have f2 := hP.frozen 2
 have f3 := hP.frozen 3
 have f4 := hP.frozen 4
 have lp := hP.lt
 simp only [Yl] at p0 p1 p2 p3 p4
 go_wp2_with fail
 refine bodyPost_ret (v := .tuple #[.agg #[.slice none 0 0, .int .i64 0, .bool false, .int .i64 0, .slice none 0 0], .int .i64 3]) (by simp [results, Tryz.results8, go_sem, p0, p1, p2, p3, p4, World.cell?_setCell_same, World.cell?_setCell_other]) rfl ?_
 exact ⟨(by (with_reducible repeat first | apply Qa | assumption | apply Qb | apply Qc | apply Qd | apply Qe | refine Qf ?_ (by assumption) ?_); all_goals (try simp only [Sz]); first | done | omega | (try simp only [Sz] at *); omega), _, rfl, ResAt.none_⟩)
end
section
open Go.RowKit
set_option maxHeartbeats 4000000
def cmpI (x y : Int) : Int := if x < y then -1 else if y < x then 1 else 0
theorem Compare_any (x y : Int) (w : World) : Calls Tryz.prog 73 #[.int .i64 x, .int .i64 y] w fun e w' => e = .returned (.int .i64 (cmpI x y)) ∧ w' = w := by
  go_enter Tryz.func73, Tryz.ntmps73
  go_wp2
  all_goals (go_ret; refine ⟨?_, rfl⟩; unfold cmpI; (repeat' split) <;> first | rfl | (exfalso; omega))
def orL : List Int → Int
  | [] => 0
  | x :: l => if x = 0 then orL l else x
theorem Or_any (x y z : Int) (g c : Nat) (w : World) (h0 : w.cell? ⟨g, 0, none⟩ = some (.int .i64 x)) (h1 : w.cell? ⟨g, 1, none⟩ = some (.int .i64 y)) (h2 : w.cell? ⟨g, 2, none⟩ = some (.int .i64 z)) :
    Calls Tryz.prog 72 #[.slice (some ⟨g, 0, none⟩) 3 c] w fun e w' => e = .returned (.int .i64 (orL [x, y, z])) ∧ w' = w := by
  have hV : ValsAt w (some ⟨g, 0, none⟩) (ints [x, y, z]) := fun _ => ⟨g, 0, rfl, by
    rcases Nat.lt_or_ge g w.heap.size with hl | hl
    · exact hl
    · rw [World.cell?] at h0
      simp [Array.getElem?_eq_none hl] at h0, fun i v hi => by
    rcases i with _ | _ | _ | i
    · simp [ints] at hi; subst hi; exact h0
    · simp [ints] at hi; subst hi; exact h1
    · simp [ints] at hi; subst hi; exact h2
    · simp [ints] at hi⟩
  clear h0 h1 h2
  go_enter Tryz.func72, Tryz.ntmps72
  go_wp2_with fail
  go_loopg [8] (3) (fun gk i wr => ∃ k : Nat, k ≤ 3 ∧ i = .int .i64 k ∧ gk = 3 - k ∧ (∀ j u, j < k → [x, y, z][j]? = some u → u = 0) ∧ wr = w)
  case atStart => exact ⟨0, by omega, rfl, rfl, fun j u hj => by omega, rfl⟩
  case round =>
    obtain ⟨k, hk, rfl, hgk, hno, rfl⟩ := hrel
    have Hgk := hide hgk
    have Hno := hide hno
    clear hgk hno
    by_cases hlt : k < 3
    · obtain ⟨b, o, u, e1, hb, hu, cu⟩ := hV.int (k := k) hlt
      injection e1 with e1
      injection e1 with e1 e2 _
      subst e1 e2
      have Hu := hide hu
      rw [Nat.zero_add] at cu
      have k0 : (0 : Int) ≤ (k : Int) := by omega
      have k1 : (k : Int) < 3 := by omega
      clear hV hu
      by_cases hq : u = 0
      · subst hq
        go_wp2_with fail
        go_roundg (3 - (k + 1))
        case measure => have := Hgk.out; omega
        case rel =>
          refine ⟨k + 1, by omega, by go_num, rfl, fun j v hj hv => ?_, rfl⟩
          by_cases hjk : j = k
          · subst hjk
            rw [Hu.out] at hv
            exact (Option.some.inj hv).symm
          · exact Hno.out j v (by omega) hv
      · have hq2 : (u != 0) = true := by simpa using hq
        have hr : orL [x, y, z] = u := by
          have hno := Hno.out
          have hu := Hu.out
          rcases k with _ | _ | _ | k
          · simp at hu; subst hu; simp [orL, hq]
          · have := hno 0 x (by omega) rfl; simp at hu; subst hu; simp [orL, hq, this]
          · have h1 := hno 0 x (by omega) rfl; have h2 := hno 1 y (by omega) rfl; simp at hu; subst hu; simp [orL, hq, h1, h2]
          · omega
        have Hr := hide hr
        clear hr
        go_wp2_with fail
        go_ret
        exact ⟨by rw [Hr.out]; rfl, rfl⟩
    · have hr : orL [x, y, z] = 0 := by
        have hno := Hno.out
        have h1 := hno 0 x (by omega) rfl
        have h2 := hno 1 y (by omega) rfl
        have h3 := hno 2 z (by omega) rfl
        simp [orL, h1, h2, h3]
      have Hr := hide hr
      clear hr hV
      go_wp2_with fail
      go_ret
      exact ⟨by rw [Hr.out]; rfl, rfl⟩
def cmpT (a b : Tm) : Int := orL [cmpI a.op b.op, cmpI a.a b.a, cmpI a.b b.b]
theorem cmpT_lt (a b : Tm) : decide (cmpT a b < 0) = ltT a b := by
  unfold cmpT ltT orL orL orL orL cmpI
  repeat' split
  all_goals simp
  all_goals omega
open Go.Shelf Go.Lib Go.Sort in
theorem order_any (a b : Tm) (w : World) : Calls Tryz.prog 31 #[.agg #[.int .i64 a.op, .int .i64 a.a, .int .i64 a.b], .agg #[.int .i64 b.op, .int .i64 b.a, .int .i64 b.b]] w fun e w' => e = .returned (.int .i64 (cmpT a b)) ∧ ∃ q os', w' = grow (w.drewN q) os' := by
  have HC := fun x y W => hide (Compare_any x y W)
  have HO := fun x y z g c W (hB : Blk W g 3 #[.int .i64 x, .int .i64 y, .int .i64 z]) => hide (Or_any x y z g c W (hB.cell 0) (hB.cell 1) (hB.cell 2))
  go_enter Tryz.func31, Tryz.ntmps31
  go_upto_region 1 with fail
  go_region_held3 (fun w' => w'.cell? ⟨w.heap.size, 0, none⟩ = some (.int .i64 a.op) ∧ w'.cell? ⟨w.heap.size, 1, none⟩ = some (.int .i64 a.a) ∧ w'.cell? ⟨w.heap.size, 2, none⟩ = some (.int .i64 a.b) ∧ w'.cell? ⟨w.heap.size + 1, 0, none⟩ = some (.int .i64 b.op) ∧ w'.cell? ⟨w.heap.size + 1, 1, none⟩ = some (.int .i64 b.a) ∧ w'.cell? ⟨w.heap.size + 1, 2, none⟩ = some (.int .i64 b.b)) (((try go_split_ands); (try dsimp only); (repeat' apply And.intro) <;> (first | assumption | go_keep)))
    (first | (go_at_call 73; refine ((HC _ _ _).out).mono ?_; rintro e w3 ⟨rfl, rfl⟩) | (go_at_call 72; refine ((HO _ _ _ _ _ _ (by repeat (first | ((with_reducible refine Blk.new' ?_); exact (by (try simp only [Sz]); first | done | omega | (try simp only [Sz] at *); omega)) | (with_reducible refine Blk.drew ?_) | (with_reducible refine Blk.drewN ?_ _) | (with_reducible refine Blk.alloc ?_ _) | with_reducible assumption))).out).mono ?_; rintro e w3 ⟨rfl, rfl⟩))
  all_goals go_wp2_with fail
  all_goals go_tidy
  all_goals go_ret
  exact ⟨rfl, 1, _, by rw [alloc_eq_grow, alloc_eq_grow, alloc_eq_grow, grow_grow, grow_grow]; rfl⟩
open Go.Shelf Go.Lib Go.Sort in
theorem closure_any (x y : Ct) (w : World) : Calls Tryz.prog 30 #[.agg #[.int .i64 x.1.op, .int .i64 x.1.a, .int .i64 x.1.b, .int .i64 x.2], .agg #[.int .i64 y.1.op, .int .i64 y.1.a, .int .i64 y.1.b, .int .i64 y.2]] w fun e w' => e = .returned (.int .i64 (cmpT x.1 y.1)) ∧ ∃ q os', w' = grow (w.drewN q) os' := by
  have HO := fun W => hide (order_any x.1 y.1 W)
  go_enter Tryz.func30, Tryz.ntmps30
  go_wp2_with (go_at_call 31; refine ((HO _).out).mono ?_; rintro e w3 ⟨rfl, q, os, rfl⟩)
  go_ret
  exact ⟨rfl, q, _, by rw [alloc_eq_grow, alloc_eq_grow, grow_grow]; exact grow_grow (w.drewN q) _ os⟩
instance : Inhabited Ct := ⟨(⟨0, 0, 0⟩, 0)⟩
open Go.Shelf Go.Lib Go.Sort in
theorem cmpLays_run (blk off size : Nat) (w : World) : CmpLays Tryz.prog 30 #[] Ct.cells 4 (fun x y => cmpT x.1 y.1) blk off size w :=
  fun _ _ _ _ x y => closure_any x y _
open Go.Shelf Go.Lib Go.Sort in
theorem swo_run : SWO (ltOf fun x y : Ct => cmpT x.1 y.1) where
  irrefl x := by unfold ltOf; rw [cmpT_lt]; exact ltT_irrefl _
  trans x y z h1 h2 := by unfold ltOf at *; rw [cmpT_lt] at *; exact ltT_trans h1 h2
  ntrans x y z h1 h2 := by
    unfold ltOf at *
    rw [cmpT_lt] at *
    simp only [ltT, decide_eq_false_iff_not] at *
    omega
end
section
open Go.RowKit
def Ct.put (n : Ct) (j : Nat) (z : Int) : Ct :=
 match j with
 | 0 => (⟨z, n.1.a, n.1.b⟩, n.2)
 | 1 => (⟨n.1.op, z, n.1.b⟩, n.2)
 | 2 => (⟨n.1.op, n.1.a, z⟩, n.2)
 | 3 => (n.1, z)
 | _ => n
section
variable {w w' : World} {base : Nat} {e : TypeId} {v : Value} {l : List Ct}
end
end
section
open Go.RowKit
set_option maxHeartbeats 8000000
attribute [local irreducible] Row CRow madeCells
def posT (cs : List Ct) (t : Tm) : Nat := (cs.takeWhile fun x => ltT x.1 t).length
theorem infoCount : (Tryz.prog.info? 66).map (fun i => (i.zero, i.size, i.bytes)) = some (some (.agg #[.int .i64 0, .int .i64 0, .int .i64 0, .int .i64 0]), 4, 32) := by kernel_rfl
def OncePost (tC : TypeId) (B : Nat) (v : Value) (cs : List Ct) (t : Tm) (w : World) (e : Ending) (w' : World) : Prop :=
 ∃ v', e = .returned v' ∧ CRow w' B tC v' (onceL cs t) ∧ w.grownBy w' v.ownBlock ∧ (v'.ownBlock = v.ownBlock ∨ ∀ k, v'.ownBlock = some k → w.heap.size ≤ k)
end
section
open Go.RowKit
set_option maxHeartbeats 4000000
attribute [local irreducible] Row CRow madeCells
end
end Go.Proofs.YtmghkonmfbpjcaaGreatDoor
