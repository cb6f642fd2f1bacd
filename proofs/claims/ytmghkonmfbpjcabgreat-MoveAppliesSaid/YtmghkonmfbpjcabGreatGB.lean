/- GraphP Ops ReachR Check Info RefG Check2 FlowS RefS FlowP FactP Each FactQ. -/
import Derived.Test.YtmghkonmfbpjcabGreatGA
import Derived.Test.YtmghkonmfbpjcabGreatProg
import Derived.WalkLawsBesides
import Derived.Deep.QuietTactic
import Derived.BigQuiet
import Derived.Deep.LoopGhost
import Derived.Deep.DeepCutAuto
import Derived.Deep.CutRange
set_option linter.unusedVariables false
set_option linter.unusedSimpArgs false
set_option maxRecDepth 100000
namespace Go.Proofs.YtmghkonmfbpjcabGreat
section
open Go.RowKit
def reachS (l : List Nd) (x : List Bool) (i : Nat) : Bool := i == 0 || (List.range l.length).any fun j => yn x j && leadsB (l.getD j default) i
theorem reachS_mono (l : List Nd) : Mono (reachS l) := fun x y i h hs => by (
 unfold reachS at *
 simp only [Bool.or_eq_true, List.any_eq_true, Bool.and_eq_true] at *
 exact hs.imp id fun ⟨j, hj, h1, h2⟩ => ⟨j, hj, h j h1, h2⟩)
def reachL (l : List Nd) : List Bool := leastL (reachS l) l.length
theorem reachL_len (l : List Nd) : (reachL l).length = l.length := (leastL_least (reachS_mono l) l.length).1.1
def shutAt (l : List Nd) (x : List Bool) (j : Nat) : Prop := ∀ n, l[j]? = some n → ∀ m : Nat, leadsB n m = true → yn x m = true
theorem reach_closed {l : List Nd} {x : List Bool} (hl : x.length = l.length) (h0 : yn x 0 = true) (h : ∀ j, j < l.length → yn x j = true → shutAt l x j) : Closed (reachS l) l.length x := by (
 refine ⟨hl, fun i hi hs => ?_⟩
 unfold reachS at hs
 simp only [Bool.or_eq_true, List.any_eq_true, Bool.and_eq_true, beq_iff_eq, List.mem_range] at hs
 rcases hs with rfl | ⟨j, hj, h1, h2⟩
 · exact h0
 · (
 have hn : l[j]? = some l[j] := List.getElem?_eq_getElem hj
 rw [List.getD_eq_getElem?_getD, hn] at h2
 exact h j hj h1 _ hn i h2))
theorem Closed.shut {l : List Nd} {x : List Bool} (h : Closed (reachS l) l.length x) {j : Nat} (hj : yn x j = true) (hb : ∀ n, l[j]? = some n → ∀ m : Nat, leadsB n m = true → m < l.length) : shutAt l x j := fun n hn m hm => by (
 refine h.2 m (hb n hn m hm) ?_
 unfold reachS
 simp only [Bool.or_eq_true, List.any_eq_true, Bool.and_eq_true, beq_iff_eq, List.mem_range]
 refine .inr ⟨j, (List.getElem?_eq_some_iff.1 hn).1, hj, ?_⟩
 rw [List.getD_eq_getElem?_getD, hn]
 exact hm)
theorem under_start (l : List Nd) (hl : 1 ≤ l.length) : Under (reachS l) l.length ((List.replicate l.length false).set 0 true) := by (
 refine ⟨by simp, fun z hz i hi => ?_⟩
 rw [yn_set _ _ _ _ (by simp; omega)] at hi
 by_cases h0 : i = 0
 · (
 subst h0
 exact hz.2 0 (by omega) (by simp [reachS]))
 · (
 rw [if_neg h0] at hi
 simp [yn, List.getD_eq_getElem?_getD, List.getElem?_replicate] at hi
 split at hi <;> simp at hi))
theorem under_add {l : List Nd} {x : List Bool} (h : Under (reachS l) l.length x) {j m : Nat} {n : Nd} (hj : yn x j = true) (hn : l[j]? = some n) (hm : leadsB n m = true) (hml : m < l.length) : Under (reachS l) l.length (x.set m true) := by (
 refine ⟨by simpa using h.1, fun z hz i hi => ?_⟩
 rw [yn_set _ _ _ _ (by rw [h.1]; exact hml)] at hi
 by_cases him : i = m
 · (
 subst him
 refine hz.2 i hml ?_
 unfold reachS
 simp only [Bool.or_eq_true, List.any_eq_true, Bool.and_eq_true, beq_iff_eq, List.mem_range]
 refine .inr ⟨j, (List.getElem?_eq_some_iff.1 hn).1, h.2 z hz j hj, ?_⟩
 rw [List.getD_eq_getElem?_getD, hn]
 exact hm)
 · (
 rw [if_neg him] at hi
 exact h.2 z hz i hi))
theorem yn_set_mono {x : List Bool} {m i : Nat} (hm : m < x.length) (h : yn x i = true) : yn (x.set m true) i = true := by (
 rw [yn_set _ _ _ _ hm]
 split
 · rfl
 · exact h)
theorem leads_then {n : Nd} (h : n.op ≠ 12) : leadsB n n.t = true := by simp [leadsB, h]
theorem leads_else {n : Nd} (h : n.op = 11) : leadsB n n.e = true := by simp [leadsB, h]
theorem leads_cases {n : Nd} {m : Int} (h : leadsB n m = true) : (n.op ≠ 12 ∧ m = n.t) ∨ (n.op = 11 ∧ m = n.e) := by (
 simp only [leadsB, Bool.or_eq_true, Bool.and_eq_true, bne_iff_ne, beq_iff_eq, ne_eq] at h
 rcases h with ⟨h1, h2⟩ | ⟨h1, h2⟩
 · exact .inl ⟨h1, h2.symm⟩
 · exact .inr ⟨h1, h2.symm⟩)
theorem set_same_true {x : List Bool} {k : Nat} (hk : k < x.length) (h : yn x k = true) : x.set k true = x := set_yn hk h
structure Reaching (l : List Nd) (c k : Nat) (x : List Bool) : Prop where
 under : Under (reachS l) l.length x
 zero : yn x 0 = true
 way : c + 1 < cnt x ∨ (c + 1 ≤ cnt x ∧ ∀ j, j < k → yn x j = true → shutAt l x j) ∨ Closed (reachS l) l.length x
theorem cnt_pos {x : List Bool} {i : Nat} (h : yn x i = true) : 1 ≤ cnt x := by (
 have hi : i < x.length := by (
 rcases Nat.lt_or_ge i x.length with h1 | h1
 · exact h1
 · rw [yn_out h1] at h; cases h)
 unfold cnt
 refine List.count_pos_iff.2 ?_
 have : x[i] = true := by simpa [yn, hi] using h
 rw [← this]
 exact List.getElem_mem hi)
theorem Reaching.add {l : List Nd} {c k : Nat} {x : List Bool} (h : Reaching l c k x) {j m : Nat} {n : Nd} (hj : yn x j = true) (hn : l[j]? = some n) (hm : leadsB n m = true) (hml : m < l.length) (hb : ∀ n, l[j]? = some n → ∀ m : Nat, leadsB n m = true → m < l.length) :
 Reaching l c k (x.set m true) := by (
 have hxl : m < x.length := by rw [h.under.1]; exact hml
 refine ⟨under_add h.under hj hn hm hml, yn_set_mono hxl h.zero, ?_⟩
 cases hy : yn x m with
 | true => rw [set_same_true hxl hy]; exact h.way
 | false =>
  have hcnt : cnt (x.set m true) = cnt x + 1 := cnt_put hxl hy
  rcases h.way with h1 | ⟨h1, _⟩ | h1
  · exact .inl (by omega)
  · exact .inl (by omega)
  · (
 have := h1.shut hj hb n hn m hm
 rw [hy] at this
 cases this))
theorem Reaching.start {l : List Nd} {c : Nat} {x : List Bool} (h : Under (reachS l) l.length x) (h0 : yn x 0 = true) (hw : c + 1 ≤ cnt x ∨ Closed (reachS l) l.length x) : Reaching l c 0 x :=
 ⟨h, h0, hw.elim (fun h => .inr (.inl ⟨h, fun j hj => absurd hj (by omega)⟩)) fun h => .inr (.inr h)⟩
theorem Reaching.next {l : List Nd} {c k : Nat} {x : List Bool} (h : Reaching l c k x) (hs : yn x k = true → shutAt l x k) : Reaching l c (k + 1) x :=
 ⟨h.under, h.zero, h.way.imp id fun h => h.imp (fun ⟨h1, h2⟩ => ⟨h1, fun j hj hy => by
  by_cases hjk : j = k
  · subst hjk; exact hs hy
  · exact h2 j (by omega) hy⟩) id⟩
theorem Reaching.end_ {l : List Nd} {c : Nat} {x : List Bool} (h : Reaching l c l.length x) : c + 1 + 1 ≤ cnt x ∨ Closed (reachS l) l.length x := by (
 rcases h.way with h1 | ⟨h1, h2⟩ | h1
 · exact .inl (by omega)
 · exact .inr (reach_closed h.under.1 h.zero h2)
 · exact .inr h1)
theorem reach_done {l : List Nd} {x : List Bool} (h : Under (reachS l) l.length x) (hw : l.length + 1 ≤ cnt x ∨ Closed (reachS l) l.length x) : x = reachL l := by (
 rcases hw with h1 | h1
 · (
 have := cnt_le x
 rw [h.1] at this
 omega)
 · exact closed_under (reachS_mono l) h1 h)
end
section
open Go.RowKit
set_option maxHeartbeats 800000
theorem within_any (n lo hi : Int) (w : World) :
    Calls Tryz.prog 33 #[.int .i64 n, .int .i64 lo, .int .i64 hi] w fun e w' => e = .returned (.bool (inB n lo hi)) ∧ w = w' := by
  by_cases h : lo ≤ n
  · go_enter Tryz.func33, Tryz.ntmps33
    go_wp2
    go_ret
    exact ⟨by simp [h, inB], rfl⟩
  · go_enter Tryz.func33, Tryz.ntmps33
    go_wp2
    go_ret
    exact ⟨by simp [inB]; omega, rfl⟩
theorem reckons_any (op : Int) (w : World) :
    Calls Tryz.prog 32 #[.int .i64 op] w fun e w' => e = .returned (.bool (hasB op)) ∧ w = w' := by
  go_enter Tryz.func32, Tryz.ntmps32
  go_wp2_with (go_at_call 33; refine (within_any _ _ _ _).mono ?_; rintro e w' ⟨rfl, rfl⟩)
  go_ret
  exact ⟨rfl, rfl⟩
theorem fields_any (op : Int) (w : World) :
    Calls Tryz.prog 70 #[.int .i64 op] w fun e w' => e = .returned (.tuple #[.bool (hasD op), .bool (hasA op), .bool (hasB op), .bool (hasT op), .bool (hasE op)]) ∧ w = w' := by
  go_enter Tryz.func70, Tryz.ntmps70
  go_wp2_with (go_at_call 33; refine (within_any _ _ _ _).mono ?_; rintro e w' ⟨rfl, rfl⟩)
  all_goals refine bodyPost_ret (v := .tuple #[.bool (hasD op), .bool (hasA op), .bool (hasB op), .bool (hasT op), .bool (hasE op)]) ?_ rfl ⟨rfl, rfl⟩
  all_goals simp_all [results, Tryz.results70, go_sem, hasD, hasA, hasB, hasT, hasE]
theorem of_any (op : Int) (w : World) :
    Calls Tryz.prog 83 #[.int .i64 op] w fun e w' => e = .returned (.tuple #[.agg #[.bool (hasD op), .bool (hasA op), .bool (hasB op), .bool (isSet op), .bool (shT op), .bool (hasE op)], .bool (opOk op)]) ∧ Below w.heap.size w w' := by
  go_enter Tryz.func83, Tryz.ntmps83
  go_wp2
  all_goals go_tidy
  all_goals refine bodyPost_ret (v := .tuple #[.agg #[.bool (hasD op), .bool (hasA op), .bool (hasB op), .bool (isSet op), .bool (shT op), .bool (hasE op)], .bool (opOk op)]) ?_ rfl ⟨rfl, (by (with_reducible repeat first | apply Qa | assumption | apply Qb | apply Qc | apply Qd | apply Qe | refine Qf ?_ (by assumption) ?_); all_goals (try simp only [Sz]); first | done | omega | (try simp only [Sz] at *); omega)⟩
  all_goals simp only [beq_iff_eq, beq_eq_false_iff_ne, ne_eq, Bool.or_eq_true, not_or] at *
  all_goals first
    | (rename_i h; subst h; simp [results, Tryz.results83, go_sem]; exact ⟨⟨rfl, rfl, rfl, rfl, rfl, rfl⟩, rfl⟩)
    | (have h13 : opOk op = false := by
         simp [opOk, inB]
         omega
       have h14 : hasD op = false ∧ hasA op = false ∧ hasB op = false ∧ isSet op = false ∧ hasE op = false := by
         simp [hasD, hasA, hasB, isSet, hasE, inB]
         omega
       simp [results, Tryz.results83, go_sem, shT, h13, h14])
end
section
open Go.RowKit
set_option maxHeartbeats 4000000
attribute [local irreducible] Row madeCells
theorem infoBoolG : (Tryz.prog.info? 4).map (fun i => (i.zero, i.size, i.bytes)) = some (some (.bool false), 1, 1) := by kernel_rfl
def BoolPost (t : TypeId) (x : List Bool) (w : World) (e : Ending) (w' : World) : Prop := ∃ v, e = .returned v ∧ Row w' w.heap.size t v (bools x) ∧ Below w.heap.size w w'
theorem Row.bool_at_ {w : World} {B g : Nat} {e : TypeId} {n c : Nat} {x : List Bool} (h : Row w B e (.slice (some ⟨g, 0, none⟩) n c) (bools x)) {k : Nat} (hk : k < x.length) :
 w.cell? ⟨g, k, none⟩ = some (.bool (yn x k)) ∧ w.frozen? ⟨g, k, none⟩ = false := by (
 obtain ⟨g0, o0, cp0, e0, _, _, cx, fx⟩ := h.bool hk
 injection e0 with e0 e1 e2
 injection e0 with e0
 injection e0 with e0 e3
 subst e0 e3
 rw [Nat.zero_add] at cx fx
 exact ⟨cx, fx⟩)
theorem Row.setb0 {w : World} {B : Nat} {e : TypeId} {g n cap : Nat} {x : List Bool} (h : Row w B e (.slice (some ⟨g, 0, none⟩) n cap) (bools x)) (k : Nat) (b : Bool) :
 Row (w.setCell ⟨g, k, none⟩ (.bool b)) B e (.slice (some ⟨g, 0, none⟩) n cap) (bools (x.set k b)) := by (
 have := h.setb k b
 rwa [Nat.zero_add] at this)
theorem ReachOf_any (regs : Int) (A : Option Addr) (l : List Nd) (cap : Nat) (w : World) (hA : NodesAt w A l) (hR : Right regs l) :
 Calls Tryz.prog 84 #[.agg #[.int .i64 regs, .slice A l.length cap]] w (BoolPost 4 (reachL l) w) := by (
 have hlo := hR.lo
 have hhi := hR.hi
 have HR := hide hR
 clear hR
 obtain ⟨ib, hbi, hbz, hbs, hbb⟩ := info_parts infoBoolG
 have hmk := run_make1 (P := Tryz.prog) 27 4 ib _ 1 Tryz.underlying27 hbi hbz hbs hbb (by omega) rfl l.length (by omega)
 have hm1 : Row ((w.alloc (.cells #[.int .i64 regs, .slice A l.length cap] 24)).alloc (.cells ((madeCells #[.bool false] l.length).setIfInBounds 0 (.bool true)) 4)) w.heap.size 4 (.slice (some ⟨w.heap.size + 1, 0, none⟩) l.length l.length) (bools ((List.replicate l.length false).set 0 true)) := by (
 have h := Row.made (w := w.alloc (.cells #[.int .i64 regs, .slice A l.length cap] 24)) (base := w.heap.size) (e := 4) (cs := (madeCells #[.bool false] l.length).setIfInBounds 0 (.bool true)) (n := l.length) (by simp) (by simp [size_madeCells]) (by unfold maxLen; omega)
 rw [Array.toList_setIfInBounds, toList_madeCells_one] at h
 rw [← bools_set, bools, List.map_replicate]
 simpa using h)
 have hm0 : Row ((w.alloc (.cells #[.int .i64 regs, .slice A l.length cap] 24)).alloc (.cells (madeCells #[.bool false] l.length) 4)) w.heap.size 4 (.slice (some ⟨w.heap.size + 1, 0, none⟩) l.length l.length) (bools (List.replicate l.length false)) := by (
 rw [bools, List.map_replicate]
 exact (by repeat (first | ((with_reducible refine Row.made1' ?_ ?_ ?_); exact (by (try simp only [Sz]); first | done | omega | (try simp only [Sz] at *); omega); exact (by (try simp only [Sz]); first | done | omega | (try simp only [Sz] at *); omega); exact (by (try simp only [Sz]); first | done | omega | (try simp only [Sz] at *); omega)) | (with_reducible refine Row.drew ?_) | (with_reducible refine Row.drewN ?_ _) | (with_reducible refine Row.alloc ?_ _) | with_reducible assumption)))
 obtain ⟨cm, fm⟩ := hm0.bool_at_ (k := 0) (by simp; omega)
 clear hm0
 have HM := hide hm1
 have hlp : (0 : Int) < (l.length : Int) := by omega
 have HU := hide (under_start l hlo)
 have HZ := hide (show yn ((List.replicate l.length false).set 0 true) 0 = true by rw [yn_set _ _ _ _ (by simp; omega)]; simp)
 clear hm1
 go_enter Tryz.func84, Tryz.ntmps84
 go_wp2_with fail
 go_loopg [4] (l.length) (fun gk i wr => ∃ (c : Nat) (x : List Bool), c ≤ l.length ∧ i = .int .i64 c ∧ gk = l.length - c ∧ Under (reachS l) l.length x ∧ yn x 0 = true ∧ (c + 1 ≤ cnt x ∨ Closed (reachS l) l.length x) ∧
  Row wr w.heap.size 4 (.slice (some ⟨w.heap.size + 1, 0, none⟩) l.length l.length) (bools x) ∧ Blk wr w.heap.size 24 #[.int .i64 regs, .slice A l.length cap] ∧ Below w.heap.size w wr)
 case atStart => exact ⟨0, _, Nat.zero_le _, rfl, rfl, HU.out, HZ.out, .inl (cnt_pos HZ.out), HM.out, (by repeat (first | ((with_reducible refine Blk.new' ?_); exact (by (try simp only [Sz]); first | done | omega | (try simp only [Sz] at *); omega)) | (with_reducible refine Blk.drew ?_) | (with_reducible refine Blk.drewN ?_ _) | (with_reducible refine Blk.alloc ?_ _) | with_reducible assumption)), (by (with_reducible repeat first | apply Qa | assumption | apply Qb | apply Qc | apply Qd | apply Qe | refine Qf ?_ (by assumption) ?_); all_goals (try simp only [Sz]); first | done | omega | (try simp only [Sz] at *); omega)⟩
 case round => (
 clear hmk HM HU HZ cm fm
 obtain ⟨c, x, hcl, rfl, hgk, hU, h0, hw, hRow, hP, hB⟩ := hrel
 have Hgk := hide hgk
 have HU := hide hU
 have H0 := hide h0
 have Hw := hide hw
 have p0 := hP.cell 0
 have p1 := hP.cell 1
 simp only [Yl] at p0 p1
 have HRow := hide hRow
 have HP := hide hP
 clear hgk hU h0 hw hRow hP
 by_cases hlt : c < l.length
 · (
 go_wp2_with fail
 obtain ⟨wo, rfl⟩ : ∃ wo : World, wo = wr := ⟨_, rfl⟩
 obtain ⟨gk3, rfl⟩ : ∃ gk3 : Nat, gk3 = gk := ⟨_, rfl⟩
 go_loopg [5] (l.length) (fun gk i wr => ∃ (k : Nat) (x : List Bool), k ≤ l.length ∧ i = .int .i64 k ∧ gk = l.length - k ∧ Reaching l c k x ∧
  Row wr w.heap.size 4 (.slice (some ⟨w.heap.size + 1, 0, none⟩) l.length l.length) (bools x) ∧ Blk wr w.heap.size 24 #[.int .i64 regs, .slice A l.length cap] ∧ Below w.heap.size w wr)
 case atStart => exact ⟨0, x, Nat.zero_le _, rfl, rfl, Reaching.start HU.out H0.out Hw.out, HRow.out, HP.out, hB⟩
 case round => (
 clear HU H0 Hw HRow HP hB p0 p1
 obtain ⟨k, x, hk, rfl, hgk, hRe, hRow, hP, hB⟩ := hrel
 have Hgk2 := hide hgk
 have HRe := hide hRe
 have hz := hB.size
 have hxl := hRe.under.1
 have p0 := hP.cell 0
 have p1 := hP.cell 1
 simp only [Yl] at p0 p1
 have lx := (hRow.lt _ rfl).2
 have lp := hP.lt
 clear hgk hRe
 by_cases hkl : k < l.length
 · (
 obtain ⟨n, hn⟩ : ∃ n, l[k]? = some n := ⟨_, List.getElem?_eq_getElem hkl⟩
 obtain ⟨nb, no, n', rfl, hnb, hn', hnl⟩ := (hA.below hB).get (k := k) hkl
 rw [hn] at hn'
 injection hn' with hn'
 subst hn'
 obtain ⟨c0, c1, c2, c3, c4, c5⟩ := hnl
 have hm := List.mem_of_getElem? hn
 have hbnd : ∀ n, l[k]? = some n → ∀ m : Nat, leadsB n m = true → m < l.length := by (
 intro n2 h2 m hlm
 rw [hn] at h2
 injection h2 with h2
 subst h2
 rcases leads_cases hlm with ⟨h12, rfl'⟩ | ⟨h11, rfl'⟩
 · have := HR.out.then_ hm h12; omega
 · have := HR.out.else_ hm h11; omega)
 have hway := fun h => HR.out.then_ hm h
 have hway2 := fun h => HR.out.else_ hm h
 obtain ⟨ck, fk⟩ := hRow.bool_at_ (k := k) (by rw [hxl]; exact hkl)
 have q0 : (0 : Int) ≤ (k : Int) := by omega
 have q1 : (k : Int) < (l.length : Int) := by omega
 have Hn := hide hn
 have Hb := hide hbnd
 have Hxl := hide hxl
 have HRow := hide hRow
 have HP := hide hP
 clear hn hbnd hxl hRow hP hA
 cases hxk : yn x k
 case false => (
 rw [hxk] at ck
 have Hxk := hide hxk
 clear hxk hway hway2
 go_wp2_with fail
 go_roundg (l.length - (k + 1))
 case measure => have := Hgk2.out; omega
 case rel => exact ⟨k + 1, x, by omega, by go_num, rfl, HRe.out.next (fun h => by rw [Hxk.out] at h; cases h), HRow.out.alloc _, HP.out.alloc _, hB.alloc hz _⟩)
 case true => (
 rw [hxk] at ck
 have Hxk := hide hxk
 clear hxk
 by_cases h12 : n.op = 12
 · (
 have t12 : (n.op != 12) = false := by simp [h12]
 have t11 : (n.op == 11) = false := by simp [h12]
 have H12 := hide h12
 clear h12 hway hway2
 go_wp2_with fail
 go_roundg (l.length - (k + 1))
 case measure => have := Hgk2.out; omega
 case rel => (
 refine ⟨k + 1, x, by omega, by go_num, rfl, HRe.out.next (fun _ n2 h2 m hlm => ?_), HRow.out.alloc _, HP.out.alloc _, hB.alloc hz _⟩
 rw [Hn.out] at h2
 injection h2 with h2
 subst h2
 have := H12.out
 rcases leads_cases hlm with ⟨h, _⟩ | ⟨h, _⟩ <;> omega))
 · (
 obtain ⟨t0, t1⟩ := hway h12
 obtain ⟨tt, htt⟩ := Int.eq_ofNat_of_zero_le (show 0 ≤ n.t by omega)
 have t12 : (n.op != 12) = true := by simp [h12]
 obtain ⟨ct, ft⟩ := HRow.out.bool_at_ (k := tt) (by rw [Hxl.out]; omega)
 rw [htt] at c4
 have t0' : (0 : Int) ≤ (tt : Int) := by omega
 have t1' : (tt : Int) < (l.length : Int) := by omega
 have htl : tt < l.length := by omega
 have hxtl : tt < x.length := by rw [Hxl.out]; exact htl
 have Hxtl := hide hxtl
 have Htt := hide htt
 have H12 := hide h12
 have hld := leads_then h12
 rw [htt] at hld
 have Hld := hide hld
 clear h12 htt t0 t1 hway hld hxtl
 go_upto_if 40 with fail
 obtain ⟨wn, hwn⟩ : ∃ wn : World, wn = wr.alloc (.cells #[.int .i64 n.op, .int .i64 n.d, .int .i64 n.a, .int .i64 n.b, .int .i64 (tt : Int), .int .i64 n.e] 57) := ⟨_, rfl⟩
 have hbW : Below wr.heap.size wr wn := by rw [hwn]; exact (Below.refl _ _).alloc (Nat.le_refl _) _
 have hXn : Blk wn wr.heap.size 57 #[.int .i64 n.op, .int .i64 n.d, .int .i64 n.a, .int .i64 n.b, .int .i64 (tt : Int), .int .i64 n.e] := by rw [hwn]; exact (by repeat (first | ((with_reducible refine Blk.new' ?_); exact (by (try simp only [Sz]); first | done | omega | (try simp only [Sz] at *); omega)) | (with_reducible refine Blk.drew ?_) | (with_reducible refine Blk.drewN ?_ _) | (with_reducible refine Blk.alloc ?_ _) | with_reducible assumption))
 rw [← hwn]
 have b4 := hXn.cell 4
 simp only [Yl] at b4
 have ct' := ((bcell hbW).1 _ _ lx).trans ct
 have ft' := ((bcell hbW).2 _ _ lx).trans ft
 have lxn := Nat.lt_of_lt_of_le lx hbW.size
 have HXn := hide hXn
 clear hwn hXn ct ft ck fk c0 c1 c2 c3 c4 c5
 go_cut [] (fun wx => Row wx w.heap.size 4 (.slice (some ⟨w.heap.size + 1, 0, none⟩) l.length l.length) (bools (x.set tt true)) ∧ Blk wx wr.heap.size 57 #[.int .i64 n.op, .int .i64 n.d, .int .i64 n.a, .int .i64 n.b, .int .i64 (tt : Int), .int .i64 n.e] ∧
  Blk wx w.heap.size 24 #[.int .i64 regs, .slice (some ⟨nb, no, none⟩) l.length cap] ∧ Below w.heap.size w wx ∧ wr.heap.size < wx.heap.size)
 case first => (
 go_wp2_with fail
 go_meet
 go_tidy
 exact ⟨(HRow.out.below' hbW).setb0 tt true, HXn.out.far (by simp <;> omega) _, (HP.out.below hbW lp).far (by simp) _, (hB.trans (hbW.mono hz)).setCell (by simp) _, by have := HXn.out.lt; simpa using this⟩)
 case rest => (
 obtain ⟨hR2, hX2, hP2, hB2, hz2⟩ := hcut
 obtain ⟨wx, rfl⟩ : ∃ wx : World, wx = wc := ⟨_, rfl⟩
 obtain ⟨ck, fk⟩ := hR2.bool_at_ (k := k) (by rw [List.length_set, Hxl.out]; exact hkl)
 rw [yn_set_mono Hxtl.out Hxk.out] at ck
 have b0 := hX2.cell 0
 have b5 := hX2.cell 5
 simp only [Yl] at b0 b5
 have lx2 := (hR2.lt _ rfl).2
 have lp2 := hP2.lt
 have hRe2 := HRe.out.add Hxk.out Hn.out Hld.out htl Hb.out
 have HRe2 := hide hRe2
 clear ct' ft' lxn b4 HXn hRe2
 by_cases h11 : n.op = 11
 · (
 obtain ⟨e0, e1⟩ := hway2 h11
 obtain ⟨ee, hee⟩ := Int.eq_ofNat_of_zero_le (show 0 ≤ n.e by omega)
 have t11 : (n.op == 11) = true := by simp [h11]
 have hel : ee < l.length := by omega
 obtain ⟨ce, fe⟩ := hR2.bool_at_ (k := ee) (by rw [List.length_set, Hxl.out]; exact hel)
 rw [hee] at b5
 have e0' : (0 : Int) ≤ (ee : Int) := by omega
 have e1' : (ee : Int) < (l.length : Int) := by omega
 have hld2 := leads_else h11
 rw [hee] at hld2
 have Hld2 := hide hld2
 have Hee := hide hee
 have H11 := hide h11
 have HR2 := hide hR2
 have HP2 := hide hP2
 clear h11 hee e0 e1 hld2 hR2 hP2 hX2 hway2
 go_wp2_with fail
 go_roundg (l.length - (k + 1))
 case measure => have := Hgk2.out; omega
 case rel => (
 have hyk : yn (x.set tt true) k = true := yn_set_mono Hxtl.out Hxk.out
 have hel' : ee < (x.set tt true).length := by rw [List.length_set, Hxl.out]; exact hel
 refine ⟨k + 1, (x.set tt true).set ee true, by omega, by go_num, rfl, (HRe2.out.add hyk Hn.out Hld2.out hel Hb.out).next (fun _ n2 h2 m hlm => ?_), HR2.out.setb0 ee true, HP2.out.far (by simp) _, hB2.setCell (by simp) _⟩
 rw [Hn.out] at h2
 injection h2 with h2
 subst h2
 rcases leads_cases hlm with ⟨_, h⟩ | ⟨_, h⟩
 · (
 rw [Htt.out] at h
 obtain rfl : m = tt := by omega
 exact yn_set_mono hel' (by rw [yn_set _ _ _ _ Hxtl.out]; simp))
 · (
 rw [Hee.out] at h
 obtain rfl : m = ee := by omega
 rw [yn_set _ _ _ _ hel']
 simp)))
 · (
 have t11 : (n.op == 11) = false := by simp [h11]
 have H11 := hide h11
 have HR2 := hide hR2
 have HP2 := hide hP2
 clear h11 hR2 hP2 hX2 hway2
 go_wp2_with fail
 go_roundg (l.length - (k + 1))
 case measure => have := Hgk2.out; omega
 case rel => (
 refine ⟨k + 1, x.set tt true, by omega, by go_num, rfl, HRe2.out.next (fun _ n2 h2 m hlm => ?_), HR2.out, HP2.out, hB2⟩
 rw [Hn.out] at h2
 injection h2 with h2
 subst h2
 rcases leads_cases hlm with ⟨_, h⟩ | ⟨h, _⟩
 · (
 rw [Htt.out] at h
 obtain rfl : m = tt := by omega
 rw [yn_set _ _ _ _ Hxtl.out]
 simp)
 · exact absurd h H11.out))))))
 · (
 have hkk : k = l.length := by omega
 have Hkk := hide hkk
 have HRow := hide hRow
 have HP := hide hP
 clear hkk hRow hP
 go_wp2_with fail
 go_roundg (l.length - (c + 1))
 case measure => have := Hgk.out; omega
 case rel => (
 have := HRe.out
 rw [Hkk.out] at this
 exact ⟨c + 1, x, by omega, by go_num, rfl, this.under, this.zero, this.end_, HRow.out, HP.out, hB⟩))))
 · (
 have hcc : c = l.length := by omega
 have Hcc := hide hcc
 clear hcc
 go_wp2_with fail
 go_ret
 refine ⟨_, rfl, ?_, hB⟩
 rw [← reach_done HU.out (by have := Hw.out; rwa [Hcc.out] at this)]
 exact HRow.out)))
end
section
open Go.RowKit
set_option maxHeartbeats 1000000
theorem check1_any (n : Nd) (w : World) :
 Calls Tryz.prog 91 #[.agg n.cells.toArray] w fun e w' => e = .returned (.bool (!opOk n.op)) ∧ Below w.heap.size w w' := by (
 unfold Nd.cells
 go_enter Tryz.func91, Tryz.ntmps91
 go_wp2_with (go_at_call 83; refine (of_any _ _).mono ?_; rintro e w1 ⟨rfl, hbw1⟩; obtain ⟨hcw1, hfw1⟩ := bcell hbw1; have hzw1 := hbw1.size; simp only [Sz] at hzw1 hcw1 hfw1; (try have hyw1 := Nat.lt_of_succ_le hzw1); (try have hxw1 := Nat.lt_of_succ_lt hyw1))
 go_ret
 exact ⟨rfl, (by (with_reducible repeat first | apply Qa | assumption | apply Qb | apply Qc | apply Qd | apply Qe | refine Qf ?_ (by assumption) ?_); all_goals (try simp only [Sz]); first | done | omega | (try simp only [Sz] at *); omega)⟩)
theorem check2_any (n regs : Int) (has : Bool) (g : Nat) (w : World) (h0 : w.cell? ⟨g, 0, none⟩ = some (.int .i64 regs)) :
 Calls Tryz.prog 92 #[.int .i64 n, .bool has, .pointer (some ⟨g, 0, none⟩)] w fun e w' => e = .returned (.bool (okR regs n has)) ∧ w = w' := by (
 cases has <;> go_enter Tryz.func92, Tryz.ntmps92 <;> go_wp2
 all_goals go_tidy
 all_goals go_ret
 all_goals exact ⟨by simp_all [okR]; try omega, rfl⟩)
theorem check3_any (n : Int) (A : Option Addr) (len cap : Nat) (has : Bool) (g : Nat) (w : World) (h0 : w.cell? ⟨g, 1, none⟩ = some (.slice A len cap)) :
 Calls Tryz.prog 93 #[.int .i64 n, .bool has, .pointer (some ⟨g, 0, none⟩)] w fun e w' => e = .returned (.bool (okN len n has)) ∧ w = w' := by (
 cases has <;> go_enter Tryz.func93, Tryz.ntmps93 <;> go_wp2
 all_goals go_tidy
 all_goals go_ret
 all_goals exact ⟨by simp_all [okN]; try omega, rfl⟩)
theorem check4_any (n : Int) (has : Bool) (w : World) :
 Calls Tryz.prog 94 #[.int .i64 n, .bool has] w fun e w' => e = .returned (.bool (okF n has)) ∧ w = w' := by (
 cases has <;> go_enter Tryz.func94, Tryz.ntmps94 <;> go_wp2
 all_goals go_tidy
 all_goals go_ret
 all_goals exact ⟨by simp_all [okF], rfl⟩)
def IdxPost (q : Bool) (w : World) (e : Ending) (w' : World) : Prop := ∃ r : Int, e = .returned (.int .i64 r) ∧ decide (0 ≤ r) = q ∧ Below w.heap.size w w'
theorem idxNodes_any (A : Option Addr) (l : List Nd) (cap : Nat) (w : World) (hl : l.length ≤ maxLen) (hA : NodesAt w A l) :
 Calls Tryz.prog 103 #[.slice A l.length cap, .func (.func 91) #[] #[]] w
  (IdxPost (l.any fun n => !opOk n.op) w) := by (
 unfold maxLen at hl
 go_enter Tryz.func103, Tryz.ntmps103
 go_wp2
 go_loopw [8] (fun i wr => ∃ k : Nat, k ≤ l.length ∧ i = .int .i64 k ∧ (l.take k).any (fun n => !opOk n.op) = false ∧ Below w.heap.size w wr) (fun i _ => l.length - (intOf i).toNat)
 case atStart => exact ⟨0, Nat.zero_le _, rfl, by simp, Below.refl _ _⟩
 case round => (
 obtain ⟨k, hk, rfl, hno, hbr⟩ := hrel
 have hzr := hbr.size
 have Hno := hide hno
 clear hno
 by_cases hlt : k < l.length
 · (
 obtain ⟨b, off, n, rfl, hbl, hkn, hn⟩ := hA.get hlt
 have Hkn := hide hkn
 clear hkn
 obtain ⟨c0, c1, c2, c3, c4, c5⟩ := hn.below hbr hbl
 have hp := check1_any n wr
 simp only [Nd.cells] at hp
 have Hp := hide hp
 clear hp
 have hbw : b < wr.heap.size := by omega
 cases ho : opOk n.op
 · (
 rw [ho] at Hp
 go_wp2_with (go_at_call 91; refine (Hp.out).mono ?_; rintro e w1 ⟨rfl, hb1⟩)
 go_ret
 exact ⟨k, rfl, by rw [any_of_take _ l k n Hkn.out (by simp [ho])]; simp, (by (with_reducible repeat first | apply Qa | assumption | apply Qb | apply Qc | apply Qd | apply Qe | refine Qf ?_ (by assumption) ?_); all_goals (try simp only [Sz]); first | done | omega | (try simp only [Sz] at *); omega)⟩)
 · (
 rw [ho] at Hp
 go_wp2_with (go_at_call 91; refine (Hp.out).mono ?_; rintro e w1 ⟨rfl, hb1⟩)
 go_roundw
 case rel => exact ⟨k + 1, by omega, by go_num, by rw [any_take_succ _ l k n Hkn.out, Hno.out]; simp [ho], (by (with_reducible repeat first | apply Qa | assumption | apply Qb | apply Qc | apply Qd | apply Qe | refine Qf ?_ (by assumption) ?_); all_goals (try simp only [Sz]); first | done | omega | (try simp only [Sz] at *); omega)⟩
 case measure => simp [intOf]; omega))
 · (
 go_wp2
 go_ret
 exact ⟨-1, rfl, by rw [← any_take_all _ l k hlt, Hno.out]; rfl, hbr⟩)))
theorem anyNodes_any (A : Option Addr) (l : List Nd) (cap : Nat) (w : World) (hl : l.length ≤ maxLen) (hA : NodesAt w A l) :
 Calls Tryz.prog 90 #[.slice A l.length cap, .func (.func 91) #[] #[]] w
  fun e w' => e = .returned (.bool (l.any fun n => !opOk n.op)) ∧ Below w.heap.size w w' := by (
 have h := idxNodes_any A l cap w hl hA
 have H := hide h
 clear h
 generalize (l.any fun n => !opOk n.op) = q at *
 go_enter Tryz.func90, Tryz.ntmps90
 go_wp2_with (go_at_call 103; refine (H.out).mono ?_; rintro e w1 ⟨r, rfl, hr, hb1⟩)
 go_ret
 exact ⟨by rw [← hr]; rfl, hb1⟩)
end
section
theorem infoInt : (Tryz.prog.info? 3).map (fun i => (i.zero, i.size, i.bytes)) = some (some (.int .i64 0), 1, 8) := by kernel_rfl
end
section
open Go.RowKit
set_option maxHeartbeats 2000000
theorem leads_any (regs : Int) (A : Option Addr) (l : List Nd) (cap : Nat) (m : Int) (w : World) (i : Nat) (n : Nd) (hn : l[i]? = some n) (hl : l.length ≤ 256) (hA : NodesAt w A l) :
 Calls Tryz.prog 73 #[.agg #[.int .i64 regs, .slice A l.length cap], .int .i64 i, .int .i64 m] w fun e w' => e = .returned (.bool (leadsB n m)) ∧ Below w.heap.size w w' := by (
 have hi : i < l.length := (List.getElem?_eq_some_iff.1 hn).1
 obtain ⟨b, off, n', rfl, hb, hn', h0⟩ := hA.get hi
 rw [hn] at hn'
 injection hn' with hn'
 subst hn'
 clear hn
 obtain ⟨c0, c1, c2, c3, c4, c5⟩ := h0
 go_enter Tryz.func73, Tryz.ntmps73
 go_wp2
 all_goals go_tidy
 all_goals go_ret
 all_goals exact ⟨ret_bool (by simp_all [leadsB]), (by (with_reducible repeat first | apply Qa | assumption | apply Qb | apply Qc | apply Qd | apply Qe | refine Qf ?_ (by assumption) ?_); all_goals (try simp only [Sz]); first | done | omega | (try simp only [Sz] at *); omega)⟩)
def RowPost (B : Nat) (t : TypeId) (xs : List Value) (w : World) (e : Ending) (w' : World) : Prop := ∃ v, e = .returned v ∧ Row w' B t v xs ∧ Below w.heap.size w w'
theorem NextOf_any (regs : Int) (A : Option Addr) (l : List Nd) (cap : Nat) (w : World) (n : Nat) (hn : n < l.length) (hl : l.length ≤ 256) (hA : NodesAt w A l) : Calls Tryz.prog 72 #[.agg #[.int .i64 regs, .slice A l.length cap], .int .i64 n] w (RowPost w.heap.size 3 (ints (sel (nextP l n) l.length)) w) := by (
 obtain ⟨i3, h3i, h3z, h3s, h3b⟩ := info_parts infoInt
 obtain ⟨x, hx⟩ : ∃ x, l[n]? = some x := ⟨_, List.getElem?_eq_getElem hn⟩
 have Hx := hide hx
 clear hx
 go_enter Tryz.func72, Tryz.ntmps72
 go_wp2_with fail
 go_loopw [5, 6] (fun v i wr => ∃ k : Nat, k ≤ l.length ∧ i = .int .i64 k ∧ Row wr w.heap.size 3 v (ints (sel (nextP l n) k)) ∧ Blk wr w.heap.size 24 #[.int .i64 regs, .slice A l.length cap] ∧ Below w.heap.size w wr) (fun _ i _ => l.length - (intOf i).toNat)
 case atStart => exact ⟨0, Nat.zero_le _, rfl, Row.nil_ _ _ _, (by repeat (first | ((with_reducible refine Blk.new' ?_); exact (by (try simp only [Sz]); first | done | omega | (try simp only [Sz] at *); omega)) | (with_reducible refine Blk.drew ?_) | (with_reducible refine Blk.drewN ?_ _) | (with_reducible refine Blk.alloc ?_ _) | with_reducible assumption)), (by (with_reducible repeat first | apply Qa | assumption | apply Qb | apply Qc | apply Qd | apply Qe | refine Qf ?_ (by assumption) ?_); all_goals (try simp only [Sz]); first | done | omega | (try simp only [Sz] at *); omega)⟩
 case round => (
 obtain ⟨k, hk, rfl, hrow, hP, hbr⟩ := hrel
 have p0 := hP.cell 0
 have p1 := hP.cell 1
 simp only [Yl] at p0 p1
 have hz := hbr.size
 have hsl := sel_len (nextP l n) k
 rw [← ints_length] at hsl
 have Hrow := hide hrow
 have HP := hide hP
 clear hrow hP
 by_cases hlt : k < l.length
 · (
 have hcall := leads_any regs A l cap (k : Int) wr n x Hx.out hl (hA.below hbr)
 cases ho : nextP l n k
 · (
 have ho' := ho
 rw [nextP_eq Hx.out] at ho'
 rw [ho'] at hcall
 have Hcall := hide hcall
 have Ho := hide ho
 clear hcall ho ho'
 go_wp2_with (go_at_call 73; refine (Hcall.out).mono ?_; rintro e w1 ⟨rfl, hb1⟩)
 go_roundw
 case rel => exact ⟨k + 1, by omega, by go_num, by rw [sel_succ_false Ho.out]; exact Hrow.out.below' hb1, HP.out.below hb1 HP.out.lt, (by (with_reducible repeat first | apply Qa | assumption | apply Qb | apply Qc | apply Qd | apply Qe | refine Qf ?_ (by assumption) ?_); all_goals (try simp only [Sz]); first | done | omega | (try simp only [Sz] at *); omega)⟩
 case measure => simp [intOf]; omega)
 · (
 have ho' := ho
 rw [nextP_eq Hx.out] at ho'
 rw [ho'] at hcall
 have Hcall := hide hcall
 have Ho := hide ho
 clear hcall ho ho'
 obtain ⟨A5, c5, rfl, _, _⟩ := Hrow.out.shape
 go_wp2_with (first
  | (go_at_call 73; refine (Hcall.out).mono ?_; rintro e w1 ⟨rfl, hb1⟩; have hz1 := hb1.size)
  | (at_builtin; refine wpList_append_row (v := .slice A5 (ints (sel (nextP l n) k)).length c5) rfl (.tmp 18) (.tmp 20) _ rfl i3 _ 8 Tryz.underlying65 h3i h3z h3s h3b rfl rfl ((Hrow.out.below' hb1).alloc _) (some ⟨w1.heap.size, 0, none⟩) 1 1 [.int .i64 (k : Int)] rfl rfl (vals_one _ _ _) (by simp [Value.oneCell']) (by simp [maxLen]; omega) (by simp; omega) (by simp; omega) ?_; intro v2 w2 hr2 hg2 hat2))
 have hb2 : Below w.heap.size w w2 := (((hbr.trans (hb1.mono hz)).alloc (by omega) _).grown hg2 (by simp; omega) (fun q hq => (Hrow.out.lt q hq).1))
 go_roundw
 case rel => exact ⟨k + 1, by omega, by go_num, by rw [sel_succ_true Ho.out, ints_append]; exact hr2, ((HP.out.below hb1 HP.out.lt).alloc _).grown hg2 (Hrow.out.ne_blk HP.out (by decide)), hb2⟩
 case measure => simp [intOf]; omega))
 · (
 have hkk : k = l.length := by omega
 have Hkk := hide hkk
 clear hkk
 go_wp2_with fail
 go_ret
 exact ⟨_, rfl, by rw [← Hkk.out]; exact Hrow.out, hbr⟩)))
theorem AheadOf_any (regs : Int) (A : Option Addr) (l : List Nd) (cap : Nat) (w : World) (n : Nat) (hn : n < l.length) (hl : l.length ≤ 256) (hA : NodesAt w A l) : Calls Tryz.prog 36 #[.agg #[.int .i64 regs, .slice A l.length cap], .int .i64 n] w (RowPost w.heap.size 3 (ints (sel (aheadP l n) l.length)) w) := by (
 obtain ⟨i3, h3i, h3z, h3s, h3b⟩ := info_parts infoInt
 go_enter Tryz.func36, Tryz.ntmps36
 go_wp2_with fail
 go_loopw [5, 6] (fun v i wr => ∃ k : Nat, k ≤ l.length ∧ i = .int .i64 k ∧ Row wr w.heap.size 3 v (ints (sel (aheadP l n) k)) ∧ Blk wr w.heap.size 24 #[.int .i64 regs, .slice A l.length cap] ∧ Below w.heap.size w wr) (fun _ i _ => l.length - (intOf i).toNat)
 case atStart => exact ⟨0, Nat.zero_le _, rfl, Row.nil_ _ _ _, (by repeat (first | ((with_reducible refine Blk.new' ?_); exact (by (try simp only [Sz]); first | done | omega | (try simp only [Sz] at *); omega)) | (with_reducible refine Blk.drew ?_) | (with_reducible refine Blk.drewN ?_ _) | (with_reducible refine Blk.alloc ?_ _) | with_reducible assumption)), (by (with_reducible repeat first | apply Qa | assumption | apply Qb | apply Qc | apply Qd | apply Qe | refine Qf ?_ (by assumption) ?_); all_goals (try simp only [Sz]); first | done | omega | (try simp only [Sz] at *); omega)⟩
 case round => (
 obtain ⟨k, hk, rfl, hrow, hP, hbr⟩ := hrel
 have p0 := hP.cell 0
 have p1 := hP.cell 1
 simp only [Yl] at p0 p1
 have hz := hbr.size
 have hsl := sel_len (aheadP l n) k
 rw [← ints_length] at hsl
 have Hrow := hide hrow
 have HP := hide hP
 clear hrow hP
 by_cases hlt : k < l.length
 · (
 obtain ⟨x, hx⟩ : ∃ x, l[k]? = some x := ⟨_, List.getElem?_eq_getElem hlt⟩
 have Hx := hide hx
 clear hx
 have hcall := leads_any regs A l cap (n : Int) wr k x Hx.out hl (hA.below hbr)
 cases ho : aheadP l n k
 · (
 have ho' := ho
 rw [aheadP_eq Hx.out] at ho'
 rw [ho'] at hcall
 have Hcall := hide hcall
 have Ho := hide ho
 clear hcall ho ho'
 go_wp2_with (go_at_call 73; refine (Hcall.out).mono ?_; rintro e w1 ⟨rfl, hb1⟩)
 go_roundw
 case rel => exact ⟨k + 1, by omega, by go_num, by rw [sel_succ_false Ho.out]; exact Hrow.out.below' hb1, HP.out.below hb1 HP.out.lt, (by (with_reducible repeat first | apply Qa | assumption | apply Qb | apply Qc | apply Qd | apply Qe | refine Qf ?_ (by assumption) ?_); all_goals (try simp only [Sz]); first | done | omega | (try simp only [Sz] at *); omega)⟩
 case measure => simp [intOf]; omega)
 · (
 have ho' := ho
 rw [aheadP_eq Hx.out] at ho'
 rw [ho'] at hcall
 have Hcall := hide hcall
 have Ho := hide ho
 clear hcall ho ho'
 obtain ⟨A5, c5, rfl, _, _⟩ := Hrow.out.shape
 go_wp2_with (first
  | (go_at_call 73; refine (Hcall.out).mono ?_; rintro e w1 ⟨rfl, hb1⟩; have hz1 := hb1.size)
  | (at_builtin; refine wpList_append_row (v := .slice A5 (ints (sel (aheadP l n) k)).length c5) rfl (.tmp 18) (.tmp 20) _ rfl i3 _ 8 Tryz.underlying65 h3i h3z h3s h3b rfl rfl ((Hrow.out.below' hb1).alloc _) (some ⟨w1.heap.size, 0, none⟩) 1 1 [.int .i64 (k : Int)] rfl rfl (vals_one _ _ _) (by simp [Value.oneCell']) (by simp [maxLen]; omega) (by simp; omega) (by simp; omega) ?_; intro v2 w2 hr2 hg2 hat2))
 have hb2 : Below w.heap.size w w2 := (((hbr.trans (hb1.mono hz)).alloc (by omega) _).grown hg2 (by simp; omega) (fun q hq => (Hrow.out.lt q hq).1))
 go_roundw
 case rel => exact ⟨k + 1, by omega, by go_num, by rw [sel_succ_true Ho.out, ints_append]; exact hr2, ((HP.out.below hb1 HP.out.lt).alloc _).grown hg2 (Hrow.out.ne_blk HP.out (by decide)), hb2⟩
 case measure => simp [intOf]; omega))
 · (
 have hkk : k = l.length := by omega
 have Hkk := hide hkk
 clear hkk
 go_wp2_with fail
 go_ret
 exact ⟨_, rfl, by rw [← Hkk.out]; exact Hrow.out, hbr⟩)))
end
section
open Go.RowKit
set_option maxHeartbeats 1000000
theorem Check_any (regs : Int) (A : Option Addr) (l : List Nd) (cap : Nat) (w : World) (hl : l.length ≤ maxLen) (hA : NodesAt w A l) :
    Calls Tryz.prog 74 #[.agg #[.int .i64 regs, .slice A l.length cap]] w
      fun e w' => e = .returned (.int .i64 (chk regs l)) ∧ Below w.heap.size w w' := by
  unfold maxLen at hl
  by_cases h2 : (l.length : Int) < 1 ∨ 256 < (l.length : Int) ∨ regs < 1 ∨ 64 < regs
  · have hf : chk regs l = 2 := by rw [chk, if_pos h2]
    rw [hf]
    clear hf
    go_enter Tryz.func74, Tryz.ntmps74
    go_wp2_with fail
    all_goals go_tidy
    all_goals go_ret
    all_goals exact ⟨rfl, (by (with_reducible repeat first | apply Qa | assumption | apply Qb | apply Qc | apply Qd | apply Qe | refine Qf ?_ (by assumption) ?_); all_goals (try simp only [Sz]); first | done | omega | (try simp only [Sz] at *); omega)⟩
  · have k1 : 1 ≤ (l.length : Int) := by omega
    have k2 : (l.length : Int) ≤ 256 := by omega
    have k3 : 1 ≤ regs := by omega
    have k4 : regs ≤ 64 := by omega
    have hany := anyNodes_any A l cap
    cases h4 : (l.any fun n => !opOk n.op)
    case true =>
      have hf : chk regs l = 4 := by rw [chk, if_neg h2, if_pos h4]
      rw [hf]
      have H4 := hide h4
      clear hf h4 h2 hany
      go_enter Tryz.func74, Tryz.ntmps74
      go_wp2_with (go_at_call 90; refine (anyNodes_any _ _ _ _ hl (hA.below (by (with_reducible repeat first | apply Qa | assumption | apply Qb | apply Qc | apply Qd | apply Qe | refine Qf ?_ (by assumption) ?_); all_goals (try simp only [Sz]); first | done | omega | (try simp only [Sz] at *); omega))).mono ?_; rw [H4.out]; rintro e w1 ⟨rfl, hb1⟩)
      all_goals go_tidy
      all_goals go_ret
      all_goals exact ⟨rfl, (by (with_reducible repeat first | apply Qa | assumption | apply Qb | apply Qc | apply Qd | apply Qe | refine Qf ?_ (by assumption) ?_); all_goals (try simp only [Sz]); first | done | omega | (try simp only [Sz] at *); omega)⟩
    case false =>
      have H4 := hide h4
      have hf : chk regs l = if (l.any (badR regs l.length)) = true then 3 else if (l.any badF) = true then 1 else 0 := by rw [chk, if_neg h2, if_neg (by simp [h4])]
      have Hf := hide hf
      clear hf h4 h2 hany
      have d1 : decide ((l.length : Int) < 1) = false := by simp; omega
      have d2 : decide (256 < (l.length : Int)) = false := by simp; omega
      have d3 : decide (regs < 1) = false := by simp; omega
      have d4 : decide (64 < regs) = false := by simp; omega
      go_enter Tryz.func74, Tryz.ntmps74
      go_wp2_with (go_at_call 90; refine (anyNodes_any _ _ _ _ hl (hA.below (by (with_reducible repeat first | apply Qa | assumption | apply Qb | apply Qc | apply Qd | apply Qe | refine Qf ?_ (by assumption) ?_); all_goals (try simp only [Sz]); first | done | omega | (try simp only [Sz] at *); omega))).mono ?_; rw [H4.out]; rintro e w1 ⟨rfl, hb1⟩; obtain ⟨hc1, hf1⟩ := bcell hb1; have hz1 := hb1.size; simp only [World.size_alloc] at hz1 hc1 hf1)
      go_loopw [42] (fun i wr => ∃ k : Nat, k ≤ l.length ∧ i = .int .i64 k ∧ (l.take k).any (badR regs l.length) = false ∧ Below w1.heap.size w1 wr) (fun i _ => l.length - (intOf i).toNat)
      case atStart => exact ⟨0, Nat.zero_le _, rfl, by simp, Below.refl _ _⟩
      case round =>
        obtain ⟨k, hk, rfl, hno, hbr⟩ := hrel
        have hzr := hbr.size
        have Hno := hide hno
        clear hno
        obtain ⟨hcr, hfr⟩ := bcell hbr
        have hbA : Below w.heap.size w wr := (by (with_reducible repeat first | apply Qa | assumption | apply Qb | apply Qc | apply Qd | apply Qe | refine Qf ?_ (by assumption) ?_); all_goals (try simp only [Sz]); first | done | omega | (try simp only [Sz] at *); omega)
        have g0 : wr.cell? ⟨w.heap.size, 0, none⟩ = some (.int .i64 regs) := by rw [hcr _ _ (by omega), hc1 _ _ (by omega)]; simp
        have g1 : wr.cell? ⟨w.heap.size, 1, none⟩ = some (.slice A l.length cap) := by rw [hcr _ _ (by omega), hc1 _ _ (by omega)]; simp
        have gl : w.heap.size < wr.heap.size := by omega
        clear hc1 hf1 hcr hfr
        by_cases hlt : k < l.length
        · obtain ⟨b, off, n, rfl, hbl, hkn, hn⟩ := hA.get hlt
          have Hkn := hide hkn
          clear hkn
          obtain ⟨c0, c1, c2, c3, c4, c5⟩ := hn.below hbA hbl
          have hbw : b < wr.heap.size := by omega
          go_wp2_with (first
            | (go_at_call 83; refine (of_any _ _).mono ?_; rintro e w2 ⟨rfl, hbw2⟩; obtain ⟨hcw2, hfw2⟩ := bcell hbw2; have hzw2 := hbw2.size; simp only [Sz] at hzw2 hcw2 hfw2; (try have hyw2 := Nat.lt_of_succ_le hzw2); (try have hxw2 := Nat.lt_of_succ_lt hyw2); have gl2 : w.heap.size < w2.heap.size := (by omega))
            | (go_at_call 92; refine (check2_any _ regs _ _ _ (by go_simp)).mono ?_; rintro e w' ⟨rfl, rfl⟩)
            | (go_at_call 93; refine (check3_any _ (some ⟨b, off, none⟩) l.length cap _ _ _ (by go_simp)).mono ?_; rintro e w' ⟨rfl, rfl⟩))
          all_goals go_tidy
          all_goals try simp only [Bool.not_eq_true] at *
          all_goals first
            | (go_ret
               exact ⟨by rw [Hf.out, if_pos (any_of_take _ l k n Hkn.out (by simp [badR, *]))]; rfl, (by (with_reducible repeat first | apply Qa | assumption | apply Qb | apply Qc | apply Qd | apply Qe | refine Qf ?_ (by assumption) ?_); all_goals (try simp only [Sz]); first | done | omega | (try simp only [Sz] at *); omega)⟩)
            | (go_roundw
               case rel => exact ⟨k + 1, by omega, by go_num, by rw [any_take_succ _ l k n Hkn.out, Hno.out]; simp [badR, *], (by (with_reducible repeat first | apply Qa | assumption | apply Qb | apply Qc | apply Qd | apply Qe | refine Qf ?_ (by assumption) ?_); all_goals (try simp only [Sz]); first | done | omega | (try simp only [Sz] at *); omega)⟩
               case measure => simp [intOf]; omega)
        · have hR : l.any (badR regs l.length) = false := by rw [← any_take_all _ l k hlt, Hno.out]
          have Hf2 := hide (Hf.out.trans (if_neg (by simp [hR])))
          clear hR Hno Hf hbr hzr hb1 hz1
          go_wp2_with fail
          go_loopw [99] (fun i w2 => ∃ k : Nat, k ≤ l.length ∧ i = .int .i64 k ∧ (l.take k).any badF = false ∧ Below w.heap.size w w2) (fun i _ => l.length - (intOf i).toNat)
          case atStart => exact ⟨0, Nat.zero_le _, rfl, by simp, hbA⟩
          case round =>
            clear g0 g1 hbA hlt hk gl
            obtain ⟨k, hk, rfl, hno, hbr⟩ := hrel
            have hzr := hbr.size
            have Hno := hide hno
            clear hno
            by_cases hlt : k < l.length
            · obtain ⟨b, off, n, rfl, hbl, hkn, hn⟩ := hA.get hlt
              have Hkn := hide hkn
              clear hkn
              obtain ⟨c0, c1, c2, c3, c4, c5⟩ := hn.below hbr hbl
              have hbw := Nat.lt_of_lt_of_le hbl hzr
              go_wp2_with (first
                | (go_at_call 83; refine (of_any _ _).mono ?_; rintro e w2 ⟨rfl, hbw2⟩; obtain ⟨hcw2, hfw2⟩ := bcell hbw2; have hzw2 := hbw2.size; simp only [Sz] at hzw2 hcw2 hfw2; (try have hyw2 := Nat.lt_of_succ_le hzw2); (try have hxw2 := Nat.lt_of_succ_lt hyw2))
                | (go_at_call 94; refine (check4_any _ _ _).mono ?_; rintro e w' ⟨rfl, rfl⟩))
              all_goals go_tidy
              all_goals try simp only [Bool.not_eq_true] at *
              all_goals first
                | (go_ret
                   exact ⟨by rw [Hf2.out, if_pos (any_of_take _ l k n Hkn.out (by simp [badF, *]))]; rfl, (by (with_reducible repeat first | apply Qa | assumption | apply Qb | apply Qc | apply Qd | apply Qe | refine Qf ?_ (by assumption) ?_); all_goals (try simp only [Sz]); first | done | omega | (try simp only [Sz] at *); omega)⟩)
                | (go_roundw
                   case rel => exact ⟨k + 1, by omega, by go_num, by rw [any_take_succ _ l k n Hkn.out, Hno.out]; simp [badF, *], (by (with_reducible repeat first | apply Qa | assumption | apply Qb | apply Qc | apply Qd | apply Qe | refine Qf ?_ (by assumption) ?_); all_goals (try simp only [Sz]); first | done | omega | (try simp only [Sz] at *); omega)⟩
                   case measure => simp [intOf]; omega)
            · have hR : l.any badF = false := by rw [← any_take_all _ l k hlt, Hno.out]
              have Hf3 := hide (Hf2.out.trans (if_neg (by simp [hR])))
              clear hR Hno Hf2
              go_wp2_with fail
              go_ret
              exact ⟨by rw [Hf3.out]; rfl, hbr⟩
end
section
open Go.RowKit
set_option maxHeartbeats 2000000
def askOne (plus lt x : List Bool) (m : Nat) : Bool := yn plus m || yn lt m && yn x m
theorem says1_any (bk em : Bool) (G P Q T X : Option Addr) (g p q t xn gc pc qc tc xc : Nat) (plus lt x : List Bool) (f h : Nat) (m : Nat) (w : World)
 (hQ : ValsAt w Q (bools plus)) (hT : ValsAt w T (bools lt)) (hX : ValsAt w X (bools x)) (hq : plus.length = q) (ht : lt.length = t) (hx : x.length = xn)
 (hF : Blk w f 55 #[.bool bk, .bool em, .slice G g gc, .slice P p pc, .slice Q q qc, .slice T t tc]) (hH : Blk w h 27 #[.slice X xn xc])
 (m1 : m < q) (m2 : m < t) (m3 : m < xn) (hbig : q ≤ 65536 ∧ t ≤ 65536 ∧ xn ≤ 65536) :
 Calls Tryz.prog 89 #[.int .i64 m, .pointer (some ⟨f, 0, none⟩), .pointer (some ⟨h, 0, none⟩)] w fun e w' => e = .returned (.bool (askOne plus lt x m)) ∧ w = w' := by (
 obtain ⟨b1, b2, b3⟩ := hbig
 obtain ⟨qb, qo, rfl, _, cq⟩ := hQ.bool (k := m) (by omega)
 obtain ⟨tb, to_, rfl, _, ct⟩ := hT.bool (k := m) (by omega)
 obtain ⟨xb, xo, rfl, _, cx⟩ := hX.bool (k := m) (by omega)
 have f4 := hF.cell 4
 have f5 := hF.cell 5
 have h0 := hH.cell 0
 simp only [Yl] at f4 f5 h0
 clear hF hH hQ hT hX hq ht hx
 unfold askOne
 cases h1 : yn plus m <;> cases h2 : yn lt m <;> cases h3 : yn x m <;> rw [h1] at cq <;> rw [h2] at ct <;> rw [h3] at cx <;> go_enter Tryz.func89, Tryz.ntmps89 <;> go_wp2
 all_goals go_tidy
 all_goals go_ret
 all_goals exact ⟨rfl, rfl⟩)
theorem all_take_succ {α : Type} (p : α → Bool) (l : List α) (k : Nat) (x : α) (h : l[k]? = some x) : (l.take (k + 1)).all p = ((l.take k).all p && p x) := by (
 rw [List.take_add_one, h]; simp)
theorem all_of_take {α : Type} (p : α → Bool) (l : List α) (k : Nat) (x : α) (h : l[k]? = some x) (hp : p x = false) : l.all p = false :=
 List.all_eq_false.2 ⟨x, List.mem_of_getElem? h, by simp [hp]⟩
theorem all_take_all {α : Type} (p : α → Bool) (l : List α) (k : Nat) (h : ¬ k < l.length) : (l.take k).all p = l.all p := by (
 rw [List.take_of_length_le (by omega)])
theorem all_any (bk em : Bool) (G P Q T X R : Option Addr) (g p q t xn gc pc qc tc xc rc : Nat) (plus lt x : List Bool) (f h : Nat) (rs : List Int) (w : World)
 (hQ : ValsAt w Q (bools plus)) (hT : ValsAt w T (bools lt)) (hX : ValsAt w X (bools x)) (hq : plus.length = q) (ht : lt.length = t) (hx : x.length = xn)
 (hF : Blk w f 55 #[.bool bk, .bool em, .slice G g gc, .slice P p pc, .slice Q q qc, .slice T t tc]) (hH : Blk w h 27 #[.slice X xn xc])
 (hR : ValsAt w R (ints rs)) (hrs : ∀ r ∈ rs, 0 ≤ r ∧ r < q ∧ r < t ∧ r < xn) (hbig : q ≤ 65536 ∧ t ≤ 65536 ∧ xn ≤ 65536) (hrl : rs.length ≤ 65536) :
 Calls Tryz.prog 88 #[.slice R rs.length rc, .func (.func 89) #[] #[.pointer (some ⟨f, 0, none⟩), .pointer (some ⟨h, 0, none⟩)]] w
  fun e w' => e = .returned (.bool (rs.all fun r => askOne plus lt x r.toNat)) ∧ w = w' := by (
 have hone := fun (m : Nat) (m1 : m < q) (m2 : m < t) (m3 : m < xn) => says1_any bk em G P Q T X g p q t xn gc pc qc tc xc plus lt x f h m w hQ hT hX hq ht hx hF hH m1 m2 m3 hbig
 have Hone := hide hone
 clear hone hQ hT hX hq ht hx hF hH hbig
 go_enter Tryz.func88, Tryz.ntmps88
 go_wp2
 go_loop [9] (fun i => ∃ k : Nat, k ≤ rs.length ∧ i = .int .i64 k ∧ (rs.take k).all (fun r => askOne plus lt x r.toNat) = true) (fun i => rs.length - (intOf i).toNat)
 case atStart => exact ⟨0, Nat.zero_le _, rfl, by simp⟩
 case round => (
 obtain ⟨k, hk, rfl, hno⟩ := hrel
 have Hno := hide hno
 clear hno
 by_cases hlt : k < rs.length
 · (
 obtain ⟨b, off, v, rfl, hbl, hkn, hn⟩ := hR.get (k := k) (by rw [ints_length]; exact hlt)
 rw [ints_get] at hkn
 obtain ⟨r, hr, rfl⟩ : ∃ r, rs[k]? = some r ∧ .int .i64 r = v := by simpa using hkn
 have hrr := hrs r (List.mem_of_getElem? hr)
 obtain ⟨m, rfl⟩ := Int.eq_ofNat_of_zero_le hrr.1
 have Hr := hide hr
 clear hkn hr
 have hp := Hone.out m (by omega) (by omega) (by omega)
 have Hp := hide hp
 clear hp
 cases ho : askOne plus lt x m
 · (
 rw [ho] at Hp
 go_wp2_with (go_at_call 89; refine (Hp.out).mono ?_; rintro e w1 ⟨rfl, rfl⟩)
 go_ret
 exact ⟨by rw [all_of_take _ rs k m Hr.out (by simpa using ho)]; rfl, rfl⟩)
 · (
 rw [ho] at Hp
 go_wp2_with (go_at_call 89; refine (Hp.out).mono ?_; rintro e w1 ⟨rfl, rfl⟩)
 go_round
 case rel => exact ⟨k + 1, by omega, by go_num, by rw [all_take_succ _ rs k m Hr.out, Hno.out]; simpa using ho⟩
 case measure => simp [intOf]; omega))
 · (
 go_wp2
 go_ret
 exact ⟨by rw [← all_take_all _ rs k hlt, Hno.out]; rfl, rfl⟩)))
def saysB (em : Bool) (gen pass plus lt x : List Bool) (rs : List Int) (n : Nat) : Bool :=
 if yn gen n then true else if yn pass n then (if rs.length = 0 then em else rs.all fun r => askOne plus lt x r.toNat) else false
theorem says_any (bk em : Bool) (G P Q T X R GB : Option Addr) (g p q t xn gc pc qc tc xc rc gb gbc : Nat) (gen pass plus lt x : List Bool) (rs : List Int) (GA nn n : Nat) (w : World)
 (hG : ValsAt w G (bools gen)) (hP : ValsAt w P (bools pass)) (hQ : ValsAt w Q (bools plus)) (hT : ValsAt w T (bools lt)) (hX : ValsAt w X (bools x))
 (hg : gen.length = g) (hp : pass.length = p) (hq : plus.length = q) (ht : lt.length = t) (hx : x.length = xn)
 (hA : w.cell? ⟨GA, n, none⟩ = some (.slice R rs.length rc)) (hAl : GA < w.heap.size) (hn1 : n < nn) (hn2 : n < g) (hn3 : n < p)
 (hR : ValsAt w R (ints rs)) (hrs : ∀ r ∈ rs, 0 ≤ r ∧ r < q ∧ r < t ∧ r < xn) (hbig : q ≤ 65536 ∧ t ≤ 65536 ∧ xn ≤ 65536) (hbig2 : g ≤ 65536 ∧ p ≤ 65536 ∧ nn ≤ 65536) (hrl : rs.length ≤ 65536) :
 Calls Tryz.prog 69 #[.agg #[.slice (some ⟨GA, 0, none⟩) nn nn, .slice GB gb gbc], .agg #[.bool bk, .bool em, .slice G g gc, .slice P p pc, .slice Q q qc, .slice T t tc], .slice X xn xc, .int .i64 n] w
  fun e w' => e = .returned (.bool (saysB em gen pass plus lt x rs n)) ∧ Below w.heap.size w w' := by (
 obtain ⟨b1, b2, b3⟩ := hbig
 obtain ⟨b4, b5, b6⟩ := hbig2
 obtain ⟨gb_, go_, rfl, hgl, cg⟩ := hG.bool (k := n) (by omega)
 obtain ⟨pb_, po_, rfl, hpl, cp⟩ := hP.bool (k := n) (by omega)
 have Hg := hide hg
 have Hp := hide hp
 have Hq := hide hq
 have Ht := hide ht
 have Hx := hide hx
 clear hg hp hq ht hx
 have g1 := Nat.lt_succ_of_lt hgl
 have g2 := Nat.lt_succ_of_lt g1
 have p1 := Nat.lt_succ_of_lt hpl
 have p2 := Nat.lt_succ_of_lt p1
 have a1 := Nat.lt_succ_of_lt hAl
 have a2 := Nat.lt_succ_of_lt a1
 simp only [Nat.succ_eq_add_one] at g1 g2 p1 p2 a1 a2
 unfold saysB
 cases h1 : yn gen n
 case true => (
 rw [h1] at cg
 go_enter Tryz.func69, Tryz.ntmps69
 go_wp2
 go_ret
 exact ⟨rfl, (by (with_reducible repeat first | apply Qa | assumption | apply Qb | apply Qc | apply Qd | apply Qe | refine Qf ?_ (by assumption) ?_); all_goals (try simp only [Sz]); first | done | omega | (try simp only [Sz] at *); omega)⟩)
 case false => (
 rw [h1] at cg
 cases h2 : yn pass n
 case false => (
 rw [h2] at cp
 go_enter Tryz.func69, Tryz.ntmps69
 go_wp2
 go_ret
 exact ⟨rfl, (by (with_reducible repeat first | apply Qa | assumption | apply Qb | apply Qc | apply Qd | apply Qe | refine Qf ?_ (by assumption) ?_); all_goals (try simp only [Sz]); first | done | omega | (try simp only [Sz] at *); omega)⟩)
 case true => (
 rw [h2] at cp
 by_cases h3 : rs.length = 0
 · (
 have h3' : rs = [] := List.eq_nil_of_length_eq_zero h3
 subst h3'
 clear h3
 simp only [List.length_nil] at hA
 go_enter Tryz.func69, Tryz.ntmps69
 go_wp2
 go_ret
 exact ⟨rfl, (by (with_reducible repeat first | apply Qa | assumption | apply Qb | apply Qc | apply Qd | apply Qe | refine Qf ?_ (by assumption) ?_); all_goals (try simp only [Sz]); first | done | omega | (try simp only [Sz] at *); omega)⟩)
 · (
 have h3' : ((rs.length : Int) == 0) = false := beq_eq_false_iff_ne.2 (by omega)
 rw [if_neg h3]
 clear h3
 go_enter Tryz.func69, Tryz.ntmps69
 go_wp2_with (go_at_call 88; refine (all_any bk em _ _ Q T X R g p q t xn gc pc qc tc xc rc plus lt x (w.heap.size + 1) (w.heap.size + 2) rs _ (hQ.below (by (with_reducible repeat first | apply Qa | assumption | apply Qb | apply Qc | apply Qd | apply Qe | refine Qf ?_ (by assumption) ?_); all_goals (try simp only [Sz]); first | done | omega | (try simp only [Sz] at *); omega)) (hT.below (by (with_reducible repeat first | apply Qa | assumption | apply Qb | apply Qc | apply Qd | apply Qe | refine Qf ?_ (by assumption) ?_); all_goals (try simp only [Sz]); first | done | omega | (try simp only [Sz] at *); omega)) (hX.below (by (with_reducible repeat first | apply Qa | assumption | apply Qb | apply Qc | apply Qd | apply Qe | refine Qf ?_ (by assumption) ?_); all_goals (try simp only [Sz]); first | done | omega | (try simp only [Sz] at *); omega)) Hq.out Ht.out Hx.out (by repeat (first | ((with_reducible refine Blk.new' ?_); exact (by (try simp only [Sz]); first | done | omega | (try simp only [Sz] at *); omega)) | (with_reducible refine Blk.drew ?_) | (with_reducible refine Blk.drewN ?_ _) | (with_reducible refine Blk.alloc ?_ _) | with_reducible assumption)) (by repeat (first | ((with_reducible refine Blk.new' ?_); exact (by (try simp only [Sz]); first | done | omega | (try simp only [Sz] at *); omega)) | (with_reducible refine Blk.drew ?_) | (with_reducible refine Blk.drewN ?_ _) | (with_reducible refine Blk.alloc ?_ _) | with_reducible assumption)) (hR.below (by (with_reducible repeat first | apply Qa | assumption | apply Qb | apply Qc | apply Qd | apply Qe | refine Qf ?_ (by assumption) ?_); all_goals (try simp only [Sz]); first | done | omega | (try simp only [Sz] at *); omega)) hrs ⟨b1, b2, b3⟩ hrl).mono ?_; rintro e w' ⟨rfl, rfl⟩)
 go_ret
 exact ⟨rfl, (by (with_reducible repeat first | apply Qa | assumption | apply Qb | apply Qc | apply Qd | apply Qe | refine Qf ?_ (by assumption) ?_); all_goals (try simp only [Sz]); first | done | omega | (try simp only [Sz] at *); omega)⟩))))
end
section
open Go.RowKit
set_option maxHeartbeats 2000000
def edgesOf (bk : Bool) (l : List Nd) (n : Nat) : List Int := sel (if bk then nextP l n else aheadP l n) l.length
def allB (em : Bool) (plus lt x : List Bool) (rs : List Int) (k : Nat) : Bool := (decide (0 < rs.length) || em) && (rs.take k).all fun r => askOne plus lt x r.toNat
end
section
open Go.RowKit
theorem askOne_mono {plus lt x y : List Bool} (h : leB x y) {m : Nat} (ha : askOne plus lt x m = true) : askOne plus lt y m = true := by (
 simp only [askOne, Bool.or_eq_true, Bool.and_eq_true] at *
 rcases ha with ha | ⟨h1, h2⟩
 · exact .inl ha
 · exact .inr ⟨h1, h m h2⟩)
theorem saysB_mono {em : Bool} {gen pass plus lt x y : List Bool} {rs : List Int} {n : Nat} (h : leB x y) (hs : saysB em gen pass plus lt x rs n = true) : saysB em gen pass plus lt y rs n = true := by (
 unfold saysB at *
 split at hs
 · rename_i h1; rw [if_pos h1]
 · (
 rename_i h1
 rw [if_neg h1]
 split at hs
 · (
 rename_i h2
 rw [if_pos h2]
 split at hs
 · rename_i h3; rw [if_pos h3]; exact hs
 · (
 rename_i h3
 rw [if_neg h3]
 rw [List.all_eq_true] at *
 exact fun r hr => askOne_mono h (hs r hr)))
 · cases hs))
theorem saysB_congr {em : Bool} {gen pass plus lt x : List Bool} {rs rs' : List Int} {n : Nat} (h : ∀ m, m ∈ rs ↔ m ∈ rs') : saysB em gen pass plus lt x rs n = saysB em gen pass plus lt x rs' n := by (
 unfold saysB
 have h0 : (rs.length = 0) = (rs'.length = 0) := by (
 simp only [List.length_eq_zero_iff, List.eq_nil_iff_forall_not_mem, h])
 have h1 : (rs.all fun r => askOne plus lt x r.toNat) = (rs'.all fun r => askOne plus lt x r.toNat) := by (
 rw [Bool.eq_iff_iff, List.all_eq_true, List.all_eq_true]
 simp only [h])
 simp only [h0, h1])
theorem saysB_local {em : Bool} {gen pass plus lt x y : List Bool} {rs : List Int} {n : Nat} (h : ∀ m ∈ rs, yn x m.toNat = yn y m.toNat) : saysB em gen pass plus lt x rs n = saysB em gen pass plus lt y rs n := by (
 unfold saysB
 have h1 : (rs.all fun r => askOne plus lt x r.toNat) = (rs.all fun r => askOne plus lt y r.toNat) := by (
 rw [Bool.eq_iff_iff, List.all_eq_true, List.all_eq_true]
 refine forall_congr' fun m => forall_congr' fun hm => ?_
 unfold askOne
 rw [h m hm])
 rw [h1])
def flowS (bk em : Bool) (gen pass plus lt : List Bool) (l : List Nd) (x : List Bool) (n : Nat) : Bool := saysB em gen pass plus lt x (edgesOf bk l n) n
theorem flowS_mono (bk em : Bool) (gen pass plus lt : List Bool) (l : List Nd) : Mono (flowS bk em gen pass plus lt l) := fun _ _ _ h hs => saysB_mono h hs
end
section
open Go.RowKit
def mk (n : Nat) (f : Nat → Bool) : List Bool := (List.range n).map f
theorem mk_len (n : Nat) (f : Nat → Bool) : (mk n f).length = n := by simp [mk]
theorem yn_mk {n : Nat} {f : Nat → Bool} {k : Nat} (hk : k < n) : yn (mk n f) k = f k := by simp [yn, mk, hk]
theorem mk_congr {n : Nat} {f g : Nat → Bool} (h : ∀ k, k < n → f k = g k) : mk n f = mk n g := by (
 unfold mk
 exact List.map_congr_left fun k hk => h k (by simpa using hk))
theorem mk_le {n : Nat} {f g : Nat → Bool} (h : ∀ j, f j = true → g j = true) : leB (mk n f) (mk n g) := fun j hj => by (
 by_cases hn : j < n
 · rw [yn_mk hn] at *; exact h j hj
 · rw [yn_out (by rw [mk_len]; omega)] at hj; cases hj)
section
variable {S S' : List Bool → Nat → Bool} {n : Nat}
def selfT (S : List Bool → Nat → Bool) (n : Nat) (x : List Bool) (k : Nat) : Bool := S (mk n fun j => yn x j || j == k) k
theorem selfT_mono (hm : Mono S) : Mono (selfT S n) := fun x y i h hs => hm _ _ _ (mk_le fun j hj => by
 simp only [Bool.or_eq_true] at *
 exact hj.imp (h j) id) hs
theorem selfT_set {x : List Bool} {k : Nat} (hl : x.length = n) (hk : k < n) : (mk n fun j => yn x j || j == k) = x.set k true := by (
 refine ext_yn (by rw [mk_len]; simp [hl]) fun i hi => ?_
 rw [mk_len] at hi
 rw [yn_mk hi, yn_set _ _ _ _ (by rw [hl]; exact hk)]
 by_cases h : i = k
 · simp [h]
 · simp [h])
theorem Great.self (hm : Mono S) {y : List Bool} (h : Great S n y) : Great (selfT S n) n y := by (
 obtain ⟨⟨hl, ha⟩, hab⟩ := h
 refine ⟨⟨hl, fun i hi => ?_⟩, hl, fun z hz => hab.2 z ⟨hz.1, fun i hi hzi => ?_⟩⟩
 · (
 unfold selfT
 rw [selfT_set hl hi, Bool.eq_iff_iff]
 have hle : leB y (y.set i true) := fun j hj => by (
 rw [yn_set _ _ _ _ (by rw [hl]; exact hi)]
 split
 · rfl
 · exact hj)
 refine ⟨fun hy => hm _ _ _ hle (by rw [← ha i hi]; exact hy), fun hs => ?_⟩
 refine hab.2 (y.set i true) ⟨by simpa using hl, fun j hj hjz => ?_⟩ i (by rw [yn_set _ _ _ _ (by rw [hl]; exact hi), if_pos rfl])
 by_cases hji : j = i
 · subst hji; exact hs
 · (
 rw [yn_set _ _ _ _ (by rw [hl]; exact hi), if_neg hji] at hjz
 exact hm _ _ _ hle (by rw [← ha j hj]; exact hjz)))
 · (
 have := hz.2 i hi hzi
 unfold selfT at this
 rw [selfT_set hz.1 hi, set_yn (by rw [hz.1]; exact hi) hzi] at this
 exact this))
theorem Great.congr {y : List Bool} (h : Great S n y) (e : ∀ x, x.length = n → ∀ k, k < n → S x k = S' x k) : Great S' n y := by (
 obtain ⟨⟨hl, ha⟩, hab⟩ := h
 exact ⟨⟨hl, fun i hi => by rw [← e y hl i hi]; exact ha i hi⟩, hl, fun z hz => hab.2 z ⟨hz.1, fun i hi hzi => by rw [e z hz.1 i hi]; exact hz.2 i hi hzi⟩⟩)
def Sweep (S : List Bool → Nat → Bool) (n c k : Nat) (x : List Bool) : Prop :=
 Above S n x ∧ (∀ i, i < n → S x i = true → yn x i = true) ∧ ((∀ i, i < n → yn x i = true → S x i = true) ∨ cnt x + c + 1 ≤ n ∨ (cnt x + c ≤ n ∧ ∀ i, i < k → yn x i = true → S x i = true))
theorem Sweep.start {x : List Bool} (hl : x.length = n) (h : ∀ i, i < n → yn x i = true) : Sweep S n 0 0 x :=
 ⟨Above.start hl h, fun i hi _ => h i hi, .inr (.inr ⟨by have := cnt_le x; omega, fun i hi => by omega⟩)⟩
theorem Sweep.len {c k : Nat} {x : List Bool} (h : Sweep S n c k x) : x.length = n := h.1.1
theorem Sweep.step (hm : Mono S) {c k : Nat} {x : List Bool} (h : Sweep S n c k x) (hk : k < n) {b : Bool} (hb : b = S x k) : Sweep S n c (k + 1) (x.set k b) := by (
 subst hb
 obtain ⟨ha, hd, hs⟩ := h
 have hkx : k < x.length := by rw [ha.1]; exact hk
 by_cases he : yn x k = S x k
 · (
 rw [set_yn hkx he]
 refine ⟨ha, hd, hs.imp id (Or.imp id fun ⟨h1, h2⟩ => ⟨h1, fun i hi hy => ?_⟩)⟩
 by_cases hik : i = k
 · subst hik; rw [← he]; exact hy
 · exact h2 i (by omega) hy)
 · (
 have hsf : S x k = false := by (
 cases hq : S x k with
 | false => rfl
 | true => exact absurd ((hd k hk hq).trans hq.symm) he)
 have hyt : yn x k = true := by (
 cases hq : yn x k with
 | true => rfl
 | false => exact absurd (hq.trans hsf.symm) he)
 rw [hsf]
 have hle : leB (x.set k false) x := fun j hj => by (
 rw [yn_set _ _ _ _ hkx] at hj
 split at hj
 · cases hj
 · exact hj)
 refine ⟨ha.drop hm hk hsf, fun i hi hsi => ?_, ?_⟩
 · (
 have h1 := hm _ _ _ hle hsi
 rw [yn_set _ _ _ _ hkx, if_neg (by rintro rfl; rw [hsf] at h1; cases h1)]
 exact hd i hi h1)
 · (
 have hc := cnt_set hkx hyt
 rcases hs with h1 | h1 | ⟨h1, _⟩
 · (
 have := h1 k hk hyt
 rw [hsf] at this
 cases this)
 · exact .inr (.inl (by omega))
 · exact .inr (.inl (by omega)))))
theorem Sweep.turn {c : Nat} {x : List Bool} (h : Sweep S n c n x) : Sweep S n (c + 1) 0 x := by (
 obtain ⟨ha, hd, hs⟩ := h
 refine ⟨ha, hd, ?_⟩
 rcases hs with h1 | h1 | ⟨_, h1⟩
 · exact .inl h1
 · exact .inr (.inr ⟨by omega, fun i hi => by omega⟩)
 · exact .inl h1)
theorem Sweep.great (hm : Mono S) {c : Nat} {x : List Bool} (h : Sweep S n c 0 x) (hc : n < c) : Great S n x := by (
 obtain ⟨ha, hd, hs⟩ := h
 refine ha.great hm ?_
 rcases hs with h1 | h1 | ⟨h1, _⟩
 · exact h1
 · omega
 · omega)
end
def recL (t : Tm) (l : List Nd) : List Bool := mk l.length fun k => recB t (nd l k)
def keepL (t : Tm) (l : List Nd) : List Bool := mk l.length fun k => keepB t (nd l k)
def noL (n : Nat) : List Bool := List.replicate n false
def notL (x : List Bool) : List Bool := mk x.length fun k => !yn x k
theorem notL_len (x : List Bool) : (notL x).length = x.length := mk_len _ _
theorem yn_no (n k : Nat) : yn (noL n) k = false := by (
 unfold noL yn
 rw [List.getD_eq_getElem?_getD, List.getElem?_replicate]
 split <;> rfl)
theorem yn_not {x : List Bool} {k : Nat} (hk : k < x.length) : yn (notL x) k = !yn x k := yn_mk hk
def earlyL (t : Tm) (l : List Nd) (d u : List Bool) : List Bool := mk l.length fun k => yn d k && ((edgesOf false l k).length == 0 || (edgesOf false l k).any fun m => !yn (keepL t l) m.toNat || !yn d m.toNat && !yn u m.toNat)
def lateL (t : Tm) (l : List Nd) (y : List Bool) : List Bool := mk l.length fun k => yn y k && (yn (recL t l) k || (edgesOf true l k).any fun m => !yn y m.toNat)
structure Fx where
 down : List Bool
 up : List Bool
 early : List Bool
 delay : List Bool
 late : List Bool
 alone : List Bool
structure IsFx (t : Tm) (l : List Nd) (F : Fx) : Prop where
 down : Great (flowS true false (recL t l) (keepL t l) (noL l.length) (notL (noL l.length)) l) l.length F.down
 up : Great (flowS false false (noL l.length) (notL (noL l.length)) (mk l.length fun k => yn (keepL t l) k && yn (recL t l) k) (keepL t l) l) l.length F.up
 early : F.early = earlyL t l F.down F.up
 delay : Great (flowS false false F.early (notL (noL l.length)) (noL l.length) (notL (recL t l)) l) l.length F.delay
 late : F.late = lateL t l F.delay
 alone : Great (flowS true true (noL l.length) (notL (noL l.length)) F.late (notL (recL t l)) l) l.length F.alone
theorem IsFx.unique {t : Tm} {l : List Nd} {F G : Fx} (hF : IsFx t l F) (hG : IsFx t l G) : F = G := by (
 obtain ⟨a, b, c, d, e, f⟩ := F
 obtain ⟨a', b', c', d', e', f'⟩ := G
 obtain ⟨h1, h2, h3, h4, h5, h6⟩ := hF
 obtain ⟨g1, g2, g3, g4, g5, g6⟩ := hG
 simp only at *
 have e1 := h1.unique g1
 have e2 := h2.unique g2
 subst e1 e2
 have e3 : c = c' := h3.trans g3.symm
 subst e3
 have e4 := h4.unique g4
 subst e4
 have e5 : e = e' := h5.trans g5.symm
 subst e5
 have e6 := h6.unique g6
 subst e6
 rfl)
theorem IsFx.len {t : Tm} {l : List Nd} {F : Fx} (h : IsFx t l F) : F.down.length = l.length ∧ F.up.length = l.length ∧ F.early.length = l.length ∧ F.delay.length = l.length ∧ F.late.length = l.length ∧ F.alone.length = l.length :=
 ⟨h.down.1.1, h.up.1.1, by rw [h.early]; exact mk_len _ _, h.delay.1.1, by rw [h.late]; exact mk_len _ _, h.alone.1.1⟩
end
section
open Go.RowKit
set_option maxHeartbeats 2000000
attribute [local irreducible] Row madeCells
def SaysAt (P : Program) (F : FuncId) (caps : Array Value) (w : World) (k : Int) (b : Bool) : Prop :=
 ∀ W, Below w.heap.size w W → Calls P F (#[.int .i64 k] ++ caps) W fun e W' => e = .returned (.bool b) ∧ Below W.heap.size W W'
theorem idxSome_any (F : FuncId) (caps : Array Value) (p : Int → Bool) (S : Option Addr) (xs : List Int) (cap : Nat) (w : World) (hl : xs.length ≤ maxLen) (hS : ValsAt w S (ints xs))
 (hE : ∀ W args, (callFunc F args).run Tryz.prog W = .ok (.enter F args) W) (hF : ∀ m ∈ xs, SaysAt Tryz.prog F caps w m (p m)) :
 Calls Tryz.prog 101 #[.slice S xs.length cap, .func (.func F) #[] caps] w (IdxPost (xs.any p) w) := by (
 unfold maxLen at hl
 go_enter Tryz.func101, Tryz.ntmps101
 go_wp2
 go_loopw [8] (fun i wr => ∃ k : Nat, k ≤ xs.length ∧ i = .int .i64 k ∧ (xs.take k).any p = false ∧ Below w.heap.size w wr) (fun i _ => xs.length - (intOf i).toNat)
 case atStart => exact ⟨0, Nat.zero_le _, rfl, by simp, Below.refl _ _⟩
 case round => (
 obtain ⟨k, hk, rfl, hno, hbr⟩ := hrel
 have hzr := hbr.size
 have Hno := hide hno
 clear hno
 by_cases hlt : k < xs.length
 · (
 obtain ⟨b, off, v, rfl, hbl, hkn, hn⟩ := hS.get (k := k) (by rw [ints_length]; exact hlt)
 obtain ⟨s, hs, hv⟩ : ∃ s, xs[k]? = some s ∧ Value.int .i64 s = v := by simpa [ints] using hkn
 subst hv
 clear hkn
 have Hkn := hide hs
 have hm : s ∈ xs := List.mem_of_getElem? hs
 have c0 := ((bcell hbr).1 _ _ hbl).trans hn
 have hp := hF s hm wr hbr
 have Hp := hide hp
 clear hp hs
 have hbw : b < wr.heap.size := by omega
 go_wp2_with fail
 refine (Hp.out).mono ?_
 rintro e w1 ⟨rfl, hb1⟩
 have hbr1 := hbr.trans (hb1.mono hzr)
 cases ho : p s
 · (
 go_wp2_with fail
 go_roundw
 case rel => exact ⟨k + 1, by omega, by go_num, by rw [any_take_succ _ xs k s Hkn.out, Hno.out]; simp [ho], hbr1⟩
 case measure => simp [intOf]; omega)
 · (
 go_wp2_with fail
 go_ret
 exact ⟨k, rfl, by rw [any_of_take _ xs k s Hkn.out ho]; simp, hbr1⟩))
 · (
 go_wp2
 go_ret
 exact ⟨-1, rfl, by rw [← any_take_all _ xs k hlt, Hno.out]; rfl, hbr⟩)))
theorem anySome_any (F : FuncId) (caps : Array Value) (p : Int → Bool) (S : Option Addr) (xs : List Int) (cap : Nat) (w : World) (hl : xs.length ≤ maxLen) (hS : ValsAt w S (ints xs))
 (hE : ∀ W args, (callFunc F args).run Tryz.prog W = .ok (.enter F args) W) (hF : ∀ m ∈ xs, SaysAt Tryz.prog F caps w m (p m)) :
 Calls Tryz.prog 85 #[.slice S xs.length cap, .func (.func F) #[] caps] w fun e w' => e = .returned (.bool (xs.any p)) ∧ Below w.heap.size w w' := by (
 have h := idxSome_any F caps p S xs cap w hl hS hE hF
 have H := hide h
 clear h hF hS
 generalize xs.any p = q at *
 go_enter Tryz.func85, Tryz.ntmps85
 go_wp2_with (go_at_call 101; refine (H.out).mono ?_; rintro e w1 ⟨r, rfl, hr, hb1⟩)
 go_ret
 exact ⟨by rw [← hr]; rfl, hb1⟩)
theorem some_any (F : FuncId) (caps : Array Value) (p : Int → Bool) (S : Option Addr) (xs : List Int) (cap : Nat) (w : World) (hl : xs.length ≤ maxLen) (hS : ValsAt w S (ints xs))
 (hE : ∀ W args, (callFunc F args).run Tryz.prog W = .ok (.enter F args) W) (hF : ∀ m ∈ xs, SaysAt Tryz.prog F caps w m (p m)) :
 Calls Tryz.prog 63 #[.slice S xs.length cap, .func (.func F) #[] caps] w fun e w' => e = .returned (.bool (xs.any p)) ∧ Below w.heap.size w w' := by (
 have H := hide (anySome_any F caps p S xs cap w hl hS hE hF)
 clear hF hS
 generalize xs.any p = q at *
 go_enter Tryz.func63, Tryz.ntmps63
 go_wp2_with (go_at_call 85; refine (H.out).mono ?_; rintro e w1 ⟨rfl, hb1⟩)
 go_ret
 exact ⟨rfl, hb1⟩)
theorem each_any (F : FuncId) (caps : Array Value) (f : Nat → Bool) (regs : Int) (A : Option Addr) (n cap : Nat) (w : World) (hn : n ≤ 65536)
 (hE : ∀ W args, (callFunc F args).run Tryz.prog W = .ok (.enter F args) W) (hF : ∀ k : Nat, k < n → SaysAt Tryz.prog F caps w k (f k)) :
 Calls Tryz.prog 56 #[.agg #[.int .i64 regs, .slice A n cap], .func (.func F) #[] caps] w (BoolPost 4 (mk n f) w) := by (
 obtain ⟨ib, hbi, hbz, hbs, hbb⟩ := info_parts infoBoolG
 have hmk := run_make1 (P := Tryz.prog) 27 4 ib _ 1 Tryz.underlying27 hbi hbz hbs hbb (by omega) rfl n (by omega)
 go_enter Tryz.func56, Tryz.ntmps56
 go_wp2_with fail
 go_loopg [13] (n) (fun gk i wr => ∃ k : Nat, k ≤ n ∧ i = .int .i64 k ∧ gk = n - k ∧ ∃ x : List Bool, x.length = n ∧ (∀ j, j < k → yn x j = f j) ∧ Row wr w.heap.size 4 (.slice (some ⟨w.heap.size + 1, 0, none⟩) n n) (bools x) ∧ Below w.heap.size w wr)
 case atStart => exact ⟨0, Nat.zero_le _, rfl, rfl, List.replicate n false, by simp, fun j hj => by omega, by rw [bools, List.map_replicate]; exact (by repeat (first | ((with_reducible refine Row.made1' ?_ ?_ ?_); exact (by (try simp only [Sz]); first | done | omega | (try simp only [Sz] at *); omega); exact (by (try simp only [Sz]); first | done | omega | (try simp only [Sz] at *); omega); exact (by (try simp only [Sz]); first | done | omega | (try simp only [Sz] at *); omega)) | (with_reducible refine Row.drew ?_) | (with_reducible refine Row.drewN ?_ _) | (with_reducible refine Row.alloc ?_ _) | with_reducible assumption)), (by (with_reducible repeat first | apply Qa | assumption | apply Qb | apply Qc | apply Qd | apply Qe | refine Qf ?_ (by assumption) ?_); all_goals (try simp only [Sz]); first | done | omega | (try simp only [Sz] at *); omega)⟩
 case round => (
 obtain ⟨k, hk, rfl, hgk, x, hxl, hxf, hR, hB⟩ := hrel
 have Hgk := hide hgk
 have Hxf := hide hxf
 have hxlt := (hR.lt _ rfl).2
 clear hgk hxf hmk
 by_cases hlt : k < n
 · (
 have hp := hF k hlt wr hB
 have Hp := hide hp
 have HF := hide hF
 have HR := hide hR
 clear hp hF hR
 have u0 : (0 : Int) ≤ (k : Int) := by omega
 have u1 : (k : Int) < (n : Int) := by omega
 go_wp2_with fail
 refine (Hp.out).mono ?_
 rintro e w1 ⟨rfl, hb1⟩
 have hR1 := HR.out.below' hb1
 obtain ⟨g0, o0, cp0, e0, _, _, cx, fx⟩ := hR1.bool (k := k) (by rw [hxl]; exact hlt)
 injection e0 with e0 e1 e2
 injection e0 with e0
 injection e0 with e0 e3
 subst e0 e3
 simp only [Nat.zero_add] at cx fx
 clear e1 e2
 have hz1 := hb1.size
 have hx1 := Nat.lt_of_lt_of_le hxlt hz1
 have HR1 := hide hR1
 clear hR1
 go_wp2_with fail
 go_roundg (n - (k + 1))
 case measure => have := Hgk.out; omega
 case rel => (
 have hs := HR1.out.setb k (f k)
 rw [Nat.zero_add] at hs
 refine ⟨k + 1, by omega, by go_num, rfl, x.set k (f k), by simpa using hxl, fun j hj => ?_, hs, (hB.trans (hb1.mono hB.size)).setCell (by simp <;> omega) _⟩
 rw [yn_set _ _ _ _ (by rw [hxl]; exact hlt)]
 split
 · rename_i e; rw [e]
 · exact Hxf.out j (by omega)))
 · (
 have hkk : k = n := by omega
 subst hkk
 have hxe : x = mk k f := ext_yn (by rw [mk_len, hxl]) fun j hj => by rw [Hxf.out j (by omega), yn_mk (by omega)]
 subst hxe
 have HR := hide hR
 clear hR
 go_wp2_with fail
 go_ret
 exact ⟨_, rfl, HR.out, hB⟩)))
end
section
open Go.RowKit
theorem edges_lt {bk : Bool} {l : List Nd} {k : Nat} {m : Int} (h : m ∈ edgesOf bk l k) : m.toNat < l.length := by (
 unfold edgesOf at h
 obtain ⟨i, hi, _, rfl⟩ := mem_sel.1 h
 simpa using hi)
theorem yn_yes {n k : Nat} (hk : k < n) : yn (notL (noL n)) k = true := by (
 rw [yn_not (by simpa [noL] using hk), yn_no]; rfl)
theorem yn_rec {t : Tm} {l : List Nd} {k : Nat} {n : Nd} (hn : l[k]? = some n) : yn (recL t l) k = recB t n := by (
 rw [recL, yn_mk (List.getElem?_eq_some_iff.1 hn).1, nd_get hn])
theorem yn_keep {t : Tm} {l : List Nd} {k : Nat} {n : Nd} (hn : l[k]? = some n) : yn (keepL t l) k = keepB t n := by (
 rw [keepL, yn_mk (List.getElem?_eq_some_iff.1 hn).1, nd_get hn])
theorem recL_len (t : Tm) (l : List Nd) : (recL t l).length = l.length := mk_len _ _
theorem keepL_len (t : Tm) (l : List Nd) : (keepL t l).length = l.length := mk_len _ _
theorem all_congr {es : List Int} {p q : Int → Bool} (h : ∀ m ∈ es, p m = q m) : es.all p = es.all q := by (
 rw [Bool.eq_iff_iff, List.all_eq_true, List.all_eq_true]
 exact forall_congr' fun m => forall_congr' fun hm => by rw [h m hm])
def downV (t : Tm) (l : List Nd) (x : List Bool) (k : Nat) : Bool := yn (recL t l) k || yn (keepL t l) k && decide (0 < (edgesOf true l k).length) && (edgesOf true l k).all fun m => yn x m.toNat
def upV (t : Tm) (l : List Nd) (x : List Bool) (k : Nat) : Bool := decide (0 < (edgesOf false l k).length) && (edgesOf false l k).all fun m => yn (keepL t l) m.toNat && ((yn x m.toNat || m.toNat == k) || yn (recL t l) m.toNat)
def delayV (t : Tm) (l : List Nd) (e x : List Bool) (k : Nat) : Bool := yn e k || decide (0 < (edgesOf false l k).length) && (edgesOf false l k).all fun m => yn x m.toNat && !yn (recL t l) m.toNat
def aloneV (t : Tm) (l : List Nd) (f x : List Bool) (k : Nat) : Bool := (edgesOf true l k).all fun m => yn f m.toNat || !yn (recL t l) m.toNat && (yn x m.toNat || m.toNat == k)
theorem down_eq (t : Tm) (l : List Nd) (x : List Bool) {k : Nat} (hk : k < l.length) : flowS true false (recL t l) (keepL t l) (noL l.length) (notL (noL l.length)) l x k = downV t l x k := by (
 unfold flowS saysB downV
 have h : ((edgesOf true l k).all fun r => askOne (noL l.length) (notL (noL l.length)) x r.toNat) = (edgesOf true l k).all fun m => yn x m.toNat := all_congr fun m hm => by (
 rw [askOne, yn_no, yn_yes (edges_lt hm)]; simp)
 rw [h]
 cases yn (recL t l) k <;> cases yn (keepL t l) k <;> rcases hE : edgesOf true l k with _ | ⟨e0, es⟩ <;> simp)
theorem up_eq (t : Tm) (l : List Nd) (x : List Bool) {k : Nat} (hk : k < l.length) : selfT (flowS false false (noL l.length) (notL (noL l.length)) (mk l.length fun k => yn (keepL t l) k && yn (recL t l) k) (keepL t l) l) l.length x k = upV t l x k := by (
 unfold selfT flowS saysB upV
 have h : ((edgesOf false l k).all fun r => askOne (mk l.length fun k => yn (keepL t l) k && yn (recL t l) k) (keepL t l) (mk l.length fun j => yn x j || j == k) r.toNat) = (edgesOf false l k).all fun m => yn (keepL t l) m.toNat && ((yn x m.toNat || m.toNat == k) || yn (recL t l) m.toNat) := all_congr fun m hm => by (
 have hlt := edges_lt hm
 rw [askOne, yn_mk hlt, yn_mk hlt]
 cases yn (keepL t l) m.toNat <;> cases yn (recL t l) m.toNat <;> simp)
 rw [h, yn_no, yn_yes hk]
 rcases hE : edgesOf false l k with _ | ⟨e0, es⟩ <;> simp)
theorem delay_eq (t : Tm) (l : List Nd) (e x : List Bool) {k : Nat} (hk : k < l.length) : flowS false false e (notL (noL l.length)) (noL l.length) (notL (recL t l)) l x k = delayV t l e x k := by (
 unfold flowS saysB delayV
 have h : ((edgesOf false l k).all fun r => askOne (noL l.length) (notL (recL t l)) x r.toNat) = (edgesOf false l k).all fun m => yn x m.toNat && !yn (recL t l) m.toNat := all_congr fun m hm => by (
 rw [askOne, yn_no, yn_not (by rw [recL_len]; exact edges_lt hm)]
 cases yn x m.toNat <;> cases yn (recL t l) m.toNat <;> rfl)
 rw [h, yn_yes hk]
 cases yn e k <;> rcases hE : edgesOf false l k with _ | ⟨e0, es⟩ <;> simp)
theorem alone_eq (t : Tm) (l : List Nd) (f x : List Bool) {k : Nat} (hk : k < l.length) : selfT (flowS true true (noL l.length) (notL (noL l.length)) f (notL (recL t l)) l) l.length x k = aloneV t l f x k := by (
 unfold selfT flowS saysB aloneV
 have h : ((edgesOf true l k).all fun r => askOne f (notL (recL t l)) (mk l.length fun j => yn x j || j == k) r.toNat) = (edgesOf true l k).all fun m => yn f m.toNat || !yn (recL t l) m.toNat && (yn x m.toNat || m.toNat == k) := all_congr fun m hm => by (
 have hlt := edges_lt hm
 rw [askOne, yn_mk hlt, yn_not (by rw [recL_len]; exact hlt)])
 rw [h, yn_no, yn_yes hk]
 rcases hE : edgesOf true l k with _ | ⟨e0, es⟩ <;> simp)
end
end Go.Proofs.YtmghkonmfbpjcabGreat
