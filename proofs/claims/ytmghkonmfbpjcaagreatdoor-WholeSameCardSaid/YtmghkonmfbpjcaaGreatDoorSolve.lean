/- Solve. -/
import Derived.Test.YtmghkonmfbpjcaaGreatDoorGD
import Derived.Test.YtmghkonmfbpjcaaGreatDoorGA
set_option linter.unusedVariables false
set_option linter.unusedSimpArgs false
namespace Go.Proofs.YtmghkonmfbpjcaaGreatDoor
section
open Go.RowKit
set_option maxHeartbeats 4000000
attribute [local irreducible] Row madeCells
def wsum (len : Nat → Nat) (x : List Bool) : Nat → Nat
 | 0 => 0
 | k + 1 => wsum len x k + if yn x k = true then len k else 0
theorem wsum_le {len : Nat → Nat} {c : Nat} (x : List Bool) : ∀ k, (∀ i, i < k → len i ≤ c) → wsum len x k ≤ k * c
 | 0, _ => by simp [wsum]
 | k + 1, h => by (
 have h1 := wsum_le x k fun i hi => h i (by omega)
 have h2 := h k (by omega)
 unfold wsum
 rw [Nat.succ_mul]
 split <;> omega)
theorem wsum_set_out {len : Nat → Nat} {x : List Bool} {i : Nat} (hi : i < x.length) : ∀ k, k ≤ i → wsum len (x.set i false) k = wsum len x k
 | 0, _ => rfl
 | k + 1, h => by (
 have h1 := wsum_set_out (len := len) hi k (by omega)
 have h2 : yn (x.set i false) k = yn x k := by rw [yn_set _ _ _ _ hi, if_neg (show ¬ k = i by omega)]
 unfold wsum
 rw [h1, h2])
theorem wsum_set {len : Nat → Nat} {x : List Bool} {i : Nat} (hi : i < x.length) (hx : yn x i = true) : ∀ k, i < k → wsum len (x.set i false) k + len i = wsum len x k
 | 0, h => by omega
 | k + 1, h => by (
 have h2 := yn_set x i k false hi
 unfold wsum
 by_cases hik : i = k
 · (
 subst hik
 have h1 := wsum_set_out (len := len) hi i (Nat.le_refl _)
 rw [if_pos rfl] at h2
 rw [h1, h2, hx]
 simp)
 · (
 have h1 := wsum_set (len := len) hi hx k (by omega)
 rw [if_neg (fun e => hik e.symm)] at h2
 rw [h2]
 omega))
theorem asked_of {tS tI : TypeId} {B GA GB : Nat} {bk : Bool} {l : List Nd} {wr : World} {vs : Nat → Value} {xs : Nat → List Int} (h : Graph tS tI B GA GB bk l.length (PEk l l.length) wr vs xs)
 (hT : ∀ (k : Nat) (n : Nd), l[k]? = some n → ∀ m ∈ exitsL n, 0 ≤ m ∧ m < l.length) {i j : Nat} (hi : i < l.length) (hj : j < l.length) (hm : (i : Int) ∈ edgesOf bk l j) : (j : Int) ∈ xs (l.length + i) := by (
 rw [← mem_asks h hT hj] at hm
 obtain ⟨a, m, hp, h1, h2⟩ := (h.edges.asks j hj i).1 hm
 exact (h.edges.asked i hi j).2 ⟨a, m, hp, h1, h2⟩)
theorem asked_rng {tS tI : TypeId} {B GA GB : Nat} {bk : Bool} {l : List Nd} {wr : World} {vs : Nat → Value} {xs : Nat → List Int} (h : Graph tS tI B GA GB bk l.length (PEk l l.length) wr vs xs)
 (hT : ∀ (k : Nat) (n : Nd), l[k]? = some n → ∀ m ∈ exitsL n, 0 ≤ m ∧ m < l.length) {i : Nat} (hi : i < l.length) {r : Int} (hr : r ∈ xs (l.length + i)) : 0 ≤ r ∧ r < l.length := by (
 obtain ⟨a, m, ⟨ha, n, hn, hm⟩, h1, h2⟩ := (h.edges.asked i hi r).1 hr
 have := hT a n hn m hm
 unfold fst at h1
 split at h1 <;> omega)
def Todo (S : List Bool → Nat → Bool) (n : Nat) (x : List Bool) (work : List Int) : Prop := ∀ j : Nat, j < n → yn x j = true → S x j = false → (j : Int) ∈ work
theorem Todo.drop {bk em : Bool} {gen pass plus lt : List Bool} {l : List Nd} {x : List Bool} {i : Nat} {work asked : List Int} (h : Todo (flowS bk em gen pass plus lt l) l.length x ((i : Int) :: work)) (hl : x.length = l.length) (hi : i < l.length)
 (ha : ∀ j, j < l.length → (i : Int) ∈ edgesOf bk l j → (j : Int) ∈ asked) : Todo (flowS bk em gen pass plus lt l) l.length (x.set i false) (work ++ asked) := by (
 intro j hj hy hs
 rw [yn_set _ _ _ _ (by rw [hl]; exact hi)] at hy
 by_cases hji : j = i
 · rw [if_pos hji] at hy; cases hy
 · (
 rw [if_neg hji] at hy
 rw [List.mem_append]
 by_cases hm : (i : Int) ∈ edgesOf bk l j
 · exact .inr (ha j hj hm)
 · (
 have he : flowS bk em gen pass plus lt l (x.set i false) j = flowS bk em gen pass plus lt l x j := saysB_local fun m hmm => by (
 rw [yn_set _ _ _ _ (by rw [hl]; exact hi), if_neg]
 rintro rfl
 obtain ⟨q, _, _, rfl⟩ := mem_sel.1 hmm
 simp at hm
 exact hm hmm)
 rw [he] at hs
 have := h j hj hy hs
 simp only [List.mem_cons] at this
 rcases this with e | e
 · exact absurd (by omega) hji
 · exact .inl e)))
theorem Todo.pop {S : List Bool → Nat → Bool} {n : Nat} {x : List Bool} {i : Nat} {work : List Int} (h : Todo S n x ((i : Int) :: work)) (hi : yn x i = true → S x i = true) : Todo S n x work := by (
 intro j hj hy hs
 have := h j hj hy hs
 simp only [List.mem_cons] at this
 rcases this with e | e
 · (
 have e' : j = i := by omega
 subst e'
 rw [hi hy] at hs
 cases hs)
 · exact e)
def SolvePost (S : List Bool → Nat → Bool) (n : Nat) (t : TypeId) (w : World) (e : Ending) (w' : World) : Prop :=
 ∃ x v, Great S n x ∧ e = .returned (.tuple #[v, .int .i64 0]) ∧ Row w' w.heap.size t v (bools x) ∧ Below w.heap.size w w'
set_option maxRecDepth 100000 in
theorem Solve_ok
 (regs : Int) (A : Option Addr) (l : List Nd) (cap : Nat) (bk em : Bool) (G P Q T : Option Addr) (g p q t gc pc qc tc : Nat) (w : World) (hA : NodesAt w A l) (hml : l.length ≤ maxLen)
 (gen pass plus lt : List Bool)
 (hG : ValsAt w G (bools gen)) (hP : ValsAt w P (bools pass)) (hQ : ValsAt w Q (bools plus)) (hT : ValsAt w T (bools lt))
 (hg : gen.length = g) (hp : pass.length = p) (hq : plus.length = q) (ht : lt.length = t)
 (hfe : fchk regs l g p q t = 0) :
 Calls Tryz.prog 80 #[.agg #[.int .i64 regs, .slice A l.length cap], .agg #[.bool bk, .bool em, .slice G g gc, .slice P p pc, .slice Q q qc, .slice T t tc]] w
  (SolvePost (flowS bk em gen pass plus lt l) l.length 4 w) := by (
 obtain ⟨hR, e1, e2, e3, e4⟩ := fchk_zero hfe
 have hsays := fun (x : List Bool) (X : Option Addr) (xc n : Nat) (B GA GB : Nat) (vs : Nat → Value) (xs : Nat → List Int) (w1 W : World) (hx : x.length = l.length) (hX : ValsAt W X (bools x)) (hgr : Graph 25 3 B GA GB bk l.length (PEk l l.length) w1 vs xs) (hb : Below w1.heap.size w1 W) (hW : Below w.heap.size w W) (hn : n < l.length) =>
  graph_says bk em G P Q T X g p q t l.length gc pc qc tc xc gen pass plus lt x l B GA GB n vs xs w1 W (hG.below hW) (hP.below hW) (hQ.below hW) (hT.below hW) hX hg hp hq ht hx e1 e2 e3 e4 rfl hR.hi hgr hb hn hR.exits
 have Hsays := hide hsays
 have Hq := hide hfe
 have hl2 := hR.hi
 have hl1 := hR.lo
 have hof := fun (W : World) (hW : Below w.heap.size w W) => FlowOf_any regs A l cap bk W ⟨hR.lo, hR.hi⟩ (hA.below hW) hR.exits
 have Hof := hide hof
 have hex := hR.exits
 have Hex := hide hex
 clear hsays hG hP hQ hT hg hp hq ht e1 e2 e3 e4 hfe hof hex hR
 obtain ⟨ib, hbi, hbz, hbs, hbb⟩ := info_parts infoBool
 obtain ⟨i3, h3i, h3z, h3s, h3b⟩ := info_parts info_int
 have hmk := run_make1 (P := Tryz.prog) 70 4 ib _ 1 Tryz.underlying70 hbi hbz hbs hbb (by omega) rfl l.length (by omega)
 go_enter Tryz.func80, Tryz.ntmps80
 go_wp2_with (first
  | (go_at_call 127; refine (FCheck_any _ _ _ _ _ _ _ _ _ _ _ _ _ _ _ _ _ _ _ hml (hA.below (by (with_reducible repeat first | apply Qa | assumption | apply Qb | apply Qc | apply Qd | apply Qe | refine Qf ?_ (by assumption) ?_); all_goals (try simp only [Sz]); first | done | omega | (try simp only [Sz] at *); omega))).mono ?_; rw [Hq.out]; rintro e w1 ⟨rfl, hb1⟩; have hz1 := hb1.size; simp only [World.size_alloc] at hz1; have hP1 : Blk w1 w.heap.size 24 #[.int .i64 regs, .slice A l.length cap] := Blk.below (Blk.alloc (Blk.new' rfl) _) hb1 (by (try simp only [Sz]); first | done | omega | (try simp only [Sz] at *); omega); have hF1 : Blk w1 (w.heap.size + 1) 136 _ := Blk.below (Blk.new' (by simp)) hb1 (by simp); have p0 := hP1.cell 0; have p1 := hP1.cell 1; have f0 := hF1.cell 0; simp only [Yl] at p0 p1 f0; have hB1 : Below w.heap.size w w1 := (by (with_reducible repeat first | apply Qa | assumption | apply Qb | apply Qc | apply Qd | apply Qe | refine Qf ?_ (by assumption) ?_); all_goals (try simp only [Sz]); first | done | omega | (try simp only [Sz] at *); omega); clear hb1)
  | (go_at_call 128; refine (Hof.out _ hB1).mono ?_; rintro e w2 ⟨GA, GB, vs, xs, rfl, hgr, hb2⟩; have hz2 := hb2.size; have hP2 := hP1.below hb2 hP1.lt; have hF2 := hF1.below hb2 hF1.lt; have hB2 : Below w.heap.size w w2 := hB1.trans (hb2.mono (by omega)); have q1 := hP2.cell 1; simp only [Yl] at q1; have lq := hP2.lt; clear hP1 hF1 p0 p1 f0))
 clear q1 lq hP2
 go_loopg [9, 28] (l.length) (fun gk wk i wr => ∃ k : Nat, k ≤ l.length ∧ i = .int .i64 k ∧ gk = l.length - k ∧ ∃ x : List Bool, x.length = l.length ∧ (∀ j, j < k → yn x j = true) ∧
  Row wr w2.heap.size 4 (.slice (some ⟨w2.heap.size + 1, 0, none⟩) l.length l.length) (bools x) ∧ Row wr w2.heap.size 3 wk (ints ((List.range k).map Int.ofNat)) ∧
  Blk wr w2.heap.size 178 #[.slice (some ⟨GA, 0, none⟩) l.length l.length, .slice (some ⟨GB, 0, none⟩) l.length l.length] ∧ Blk wr (w.heap.size + 1) 136 #[.bool bk, .bool em, .slice G g gc, .slice P p pc, .slice Q q qc, .slice T t tc] ∧ Below w2.heap.size w2 wr)
 case atStart => exact ⟨0, Nat.zero_le _, rfl, by omega, List.replicate l.length false, by simp, fun j hj => by omega, by rw [bools, List.map_replicate]; exact (by repeat (first | ((with_reducible refine Row.made1' ?_ ?_ ?_); exact (by (try simp only [Sz]); first | done | omega | (try simp only [Sz] at *); omega); exact (by (try simp only [Sz]); first | done | omega | (try simp only [Sz] at *); omega); exact (by (try simp only [Sz]); first | done | omega | (try simp only [Sz] at *); omega)) | (with_reducible refine Row.drew ?_) | (with_reducible refine Row.drewN ?_ _) | (with_reducible refine Row.alloc ?_ _) | with_reducible assumption)), Row.nil_ _ _ _, (by repeat (first | ((with_reducible refine Blk.new' ?_); exact (by (try simp only [Sz]); first | done | omega | (try simp only [Sz] at *); omega)) | (with_reducible refine Blk.drew ?_) | (with_reducible refine Blk.drewN ?_ _) | (with_reducible refine Blk.alloc ?_ _) | with_reducible assumption)), (hF2.alloc _).alloc _, (by (with_reducible repeat first | apply Qa | assumption | apply Qb | apply Qc | apply Qd | apply Qe | refine Qf ?_ (by assumption) ?_); all_goals (try simp only [Sz]); first | done | omega | (try simp only [Sz] at *); omega)⟩
 case round => (
 clear hF2
 obtain ⟨k, hk, rfl, hgk, x, hxl, hxt, hR, hW, hGb, hFb, hB⟩ := hrel
 have Hgk := hide hgk
 have Hxt := hide hxt
 have Hxl := hide hxl
 clear hgk hxt hxl
 have hz := hB.size
 have hxlt := (hR.lt _ rfl).2
 by_cases hlt : k < l.length
 · (
 obtain ⟨g0, o0, cp0, e0, _, _, cx, fx⟩ := hR.bool (k := k) (by rw [Hxl.out]; exact hlt)
 injection e0 with e0 e1 e2
 injection e0 with e0
 injection e0 with e0 e3
 subst e0 e3
 simp only [Nat.zero_add] at cx fx
 clear e1 e2
 have hWl : (ints ((List.range k).map Int.ofNat)).length = k := by simp [ints]
 have HWl := hide hWl
 have hxw := hR.ne_row hW (by decide)
 obtain ⟨A9, c9, rfl, _, _⟩ := hW.shape
 have hW2 := (hW.far (p := ⟨w2.heap.size + 1, k, none⟩) (by intro e; rcases hxw with h | h; (simp [Value.ownBlock] at h); exact h e.symm) (.bool true))
 have HR := hide hR
 have HW := hide hW
 have HW2 := hide hW2
 have HG := hide hGb
 have HF := hide hFb
 have hwl2 : (ints ((List.range k).map Int.ofNat)).length ≤ 256 := by omega
 have Hxw := hide hxw
 clear hR hW hGb hFb hWl hW2 hxw
 generalize hwk : ints ((List.range k).map Int.ofNat) = wks at *
 have Hwk := hide hwk
 clear hwk
 go_wp2_with (at_builtin; refine wpList_append_row (v := .slice A9 wks.length c9) rfl (.tmp 34) (.tmp 36) _ rfl i3 _ 8 Tryz.underlying25 h3i h3z h3s h3b rfl rfl (HW2.out.alloc _) (some ⟨wr.heap.size, 0, none⟩) 1 1 [.int .i64 (k : Int)] rfl rfl (vals_one' (by simp)) (by simp [Value.oneCell']) (by simp [maxLen] <;> omega) (by simp <;> omega) (by simp <;> omega) ?_; intro v3 w3 hr3 hg3 hat3)
 go_roundg (l.length - (k + 1))
 case measure => have := Hgk.out; omega
 case rel => (
 have hG1 : Blk (wr.setCell ⟨w2.heap.size + 1, k, none⟩ (.bool true)) w2.heap.size _ _ := HG.out.far (by simp) _
 have hF1 : Blk (wr.setCell ⟨w2.heap.size + 1, k, none⟩ (.bool true)) (w.heap.size + 1) _ _ := HF.out.far (by simp <;> omega) _
 have hx1 := HR.out.setb k true
 rw [Nat.zero_add] at hx1
 refine ⟨k + 1, by omega, by go_num, rfl, x.set k true, by simpa using Hxl.out, fun j hj => ?_, (hx1.alloc _).kept hg3 Hxw.out, ?_, (hG1.alloc _).grown hg3 (HW2.out.ne_blk hG1 (by decide)), (hF1.alloc _).grown hg3 (HW2.out.ne_blk hF1 (by decide)), ?_⟩
 · (
 rw [yn_set _ _ _ _ (by rw [Hxl.out]; exact hlt)]
 split
 · rfl
 · exact Hxt.out j (by omega))
 · (
 rw [List.range_succ, List.map_append, ints_append, Hwk.out]
 exact hr3)
 · exact ((hB.setCell (by simp) _).alloc (by simp; omega) _).grown hg3 (by simp; omega) fun q hq => (HW.out.lt q hq).1))
 · (
 have hkk : k = l.length := by omega
 have hAb : Above (flowS bk em gen pass plus lt l) l.length x := Above.start Hxl.out fun i hi => Hxt.out i (by omega)
 have hTd : Todo (flowS bk em gen pass plus lt l) l.length x ((List.range k).map Int.ofNat) := fun j hj _ _ => List.mem_map.2 ⟨j, List.mem_range.2 (by omega), rfl⟩
 have hws : wsum (fun i => (xs (l.length + i)).length) x l.length ≤ l.length * (2 * l.length) := wsum_le x _ fun i hi => hgr.len _ (by omega)
 have hmul : l.length * (2 * l.length) ≤ 256 * 512 := Nat.mul_le_mul (by omega) (by omega)
 have HAb := hide hAb
 have HTd := hide hTd
 have Hws := hide hws
 have HR := hide hR
 have HW := hide hW
 have HG := hide hGb
 have HF := hide hFb
 clear hR hW hGb hFb hAb hTd hws
 obtain ⟨w4, rfl⟩ : ∃ w4 : World, w4 = wr := ⟨_, rfl⟩
 go_wp2_with fail
 go_loopg [9] (l.length * (2 * l.length) + 256) (fun gk wk wr => ∃ (x : List Bool) (work : List Int), work.length + wsum (fun i => (xs (l.length + i)).length) x l.length ≤ gk ∧ gk ≤ 200000 ∧ Above (flowS bk em gen pass plus lt l) l.length x ∧ Todo (flowS bk em gen pass plus lt l) l.length x work ∧ (∀ r ∈ work, 0 ≤ r ∧ r < l.length) ∧
  Row wr w2.heap.size 4 (.slice (some ⟨w2.heap.size + 1, 0, none⟩) l.length l.length) (bools x) ∧ Row wr w2.heap.size 3 wk (ints work) ∧
  Blk wr w2.heap.size 178 #[.slice (some ⟨GA, 0, none⟩) l.length l.length, .slice (some ⟨GB, 0, none⟩) l.length l.length] ∧ Blk wr (w.heap.size + 1) 136 #[.bool bk, .bool em, .slice G g gc, .slice P p pc, .slice Q q qc, .slice T t tc] ∧ Below w2.heap.size w2 wr)
 case atStart => (
 refine ⟨x, (List.range k).map Int.ofNat, by have := Hws.out; simp; omega, by omega, HAb.out, HTd.out, fun r hr => ?_, HR.out, HW.out, HG.out, HF.out, hB⟩
 obtain ⟨j, hj, rfl⟩ := List.mem_map.1 hr
 have := List.mem_range.1 hj
 simp
 omega)
 case round => (
 clear HAb HTd Hws HR HW HG HF hB hz hxlt Hgk Hxt Hxl hk hlt hkk
 obtain ⟨x, work, hgk, hg2, hAb, hTd, hrg, hR, hW, hGb, hFb, hB⟩ := hrel
 have Hgk := hide hgk
 have HAb := hide hAb
 have HTd := hide hTd
 have Hrg := hide hrg
 have hxl := hAb.1
 have Hxl := hide hxl
 clear hgk hAb hTd hrg hxl
 have hz := hB.size
 rcases work with _ | ⟨r, rest⟩
 · (
 obtain ⟨A9, c9, rfl, _, _⟩ := hW.shape
 simp only [ints, List.map_nil, List.length_nil]
 go_wp2_with fail
 go_ret2
 have hBW : Below w.heap.size w wr := hB2.trans (hB.mono (by omega))
 exact ⟨x, _, Above.great (flowS_mono _ _ _ _ _ _ _) HAb.out (fun i hi hy => by
  cases hs : flowS bk em gen pass plus lt l x i
  · (
 have := HTd.out i hi hy hs
 cases this)
  · rfl), rfl, hR.mono (by omega), hBW⟩)
 · (
 have hrr := Hrg.out r (List.mem_cons_self ..)
 obtain ⟨i, rfl⟩ := Int.eq_ofNat_of_zero_le hrr.1
 have hil : i < l.length := by omega
 obtain ⟨g9, o9, cap9, u9, rfl, hg9, hg9l, hu9, cw, _⟩ := hW.get (k := 0) (by simp [ints])
 have hu : u9 = .int .i64 (i : Int) := by simpa [ints] using hu9.symm
 subst hu
 have htail := hW.tail (x := .int .i64 (i : Int)) (xs := ints rest)
 have hshape := hW.shape
 obtain ⟨_, _, es, hcap, hcm⟩ := hshape
 injection es with es1 _ es3
 subst es1 es3
 simp only [ints, List.map_cons, List.length_cons, List.length_map, Nat.add_sub_cancel, Nat.add_zero] at cw htail hcap hcm
 unfold maxLen at hcm
 have hlenw : (ints ((i : Int) :: rest)).length = rest.length + 1 := by simp [ints]
 rw [hlenw]
 clear hlenw
 obtain ⟨g0, o0, cp0, e0, _, hxlt, cx, fx⟩ := hR.bool (k := i) (by rw [Hxl.out]; exact hil)
 injection e0 with e0 e1 e2
 injection e0 with e0
 injection e0 with e0 e3
 subst e0 e3
 simp only [Nat.zero_add] at cx fx
 have hBW : Below w.heap.size w wr := hB2.trans (hB.mono (by omega))
 have p0 := hGb.cell 0
 have p1 := hGb.cell 1
 have f0 := hFb.cell 0
 have f1 := hFb.cell 1
 have f2 := hFb.cell 2
 have f3 := hFb.cell 3
 have f4 := hFb.cell 4
 have f5 := hFb.cell 5
 simp only [Yl] at p0 p1 f0 f1 f2 f3 f4 f5
 have lp := hGb.lt
 have lf := hFb.lt
 have hcall := Hsays.out x (some ⟨w2.heap.size + 1, 0, none⟩) l.length i w1.heap.size GA GB vs xs w2 wr Hxl.out hR.vals hgr hB hBW hil
 have hrl : rest.length ≤ 200000 := by have := Hgk.out; simp at this; omega
 have HR := hide hR
 have HG := hide hGb
 have HF := hide hFb
 clear e1 e2 hR hW hGb hFb hu9 hrr
 by_cases hc1 : cap9 = 1
 · (
 subst hc1
 have hr0 : rest = [] := List.eq_nil_of_length_eq_zero (by omega)
 subst hr0
 simp only [↓reduceIte, Nat.sub_self, List.length_nil, List.map_nil, Nat.zero_add] at htail hrl ⊢
 have HT := hide htail
 clear htail
 cases hyi : yn x i
 case false => (
 rw [hyi] at cx
 clear hcall
 have Hyi := hide hyi
 clear hyi
 go_wp2_with fail
 go_roundg (gk - 1)
 case measure => have := Hgk.out; simp at this; omega
 case rel => (
 exact ⟨x, [], by have := Hgk.out; simp at this; omega, by omega, HAb.out, HTd.out.pop (fun h => by rw [Hyi.out] at h; cases h), fun q hq => Hrg.out q (List.mem_cons_of_mem _ hq), HR.out, HT.out, HG.out, HF.out, hB⟩))
 case true => (
 rw [hyi] at cx
 have Hyi := hide hyi
 clear hyi
 cases hs : flowS bk em gen pass plus lt l x i
 case true => (
 rw [hs] at hcall
 have Hcall := hide hcall
 have Hs := hide hs
 clear hcall hs
 go_wp2_with (go_at_call 129; refine (Hcall.out).mono ?_; rintro e w3 ⟨rfl, hb3⟩)
 go_roundg (gk - 1)
 case measure => have := Hgk.out; simp at this; omega
 case rel => (
 exact ⟨x, [], by have := Hgk.out; simp at this; omega, by omega, HAb.out, HTd.out.pop (fun _ => Hs.out), fun q hq => Hrg.out q (List.mem_cons_of_mem _ hq), HR.out.below' hb3, HT.out.below' hb3, HG.out.below hb3 HG.out.lt, HF.out.below hb3 HF.out.lt, hB.trans (hb3.mono hz)⟩))
 case false => (
 rw [hs] at hcall
 have Hcall := hide hcall
 have Hs := hide hs
 clear hcall hs
 have hrowA := (hgr.tab.row (i := l.length + i) (by omega)).below' hB
 obtain ⟨RA, rca, hva, _, _⟩ := hrowA.shape
 rw [hva] at hrowA
 have hcellB : wr.cell? ⟨GB, i, none⟩ = some (vs (l.length + i)) := ((bcell hB).1 _ _ (rowlt hgr.rb)).trans (tabcell (vs := fun j => vs (l.length + j)) hgr.rb hil)
 rw [hva] at hcellB
 have hlB : GB < wr.heap.size := Nat.lt_of_lt_of_le (rowlt hgr.rb) hz
 have hlen2 := hgr.len (l.length + i) (by omega)
 have hal : (ints (xs (l.length + i))).length ≤ 512 := by rw [ints_length]; omega
 rw [ints_length] at hcellB
 have hlA : ∀ q, (Value.slice RA (ints (xs (l.length + i))).length rca).ownBlock = some q → q < w2.heap.size := fun q hq => (hgr.tab.row (i := l.length + i) (by omega)).lt q (by rw [hva]; exact hq) |>.2
 have HlA := hide hlA
 clear hlA
 have HA2 := hide hrowA
 have Hva := hide hva
 clear hrowA hva
 go_wp2_with (first
  | (go_at_call 129; refine (Hcall.out).mono ?_; rintro e w3 ⟨rfl, hb3⟩; have hz3 := hb3.size; have c3 := ((bcell hb3).1 _ _ hxlt).trans cx; have fr3 := ((bcell hb3).2 _ _ hxlt).trans fx; have q3 := ((bcell hb3).1 _ 1 lp).trans p1; have b3 := ((bcell hb3).1 _ i hlB).trans hcellB; have hT3 := HT.out.below' hb3; have hR3 := HR.out.below' hb3; have hxw := hR3.ne_row hT3 (by decide); have n1 : w2.heap.size ≠ w2.heap.size + 1 := (by omega); have n2 : GB ≠ w2.heap.size + 1 := (by have := rowlt hgr.rb; omega); have hT4 := hT3.far (p := ⟨w2.heap.size + 1, i, none⟩) (by intro e; rcases hxw with h | h; (simp [Value.ownBlock] at h); exact h e.symm) (.bool false); have HT4 := hide hT4; have hA4 := (HA2.out.below' hb3).far (p := ⟨w2.heap.size + 1, i, none⟩) (fun e => by have := HlA.out _ e; simp at this; omega) (.bool false); have HA4 := hide hA4; clear hA4; have Hxw := hide hxw; have HR3 := hide hR3; clear hT3 hT4 hxw hR3)
  | (at_builtin; (refine wpList_append_row (v := .slice (some ⟨g9, o9, none⟩) 0 0) rfl (.tmp 62) (.tmp 67) _ rfl i3 _ 8 Tryz.underlying25 h3i h3z h3s h3b rfl rfl HT4.out RA (xs (l.length + i)).length rca (ints (xs (l.length + i))) rfl (ints_length _).symm HA4.out.vals (by simp [ints, Value.oneCell']) (by simp only [List.length_map, ints_length]; unfold maxLen; omega) (by simp only [List.length_map, ints_length]; omega) (by simp <;> omega) ?_); intro v5 w5 hr5 hg5 hat5))
 go_roundg (gk - 1)
 case measure => have := Hgk.out; simp at this; omega
 case rel => (
 have hwset := wsum_set (len := fun i => (xs (l.length + i)).length) (x := x) (i := i) (by rw [Hxl.out]; exact hil) Hyi.out l.length hil
 have hgk' := Hgk.out
 have hG3 := (HG.out.below hb3 HG.out.lt).far (p := ⟨w2.heap.size + 1, i, none⟩) n1 (.bool false)
 have hF3 := (HF.out.below hb3 HF.out.lt).far (p := ⟨w2.heap.size + 1, i, none⟩) (show w.heap.size + 1 ≠ w2.heap.size + 1 by omega) (.bool false)
 have hx3 := HR3.out.setb i false
 rw [Nat.zero_add] at hx3
 have hB3 : Below w2.heap.size w2 (w3.setCell ⟨w2.heap.size + 1, i, none⟩ (.bool false)) := (hB.trans (hb3.mono hz)).setCell (show w2.heap.size ≤ w2.heap.size + 1 by omega) _
 refine ⟨x.set i false, [] ++ xs (l.length + i), ?_, by omega, HAb.out.drop (flowS_mono _ _ _ _ _ _ _) hil Hs.out, HTd.out.drop Hxl.out hil (fun j hj hm => asked_of hgr Hex.out hil hj hm), fun q hq => ?_, hx3.kept hg5 Hxw.out, ?_, hG3.grown hg5 (HT4.out.ne_blk hG3 (by decide)), hF3.grown hg5 (HT4.out.ne_blk hF3 (by decide)), hB3.grown hg5 (by simp <;> omega) (fun q hq => (HT4.out.lt q hq).1)⟩
 · (
 rw [List.length_append]
 simp only [List.length_cons] at hgk'
 have hl0 : ([] : List Int).length = 0 := by simp
 omega)
 · (
 rcases List.mem_append.1 hq with h | h
 · exact Hrg.out q (List.mem_cons_of_mem _ h)
 · exact asked_rng hgr Hex.out hil h)
 · (
 rw [ints_append]
 exact hr5)))))
 · (
 simp only [if_neg hc1] at htail
 have HT := hide htail
 clear htail
 cases hyi : yn x i
 case false => (
 rw [hyi] at cx
 clear hcall
 have Hyi := hide hyi
 clear hyi
 go_wp2_with fail
 go_roundg (gk - 1)
 case measure => have := Hgk.out; simp at this; omega
 case rel => (
 exact ⟨x, rest, by have := Hgk.out; simp at this; omega, by omega, HAb.out, HTd.out.pop (fun h => by rw [Hyi.out] at h; cases h), fun q hq => Hrg.out q (List.mem_cons_of_mem _ hq), HR.out, HT.out, HG.out, HF.out, hB⟩))
 case true => (
 rw [hyi] at cx
 have Hyi := hide hyi
 clear hyi
 cases hs : flowS bk em gen pass plus lt l x i
 case true => (
 rw [hs] at hcall
 have Hcall := hide hcall
 have Hs := hide hs
 clear hcall hs
 go_wp2_with (go_at_call 129; refine (Hcall.out).mono ?_; rintro e w3 ⟨rfl, hb3⟩)
 go_roundg (gk - 1)
 case measure => have := Hgk.out; simp at this; omega
 case rel => (
 exact ⟨x, rest, by have := Hgk.out; simp at this; omega, by omega, HAb.out, HTd.out.pop (fun _ => Hs.out), fun q hq => Hrg.out q (List.mem_cons_of_mem _ hq), HR.out.below' hb3, HT.out.below' hb3, HG.out.below hb3 HG.out.lt, HF.out.below hb3 HF.out.lt, hB.trans (hb3.mono hz)⟩))
 case false => (
 rw [hs] at hcall
 have Hcall := hide hcall
 have Hs := hide hs
 clear hcall hs
 have hrowA := (hgr.tab.row (i := l.length + i) (by omega)).below' hB
 obtain ⟨RA, rca, hva, _, _⟩ := hrowA.shape
 rw [hva] at hrowA
 have hcellB : wr.cell? ⟨GB, i, none⟩ = some (vs (l.length + i)) := ((bcell hB).1 _ _ (rowlt hgr.rb)).trans (tabcell (vs := fun j => vs (l.length + j)) hgr.rb hil)
 rw [hva] at hcellB
 have hlB : GB < wr.heap.size := Nat.lt_of_lt_of_le (rowlt hgr.rb) hz
 have hlen2 := hgr.len (l.length + i) (by omega)
 have hal : (ints (xs (l.length + i))).length ≤ 512 := by rw [ints_length]; omega
 rw [ints_length] at hcellB
 have hlA : ∀ q, (Value.slice RA (ints (xs (l.length + i))).length rca).ownBlock = some q → q < w2.heap.size := fun q hq => (hgr.tab.row (i := l.length + i) (by omega)).lt q (by rw [hva]; exact hq) |>.2
 have HlA := hide hlA
 clear hlA
 have HA2 := hide hrowA
 have Hva := hide hva
 clear hrowA hva
 go_wp2_with (first
  | (go_at_call 129; refine (Hcall.out).mono ?_; rintro e w3 ⟨rfl, hb3⟩; have hz3 := hb3.size; have c3 := ((bcell hb3).1 _ _ hxlt).trans cx; have fr3 := ((bcell hb3).2 _ _ hxlt).trans fx; have q3 := ((bcell hb3).1 _ 1 lp).trans p1; have b3 := ((bcell hb3).1 _ i hlB).trans hcellB; have hT3 := HT.out.below' hb3; have hR3 := HR.out.below' hb3; have hxw := hR3.ne_row hT3 (by decide); have n1 : w2.heap.size ≠ w2.heap.size + 1 := (by omega); have n2 : GB ≠ w2.heap.size + 1 := (by have := rowlt hgr.rb; omega); have hT4 := hT3.far (p := ⟨w2.heap.size + 1, i, none⟩) (by intro e; rcases hxw with h | h; (simp [Value.ownBlock] at h); exact h e.symm) (.bool false); have HT4 := hide hT4; have hA4 := (HA2.out.below' hb3).far (p := ⟨w2.heap.size + 1, i, none⟩) (fun e => by have := HlA.out _ e; simp at this; omega) (.bool false); have HA4 := hide hA4; clear hA4; have Hxw := hide hxw; have HR3 := hide hR3; clear hT3 hT4 hxw hR3)
  | (at_builtin; (refine wpList_append_row (v := .slice (some ⟨g9, o9 + 1, none⟩) rest.length (cap9 - 1)) rfl (.tmp 62) (.tmp 67) _ rfl i3 _ 8 Tryz.underlying25 h3i h3z h3s h3b rfl rfl HT4.out RA (xs (l.length + i)).length rca (ints (xs (l.length + i))) rfl (ints_length _).symm HA4.out.vals (by simp [ints, Value.oneCell']) (by simp only [List.length_map, ints_length]; unfold maxLen; omega) (by simp only [List.length_map, ints_length]; omega) (by simp <;> omega) ?_); intro v5 w5 hr5 hg5 hat5))
 go_roundg (gk - 1)
 case measure => have := Hgk.out; simp at this; omega
 case rel => (
 have hwset := wsum_set (len := fun i => (xs (l.length + i)).length) (x := x) (i := i) (by rw [Hxl.out]; exact hil) Hyi.out l.length hil
 have hgk' := Hgk.out
 have hG3 := (HG.out.below hb3 HG.out.lt).far (p := ⟨w2.heap.size + 1, i, none⟩) n1 (.bool false)
 have hF3 := (HF.out.below hb3 HF.out.lt).far (p := ⟨w2.heap.size + 1, i, none⟩) (show w.heap.size + 1 ≠ w2.heap.size + 1 by omega) (.bool false)
 have hx3 := HR3.out.setb i false
 rw [Nat.zero_add] at hx3
 have hB3 : Below w2.heap.size w2 (w3.setCell ⟨w2.heap.size + 1, i, none⟩ (.bool false)) := (hB.trans (hb3.mono hz)).setCell (show w2.heap.size ≤ w2.heap.size + 1 by omega) _
 refine ⟨x.set i false, rest ++ xs (l.length + i), ?_, by omega, HAb.out.drop (flowS_mono _ _ _ _ _ _ _) hil Hs.out, HTd.out.drop Hxl.out hil (fun j hj hm => asked_of hgr Hex.out hil hj hm), fun q hq => ?_, hx3.kept hg5 Hxw.out, ?_, hG3.grown hg5 (HT4.out.ne_blk hG3 (by decide)), hF3.grown hg5 (HT4.out.ne_blk hF3 (by decide)), hB3.grown hg5 (by simp <;> omega) (fun q hq => (HT4.out.lt q hq).1)⟩
 · (
 rw [List.length_append]
 simp only [List.length_cons] at hgk'
 have hl0 : (rest : List Int).length = rest.length := by simp
 omega)
 · (
 rcases List.mem_append.1 hq with h | h
 · exact Hrg.out q (List.mem_cons_of_mem _ h)
 · exact asked_rng hgr Hex.out hil h)
 · (
 rw [ints_append]
 exact hr5))))))))))
end
end Go.Proofs.YtmghkonmfbpjcaaGreatDoor
