/- FlowOf. -/
import Derived.Test.YtmghkonmfbpjcaaGreatDoorGA
import Derived.Test.YtmghkonmfbpjcaaGreatDoorGB
import Derived.Deep.RegionHeld3
import Derived.Deep.RegionLaw
import Derived.Deep.CutRange
import Derived.Deep.DeepCutAuto
import Derived.RegionTactic
set_option linter.unusedVariables false
set_option linter.unusedSimpArgs false
namespace Go.Proofs.YtmghkonmfbpjcaaGreatDoor
section
open Go.RowKit
set_option maxHeartbeats 2000000
attribute [local irreducible] Row madeCells
theorem info_int : (Tryz.prog.info? 3).map (fun i => (i.zero, i.size, i.bytes)) = some (some (.int .i64 0), 1, 8) := by kernel_rfl
theorem info_ints : (Tryz.prog.info? 25).map (fun i => (i.zero, i.size, i.bytes)) = some (some (.slice none 0 0), 1, 24) := by kernel_rfl
def PEk (l : List Nd) (k : Nat) (i : Nat) (m : Int) : Prop := i < k ∧ ∃ n, l[i]? = some n ∧ m ∈ exitsL n
def PEj (l : List Nd) (k j : Nat) (i : Nat) (m : Int) : Prop := PEk l k i m ∨ (i = k ∧ ∃ n, l[k]? = some n ∧ m ∈ (exitsL n).take j)
theorem PEj_zero {l : List Nd} {k i : Nat} {m : Int} : PEj l k 0 i m ↔ PEk l k i m := by simp [PEj]
theorem PEj_all {l : List Nd} {k i : Nat} {m : Int} {n : Nd} {j : Nat} (hn : l[k]? = some n) (hj : (exitsL n).length ≤ j) : PEj l k j i m ↔ PEk l (k + 1) i m := by (
 unfold PEj PEk
 constructor
 · (
 rintro (⟨h1, h2⟩ | ⟨rfl, n', h1, h2⟩)
 · exact ⟨by omega, h2⟩
 · exact ⟨by omega, n', h1, List.mem_of_mem_take h2⟩)
 · (
 rintro ⟨h1, n', h2, h3⟩
 by_cases hik : i = k
 · (
 subst hik
 refine .inr ⟨rfl, n', h2, ?_⟩
 rw [hn] at h2
 injection h2 with h2
 subst h2
 rwa [List.take_of_length_le hj])
 · exact .inl ⟨by omega, n', h2, h3⟩))
theorem PEj_step {l : List Nd} {k j i : Nat} {m m0 : Int} {n : Nd} (hn : l[k]? = some n) (hj : (exitsL n)[j]? = some m0) : (PEj l k j i m ∨ (i = k ∧ m = m0)) ↔ PEj l k (j + 1) i m := by (
 unfold PEj
 rw [or_assoc]
 refine or_congr Iff.rfl ?_
 constructor
 · (
 rintro (⟨rfl, n', h1, h2⟩ | ⟨rfl, rfl⟩)
 · (
 refine ⟨rfl, n', h1, ?_⟩
 rw [List.take_add_one]
 exact List.mem_append_left _ h2)
 · (
 refine ⟨rfl, n, hn, ?_⟩
 rw [List.take_add_one, hj]
 simp))
 · (
 rintro ⟨rfl, n', h1, h2⟩
 rw [hn] at h1
 injection h1 with h1
 subst h1
 rw [List.take_add_one, hj] at h2
 simp at h2
 rcases h2 with h2 | h2
 · exact .inl ⟨rfl, n, hn, h2⟩
 · exact .inr ⟨rfl, h2⟩))
def OfPost (bk : Bool) (l : List Nd) (w : World) (e : Ending) (w' : World) : Prop :=
 ∃ GA GB vs xs, e = .returned (.agg #[.slice (some ⟨GA, 0, none⟩) l.length l.length, .slice (some ⟨GB, 0, none⟩) l.length l.length]) ∧ Graph 25 3 w.heap.size GA GB bk l.length (PEk l l.length) w' vs xs ∧ Below w.heap.size w w'
theorem map_range_const {α : Type} (n : Nat) (x : α) : (List.range n).map (fun _ => x) = List.replicate n x := by (
 rw [List.map_const', List.length_range])
set_option maxRecDepth 100000 in
theorem FlowOf_any (regs : Int) (A : Option Addr) (l : List Nd) (cap : Nat) (bk : Bool) (w : World) (hl : 1 ≤ l.length ∧ l.length ≤ 256) (hA : NodesAt w A l) (hT : ∀ (k : Nat) (n : Nd), l[k]? = some n → ∀ m ∈ exitsL n, 0 ≤ m ∧ m < l.length) :
 Calls Tryz.prog 128 #[.agg #[.int .i64 regs, .slice A l.length cap], .bool bk] w (OfPost bk l w) := by (
 obtain ⟨hl1, hl2⟩ := hl
 obtain ⟨ii, hii, hiz, his, hib⟩ := info_parts info_ints
 obtain ⟨i3, h3i, h3z, h3s, h3b⟩ := info_parts info_int
 have hmk := run_make1 (P := Tryz.prog) 129 25 ii _ 24 Tryz.underlying129 hii hiz his hib (by omega) rfl l.length (by omega)
 go_enter Tryz.func128, Tryz.ntmps128
 go_upto_region 1 with fail
 go_cut [5] (fun s5 wx => ∃ G5 GA GB : Nat, s5 = .pointer (some ⟨G5, 0, none⟩) ∧
  Blk wx G5 178 #[.slice (some ⟨GA, 0, none⟩) l.length l.length, .slice (some ⟨GB, 0, none⟩) l.length l.length] ∧
  Row wx w.heap.size 25 (.slice (some ⟨GA, 0, none⟩) l.length l.length) (List.replicate l.length (.slice none 0 0)) ∧
  Row wx w.heap.size 25 (.slice (some ⟨GB, 0, none⟩) l.length l.length) (List.replicate l.length (.slice none 0 0)) ∧
  GA ≠ GB ∧ w.heap.size + 2 ≤ G5 ∧
  Blk wx w.heap.size 24 #[.int .i64 regs, .slice A l.length cap] ∧ Blk wx (w.heap.size + 1) 178 #[.slice none 0 0, .slice none 0 0] ∧ Below w.heap.size w wx)
 case first => (
 go_region
 all_goals (go_wp2_with fail; go_meet)
 all_goals go_tidy
 all_goals (apply Exists.intro; apply Exists.intro; apply Exists.intro; refine ⟨rfl, ?_, ?_, ?_, ?_, ?_, ?_, ?_, ?_⟩)
 all_goals try first
  | ((repeat (first | ((with_reducible refine Blk.new' ?_); exact (by (try simp only [Sz]); first | done | omega | (try simp only [Sz] at *); omega)) | (with_reducible refine Blk.drew ?_) | (with_reducible refine Blk.drewN ?_ _) | (with_reducible refine Blk.alloc ?_ _))); done)
  | ((repeat (first | ((with_reducible refine Row.made1' ?_ ?_ ?_); exact (by (try simp only [Sz]); first | done | omega | (try simp only [Sz] at *); omega); exact (by (try simp only [Sz]); first | done | omega | (try simp only [Sz] at *); omega); exact (by (try simp only [Sz]); first | done | omega | (try simp only [Sz] at *); omega)) | (with_reducible refine Row.drew ?_) | (with_reducible refine Row.drewN ?_ _) | (with_reducible refine Row.alloc ?_ _))); done)
  | ((repeat (first | (with_reducible exact Below.refl _ _) | (with_reducible assumption) | (with_reducible refine Below.drew ?_) | (with_reducible refine below_drewN ?_ _) | (with_reducible refine Below.alloc ?_ (by (try simp only [Sz]); first | done | omega | (try simp only [Sz] at *); omega) _) | (with_reducible refine Below.setCell ?_ (by (try simp only [Sz]); first | done | omega | (try simp only [Sz] at *); omega) _) | (with_reducible refine Below.trans ?_ (Below.mono (by assumption) (by (try simp only [Sz]); first | done | omega | (try simp only [Sz] at *); omega))))); done)
  | omega)
 case rest => (
 obtain ⟨G5, GA, GB, rfl, hG, hRA, hRB, hne, hG5, hP, hR4, hB⟩ := hcut
 have p0 := hP.cell 0
 have p1 := hP.cell 1
 simp at p0 p1
 go_wp2_with fail
 have hstart : ∃ vs ys xs, GInv 178 25 3 w.heap.size w G5 GA GB bk l.length (2 * l.length) (PEk l 0) 0 wc vs ys xs :=
  ⟨fun _ => .slice none 0 0, fun _ => [], fun _ => [], hG, by rw [map_range_const]; exact hRA, by rw [map_range_const]; exact hRB, Tab.nils _ _ _ _, fun _ _ => rfl,
   (Edges.start bk l.length).congr fun i m => ⟨fun h => h.elim, fun h => by unfold PEk at h; omega⟩, fun _ _ => by simp, hR4, hB⟩
 clear hG hRA hRB hR4 hB hP p0 p1
 go_loopg [25] (l.length) (fun gk i wr => ∃ k : Nat, k ≤ l.length ∧ i = .int .i64 k ∧ gk = l.length - k ∧ ∃ vs ys xs, GInv 178 25 3 w.heap.size w G5 GA GB bk l.length (2 * l.length) (PEk l k) (2 * k) wr vs ys xs)
 case atStart => exact ⟨0, Nat.zero_le _, rfl, by omega, hstart⟩
 case round => (
 obtain ⟨k, hk, rfl, hgk, vs, ys, xs, hI⟩ := hrel
 clear hstart
 have hz := hI.below.size
 by_cases hlt : k < l.length
 · (
 obtain ⟨b, off, n, rfl, hbl, hkn, hn⟩ := hA.get hlt
 have Hkn := hide hkn
 have Hgk := hide hgk
 clear hkn hgk
 obtain ⟨c0, c1, c2, c3, c4, c5⟩ := hn.below hI.below hbl
 have hbw : b < wr.heap.size := by omega
 cases h12 : (n.op == 12)
 case true => (
 go_wp2_with fail
 go_roundg (l.length - (k + 1))
 case measure => have := Hgk.out; omega
 case rel => (
 have hex : exitsL n = [] := by simp at h12; simp [exitsL, h12]
 exact ⟨k + 1, by omega, by go_num, rfl, vs, ys, xs, (hI.congr (fun i m => PEj_zero.symm.trans (PEj_all Hkn.out (by rw [hex]; exact Nat.le_refl _))) (by omega)).alloc (by omega) _⟩))
 case false => (
 go_upto_region 7 with fail
 obtain ⟨wn, hwn⟩ : ∃ wn : World, wn = (((wr.alloc (.cells #[.int .i64 n.op, .int .i64 n.d, .int .i64 n.a, .int .i64 n.b, .int .i64 n.t, .int .i64 n.e] 44)).alloc (.cells #[.int .i64 n.t] 3))) := ⟨_, rfl⟩
 rw [← hwn]
 have hbn : Below wr.heap.size wr wn := by rw [hwn]; exact (by (with_reducible repeat first | apply Qa | assumption | apply Qb | apply Qc | apply Qd | apply Qe | refine Qf ?_ (by assumption) ?_); all_goals (try simp only [Sz]); first | done | omega | (try simp only [Sz] at *); omega)
 have hnode : Blk wn wr.heap.size 44 #[.int .i64 n.op, .int .i64 n.d, .int .i64 n.a, .int .i64 n.b, .int .i64 n.t, .int .i64 n.e] := by rw [hwn]; exact (by repeat (first | ((with_reducible refine Blk.new' ?_); exact (by (try simp only [Sz]); first | done | omega | (try simp only [Sz] at *); omega)) | (with_reducible refine Blk.drew ?_) | (with_reducible refine Blk.drewN ?_ _) | (with_reducible refine Blk.alloc ?_ _) | with_reducible assumption))
 have hrow8 : Row wn w.heap.size 3 (.slice (some ⟨wr.heap.size + 1, 0, none⟩) 1 1) [.int .i64 n.t] := by (
 rw [hwn]
 exact Row.lit1 (by simp) (by simp; omega))
 have hzn : wr.heap.size + 2 ≤ wn.heap.size := by rw [hwn]; simp
 have hy0 : wr.heap.size < wn.heap.size := by omega
 clear hwn c0 c1 c2 c3 c4 c5
 have c0 := hnode.cell 0
 have c4 := hnode.cell 4
 have c5 := hnode.cell 5
 simp only [Yl] at c0 c4 c5
 go_cut [45] (fun s45 wx => s45 = .bool (n.op == 11 && n.e != n.t) ∧ wx = wn)
 case first => (
 go_wp2_with fail
 all_goals go_meet
 all_goals go_tidy
 all_goals simp_all)
 case rest => (
 obtain ⟨rfl, rfl⟩ := hcut
 go_upto_if 45 with fail
 go_cut [8] (fun s8 wx => GInv 178 25 3 w.heap.size w G5 GA GB bk l.length (2 * l.length + 1) (PEk l k) (2 * k) wx (upd vs (2 * l.length) s8) (upd ys (2 * l.length) (ints (exitsL n))) xs ∧ wr.heap.size + 2 ≤ wx.heap.size)
 case first => (
 cases hq : (n.op == 11 && n.e != n.t)
 case true => (
 have hex : exitsL n = [n.t, n.e] := by (
 simp at hq h12
 simp [exitsL, h12, hq])
 have Hex := hide hex
 have Hq := hide hq
 clear hex hq h12
 go_wp2_with ((at_builtin; refine wpList_append_row (v := .slice (some ⟨wr.heap.size + 1, 0, none⟩) 1 1) rfl (.tmp 46) (.tmp 49) _ rfl i3 _ 8 Tryz.underlying25 h3i h3z h3s h3b rfl rfl (hrow8.alloc _) (some ⟨wc.heap.size, 0, none⟩) 1 1 [.int .i64 n.e] rfl rfl (vals_one _ _ _) (by simp [Value.oneCell']) (by simp [maxLen]) (by simp) (by simp; omega) ?_; intro v8 w8 hr8 hg8 hat8))
 go_meet
 go_tidy
 have hb8 : Below wr.heap.size wr w8 := ((hbn.alloc (by omega) _).grown hg8 (by simp; omega) (by simp [Value.ownBlock]))
 have hz8 := hg8.size
 simp only [World.size_alloc] at hz8
 refine ⟨GInv.add hI hz hb8 (by rw [Hex.out]; exact hr8) (fun q hq => ?_), by omega⟩
 rcases hat8 with e | e
 · (
 rw [e] at hq
 simp [Value.ownBlock] at hq
 omega)
 · (
 have := e q hq
 simp at this
 omega))
 case false => (
 have hex : exitsL n = [n.t] := by (
 have h12' : ¬ n.op = 12 := by simpa using h12
 have hq' : ¬ (n.op = 11 ∧ n.e ≠ n.t) := by (
 intro h
 simp [h.1, h.2] at hq)
 unfold exitsL
 rw [if_neg h12', if_neg hq'])
 go_wp2_with fail
 go_meet
 go_tidy
 exact ⟨GInv.add hI hz hbn (by rw [hex]; exact hrow8) (fun q hq => by simp [Value.ownBlock] at hq; omega), by omega⟩))
 case rest => (
 obtain ⟨hI8, hz8⟩ := hcut
 obtain ⟨wk, rfl⟩ : ∃ wk : World, wk = wc := ⟨_, rfl⟩
 have hr8 := hI8.tab.row (i := 2 * l.length) (by omega)
 rw [upd_same, upd_same] at hr8
 have hsh := hr8.shape
 rw [ints_length] at hsh
 obtain ⟨A8, cap8, rfl, hc8, hm8⟩ := hsh
 have hes := hT _ _ Hkn.out
 have hes2 := exitsL_len n
 generalize hexe : exitsL n = es at *
 have Hexe := hide hexe
 clear hexe hnode hrow8 hr8 c0 c4 c5 hbn hI h12
 have hstart : ∃ vs' ys' xs', GInv 178 25 3 w.heap.size w G5 GA GB bk l.length (2 * l.length + 1) (PEj l k 0) (2 * k + 0) wk vs' ys' xs' ∧ vs' (2 * l.length) = .slice A8 es.length cap8 ∧ ys' (2 * l.length) = ints es :=
  ⟨_, _, _, hI8.congr (fun i m => PEj_zero.symm) (by omega), by rw [upd_same], by rw [upd_same]⟩
 clear hI8
 go_wp2_with fail
 obtain ⟨wr0, rfl⟩ : ∃ wr0 : World, wr0 = wr := ⟨_, rfl⟩
 go_loopg [53] (es.length) (fun gk i w2 => ∃ j : Nat, j ≤ es.length ∧ i = .int .i64 j ∧ gk = es.length - j ∧ (∃ vs' ys' xs', GInv 178 25 3 w.heap.size w G5 GA GB bk l.length (2 * l.length + 1) (PEj l k j) (2 * k + j) w2 vs' ys' xs' ∧ vs' (2 * l.length) = .slice A8 es.length cap8 ∧ ys' (2 * l.length) = ints es) ∧ wr0.heap.size ≤ w2.heap.size)
 case atStart => exact ⟨0, Nat.zero_le _, rfl, by omega, hstart, by omega⟩
 case round => (
 obtain ⟨j, hj, rfl, hgk2, ⟨vs1, ys1, xs1, hJ, hv8, hy8⟩, hzr⟩ := hrel
 have Hgk2 := hide hgk2
 clear hgk2 hstart
 by_cases hjl : j < es.length
 · (
 have hrow := hJ.tab.row (i := 2 * l.length) (by omega)
 rw [hv8, hy8] at hrow
 obtain ⟨g8, o8, cp8, x8, hA8, hg8B, hg8l, hx8, hcell8, _⟩ := hrow.get (k := j) (by rw [ints_length]; exact hjl)
 injection hA8 with e1 e2 e3
 subst e1 e3
 rw [ints_get] at hx8
 obtain ⟨m, hm, rfl⟩ : ∃ m, es[j]? = some m ∧ .int .i64 m = x8 := by simpa using hx8
 have hmr := hes m (List.mem_of_getElem? hm)
 obtain ⟨mm, rfl⟩ := Int.eq_ofNat_of_zero_le hmr.1
 have hml : mm < l.length := by omega
 have Hm := hide hm
 have Hv8 := hide hv8
 have Hy8 := hide hy8
 have Hrow := hide hrow
 clear hm hx8 hmr e2 hv8 hy8 hrow
 cases bk
 · (go_upto_region 15 with fail; have r0 := hJ.g5.cell 0; have q0 := tabcell hJ.ra (i := mm) (by omega); have f0 := tabfree hJ.ra (i := mm) (by omega); simp only [List.getElem?_toArray, List.getElem?_cons_zero] at r0; have lG := hJ.g5.lt; have lA := rowlt hJ.ra; have rA := hJ.tab.row (i := mm) (by omega); have dG := rA.ne_blk hJ.g5 (by decide); have dA := rA.ne_blk hJ.ra.blk.choose_spec (by decide); have hza := hJ.below.size; have hlen := hJ.len mm (by omega); rw [← ints_length, ← hJ.ysx mm (by omega)] at hlen; have hlen2 := hJ.len (l.length + k) (by omega); rw [← ints_length, ← hJ.ysx (l.length + k) (by omega)] at hlen2; have lb := ints_length es; go_cut [] (fun wx => ∃ v1, GTab 178 25 3 w.heap.size w G5 GA GB l.length (2 * l.length + 1) wx (upd vs1 mm v1) (upd ys1 mm (ys1 mm ++ [.int .i64 (k : Int)])) ∧ wr.heap.size ≤ wx.heap.size); (case first => (clear Hkn Hgk Hgk2 Hm Hv8 Hy8 Hrow Hexe; go_region_law ((refine step_append_row (v := vs1 mm) (by rfl) _ _ _ (by rfl) i3 _ 8 Tryz.underlying25 h3i h3z h3s h3b rfl (by rfl) ((rA.alloc _).drew) (some ⟨wr.heap.size, 0, none⟩) 1 1 [.int .i64 (k : Int)] (by rfl) (by rfl) (vals_one' (by simp)) (by simp [Value.oneCell']) (by simp [maxLen] <;> omega) (by simp <;> omega) (by simp <;> omega) ?_; intro v1 w1 hr1 hg1 hat1; have r1 : w1.cell? ⟨G5, 0, none⟩ = some (.slice (some ⟨GA, 0, none⟩) l.length l.length) := (by rw [hg1.cell_far _ (by simp <;> omega) (by simp; exact fun e => dG e.symm)]; exact (cpast lG).trans r0); have q1 : w1.cell? ⟨GA, mm, none⟩ = some (vs1 mm) := (by rw [hg1.cell_far _ (by simp <;> omega) (by simp; exact fun e => dA e.symm)]; exact (cpast lA).trans q0); have f1 : w1.frozen? ⟨GA, mm, none⟩ = false := (by rw [hg1.frozen_far _ (by simp <;> omega) (by simp; exact fun e => dA e.symm)]; exact (fpast lA).trans f0); obtain ⟨A1, cp1, hv1, _, _⟩ := hr1.shape; subst hv1; simp only [List.length_append, List.length_singleton] at hr1 hat1)); all_goals (go_wp2_with fail); all_goals go_meet; all_goals go_tidy; all_goals (have hzz := hg1.size; simp only [World.size_alloc, World.size_drew] at hzz; refine ⟨_, (hJ.gt.later hza (((Below.refl _ _).alloc (Nat.le_refl _) _).drew)).putA (by decide) (by decide) (by decide) hne (by omega) (by omega) (by simp <;> omega) hr1 hg1 hat1, by simp <;> omega⟩))); (case rest => (clear r0 q0 f0 rA dG dA lG lA; obtain ⟨v1, hT2, hzx⟩ := hcut; (obtain ⟨wx, rfl⟩ : ∃ wx : World, wx = wc := ⟨_, rfl⟩; generalize hvs2 : upd vs1 mm v1 = vs2 at *; generalize hys2 : upd ys1 mm (ys1 mm ++ [.int .i64 (k : Int)]) = ys2 at *; have Hvs2 := hide hvs2; have Hys2 := hide hys2; have hy2 : (ys2 (l.length + k)).length ≤ 2 * k + j := (by rw [← hys2, upd_other _ _ (by omega)]; exact hlen2); clear hvs2 hys2 hlen2; have r0 := hT2.g5.cell 1; have q0 := tabcell hT2.rb (i := k) (by omega); have f0 := tabfree hT2.rb (i := k) (by omega); simp only [Yl] at r0; have lG := hT2.g5.lt; have lA := rowlt hT2.rb; have rA := hT2.tab.row (i := l.length + k) (by omega); have dG := rA.ne_blk hT2.g5 (by decide); have dA := rA.ne_blk hT2.rb.blk.choose_spec (by decide); have hzb := hT2.below.size; go_upto_region 16 with fail; go_region_law ((refine step_append_row (v := vs2 (l.length + k)) (by rfl) _ _ _ (by rfl) i3 _ 8 Tryz.underlying25 h3i h3z h3s h3b rfl (by rfl) ((rA.alloc _).drew) (some ⟨wx.heap.size, 0, none⟩) 1 1 [.int .i64 (mm : Int)] (by rfl) (by rfl) (vals_one' (by simp)) (by simp [Value.oneCell']) (by simp [maxLen] <;> omega) (by simp <;> omega) (by simp <;> omega) ?_; intro v1 w1 hr1 hg1 hat1; have r1 : w1.cell? ⟨G5, 1, none⟩ = some (.slice (some ⟨GB, 0, none⟩) l.length l.length) := (by rw [hg1.cell_far _ (by simp <;> omega) (by simp; exact fun e => dG e.symm)]; exact (cpast lG).trans r0); have q1 : w1.cell? ⟨GB, k, none⟩ = some (vs2 (l.length + k)) := (by rw [hg1.cell_far _ (by simp <;> omega) (by simp; exact fun e => dA e.symm)]; exact (cpast lA).trans q0); have f1 : w1.frozen? ⟨GB, k, none⟩ = false := (by rw [hg1.frozen_far _ (by simp <;> omega) (by simp; exact fun e => dA e.symm)]; exact (fpast lA).trans f0); obtain ⟨A1, cp1, hv1, _, _⟩ := hr1.shape; subst hv1; simp only [List.length_append, List.length_singleton] at hr1 hat1)); all_goals (go_wp2_with fail; go_roundg (es.length - (j + 1)); (case measure => (have := Hgk2.out; omega)); (case rel => (have hzz := hg1.size; simp only [World.size_alloc, World.size_drew] at hzz; have hT3 := (hT2.later hzb (((Below.refl _ _).alloc (Nat.le_refl _) _).drew)).putB (by decide) (by decide) (by decide) hne (by omega) (by omega) (by simp <;> omega) hr1 hg1 hat1; have hfin := hJ.done (k := k) (m := (mm : Int)) (a := mm) (b := k) (by rw [Hys2.out]; exact hT3) (by omega) (by omega) rfl rfl; exact ⟨j + 1, by omega, by go_num, rfl, ⟨_, _, _, hfin.congr (fun i m => PEj_step Hkn.out (by rw [Hexe.out]; exact Hm.out)) (by omega), by rw [upd_other _ _ (by omega), ← Hvs2.out, upd_other _ _ (by omega)]; exact Hv8.out, by rw [Hys2.out, upd_other _ _ (by omega), ← Hys2.out, upd_other _ _ (by omega)]; exact Hy8.out⟩, by simp <;> omega⟩)))))))
 · (go_upto_region 15 with fail; have r0 := hJ.g5.cell 0; have q0 := tabcell hJ.ra (i := k) (by omega); have f0 := tabfree hJ.ra (i := k) (by omega); simp only [List.getElem?_toArray, List.getElem?_cons_zero] at r0; have lG := hJ.g5.lt; have lA := rowlt hJ.ra; have rA := hJ.tab.row (i := k) (by omega); have dG := rA.ne_blk hJ.g5 (by decide); have dA := rA.ne_blk hJ.ra.blk.choose_spec (by decide); have hza := hJ.below.size; have hlen := hJ.len k (by omega); rw [← ints_length, ← hJ.ysx k (by omega)] at hlen; have hlen2 := hJ.len (l.length + mm) (by omega); rw [← ints_length, ← hJ.ysx (l.length + mm) (by omega)] at hlen2; have lb := ints_length es; go_cut [] (fun wx => ∃ v1, GTab 178 25 3 w.heap.size w G5 GA GB l.length (2 * l.length + 1) wx (upd vs1 k v1) (upd ys1 k (ys1 k ++ [.int .i64 (mm : Int)])) ∧ wr.heap.size ≤ wx.heap.size); (case first => (clear Hkn Hgk Hgk2 Hm Hv8 Hy8 Hrow Hexe; go_region_law ((refine step_append_row (v := vs1 k) (by rfl) _ _ _ (by rfl) i3 _ 8 Tryz.underlying25 h3i h3z h3s h3b rfl (by rfl) ((rA.alloc _).drew) (some ⟨wr.heap.size, 0, none⟩) 1 1 [.int .i64 (mm : Int)] (by rfl) (by rfl) (vals_one' (by simp)) (by simp [Value.oneCell']) (by simp [maxLen] <;> omega) (by simp <;> omega) (by simp <;> omega) ?_; intro v1 w1 hr1 hg1 hat1; have r1 : w1.cell? ⟨G5, 0, none⟩ = some (.slice (some ⟨GA, 0, none⟩) l.length l.length) := (by rw [hg1.cell_far _ (by simp <;> omega) (by simp; exact fun e => dG e.symm)]; exact (cpast lG).trans r0); have q1 : w1.cell? ⟨GA, k, none⟩ = some (vs1 k) := (by rw [hg1.cell_far _ (by simp <;> omega) (by simp; exact fun e => dA e.symm)]; exact (cpast lA).trans q0); have f1 : w1.frozen? ⟨GA, k, none⟩ = false := (by rw [hg1.frozen_far _ (by simp <;> omega) (by simp; exact fun e => dA e.symm)]; exact (fpast lA).trans f0); obtain ⟨A1, cp1, hv1, _, _⟩ := hr1.shape; subst hv1; simp only [List.length_append, List.length_singleton] at hr1 hat1)); all_goals (go_wp2_with fail); all_goals go_meet; all_goals go_tidy; all_goals (have hzz := hg1.size; simp only [World.size_alloc, World.size_drew] at hzz; refine ⟨_, (hJ.gt.later hza (((Below.refl _ _).alloc (Nat.le_refl _) _).drew)).putA (by decide) (by decide) (by decide) hne (by omega) (by omega) (by simp <;> omega) hr1 hg1 hat1, by simp <;> omega⟩))); (case rest => (clear r0 q0 f0 rA dG dA lG lA; obtain ⟨v1, hT2, hzx⟩ := hcut; (obtain ⟨wx, rfl⟩ : ∃ wx : World, wx = wc := ⟨_, rfl⟩; generalize hvs2 : upd vs1 k v1 = vs2 at *; generalize hys2 : upd ys1 k (ys1 k ++ [.int .i64 (mm : Int)]) = ys2 at *; have Hvs2 := hide hvs2; have Hys2 := hide hys2; have hy2 : (ys2 (l.length + mm)).length ≤ 2 * k + j := (by rw [← hys2, upd_other _ _ (by omega)]; exact hlen2); clear hvs2 hys2 hlen2; have r0 := hT2.g5.cell 1; have q0 := tabcell hT2.rb (i := mm) (by omega); have f0 := tabfree hT2.rb (i := mm) (by omega); simp only [Yl] at r0; have lG := hT2.g5.lt; have lA := rowlt hT2.rb; have rA := hT2.tab.row (i := l.length + mm) (by omega); have dG := rA.ne_blk hT2.g5 (by decide); have dA := rA.ne_blk hT2.rb.blk.choose_spec (by decide); have hzb := hT2.below.size; go_upto_region 16 with fail; go_region_law ((refine step_append_row (v := vs2 (l.length + mm)) (by rfl) _ _ _ (by rfl) i3 _ 8 Tryz.underlying25 h3i h3z h3s h3b rfl (by rfl) ((rA.alloc _).drew) (some ⟨wx.heap.size, 0, none⟩) 1 1 [.int .i64 (k : Int)] (by rfl) (by rfl) (vals_one' (by simp)) (by simp [Value.oneCell']) (by simp [maxLen] <;> omega) (by simp <;> omega) (by simp <;> omega) ?_; intro v1 w1 hr1 hg1 hat1; have r1 : w1.cell? ⟨G5, 1, none⟩ = some (.slice (some ⟨GB, 0, none⟩) l.length l.length) := (by rw [hg1.cell_far _ (by simp <;> omega) (by simp; exact fun e => dG e.symm)]; exact (cpast lG).trans r0); have q1 : w1.cell? ⟨GB, mm, none⟩ = some (vs2 (l.length + mm)) := (by rw [hg1.cell_far _ (by simp <;> omega) (by simp; exact fun e => dA e.symm)]; exact (cpast lA).trans q0); have f1 : w1.frozen? ⟨GB, mm, none⟩ = false := (by rw [hg1.frozen_far _ (by simp <;> omega) (by simp; exact fun e => dA e.symm)]; exact (fpast lA).trans f0); obtain ⟨A1, cp1, hv1, _, _⟩ := hr1.shape; subst hv1; simp only [List.length_append, List.length_singleton] at hr1 hat1)); all_goals (go_wp2_with fail; go_roundg (es.length - (j + 1)); (case measure => (have := Hgk2.out; omega)); (case rel => (have hzz := hg1.size; simp only [World.size_alloc, World.size_drew] at hzz; have hT3 := (hT2.later hzb (((Below.refl _ _).alloc (Nat.le_refl _) _).drew)).putB (by decide) (by decide) (by decide) hne (by omega) (by omega) (by simp <;> omega) hr1 hg1 hat1; have hfin := hJ.done (k := k) (m := (mm : Int)) (a := k) (b := mm) (by rw [Hys2.out]; exact hT3) (by omega) (by omega) rfl rfl; exact ⟨j + 1, by omega, by go_num, rfl, ⟨_, _, _, hfin.congr (fun i m => PEj_step Hkn.out (by rw [Hexe.out]; exact Hm.out)) (by omega), by rw [upd_other _ _ (by omega), ← Hvs2.out, upd_other _ _ (by omega)]; exact Hv8.out, by rw [Hys2.out, upd_other _ _ (by omega), ← Hys2.out, upd_other _ _ (by omega)]; exact Hy8.out⟩, by simp <;> omega⟩))))))))
 · (
 have hjj : j = es.length := by omega
 have Hjj := hide hjj
 clear hjj
 go_wp2_with fail
 go_roundg (l.length - (k + 1))
 case measure => have := Hgk.out; omega
 case rel => (
 refine ⟨k + 1, by omega, by go_num, rfl, vs1, ys1, xs1, (hJ.sub (by omega)).congr (fun i m => PEj_all Hkn.out (by rw [Hexe.out]; exact Nat.le_of_eq Hjj.out.symm)) (by omega)⟩)))))))
 · (
 have r0 := hI.g5.cell 0
 have r1 := hI.g5.cell 1
 have j0 := hI.r4.cell 0
 have j1 := hI.r4.cell 1
 have jf0 := hI.r4.frozen 0
 have jf1 := hI.r4.frozen 1
 simp only [Yl] at r0 r1 j0 j1
 have hkk : k = l.length := by omega
 have Hkk := hide hkk
 clear hkk hgk
 go_wp2_with fail
 go_tidy
 rw [Hkk.out] at hI
 obtain ⟨hgr, hbl⟩ := hI.out (by decide) (by decide) (.slice (some ⟨GA, 0, none⟩) l.length l.length) (.slice (some ⟨GB, 0, none⟩) l.length l.length)
 exact bodyPost_ret (v := .agg #[.slice (some ⟨GA, 0, none⟩) l.length l.length, .slice (some ⟨GB, 0, none⟩) l.length l.length]) (by simp [results, Tryz.results128, go_sem, j0, j1, World.cell?_setCell_same, World.cell?_setCell_other]) rfl ⟨GA, GB, vs, xs, rfl, hgr, hbl⟩))))
end
end Go.Proofs.YtmghkonmfbpjcaaGreatDoor
