/- Parts. -/
import Derived.Test.YtmghkonmfbpjcabGreatDoorGC
import Derived.Deep.RegionHeld3
import Derived.Deep.RegionLaw
set_option linter.unusedVariables false
set_option linter.unusedSimpArgs false
set_option maxRecDepth 100000
set_option maxHeartbeats 2000000
namespace Go.Proofs.YtmghkonmfbpjcabGreatDoor
open Go.RowKit
open Go.Proofs.Tryz
section
attribute [local irreducible] Row madeCells
theorem wK : (prog.info? 3).map (fun i => (i.zero, i.size, i.bytes)) = some (some (.int .i64 0), 1, 8) := Zc
theorem zK : (prog.info? 25).map (fun i => (i.zero, i.size, i.bytes)) = some (some (.slice none 0 0), 1, 24) := Zc
def PEk (l : List Nd) (k : Nat) (i : Nat) (m : Int) : Prop := i < k ∧ ∃ n, l[i]? = some n ∧ m ∈ bT n
def PEj (l : List Nd) (k j : Nat) (i : Nat) (m : Int) : Prop := PEk l k i m ∨ (i = k ∧ ∃ n, l[k]? = some n ∧ m ∈ (bT n).take j)
theorem bFC {l : List Nd} {k i : Nat} {m : Int} : PEj l k 0 i m ↔ PEk l k i m := by simp [PEj]
theorem bIU {l : List Nd} {k i : Nat} {m : Int} {n : Nd} {j : Nat} (hn : l[k]? = some n) (hj : (bT n).length ≤ j) : PEj l k j i m ↔ PEk l (k + 1) i m := by (
 unfold PEj PEk
 constructor
 · (
 rintro (⟨h1, h2⟩ | ⟨rfl, n', h1, h2⟩)
 · exact ⟨Zb, h2⟩
 · exact ⟨Zb, n', h1, List.mem_of_mem_take h2⟩)
 · (
 rintro ⟨h1, n', h2, h3⟩
 by_cases hik : i = k
 · (
 subst hik
 refine .inr ⟨rfl, n', h2, ?_⟩
 rw [hn] at h2
 injection h2 with h2
 subst h2
 rwa [List.take_of_length_le hj])
 · exact .inl ⟨Zb, n', h2, h3⟩))
theorem bFD {l : List Nd} {k j i : Nat} {m m0 : Int} {n : Nd} (hn : l[k]? = some n) (hj : (bT n)[j]? = some m0) : (PEj l k j i m ∨ (i = k ∧ m = m0)) ↔ PEj l k (j + 1) i m := by (
 unfold PEj
 rw [or_assoc]
 refine or_congr Iff.rfl ?_
 constructor
 · (
 rintro (⟨rfl, n', h1, h2⟩ | ⟨rfl, rfl⟩)
 · (
 refine ⟨rfl, n', h1, ?_⟩
 rw [List.take_add_one]
 exact List.mem_append_left _ h2)
 · (
 refine ⟨rfl, n, hn, ?_⟩
 rw [List.take_add_one, hj]
 simp))
 · (
 rintro ⟨rfl, n', h1, h2⟩
 rw [hn] at h1
 injection h1 with h1
 subst h1
 rw [List.take_add_one, hj] at h2
 simp at h2
 rcases h2 with h2 | h2
 · exact .inl ⟨rfl, n, hn, h2⟩
 · exact .inr ⟨rfl, h2⟩))
def bSG (bk : Bool) (l : List Nd) (w : World) (e : Ending) (w' : World) : Prop :=
 ∃ GA GB vs xs, e = .returned (.agg #[.slice (some ⟨GA, 0, none⟩) l.length l.length, .slice (some ⟨GB, 0, none⟩) l.length l.length]) ∧ xK 25 3 w.heap.size GA GB bk l.length (PEk l l.length) w' vs xs ∧ Below w.heap.size w w'
theorem iH {α : Type} (n : Nat) (x : α) : (List.range n).map (fun _ => x) = List.replicate n x := by (
 rw [List.map_const', List.length_range])
theorem bHV (regs : Int) (A : Option Addr) (l : List Nd) (cap : Nat) (bk : Bool) (w : World) (hl : 1 ≤ l.length ∧ l.length ≤ 256) (hA : bH w A l) (hT : ∀ (k : Nat) (n : Nd), l[k]? = some n → ∀ m ∈ bT n, 0 ≤ m ∧ m < l.length) :
 Calls prog 171 #[.agg #[.int .i64 regs, .slice A l.length cap], .bool bk] w (bSG bk l w) := by (
 obtain ⟨hl1, hl2⟩ := hl
 obtain ⟨ii, hii, hiz, his, hib⟩ := info_parts zK
 obtain ⟨i3, h3i, h3z, h3s, h3b⟩ := info_parts wK
 have hmk := dN (P := prog) 72 25 ii _ 24 underlying72 hii hiz his hib Zb rfl l.length Zb
 go_enter func171, ntmps171
 go_upto_region 1 with fail
 go_cut [5] (fun s5 wx => ∃ G5 GA GB : Nat, s5 = .pointer (some ⟨G5, 0, none⟩) ∧
  Blk wx G5 218 #[.slice (some ⟨GA, 0, none⟩) l.length l.length, .slice (some ⟨GB, 0, none⟩) l.length l.length] ∧
  Row wx w.heap.size 25 (.slice (some ⟨GA, 0, none⟩) l.length l.length) (List.replicate l.length (.slice none 0 0)) ∧
  Row wx w.heap.size 25 (.slice (some ⟨GB, 0, none⟩) l.length l.length) (List.replicate l.length (.slice none 0 0)) ∧
  GA ≠ GB ∧ w.heap.size + 2 ≤ G5 ∧
  Blk wx w.heap.size 24 #[.int .i64 regs, .slice A l.length cap] ∧ Blk wx (w.heap.size + 1) 218 #[.slice none 0 0, .slice none 0 0] ∧ Below w.heap.size w wx)
 case first => (
 go_region
 all_goals (go_wp2_with fail; go_meet)
 all_goals go_tidy
 all_goals (apply Exists.intro; apply Exists.intro; apply Exists.intro; refine ⟨rfl, ?_, ?_, ?_, ?_, ?_, ?_, ?_, ?_⟩)
 all_goals try first
  | ((repeat (first | ((with_reducible refine Blk.new' ?_); exact Za) | (with_reducible refine Blk.drew ?_) | (with_reducible refine Blk.drewN ?_ _) | (with_reducible refine Blk.alloc ?_ _))); done)
  | ((repeat (first | ((with_reducible refine Row.made1' ?_ ?_ ?_); exact Za; exact Za; exact Za) | (with_reducible refine Row.drew ?_) | (with_reducible refine Row.drewN ?_ _) | (with_reducible refine Row.alloc ?_ _))); done)
  | ((repeat (first | (with_reducible exact Below.refl _ _) | (with_reducible assumption) | (with_reducible refine Below.drew ?_) | (with_reducible refine bZ ?_ _) | (with_reducible refine Below.alloc ?_ Za _) | (with_reducible refine Below.setCell ?_ Za _) | (with_reducible refine Below.trans ?_ (Below.mono Zg Za)))); done)
  | omega)
 case rest => (
 obtain ⟨G5, GA, GB, rfl, hG, hRA, hRB, hne, hG5, hP, hR4, hB⟩ := hcut
 have p0 := hP.cell 0
 have p1 := hP.cell 1
 simp at p0 p1
 go_wp2_with fail
 have hstart : ∃ vs ys xs, jO 218 25 3 w.heap.size w G5 GA GB bk l.length (2 * l.length) (PEk l 0) 0 wc vs ys xs :=
  ⟨fun _ => .slice none 0 0, fun _ => [], fun _ => [], hG, by rw [iH]; exact hRA, by rw [iH]; exact hRB, Tab.nils _ _ _ _, fun _ _ => rfl,
   (oR.start bk l.length).congr fun i m => ⟨fun h => h.elim, fun h => by unfold PEk at h; omega⟩, fun _ _ => by simp, hR4, hB⟩
 clear hG hRA hRB hR4 hB hP p0 p1
 go_loopg [25] (l.length) (fun gk i wr => ∃ k : Nat, k ≤ l.length ∧ i = .int .i64 k ∧ gk = l.length - k ∧ ∃ vs ys xs, jO 218 25 3 w.heap.size w G5 GA GB bk l.length (2 * l.length) (PEk l k) (2 * k) wr vs ys xs)
 case atStart => exact ⟨0, Nat.zero_le _, rfl, Zb, hstart⟩
 case round => (
 obtain ⟨k, hk, rfl, hgk, vs, ys, xs, hI⟩ := hrel
 clear hstart
 have hz := hI.below.size
 by_cases hlt : k < l.length
 · (
 obtain ⟨b, off, n, rfl, hbl, hkn, hn⟩ := hA.get hlt
 have Hkn := bA hkn
 have Hgk := bA hgk
 clear hkn hgk
 obtain ⟨c0, c1, c2, c3, c4, c5⟩ := hn.below hI.below hbl
 have hbw : b < wr.heap.size := Zb
 cases h12 : (n.op == 12)
 case true => (
 go_wp2_with fail
 go_roundg (l.length - (k + 1))
 case measure => exact Jg
 case rel => (
 have hex : bT n = [] := by simp at h12; simp [bT, h12]
 exact ⟨k + 1, Zb, by go_num, rfl, vs, ys, xs, (hI.congr (fun i m => bFC.symm.trans (bIU Hkn.o (by rw [hex]; exact Nat.le_refl _))) Zb).alloc Zb _⟩))
 case false => (
 go_upto_region 7 with fail
 obtain ⟨wn, hwn⟩ := Exq ((((wr.alloc (.cells #[.int .i64 n.op, .int .i64 n.d, .int .i64 n.a, .int .i64 n.b, .int .i64 n.t, .int .i64 n.e] 39)).alloc (.cells #[.int .i64 n.t] 3))))
 rw [← hwn]
 have hbn : Below wr.heap.size wr wn := by rw [hwn]; exact Yc
 have hnode : Blk wn wr.heap.size 39 #[.int .i64 n.op, .int .i64 n.d, .int .i64 n.a, .int .i64 n.b, .int .i64 n.t, .int .i64 n.e] := by rw [hwn]; exact Yd
 have hrow8 : Row wn w.heap.size 3 (.slice (some ⟨wr.heap.size + 1, 0, none⟩) 1 1) [.int .i64 n.t] := by (
 rw [hwn]
 exact Row.lit1 Zf Zh)
 have hzn : wr.heap.size + 2 ≤ wn.heap.size := by rw [hwn]; simp
 have hy0 : wr.heap.size < wn.heap.size := Zb
 clear hwn c0 c1 c2 c3 c4 c5
 have c0 := hnode.cell 0
 have c4 := hnode.cell 4
 have c5 := hnode.cell 5
 simp only [Yl] at c0 c4 c5
 go_cut [45] (fun s45 wx => s45 = .bool (n.op == 11 && n.e != n.t) ∧ wx = wn)
 case first => (
 go_wp2_with fail
 all_goals go_meet
 all_goals go_tidy
 all_goals simp_all)
 case rest => (
 obtain ⟨rfl, rfl⟩ := hcut
 go_upto_if 45 with fail
 go_cut [8] (fun s8 wx => jO 218 25 3 w.heap.size w G5 GA GB bk l.length (2 * l.length + 1) (PEk l k) (2 * k) wx (upd vs (2 * l.length) s8) (upd ys (2 * l.length) (bN (bT n))) xs ∧ wr.heap.size + 2 ≤ wx.heap.size)
 case first => (
 cases hq : (n.op == 11 && n.e != n.t)
 case true => (
 have hex : bT n = [n.t, n.e] := by (
 simp at hq h12
 simp [bT, h12, hq])
 have Hex := bA hex
 have Hq := bA hq
 clear hex hq h12
 go_wp2_with ((at_builtin; refine bV (v := .slice (some ⟨wr.heap.size + 1, 0, none⟩) 1 1) rfl (.tmp 46) (.tmp 49) _ rfl i3 _ 8 underlying25 h3i h3z h3s h3b rfl rfl (hrow8.alloc _) (some ⟨wc.heap.size, 0, none⟩) 1 1 [.int .i64 n.e] rfl rfl (dK _ _ _) Zk Xu Zf Zh ?_; intro v8 w8 hr8 hg8 hat8))
 go_meet
 go_tidy
 have hb8 : Below wr.heap.size wr w8 := ((hbn.alloc Zb _).grown hg8 Zh X5)
 have hz8 := hg8.size
 simp only [World.size_alloc] at hz8
 refine ⟨jO.add hI hz hb8 (by rw [Hex.o]; exact hr8) (fun q hq => ?_), Zb⟩
 rcases hat8 with e | e
 · (
 rw [e] at hq
 simp [Value.ownBlock] at hq
 omega)
 · (
 have := e q hq
 simp at this
 omega))
 case false => (
 have hex : bT n = [n.t] := by (
 have h12' : ¬ n.op = 12 := by simpa using h12
 have hq' : ¬ (n.op = 11 ∧ n.e ≠ n.t) := by (
 intro h
 simp [h.1, h.2] at hq)
 unfold bT
 rw [if_neg h12', if_neg hq'])
 go_wp2_with fail
 go_meet
 go_tidy
 exact ⟨jO.add hI hz hbn (by rw [hex]; exact hrow8) (fun q hq => by simp [Value.ownBlock] at hq; omega), Zb⟩))
 case rest => (
 obtain ⟨hI8, hz8⟩ := hcut
 obtain ⟨wk, rfl⟩ := Exq wc
 have hr8 := hI8.tab.row (i := 2 * l.length) Zb
 rw [bI, bI] at hr8
 have hsh := hr8.shape
 rw [bJ] at hsh
 obtain ⟨A8, cap8, rfl, hc8, hm8⟩ := hsh
 have hes := hT _ _ Hkn.o
 have hes2 := rL n
 generalize hexe : bT n = es at *
 have Hexe := bA hexe
 clear hexe hnode hrow8 hr8 c0 c4 c5 hbn hI h12
 have hstart : ∃ vs' ys' xs', jO 218 25 3 w.heap.size w G5 GA GB bk l.length (2 * l.length + 1) (PEj l k 0) (2 * k + 0) wk vs' ys' xs' ∧ vs' (2 * l.length) = .slice A8 es.length cap8 ∧ ys' (2 * l.length) = bN es :=
  ⟨_, _, _, hI8.congr (fun i m => bFC.symm) Zb, by rw [bI], by rw [bI]⟩
 clear hI8
 go_wp2_with fail
 obtain ⟨wr0, rfl⟩ := Exq wr
 go_loopg [53] (es.length) (fun gk i w2 => ∃ j : Nat, j ≤ es.length ∧ i = .int .i64 j ∧ gk = es.length - j ∧ (∃ vs' ys' xs', jO 218 25 3 w.heap.size w G5 GA GB bk l.length (2 * l.length + 1) (PEj l k j) (2 * k + j) w2 vs' ys' xs' ∧ vs' (2 * l.length) = .slice A8 es.length cap8 ∧ ys' (2 * l.length) = bN es) ∧ wr0.heap.size ≤ w2.heap.size)
 case atStart => exact ⟨0, Nat.zero_le _, rfl, Zb, hstart, Zb⟩
 case round => (
 obtain ⟨j, hj, rfl, hgk2, ⟨vs1, ys1, xs1, hJ, hv8, hy8⟩, hzr⟩ := hrel
 have Hgk2 := bA hgk2
 clear hgk2 hstart
 by_cases hjl : j < es.length
 · (
 have hrow := hJ.tab.row (i := 2 * l.length) Zb
 rw [hv8, hy8] at hrow
 obtain ⟨g8, o8, cp8, x8, hA8, hg8B, hg8l, hx8, hcell8, _⟩ := hrow.get (k := j) (by rw [bJ]; exact hjl)
 injection hA8 with e1 e2 e3
 subst e1 e3
 rw [kC] at hx8
 obtain ⟨m, hm, rfl⟩ : ∃ m, es[j]? = some m ∧ .int .i64 m = x8 := by simpa using hx8
 have hmr := hes m (V4 hm)
 obtain ⟨mm, rfl⟩ := V7 hmr.1
 have hml : mm < l.length := Zb
 have Hm := bA hm
 have Hv8 := bA hv8
 have Hy8 := bA hy8
 have Hrow := bA hrow
 clear hm hx8 hmr e2 hv8 hy8 hrow
 cases bk
 · (go_upto_region 15 with fail; have r0 := hJ.g5.cell 0; have q0 := fB hJ.ra (i := mm) Zb; have f0 := jQ hJ.ra (i := mm) Zb; simp only [List.getElem?_toArray, List.getElem?_cons_zero] at r0; have lG := hJ.g5.lt; have lA := cZ hJ.ra; have rA := hJ.tab.row (i := mm) Zb; have dG := rA.ne_blk hJ.g5 Ze; have dA := rA.ne_blk hJ.ra.blk.choose_spec Ze; have hza := hJ.below.size; have hlen := hJ.len mm Zb; rw [← bJ, ← hJ.ysx mm Zb] at hlen; have hlen2 := hJ.len (l.length + k) Zb; rw [← bJ, ← hJ.ysx (l.length + k) Zb] at hlen2; have lb := bJ es; go_cut [] (fun wx => ∃ v1, rN 218 25 3 w.heap.size w G5 GA GB l.length (2 * l.length + 1) wx (upd vs1 mm v1) (upd ys1 mm (ys1 mm ++ [.int .i64 (k : Int)])) ∧ wr.heap.size ≤ wx.heap.size); (case first => (clear Hkn Hgk Hgk2 Hm Hv8 Hy8 Hrow Hexe; go_region_law ((refine bP (v := vs1 mm) Zj _ _ _ Zj i3 _ 8 underlying25 h3i h3z h3s h3b rfl Zj ((rA.alloc _).drew) (some ⟨wr.heap.size, 0, none⟩) 1 1 [.int .i64 (k : Int)] Zj Zj (dU Zf) Zk Zr Zd Zd ?_; intro v1 w1 hr1 hg1 hat1; have r1 : w1.cell? ⟨G5, 0, none⟩ = some (.slice (some ⟨GA, 0, none⟩) l.length l.length) := Yj; have q1 : w1.cell? ⟨GA, mm, none⟩ = some (vs1 mm) := Yk; have f1 : w1.frozen? ⟨GA, mm, none⟩ = false := Yi; obtain ⟨A1, cp1, hv1, _, _⟩ := hr1.shape; subst hv1; simp only [Vz, V8] at hr1 hat1)); all_goals (go_wp2_with fail); all_goals go_meet; all_goals go_tidy; all_goals (have hzz := hg1.size; simp only [World.size_alloc, World.size_drew] at hzz; refine ⟨_, (hJ.gt.later hza (((Bnq _ _)).drew)).putA Ze Ze Ze hne Zb Zb Zd hr1 hg1 hat1, by simp <;> omega⟩))); (case rest => (clear r0 q0 f0 rA dG dA lG lA; obtain ⟨v1, hT2, hzx⟩ := hcut; (obtain ⟨wx, rfl⟩ := Exq wc; generalize hvs2 : upd vs1 mm v1 = vs2 at *; generalize hys2 : upd ys1 mm (ys1 mm ++ [.int .i64 (k : Int)]) = ys2 at *; have Hvs2 := bA hvs2; have Hys2 := bA hys2; have hy2 : (ys2 (l.length + k)).length ≤ 2 * k + j := (by rw [← hys2, bC _ _ Zb]; exact hlen2); clear hvs2 hys2 hlen2; have r0 := hT2.g5.cell 1; have q0 := fB hT2.rb (i := k) Zb; have f0 := jQ hT2.rb (i := k) Zb; simp only [Yl] at r0; have lG := hT2.g5.lt; have lA := cZ hT2.rb; have rA := hT2.tab.row (i := l.length + k) Zb; have dG := rA.ne_blk hT2.g5 Ze; have dA := rA.ne_blk hT2.rb.blk.choose_spec Ze; have hzb := hT2.below.size; go_upto_region 16 with fail; go_region_law ((refine bP (v := vs2 (l.length + k)) Zj _ _ _ Zj i3 _ 8 underlying25 h3i h3z h3s h3b rfl Zj ((rA.alloc _).drew) (some ⟨wx.heap.size, 0, none⟩) 1 1 [.int .i64 (mm : Int)] Zj Zj (dU Zf) Zk Zr Zd Zd ?_; intro v1 w1 hr1 hg1 hat1; have r1 : w1.cell? ⟨G5, 1, none⟩ = some (.slice (some ⟨GB, 0, none⟩) l.length l.length) := Yj; have q1 : w1.cell? ⟨GB, k, none⟩ = some (vs2 (l.length + k)) := Yk; have f1 : w1.frozen? ⟨GB, k, none⟩ = false := Yi; obtain ⟨A1, cp1, hv1, _, _⟩ := hr1.shape; subst hv1; simp only [Vz, V8] at hr1 hat1)); all_goals (go_wp2_with fail; go_roundg (es.length - (j + 1)); (case measure => (have := Hgk2.o; omega)); (case rel => (have hzz := hg1.size; simp only [World.size_alloc, World.size_drew] at hzz; have hT3 := (hT2.later hzb (((Bnq _ _)).drew)).putB Ze Ze Ze hne Zb Zb Zd hr1 hg1 hat1; have hfin := hJ.done (k := k) (m := (mm : Int)) (a := mm) (b := k) (by rw [Hys2.o]; exact hT3) Zb Zb rfl rfl; exact ⟨j + 1, Zb, by go_num, rfl, ⟨_, _, _, hfin.congr (fun i m => bFD Hkn.o (by rw [Hexe.o]; exact Hm.o)) Zb, by rw [bC _ _ Zb, ← Hvs2.o, bC _ _ Zb]; exact Hv8.o, by rw [Hys2.o, bC _ _ Zb, ← Hys2.o, bC _ _ Zb]; exact Hy8.o⟩, by simp <;> omega⟩)))))))
 · (go_upto_region 15 with fail; have r0 := hJ.g5.cell 0; have q0 := fB hJ.ra (i := k) Zb; have f0 := jQ hJ.ra (i := k) Zb; simp only [List.getElem?_toArray, List.getElem?_cons_zero] at r0; have lG := hJ.g5.lt; have lA := cZ hJ.ra; have rA := hJ.tab.row (i := k) Zb; have dG := rA.ne_blk hJ.g5 Ze; have dA := rA.ne_blk hJ.ra.blk.choose_spec Ze; have hza := hJ.below.size; have hlen := hJ.len k Zb; rw [← bJ, ← hJ.ysx k Zb] at hlen; have hlen2 := hJ.len (l.length + mm) Zb; rw [← bJ, ← hJ.ysx (l.length + mm) Zb] at hlen2; have lb := bJ es; go_cut [] (fun wx => ∃ v1, rN 218 25 3 w.heap.size w G5 GA GB l.length (2 * l.length + 1) wx (upd vs1 k v1) (upd ys1 k (ys1 k ++ [.int .i64 (mm : Int)])) ∧ wr.heap.size ≤ wx.heap.size); (case first => (clear Hkn Hgk Hgk2 Hm Hv8 Hy8 Hrow Hexe; go_region_law ((refine bP (v := vs1 k) Zj _ _ _ Zj i3 _ 8 underlying25 h3i h3z h3s h3b rfl Zj ((rA.alloc _).drew) (some ⟨wr.heap.size, 0, none⟩) 1 1 [.int .i64 (mm : Int)] Zj Zj (dU Zf) Zk Zr Zd Zd ?_; intro v1 w1 hr1 hg1 hat1; have r1 : w1.cell? ⟨G5, 0, none⟩ = some (.slice (some ⟨GA, 0, none⟩) l.length l.length) := Yj; have q1 : w1.cell? ⟨GA, k, none⟩ = some (vs1 k) := Yk; have f1 : w1.frozen? ⟨GA, k, none⟩ = false := Yi; obtain ⟨A1, cp1, hv1, _, _⟩ := hr1.shape; subst hv1; simp only [Vz, V8] at hr1 hat1)); all_goals (go_wp2_with fail); all_goals go_meet; all_goals go_tidy; all_goals (have hzz := hg1.size; simp only [World.size_alloc, World.size_drew] at hzz; refine ⟨_, (hJ.gt.later hza (((Bnq _ _)).drew)).putA Ze Ze Ze hne Zb Zb Zd hr1 hg1 hat1, by simp <;> omega⟩))); (case rest => (clear r0 q0 f0 rA dG dA lG lA; obtain ⟨v1, hT2, hzx⟩ := hcut; (obtain ⟨wx, rfl⟩ := Exq wc; generalize hvs2 : upd vs1 k v1 = vs2 at *; generalize hys2 : upd ys1 k (ys1 k ++ [.int .i64 (mm : Int)]) = ys2 at *; have Hvs2 := bA hvs2; have Hys2 := bA hys2; have hy2 : (ys2 (l.length + mm)).length ≤ 2 * k + j := (by rw [← hys2, bC _ _ Zb]; exact hlen2); clear hvs2 hys2 hlen2; have r0 := hT2.g5.cell 1; have q0 := fB hT2.rb (i := mm) Zb; have f0 := jQ hT2.rb (i := mm) Zb; simp only [Yl] at r0; have lG := hT2.g5.lt; have lA := cZ hT2.rb; have rA := hT2.tab.row (i := l.length + mm) Zb; have dG := rA.ne_blk hT2.g5 Ze; have dA := rA.ne_blk hT2.rb.blk.choose_spec Ze; have hzb := hT2.below.size; go_upto_region 16 with fail; go_region_law ((refine bP (v := vs2 (l.length + mm)) Zj _ _ _ Zj i3 _ 8 underlying25 h3i h3z h3s h3b rfl Zj ((rA.alloc _).drew) (some ⟨wx.heap.size, 0, none⟩) 1 1 [.int .i64 (k : Int)] Zj Zj (dU Zf) Zk Zr Zd Zd ?_; intro v1 w1 hr1 hg1 hat1; have r1 : w1.cell? ⟨G5, 1, none⟩ = some (.slice (some ⟨GB, 0, none⟩) l.length l.length) := Yj; have q1 : w1.cell? ⟨GB, mm, none⟩ = some (vs2 (l.length + mm)) := Yk; have f1 : w1.frozen? ⟨GB, mm, none⟩ = false := Yi; obtain ⟨A1, cp1, hv1, _, _⟩ := hr1.shape; subst hv1; simp only [Vz, V8] at hr1 hat1)); all_goals (go_wp2_with fail; go_roundg (es.length - (j + 1)); (case measure => (have := Hgk2.o; omega)); (case rel => (have hzz := hg1.size; simp only [World.size_alloc, World.size_drew] at hzz; have hT3 := (hT2.later hzb (((Bnq _ _)).drew)).putB Ze Ze Ze hne Zb Zb Zd hr1 hg1 hat1; have hfin := hJ.done (k := k) (m := (mm : Int)) (a := k) (b := mm) (by rw [Hys2.o]; exact hT3) Zb Zb rfl rfl; exact ⟨j + 1, Zb, by go_num, rfl, ⟨_, _, _, hfin.congr (fun i m => bFD Hkn.o (by rw [Hexe.o]; exact Hm.o)) Zb, by rw [bC _ _ Zb, ← Hvs2.o, bC _ _ Zb]; exact Hv8.o, by rw [Hys2.o, bC _ _ Zb, ← Hys2.o, bC _ _ Zb]; exact Hy8.o⟩, by simp <;> omega⟩))))))))
 · (
 have hjj : j = es.length := Zb
 have Hjj := bA hjj
 clear hjj
 go_wp2_with fail
 go_roundg (l.length - (k + 1))
 case measure => exact Jg
 case rel => (
 refine ⟨k + 1, Zb, by go_num, rfl, vs1, ys1, xs1, (hJ.sub Zb).congr (fun i m => bIU Hkn.o (by rw [Hexe.o]; exact Nat.le_of_eq Hjj.o.symm)) Zb⟩)))))))
 · (
 have r0 := hI.g5.cell 0
 have r1 := hI.g5.cell 1
 have j0 := hI.r4.cell 0
 have j1 := hI.r4.cell 1
 have jf0 := hI.r4.frozen 0
 have jf1 := hI.r4.frozen 1
 simp only [Yl] at r0 r1 j0 j1
 have hkk : k = l.length := Zb
 have Hkk := bA hkk
 clear hkk hgk
 go_wp2_with fail
 go_tidy
 rw [Hkk.o] at hI
 obtain ⟨hgr, hbl⟩ := hI.out Ze Ze (.slice (some ⟨GA, 0, none⟩) l.length l.length) (.slice (some ⟨GB, 0, none⟩) l.length l.length)
 exact bodyPost_ret (v := .agg #[.slice (some ⟨GA, 0, none⟩) l.length l.length, .slice (some ⟨GB, 0, none⟩) l.length l.length]) (by simp [results, results171, go_sem, j0, j1, Vw, Vv]) rfl ⟨GA, GB, vs, xs, rfl, hgr, hbl⟩))))
end
end Go.Proofs.YtmghkonmfbpjcabGreatDoor
