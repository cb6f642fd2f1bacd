/- Mt MvV MvJ Work MapD Marks Range Ways SplitP TrimR PgM TEq PgK. -/
import Derived.Test.YtmghkonmfbpjcabGreatMvO
import Derived.Test.YtmghkonmfbpjcabGreatGF
import Derived.Test.YtmghkonmfbpjcabGreatGA
import Derived.Test.YtmghkonmfbpjcabGreatGC
import Derived.Shelf.Spec.SlicesGrow
import Derived.Deep.LoopGhost
import Derived.Test.YtmghkonmfbpjcabGreatProg
import Derived.Test.YtmghkonmfbpjcabGreatGB
import Derived.RangeFuncOwn
import Derived.RangeFuncCalls
import Derived.RangeFuncWrites
import Derived.RangeFuncFrom
import Derived.Test.YtmghkonmfbpjcabGreatGE
import Derived.Maps.OwnSet
import Derived.RangeFuncLeaves
import Derived.RangeFuncRecord
import Derived.OwnWalkIn
import Derived.OrdersIn
import Derived.RangeFuncNested
import Derived.RangeFuncBound
import Derived.Shelf.Abstract
import Derived.Shelf.RegionOpen
import Derived.WalkKit
import Derived.TacticsInMore
import Derived.LoopNIn
import Derived.LoopIn
import Derived.Test.YtmghkonmfbpjcabGreatGD
import Derived.Maps.OwnOps
import Derived.WideKeyEntry
import Derived.DeepKeys4
import Derived.Laws.StructEq
import Derived.Deep.RegionHeld3
import Derived.Deep.DeepCutAuto
set_option linter.unusedVariables false
set_option linter.unusedSimpArgs false
set_option maxRecDepth 100000
namespace Go.Proofs.YtmghkonmfbpjcabGreat
section
open Go.RowKit
def allGo : List Tm → Int → List Nd → Int × Int × List Nd
 | [], r, l => (0, r, l)
 | t :: ts, r, l => if oneE r l t ≠ 0 then (oneE r l t, 0, []) else allGo ts (oneR r l t) (oneL r l t)
theorem allGo_drop {ts : List Tm} {k : Nat} {t : Tm} (h : ts[k]? = some t) (r : Int) (l : List Nd) :
 allGo (ts.drop k) r l = if oneE r l t ≠ 0 then (oneE r l t, 0, []) else allGo (ts.drop (k + 1)) (oneR r l t) (oneL r l t) := by (
 obtain ⟨hk, rfl⟩ := List.getElem?_eq_some_iff.1 h
 rw [List.drop_eq_getElem_cons hk]
 rfl)
def allT (l : List Nd) : List Tm := tmsOf l l.length
def allE (regs : Int) (l : List Nd) : Int := if chk regs l ≠ 0 then chk regs l else (allGo (allT l) regs l).1
def AllPost (tN : TypeId) (regs : Int) (l : List Nd) (w : World) (e : Ending) (w' : World) : Prop :=
 Below w.heap.size w w' ∧ ((allE regs l ≠ 0 ∧ e = .returned (.tuple #[.agg #[.int .i64 0, .slice none 0 0], .int .i64 (allE regs l)])) ∨
  (allE regs l = 0 ∧ ∃ v, e = .returned (.tuple #[.agg #[.int .i64 (allGo (allT l) regs l).2.1, v], .int .i64 0]) ∧ NRow w' w.heap.size tN v (allGo (allT l) regs l).2.2))
structure AlSt (W0 : World) (B qb : Nat) (r : Int) (v : Value) (ls : List Nd) (W : World) : Prop where
 box : Blk W qb 24 #[.int .i64 r, v]
 row : NRow W B 57 v ls
 below : Below W0.heap.size W0 W
 low : W0.heap.size ≤ qb
section
variable {W0 : World} {B qb : Nat} {r r' : Int} {v v' : Value} {ls ls' : List Nd} {W : World}
theorem AlSt.later {W' : World} (h : AlSt W0 B qb r v ls W) (hb : Below W.heap.size W W') : AlSt W0 B qb r v ls W' := ⟨h.box.below hb h.box.lt, h.row.below' hb, h.below.trans (hb.mono h.below.size), h.low⟩
theorem AlSt.put {V : World} (h : AlSt W0 B qb r v ls W) (hb : Below W.heap.size W V) (hr : NRow V B 57 v' ls') :
 AlSt W0 B qb r' v' ls' ((V.setCell ⟨qb, 0, none⟩ (.int .i64 r')).setCell ⟨qb, 1, none⟩ v') := by (
 have hx := h.box.below hb h.box.lt
 have hn := hr.ne_blk hx (by decide)
 exact ⟨(hx.set_ 0 _).set_ 1 _, (hr.far (p := ⟨qb, 0, none⟩) hn _).far (p := ⟨qb, 1, none⟩) hn _, ((h.later hb).below.setCell h.low _).setCell h.low _, h.low⟩)
end
end
section
open Go.RowKit
open Go.Shelf Go.Lib
set_option maxHeartbeats 4000000
attribute [local irreducible] Row
def growB_ren : Go.Shelf.Ren := ⟨fun | 4 => 82 | n => n, fun | 22 => 27 | 25 => 4 | 3 => 3 | 4 => 4 | 9 => 9 | 20 => 20 | 0 => 0 | n => n, fun | n => n⟩
theorem growB : Go.Proofs.Lays8.n4 Tryz.prog growB_ren := {
 mixed := by kernel_rfl
 f4 := ⟨Tryz.f82.name, by decide, Tryz.func82.trans (congrArg some (by kernel_rfl))⟩
 t0 := Tryz.underlying0
 a0 := Tryz.isAgg0
 z0 := Tryz.sizeOf0
 v0 := Tryz.zeroValue0
 t3 := Tryz.underlying3
 a3 := Tryz.isAgg3
 z3 := Tryz.sizeOf3
 v3 := Tryz.zeroValue3
 t4 := Tryz.underlying4
 a4 := Tryz.isAgg4
 z4 := Tryz.sizeOf4
 v4 := Tryz.zeroValue4
 t9 := Tryz.underlying9
 a9 := Tryz.isAgg9
 z9 := Tryz.sizeOf9
 v9 := Tryz.zeroValue9
 t20 := Tryz.underlying20
 a20 := Tryz.isAgg20
 z20 := Tryz.sizeOf20
 v20 := Tryz.zeroValue20
 t22 := Tryz.underlying27
 a22 := Tryz.isAgg27
 z22 := Tryz.sizeOf27
 v22 := Tryz.zeroValue27 }
theorem GrowB_any (ib : TypeInfo) (hbi : Tryz.prog.info? 4 = some ib) (hbz : ib.zero = some (.bool false)) (hbs : ib.size = 1) (hbb : ib.bytes = 1) (n : Nat) (w : World) (h1 : 1 ≤ n) (h2 : n ≤ 65536) :
 Calls Tryz.prog 82 #[.slice none 0 0, .int .i64 n] w fun e w' => ∃ G, e = .returned (.slice (some ⟨w.heap.size, 0, none⟩) 0 G) ∧ Row w' w.heap.size 4 (.slice (some ⟨w.heap.size, 0, none⟩) 0 G) (bools []) ∧ Below w.heap.size w w' := by (
 have h := Any8.slices_Grow_grow growB ib (.bool false) hbi hbz (by omega) none 0 0 n [] w (by omega) (by omega) (by rw [hbb]; omega) (by omega) (by simp) (fun _ => rfl) (fun a ha => by cases ha)
 refine h.mono ?_
 rintro e w' ⟨rfl, rfl⟩
 have hge := grownCap_ge w (0 + n) 0 (growB_ren.t 25)
 have hle := grownCap_le_maxLen w (0 + n) 0 (growB_ren.t 25) (by unfold maxLen; omega)
 generalize grownCap w (0 + n) 0 (growB_ren.t 25) = G at hge hle ⊢
 refine ⟨G, rfl, ?_, ?_⟩
 · (
 unfold Row
 refine .inr ⟨w.heap.size, 0, G, [].toArray ++ Builtin.zeroCells (Value.bool false).cells (0 + n - 0) ++ Builtin.zeroCells (Value.bool false).cells (G - (0 + n)), rfl, Nat.le_refl _, ?_, Nat.zero_le _, hle, ?_, fun j x hx => by simp [bools] at hx⟩
 · (
 have hb := Blk.new' (w := w.drew) (g := w.heap.size) (t := 4) (cs := [].toArray ++ Builtin.zeroCells (Value.bool false).cells (0 + n - 0) ++ Builtin.zeroCells (Value.bool false).cells (G - (0 + n))) rfl
 unfold Blk at hb
 exact hb)
 · (
 simp [size_zeroCells, Value.cells]
 omega))
 · exact Below.alloc ((Below.refl _ _).drew) (by simp) _)
theorem Concat_any (sb : Nat) (X Y : Option Addr) (x y : List Bool) (xc yc : Nat) (w : World) (hs : Blk w sb 27 #[.slice X x.length xc, .slice Y y.length yc]) (hX : ValsAt w X (bools x)) (hY : ValsAt w Y (bools y)) (hx : 1 ≤ x.length ∧ x.length ≤ 256) (hy : 1 ≤ y.length ∧ y.length ≤ 256) :
 Calls Tryz.prog 48 #[.slice (some ⟨sb, 0, none⟩) 2 2] w fun e w' => ∃ v, e = .returned v ∧ Row w' w.heap.size 4 v (bools (x ++ y)) ∧ Below w.heap.size w w' := by (
 obtain ⟨hx1, hx2⟩ := hx
 obtain ⟨hy1, hy2⟩ := hy
 obtain ⟨ib, hbi, hbz, hbs, hbb⟩ := info_parts infoBoolG
 have HG := hide (fun W => GrowB_any ib hbi hbz hbs hbb (x.length + y.length) W (by omega) (by omega))
 have HX := hide (fun W (hW : Below w.heap.size w W) => hX.below hW)
 have HY := hide (fun W (hW : Below w.heap.size w W) => hY.below hW)
 have HS := hide (fun W (hW : Below w.heap.size w W) => hs.below hW hs.lt)
 have c0 := hs.cell 0
 have c1 := hs.cell 1
 have ls := hs.lt
 simp only [Yl] at c0 c1
 clear hX hY hs
 go_enter Tryz.func48, Tryz.ntmps48
 go_wp2_with fail
 go_loopg [3, 11] (2) (fun gk sz i wr => wr = w ∧ ((i = .int .i64 0 ∧ sz = .int .i64 0 ∧ gk = 2) ∨ (i = .int .i64 1 ∧ sz = .int .i64 x.length ∧ gk = 1) ∨ (i = .int .i64 2 ∧ sz = .int .i64 ((x.length : Int) + (y.length : Int)) ∧ gk = 0)))
 case atStart => exact ⟨rfl, .inl ⟨rfl, rfl, rfl⟩⟩
 case round => (
 obtain ⟨rfl, hrel⟩ := hrel
 rcases hrel with ⟨rfl, rfl, rfl⟩ | ⟨rfl, rfl, rfl⟩ | ⟨rfl, rfl, rfl⟩
 · (
 have q : ¬ ((x.length : Int) < 0) := by omega
 go_wp2_with fail
 go_roundg (1)
 case measure => omega
 case rel => exact ⟨rfl, .inr (.inl ⟨rfl, by go_num, rfl⟩)⟩)
 · (
 have q : ¬ ((x.length : Int) + (y.length : Int) < 0) := by omega
 have q2 : wrap64 ((x.length : Int) + (y.length : Int)) = (x.length : Int) + (y.length : Int) := by unfold wrap64; omega
 go_wp2_with fail
 go_roundg (0)
 case measure => omega
 case rel => exact ⟨rfl, .inr (.inr ⟨rfl, by go_num, rfl⟩)⟩)
 · (
 obtain ⟨w0, rfl⟩ : ∃ w0 : World, w0 = wr := ⟨_, rfl⟩
 go_wp2_with fail
 refine (HG.out w0).mono ?_
 rintro e w1 ⟨G, rfl, hr, hb⟩
 have d0 := (HS.out _ hb).cell 0
 have d1 := (HS.out _ hb).cell 1
 have ds := (HS.out _ hb).lt
 simp only [Yl] at d0 d1
 have HR := hide hr
 have HB := hide hb
 clear hr c0 c1 ls hb
 go_wp2_with fail
 go_loopg [6, 27] (2) (fun gk v i wr => Below w0.heap.size w0 wr ∧ ((i = .int .i64 0 ∧ v = .slice (some ⟨w0.heap.size, 0, none⟩) 0 G ∧ Row wr w0.heap.size 4 v (bools []) ∧ gk = 2) ∨ (i = .int .i64 1 ∧ Row wr w0.heap.size 4 v (bools x) ∧ gk = 1) ∨ (i = .int .i64 2 ∧ Row wr w0.heap.size 4 v (bools (x ++ y)) ∧ gk = 0)))
 case atStart => exact ⟨HB.out, .inl ⟨rfl, rfl, HR.out, rfl⟩⟩
 case round => (
 clear HR HB d0 d1 ds
 obtain ⟨hb, hrel⟩ := hrel
 have c0 := (HS.out _ hb).cell 0
 have c1 := (HS.out _ hb).cell 1
 have ls := (HS.out _ hb).lt
 have hz := hb.size
 simp only [Yl] at c0 c1
 have HB := hide hb
 clear hb
 rcases hrel with ⟨rfl, rfl, hr, rfl⟩ | ⟨rfl, hr, rfl⟩ | ⟨rfl, hr, rfl⟩
 · (
 have HR := hide hr
 clear hr
 go_wp2_with (at_builtin; refine wpList_append_row (v := .slice (some ⟨w0.heap.size, 0, none⟩) 0 G) rfl _ _ _ rfl ib _ 1 Tryz.underlying27 hbi hbz hbs hbb rfl rfl HR.out X x.length xc (bools x) rfl (by rw [bools_length]) (HX.out _ HB.out) (fun u hu => by obtain ⟨b, _, rfl⟩ := List.mem_map.1 hu; rfl) (by simp [bools, maxLen]; omega) (by simp [bools]; omega) (by omega) ?_; intro v5 w5 hr5 hg5 hat5)
 go_roundg (1)
 case measure => omega
 case rel => exact ⟨HB.out.grown hg5 hz (fun q hq => (HR.out.lt q hq).1), .inr (.inl ⟨by go_num, hr5, rfl⟩)⟩)
 · (
 obtain ⟨A4, c4, rfl, _, _⟩ := hr.shape
 have HR := hide hr
 clear hr
 go_wp2_with (at_builtin; refine wpList_append_row (v := .slice A4 (bools x).length c4) rfl _ _ _ rfl ib _ 1 Tryz.underlying27 hbi hbz hbs hbb rfl rfl HR.out Y y.length yc (bools y) rfl (by rw [bools_length]) (HY.out _ HB.out) (fun u hu => by obtain ⟨b, _, rfl⟩ := List.mem_map.1 hu; rfl) (by simp [bools, maxLen]; omega) (by simp [bools]; omega) (by omega) ?_; intro v5 w5 hr5 hg5 hat5)
 go_roundg (0)
 case measure => omega
 case rel => exact ⟨HB.out.grown hg5 hz (fun q hq => (HR.out.lt q hq).1), .inr (.inr ⟨by go_num, by rw [show bools (x ++ y) = bools x ++ bools y by simp [bools]]; exact hr5, rfl⟩)⟩)
 · (
 obtain ⟨A4, c4, rfl, _, _⟩ := hr.shape
 have HR := hide hr
 clear hr
 go_wp2_with fail
 go_ret
 exact ⟨_, rfl, HR.out, HB.out⟩)))))
end
section
open Go.RowKit
set_option maxHeartbeats 4000000
theorem IndexB_any (x : List Bool) (A : Option Addr) (cap : Nat) (w : World) (h : ValsAt w A (bools x)) (hl : x.length ≤ maxLen) :
 Calls Tryz.prog 81 #[.slice A x.length cap, .bool true] w fun e w' => (∃ i : Int, e = .returned (.int .i64 i) ∧ decide (0 ≤ i) = x.any id) ∧ w' = w := by (
 unfold maxLen at hl
 go_enter Tryz.func81, Tryz.ntmps81
 go_wp2_with fail
 go_loopg [8] (x.length) (fun gk i wr => ∃ k : Nat, k ≤ x.length ∧ i = .int .i64 k ∧ gk = x.length - k ∧ (∀ j, j < k → yn x j = false) ∧ wr = w)
 case atStart => exact ⟨0, Nat.zero_le _, rfl, rfl, fun j hj => by omega, rfl⟩
 case round => (
 obtain ⟨k, hk, rfl, hgk, hno, rfl⟩ := hrel
 have Hgk := hide hgk
 have Hno := hide hno
 clear hgk hno
 by_cases hlt : k < x.length
 · (
 obtain ⟨b, off, rfl, hb, hc⟩ := h.bool hlt
 have u0 : (0 : Int) ≤ (k : Int) := by omega
 have u1 : (k : Int) < (x.length : Int) := by omega
 clear h
 cases hy : yn x k
 case false => (
 rw [hy] at hc
 have Hy := hide hy
 clear hy
 go_wp2_with fail
 go_roundg (x.length - (k + 1))
 case measure => have := Hgk.out; omega
 case rel => (
 refine ⟨k + 1, by omega, by go_num, rfl, ?_, rfl⟩
 intro j hj
 by_cases e : j = k
 · rw [e]; exact Hy.out
 · exact Hno.out j (by omega)))
 case true => (
 rw [hy] at hc
 have ha : x.any id = true := by (
 rw [List.any_eq_true]
 exact ⟨x[k], List.getElem_mem hlt, by simpa [yn, hlt] using hy⟩)
 have Ha := hide ha
 clear hy ha
 go_wp2_with fail
 go_ret
 exact ⟨⟨k, rfl, by rw [Ha.out]; exact decide_eq_true u0⟩, rfl⟩))
 · (
 have ha : x.any id = false := by (
 rw [List.any_eq_false]
 intro z hz
 obtain ⟨i, hi, rfl⟩ := List.getElem_of_mem hz
 have := Hno.out i (by omega)
 simpa [yn, hi] using this)
 have Ha := hide ha
 clear ha
 go_wp2_with fail
 go_ret
 exact ⟨⟨-1, rfl, by rw [Ha.out]; rfl⟩, rfl⟩)))
theorem ContainsB_any (x : List Bool) (A : Option Addr) (cap : Nat) (w : World) (h : ValsAt w A (bools x)) (hl : x.length ≤ maxLen) :
 Calls Tryz.prog 47 #[.slice A x.length cap, .bool true] w fun e w' => e = .returned (.bool (x.any id)) ∧ w' = w := by (
 have HI := hide (IndexB_any x A cap w h hl)
 clear h
 generalize x.any id = q at *
 go_enter Tryz.func47, Tryz.ntmps47
 go_wp2_with (go_at_call 81; refine (HI.out).mono ?_; rintro e w1 ⟨⟨i, rfl, hi⟩, rfl⟩)
 go_ret
 exact ⟨by rw [← hi]; rfl, rfl⟩)
end
section
open Go.RowKit
def natV (l : List Nat) : List Value := l.map fun (j : Nat) => Value.int .i64 (Int.ofNat j)
theorem natV_len (l : List Nat) : (natV l).length = l.length := List.length_map _
theorem natV_snoc (l : List Nat) (m : Nat) : natV (l ++ [m]) = natV l ++ [.int .i64 (m : Int)] := by rw [natV, List.map_append]; rfl
structure Working (l : List Nd) (x : List Bool) (wk : List Nat) : Prop where
  under : Under (reachS l) l.length x
  zero : yn x 0 = true
  mem : ∀ j ∈ wk, yn x j = true
  shut : ∀ j, yn x j = true → j ∈ wk ∨ shutAt l x j
  len : wk.length ≤ cnt x
structure Going (l : List Nd) (x : List Bool) (wk : List Nat) (k : Nat) (n : Nd) (i : Nat) : Prop where
  under : Under (reachS l) l.length x
  zero : yn x 0 = true
  mem : ∀ j ∈ wk, yn x j = true
  self : yn x k = true
  shut : ∀ j, yn x j = true → j ∈ wk ∨ j = k ∨ shutAt l x j
  len : wk.length + 1 ≤ cnt x
  way0 : 1 ≤ i → ∀ m : Nat, n.t = m → yn x m = true
  way1 : 2 ≤ i → ∀ m : Nat, n.e = m → yn x m = true
theorem Working.lt {l : List Nd} {x : List Bool} {wk : List Nat} (h : Working l x wk) {j : Nat} (hj : j ∈ wk) : j < l.length := by
  have h1 := h.mem j hj
  rcases Nat.lt_or_ge j x.length with h2 | h2
  · rw [← h.under.1]; exact h2
  · rw [yn_out h2] at h1; cases h1
theorem Working.start {l : List Nd} (hl : 1 ≤ l.length) : Working l ((List.replicate l.length false).set 0 true) [0] := by
  have h0 : yn ((List.replicate l.length false).set 0 true) 0 = true := by rw [yn_set _ _ _ _ (by simp; omega)]; simp
  refine ⟨under_start l hl, h0, fun j hj => ?_, fun j hj => ?_, ?_⟩
  · simp at hj; subst hj; exact h0
  · rw [yn_set _ _ _ _ (by simp; omega)] at hj
    by_cases hj0 : j = 0
    · subst hj0; exact .inl (by simp)
    · rw [if_neg hj0] at hj
      simp [yn, List.getD_eq_getElem?_getD, List.getElem?_replicate] at hj
      split at hj <;> simp at hj
  · exact cnt_pos h0
theorem Working.done {l : List Nd} {x : List Bool} (h : Working l x []) : x = reachL l := by
  refine closed_under (reachS_mono l) (reach_closed h.under.1 h.zero fun j _ hy => ?_) h.under
  rcases h.shut j hy with h1 | h1
  · cases h1
  · exact h1
theorem Working.take {l : List Nd} {x : List Bool} {wk : List Nat} {k : Nat} (h : Working l x (wk ++ [k])) (n : Nd) : Going l x wk k n 0 := by
  refine ⟨h.under, h.zero, fun j hj => h.mem j (by simp [hj]), h.mem k (by simp), fun j hj => ?_, by have := h.len; simpa using this, fun h => absurd h (by omega), fun h => absurd h (by omega)⟩
  rcases h.shut j hj with h1 | h1
  · simp only [List.mem_append, List.mem_singleton] at h1
    rcases h1 with h1 | h1
    · exact .inl h1
    · exact .inr (.inl h1)
  · exact .inr (.inr h1)
theorem shutAt_mono {l : List Nd} {x : List Bool} {j m : Nat} (hm : m < x.length) (h : shutAt l x j) : shutAt l (x.set m true) j := fun n hn q hq => yn_set_mono hm (h n hn q hq)
theorem Going.old {l : List Nd} {x : List Bool} {wk : List Nat} {k i m : Nat} {n : Nd} (h : Going l x wk k n i) (hy : yn x m = true) (hi : (i = 0 ∧ n.t = m) ∨ (i = 1 ∧ n.e = m)) : Going l x wk k n (i + 1) :=
  ⟨h.under, h.zero, h.mem, h.self, h.shut, h.len, fun _ q hq => by
    rcases hi with ⟨rfl, h1⟩ | ⟨rfl, h1⟩
    · obtain rfl : q = m := by omega
      exact hy
    · exact h.way0 (by omega) q hq, fun h2 q hq => by
    rcases hi with ⟨rfl, h1⟩ | ⟨rfl, h1⟩
    · omega
    · obtain rfl : q = m := by omega
      exact hy⟩
theorem Going.new {l : List Nd} {x : List Bool} {wk : List Nat} {k i m : Nat} {n : Nd} (h : Going l x wk k n i) (hk : l[k]? = some n) (hl : leadsB n m = true) (hm : m < l.length) (hy : yn x m = false) (hi : (i = 0 ∧ n.t = m) ∨ (i = 1 ∧ n.e = m)) :
    Going l (x.set m true) (wk ++ [m]) k n (i + 1) := by
  have hxl : m < x.length := by rw [h.under.1]; exact hm
  have hyy : yn (x.set m true) m = true := by rw [yn_set _ _ _ _ hxl]; simp
  refine ⟨under_add h.under h.self hk hl hm, yn_set_mono hxl h.zero, fun j hj => ?_, yn_set_mono hxl h.self, fun j hj => ?_, ?_, fun _ q hq => ?_, fun h2 q hq => ?_⟩
  · simp only [List.mem_append, List.mem_singleton] at hj
    rcases hj with hj | rfl
    · exact yn_set_mono hxl (h.mem j hj)
    · exact hyy
  · rw [yn_set _ _ _ _ hxl] at hj
    by_cases hjm : j = m
    · exact .inl (by simp [hjm])
    · rw [if_neg hjm] at hj
      rcases h.shut j hj with h1 | h1 | h1
      · exact .inl (by simp [h1])
      · exact .inr (.inl h1)
      · exact .inr (.inr (shutAt_mono hxl h1))
  · rw [cnt_put hxl hy]
    have := h.len
    simp
    omega
  · rcases hi with ⟨rfl, h1⟩ | ⟨rfl, h1⟩
    · obtain rfl : q = m := by omega
      exact hyy
    · exact yn_set_mono hxl (h.way0 (by omega) q hq)
  · rcases hi with ⟨rfl, h1⟩ | ⟨rfl, h1⟩
    · omega
    · obtain rfl : q = m := by omega
      exact hyy
theorem Going.end_ {l : List Nd} {x : List Bool} {wk : List Nat} {k i : Nat} {n : Nd} (h : Going l x wk k n i) (hk : l[k]? = some n) (h0 : n.op ≠ 12 → 1 ≤ i) (h1 : n.op = 11 → 2 ≤ i) : Working l x wk := by
  refine ⟨h.under, h.zero, h.mem, fun j hj => ?_, by have := h.len; omega⟩
  rcases h.shut j hj with h2 | h2 | h2
  · exact .inl h2
  · subst h2
    refine .inr fun n2 hn q hq => ?_
    rw [hk] at hn
    injection hn with hn
    subst hn
    rcases leads_cases hq with ⟨h3, h4⟩ | ⟨h3, h4⟩
    · exact h.way0 (h0 h3) q h4.symm
    · exact h.way1 (h1 h3) q h4.symm
  · exact .inr h2
def todo (l : List Nd) (x : List Bool) (wk : List Nat) : Nat := 2 * (l.length - cnt x) + wk.length
theorem todo_old (l : List Nd) (x : List Bool) (wk : List Nat) (k : Nat) : todo l x wk + 1 = todo l x (wk ++ [k]) := by simp [todo]; omega
theorem Going.todo_new {l : List Nd} {x : List Bool} {wk : List Nat} {k i m : Nat} {n : Nd} (h : Going l x wk k n i) (hm : m < l.length) (hy : yn x m = false) : todo l (x.set m true) (wk ++ [m]) + 1 = todo l x wk := by
  have hxl : m < x.length := by rw [h.under.1]; exact hm
  have h1 := cnt_put hxl hy
  have h2 := cnt_le (x.set m true)
  rw [List.length_set, h.under.1] at h2
  simp only [todo, List.length_append, List.length_singleton]
  omega
theorem Row.pop {w : World} {B : Nat} {e : TypeId} {A : Option Addr} {n c : Nat} {xs : List Value} {u : Value} (h : Row w B e (.slice A n c) (xs ++ [u])) : Row w B e (.slice A xs.length c) xs := by
  rcases h with ⟨_, h⟩ | ⟨g, o, cap, cur, hv, hb, hh, h1, h2, h3, h4⟩
  · simp at h
  · injection hv with hA hn hc
    subst hA hc
    simp only [List.length_append, List.length_singleton] at h1
    refine .inr ⟨g, o, c, cur, rfl, hb, hh, by omega, h2, h3, fun j x hj => h4 j x ?_⟩
    rw [List.getElem?_append_left (List.getElem?_eq_some_iff.1 hj).1]
    exact hj
theorem Row.own {W W' : World} {row : Option Nat} {B : Nat} {e : TypeId} {v : Value} {xs : List Value} (h : Row W B e v xs) (hg : W.grownBy W' row) (hr : ∀ r, row = some r → ∃ o : Obj, W.heap[r]? = some o ∧ o.isCells = false) : Row W' B e v xs :=
  h.kept hg (by
    rcases h with ⟨rfl, _⟩ | ⟨g, o, cap, cur, rfl, _, hh, _⟩
    · exact .inl rfl
    · refine .inr fun e => ?_
      obtain ⟨o2, h2, h3⟩ := hr g (by rw [← e]; rfl)
      rw [hh] at h2
      cases h2
      cases h3)
theorem NRow.own {W W' : World} {row : Option Nat} {B : Nat} {e : TypeId} {v : Value} {xs : List Nd} (h : NRow W B e v xs) (hg : W.grownBy W' row) (hr : ∀ r, row = some r → ∃ o : Obj, W.heap[r]? = some o ∧ o.isCells = false) : NRow W' B e v xs :=
  h.kept hg (by
    rcases h.open with ⟨rfl, _⟩ | ⟨g, cap, cur, rfl, _, hh, _⟩
    · exact .inl rfl
    · refine .inr fun e => ?_
      obtain ⟨o2, h2, h3⟩ := hr g (by rw [← e]; rfl)
      rw [hh] at h2
      cases h2
      cases h3)
theorem Blk.own {W W' : World} {row : Option Nat} {g : Nat} {t : TypeId} {cs : Array Value} (h : Blk W g t cs) (hg : W.grownBy W' row) (hr : ∀ r, row = some r → ∃ o : Obj, W.heap[r]? = some o ∧ o.isCells = false) : Blk W' g t cs :=
  h.grown hg (fun e => by
    obtain ⟨o2, h2, h3⟩ := hr g e
    unfold Blk at h
    rw [h] at h2
    cases h2
    cases h3)
theorem below_own {W W' w : World} {row : Option Nat} {B D : Nat} (h : Below B w W) (hg : W.grownBy W' row) (hB : B ≤ W.heap.size) (hr : ∀ r, row = some r → D ≤ r) (hD : B ≤ D) : Below B w W' := h.grown hg hB fun k hk => by have := hr k hk; omega
theorem Row.keeps {W W' : World} {B : Nat} {e : TypeId} {v : Value} {xs : List Value} (h : Row W B e v xs) (hg : W.grownBy W' v.ownBlock) : KeepsOthers W W' :=
  KeepsOthers.of_grownBy hg fun j o e ho => by
    rcases h with ⟨rfl, _⟩ | ⟨g, o2, cap, cur, rfl, _, hh, _⟩
    · cases e
    · injection e with e
      subst e
      rw [hh] at ho
      cases ho
      rfl
theorem NRow.keeps {W W' : World} {B : Nat} {e : TypeId} {v : Value} {xs : List Nd} (h : NRow W B e v xs) (hg : W.grownBy W' v.ownBlock) : KeepsOthers W W' :=
  KeepsOthers.of_grownBy hg fun j o e ho => by
    rcases h.open with ⟨rfl, _⟩ | ⟨g, cap, cur, rfl, _, hh, _⟩
    · cases e
    · injection e with e
      subst e
      rw [hh] at ho
      cases ho
      rfl
end
section
open Go.RowKit Go.Maps
def keyI (k : Nat) : Lit := .int .i64 (k : Int)
theorem keyI_ne {j k : Nat} (h : j ≠ k) : keyI j ≠ keyI k := by (
 unfold keyI
 intro e
 injection e with e1 e2
 omega)
def mapD (x : List Bool) : Nat → DataW Unit
 | 0 => .map []
 | k + 1 => if yn x k = true then (mapD x k).put (keyI k) (.lit (.int .i64 (rk x k))) else mapD x k
theorem mapD_is (x : List Bool) : ∀ k, IsMap (mapD x k)
 | 0 => isMap_empty
 | k + 1 => by (
 unfold mapD
 split
 · exact (mapD_is x k).put _ _
 · exact mapD_is x k)
theorem mapD_yes {x : List Bool} {k : Nat} (h : yn x k = true) : mapD x (k + 1) = (mapD x k).put (keyI k) (.lit (.int .i64 (rk x k))) := by rw [mapD, if_pos h]
theorem mapD_no {x : List Bool} {k : Nat} (h : yn x k = false) : mapD x (k + 1) = mapD x k := by rw [mapD, if_neg (by rw [h]; simp)]
theorem mapD_has (x : List Bool) : ∀ (k j : Nat), k ≤ j → Maps.has (mapD x k) (keyI j) = false
 | 0, j, _ => rfl
 | k + 1, j, h => by (
 cases hy : yn x k with
 | true => rw [mapD_yes hy, has_put_other (keyI_ne (by omega))]; exact mapD_has x k j (by omega)
 | false => rw [mapD_no hy]; exact mapD_has x k j (by omega))
theorem mapD_at (x : List Bool) (z : DataW Unit) : ∀ (k j : Nat), j < k → yn x j = true → (mapD x k).atKey (keyI j) z = .lit (.int .i64 (rk x j))
 | 0, j, h, _ => absurd h (Nat.not_lt_zero _)
 | k + 1, j, h, hy => by (
 by_cases hjk : j = k
 · (
 subst hjk
 rw [mapD_yes hy]
 exact atKey_put_same (mapD_is x j) (by unfold keyI; trivial) _ _)
 · (
 cases hk : yn x k with
 | true => rw [mapD_yes hk, atKey_put_other (keyI_ne hjk)]; exact mapD_at x z k j (by omega) hy
 | false => rw [mapD_no hk]; exact mapD_at x z k j (by omega) hy))
theorem mapD_size_step {x : List Bool} {k : Nat} (ht : Tidy (mapD x k)) (h : Maps.size (mapD x k) = rk x k) : Maps.size (mapD x (k + 1)) = rk x (k + 1) := by (
 cases hk : yn x k with
 | true => rw [mapD_yes hk, rk_yes hk, size_put ht, h, mapD_has x k k (Nat.le_refl _)]; simp
 | false => rw [mapD_no hk, rk_no hk]; exact h)
theorem ownsMap_own {W W' : World} {row : Option Nat} {P : Program} {k : TypeId} {R : Value → Option (DataW Unit × List MemPlace)} {b m : Nat} {D : DataW Unit} (h : W.ownsMap P k R b m D) (hg : W.grownBy W' row) (hr : row ≠ some b) : W'.ownsMap P k R b m D := by (
 obtain ⟨es, clock, hb, F, r⟩ := h
 exact ⟨es, clock, (hg.block b (lt_of_heap hb) (fun e => hr e.symm)).trans hb, F, r⟩)
theorem ownsMap_below {W W' : World} {P : Program} {k : TypeId} {R : Value → Option (DataW Unit × List MemPlace)} {b m : Nat} {D : DataW Unit} (h : W.ownsMap P k R b m D) (hb : Below W.heap.size W W') : W'.ownsMap P k R b m D := by (
 obtain ⟨es, clock, hh, F, r⟩ := h
 exact ⟨es, clock, (hb.block b (lt_of_heap hh)).trans hh, F, r⟩)
theorem ownsMap_ne {W : World} {P : Program} {k : TypeId} {R : Value → Option (DataW Unit × List MemPlace)} {b m g : Nat} {D : DataW Unit} {t : TypeId} {cs : Array Value} (h : W.ownsMap P k R b m D) (hg : Blk W g t cs) : b ≠ g := by (
 obtain ⟨es, clock, hh, F, r⟩ := h
 rintro rfl
 unfold Blk at hg
 rw [hh] at hg
 cases hg)
theorem ownsMap_set {W : World} {P : Program} {k : TypeId} {R : Value → Option (DataW Unit × List MemPlace)} {b m : Nat} {D : DataW Unit} (h : W.ownsMap P k R b m D) (p : Addr) (u : Value) : (W.setCell p u).ownsMap P k R b m D := by (
 obtain ⟨es, clock, hh, F, r⟩ := h
 refine ⟨es, clock, (KeepsOthers.setCell W p u).same b _ hh rfl, F, r⟩)
theorem row_ne_map {W : World} {B g m : Nat} {D : DataW Unit} {P : Program} {k : TypeId} {R : Value → Option (DataW Unit × List MemPlace)} {e : TypeId} {v : Value} {xs : List Value} (h : Row W B e v xs) (hm : W.ownsMap P k R g m D) : v.ownBlock ≠ some g := by (
 rcases h with ⟨rfl, _⟩ | ⟨g', o, cap, cur, rfl, _, hh, _⟩
 · simp [Value.ownBlock]
 · (
 intro he
 simp [Value.ownBlock] at he
 subst he
 exact ownsMap_ne (t := e) (cs := cur) hm (by unfold Blk; exact hh) rfl))
theorem nrow_ne_map {W : World} {B g m : Nat} {D : DataW Unit} {P : Program} {k : TypeId} {R : Value → Option (DataW Unit × List MemPlace)} {e : TypeId} {v : Value} {xs : List Nd} (h : NRow W B e v xs) (hm : W.ownsMap P k R g m D) : v.ownBlock ≠ some g := by (
 rcases h.open with ⟨rfl, _⟩ | ⟨g', cap, cur, rfl, _, hh, _⟩
 · simp [Value.ownBlock]
 · (
 intro he
 simp [Value.ownBlock] at he
 subst he
 exact ownsMap_ne (t := e) (cs := cur) hm (by unfold Blk; exact hh) rfl))
end
section
open Go.RowKit
def Marks (B : Nat) : Nat → List Deferred → World → Prop
 | _, [], _ => True
 | S, d :: ds, w => ∃ D, d = { target := .collected D, args := #[] } ∧ B ≤ D ∧ D < S ∧ w.heap[D]? = some (.deferred (some [])) ∧ Marks B D ds w
theorem Marks.mono {B : Nat} : ∀ {ds : List Deferred} {S S' : Nat} {w : World}, Marks B S ds w → S ≤ S' → Marks B S' ds w
 | [], _, _, _, _, _ => trivial
 | d :: ds, S, S', w, ⟨D, h1, h2, h3, h4, h5⟩, h => ⟨D, h1, h2, Nat.lt_of_lt_of_le h3 h, h4, h5⟩
theorem Marks.of_heap {B : Nat} : ∀ {ds : List Deferred} {S : Nat} {w w' : World}, Marks B S ds w → (∀ k, k < S → w.heap[k]? = some (.deferred (some [])) → w'.heap[k]? = some (.deferred (some []))) → Marks B S ds w'
 | [], _, _, _, _, _ => trivial
 | d :: ds, S, w, w', ⟨D, h1, h2, h3, h4, h5⟩, h => ⟨D, h1, h2, h3, h D h3 h4, h5.of_heap fun k hk => h k (Nat.lt_trans hk h3)⟩
theorem Marks.keeps {B S : Nat} {ds : List Deferred} {w w' : World} (h : Marks B S ds w) (hk : KeepsOthers w w') : Marks B S ds w' := h.of_heap fun k _ e => hk.same k _ e rfl
theorem Marks.below {B S : Nat} {ds : List Deferred} {w w' : World} (h : Marks B S ds w) (hb : Below w.heap.size w w') : Marks B S ds w' := h.of_heap fun k _ e => (hb.block k (lt_of_heap e)).trans e
theorem Marks.own {B S : Nat} {ds : List Deferred} {w w' : World} {row : Option Nat} (h : Marks B S ds w) (hg : w.grownBy w' row) (hr : ∀ r, row = some r → S ≤ r) : Marks B S ds w' :=
 h.of_heap fun k hk e => (hg.block k (lt_of_heap e) fun e2 => by have := hr k e2.symm; omega).trans e
theorem Marks.put {B S D : Nat} {ds : List Deferred} {w : World} (h : Marks B S ds w) (o : Obj) (hD : S ≤ D) : Marks B S ds (w.putObj D o) := h.of_heap fun k hk e => (World.putObj_heap_other (by omega)).trans e
theorem Marks.add {B S D : Nat} {ds : List Deferred} {w : World} (h : Marks B S ds w) (hD : S ≤ D) (hB : B ≤ D) (hd : w.heap[D]? = some (.deferred (some []))) : Marks B w.heap.size ({ target := .collected D, args := #[] } :: ds) w :=
 ⟨D, rfl, hB, lt_of_heap hd, hd, h.mono hD⟩
theorem leaves_marks {P : Program} {n : Nat} {fn : Func} {tmps : Array Value} {R : Ending → World → Prop} {B : Nat} (I : World → Prop)
 (hp : ∀ W D, I W → B ≤ D → W.heap[D]? = some (.deferred (some [])) → I (W.putObj D (.deferred none))) (he : ∀ W, I W → ∃ v, (results fn tmps).run P W = .ok v W ∧ R (.returned v) W) :
 ∀ (ds : List Deferred) (S : Nat) (W : World), Marks B S ds W → I W → LeavesInM Fence.wide n P fn tmps R ds .returning W
| [], S, W, _, hI => he W hI
| d :: ds, S, W, ⟨D, h1, h2, h3, h4, h5⟩, hI => by (
 refine ⟨by simp, .inl ⟨D, W.putObj D (.deferred none), by rw [h1], run_takeDeferred h4, ?_⟩⟩
 exact leaves_marks I hp he ds D _ (h5.put _ (Nat.le_refl _)) (hp W D hI h2 h4))
theorem calls_marks {P : Program} {f : FuncId} {fn : Func} {c : Code} {args : Array Value} {w : World} {R : Ending → World → Prop} (hf : P.funcs[f]? = some fn) (hb : fn.body = some c)
 (h : c.wp P (bodyPostM Fence.wide 4 P fn R) { tmps := args ++ Array.replicate (fn.ntmps - args.size) undef, defers := [] } w) : Calls P f args w R :=
 callsIn_wide.1 (callsIn_of_wp_marks (n:= 4) hf hb trivial (wpIn_wide.2 h))
theorem grown_put {W : World} {D : Nat} (o : Obj) : W.grownBy (W.putObj D o) (some D) := grownBy_putObj' W D o
theorem wpIn_mid {F : Fence} {n : Nat} {P : Program} {c : Code} {Q : Exit → Act → World → Prop} {a : Act} {w : World} (A : Act) (W : World) (h : c.wpIn F n P (fun e a' w' => e = .normal ∧ a' = A ∧ w' = W) a w) (hq : Q .normal A W) : c.wpIn F n P Q a w :=
 wpIn_mono h fun e a' w' ⟨h1, h2, h3⟩ => by subst h1 h2 h3; exact hq
theorem stepIn_append_row {F : Fence} {n : Nat} {P : Program} {e : TypeId} {v : Value} {xs : List Value} {w : World} {base : Nat} {ops : Array Oper} {o : Oper} {a : Act} {K : Act → World → Prop} {Q : Exit → Act → World → Prop} {E : Prop} (hgd : o.guard = none) (s x : Operand) (t : TypeId)
 (ho : o.op = .call { callee := .builtin .append, args := #[s, x], argTypes := #[t, t] })
 (i : TypeInfo) (z : Value) (bytes : Nat) (ht : P.underlying t = some (.slice e)) (hi : P.info? e = some i) (hz : i.zero = some z)
 (hsize : i.size = 1) (hby : i.bytes = bytes) (hzs : z.cells.size = 1) (hs : a.eval s = v) (hr : Row w base e v xs) (A : Option Addr) (m c : Nat) (news : List Value) (hx : a.eval x = .slice A m c)
 (hnl : m = news.length) (hn : ValsAt w A news)
 (h1 : ∀ u ∈ news, u.oneCell' = true) (h63 : xs.length + news.length ≤ maxLen) (hbytes : (xs.length + news.length) * bytes ≤ 140737488355328) (hbase : base ≤ w.heap.size)
 (h : ∀ v' w', Row w' base e v' (xs ++ news) → w.grownBy w' v.ownBlock → (v'.ownBlock = v.ownBlock ∨ ∀ k, v'.ownBlock = some k → w.heap.size ≤ k) → K (a.put o.dst v') w') :
 if Region.wanted o (yielded ops a.tmps) = true then Oper.wpIn F n P o a w K Q else E := by (
 have hw : Region.wanted o (yielded ops a.tmps) = true := by simp [Region.wanted, hgd]
 rw [if_pos hw]
 subst hnl
 obtain ⟨v', w', hrun, h2, h3, h4⟩ := run_append_row (P := P) t o.type i z bytes ht hi hz hsize hby hzs hr A c news hn h1 h63 hbytes hbase
 unfold Oper.wpIn
 refine ⟨?_, ?_⟩
 · simp [Oper.about, ho, resolve, Target.leads, Sem.run_pure]
 · (
 rw [Oper.semAt_eq _ _ _ (by rw [ho]; intro c hc'; cases hc')]
 simp [execOp, ho, resolve, invoke, builtin, hs, hx, hrun, Result.andThen]
 exact h v' w' h2 h3 h4))
theorem stepIn_append_nodes {F : Fence} {n : Nat} {P : Program} {e : TypeId} {v : Value} {l : List Nd} {w : World} {base : Nat} {ops : Array Oper} {o : Oper} {a : Act} {K : Act → World → Prop} {Q : Exit → Act → World → Prop} {E : Prop} (hgd : o.guard = none) (s x : Operand) (t : TypeId)
 (ho : o.op = .call { callee := .builtin .append, args := #[s, x], argTypes := #[t, t] })
 (i : TypeInfo) (z : Value) (bytes : Nat) (ht : P.underlying t = some (.slice e)) (hi : P.info? e = some i) (hz : i.zero = some z)
 (hsize : i.size = 6) (hby : i.bytes = bytes) (hzs : z.cells.size = 6) (hs : a.eval s = v) (hr : NRow w base e v l) (A : Option Addr) (m c : Nat) (news : List Nd) (hx : a.eval x = .slice A m c)
 (hnl : m = news.length) (hn : NodesAt w A news)
 (h63 : l.length + news.length ≤ maxLen) (hbytes : (l.length + news.length) * bytes ≤ 140737488355328) (hbase : base ≤ w.heap.size)
 (h : ∀ v' w', NRow w' base e v' (l ++ news) → w.grownBy w' v.ownBlock → (v'.ownBlock = v.ownBlock ∨ ∀ k, v'.ownBlock = some k → w.heap.size ≤ k) → K (a.put o.dst v') w') :
 if Region.wanted o (yielded ops a.tmps) = true then Oper.wpIn F n P o a w K Q else E := by (
 have hw : Region.wanted o (yielded ops a.tmps) = true := by simp [Region.wanted, hgd]
 rw [if_pos hw]
 subst hnl
 obtain ⟨v', w', hrun, h2, h3, h4⟩ := run_append_nodes (P := P) t o.type i z bytes ht hi hz hsize hby hzs hr A c news hn h63 hbytes hbase
 unfold Oper.wpIn
 refine ⟨?_, ?_⟩
 · simp [Oper.about, ho, resolve, Target.leads, Sem.run_pure]
 · (
 rw [Oper.semAt_eq _ _ _ (by rw [ho]; intro c hc'; cases hc')]
 simp [execOp, ho, resolve, invoke, builtin, hs, hx, hrun, Result.andThen]
 exact h v' w' h2 h3 h4))
def onlyNormal (R : Act → World → Prop) : Exit → Act → World → Prop
 | .normal, a, w => R a w
 | _, _, _ => False
theorem wp_normal {P : Program} {c : Code} {Q : Exit → Act → World → Prop} {a : Act} {w : World} (R : Act → World → Prop) (h : c.wp P (onlyNormal R) a w) (hq : ∀ a' w', R a' w' → Q .normal a' w') : c.wp P Q a w :=
 wp_mono h fun e a' w' hr => by cases e <;> first | exact hq _ _ hr | exact hr.elim
end
section
open Go.RowKit Go.Shelf
set_option maxHeartbeats 1000000
attribute [local go_sem] Oper.semAt_some
def exitN (op : Int) : Nat := if op = 12 then 0 else if op = 11 then 2 else 1
theorem exits_any (p : Option Addr) (w : World) : Calls Tryz.prog 80 #[.pointer p] w fun e w' => e = .returned (.func (.func 100) #[] #[.pointer (some ⟨w.heap.size, 0, none⟩)]) ∧ w' = w.alloc (.cells #[.pointer p] 111) := by (
 go_enter Tryz.func80, Tryz.ntmps80
 go_wp2
 go_ret
 exact ⟨rfl, rfl⟩)
theorem exits1_in (F : Fence) (n : Nat) (hf : F.fn 100) (hro : F.round = none) (hn : 1 ≤ n) (l gb b : Nat) (op : Int) (J : Nat → World → Prop)
 (hc : ∀ i W, J i W → W.cell? ⟨gb, 0, none⟩ = some (.pointer (some ⟨b, 0, none⟩)) ∧ W.cell? ⟨b, 0, none⟩ = some (.int .i64 op))
 (y0 : op ≠ 12 → ∀ W, J 0 W → YieldAt F (n - 1) Tryz.prog l #[.pointer (some ⟨b, 4, none⟩)] W fun e W' => e = .returned (.bool true) ∧ J 1 W')
 (y1 : op = 11 → ∀ W, J 1 W → YieldAt F (n - 1) Tryz.prog l #[.pointer (some ⟨b, 5, none⟩)] W fun e W' => e = .returned (.bool true) ∧ J 2 W')
 (W : World) (h0 : J 0 W) :
 CallsIn F n Tryz.prog 100 #[.func (.yield l) #[] #[], .pointer (some ⟨gb, 0, none⟩)] W fun e W' => (∃ v, e = .returned v) ∧ J (exitN op) W' := by (
 have hJ := hc 0 W h0
 obtain ⟨c0, c1⟩ := hJ
 refine callsIn_of_wp Tryz.func100 rfl hf ?_ hro
 simp only [Tryz.ntmps100, List.size_toArray, List.length_cons, List.length_nil, Nat.reduceAdd, Nat.reduceSub, Array.replicate_succ, Array.replicate_zero, List.push_toArray, List.append_toArray, List.nil_append, List.cons_append]
 by_cases h12 : op = 12
 · (
 have he : exitN op = 0 := by simp [exitN, h12]
 have He : Hid (exitN op = 0) := he
 clear he y0 y1 hc
 have q12 : (op == 12) = true := by simp [h12]
 clear h12
 gi_wp2
 refine ⟨fun _ h => (by cases h), ?_⟩
 gi_wp2
 refine bodyPost_ret (results_none rfl _ _ _) rfl ?_
 exact ⟨⟨_, rfl⟩, by rw [He.out]; exact h0⟩)
 · (
 have q12 : (op == 12) = false := by simp [h12]
 obtain ⟨fn, tmps, assign, body, hy, hR⟩ := y0 h12 W h0
 by_cases h11 : op = 11
 · (
 have q11 : (op == 11) = true := by simp [h11]
 have he : exitN op = 2 := by simp [exitN, h11]
 have He : Hid (exitN op = 2) := he
 have Y1 : Hid (∀ W, J 1 W → YieldAt F (n - 1) Tryz.prog l #[.pointer (some ⟨b, 5, none⟩)] W fun e W' => e = .returned (.bool true) ∧ J 2 W') := y1 h11
 have Hc : Hid (∀ i W, J i W → W.cell? ⟨gb, 0, none⟩ = some (.pointer (some ⟨b, 0, none⟩)) ∧ W.cell? ⟨b, 0, none⟩ = some (.int .i64 op)) := hc
 clear he h12 h11 y0 y1 hc
 gi_wp2
 refine hR.mono ?_
 rintro e W1 ⟨rfl, hJ1⟩
 obtain ⟨d0, d1⟩ := Hc.out 1 W1 hJ1
 obtain ⟨fn', tmps', assign', body', hy', hR'⟩ := Y1.out W1 hJ1
 clear hy hR c0 c1
 gi_wp2
 refine hR'.mono ?_
 rintro e W2 ⟨rfl, hJ2⟩
 gi_wp2
 go_end0
 exact ⟨⟨_, rfl⟩, by rw [He.out]; exact hJ2⟩)
 · (
 have q11 : (op == 11) = false := by simp [h11]
 have he : exitN op = 1 := by simp [exitN, h12, h11]
 have He : Hid (exitN op = 1) := he
 have Hc : Hid (∀ i W, J i W → W.cell? ⟨gb, 0, none⟩ = some (.pointer (some ⟨b, 0, none⟩)) ∧ W.cell? ⟨b, 0, none⟩ = some (.int .i64 op)) := hc
 clear he h12 h11 y0 y1 hc
 gi_wp2
 refine hR.mono ?_
 rintro e W1 ⟨rfl, hJ1⟩
 obtain ⟨d0, d1⟩ := Hc.out 1 W1 hJ1
 clear hy hR c0 c1
 gi_wp2
 go_end0
 exact ⟨⟨_, rfl⟩, by rw [He.out]; exact hJ1⟩)))
def roundEnd (B : Nat) (J : World → Prop) (W : World) : Exit → Act → World → Prop
 | .normal, _, W' => KeepsFrom B W W' ∧ J W'
 | _, _, _ => False
theorem wp_range_exits {g : Operand} {p : Tmp} {assign body : Code} {Q : Exit → Act → World → Prop} {a : Act} {w : World} (gb b : Nat) (op : Int)
 (hg : a.eval g = .func (.func 100) #[] #[.pointer (some ⟨gb, 0, none⟩)])
 (I : Nat → World → Prop) (hI : OwnFrom w.heap.size I)
 (hc : ∀ i W, I i W → W.cell? ⟨gb, 0, none⟩ = some (.pointer (some ⟨b, 0, none⟩)) ∧ W.cell? ⟨b, 0, none⟩ = some (.int .i64 op))
 (h0 : I 0 w)
 (hbody : ∀ (l i : Nat), (i = 0 ∧ op ≠ 12 ∨ i = 1 ∧ op = 11) → ∃ a₁ : Act, (∀ (W : World) (K : Act → World → Prop), K a₁ W → assign.wpIn (Fence.wide.inRound l) 2 Tryz.prog (Exit.then K (fun _ _ _ => False)) { tmps := a.tmps.setIfInBounds p (.pointer (some ⟨b, 4 + i, none⟩)), defers := [] } W) ∧
  ∀ W, I i W → body.wpIn (Fence.wide.inRound l) 2 Tryz.prog (roundEnd w.heap.size (I (i + 1)) W) a₁ W)
 (hdone : ∀ (D : Nat) (W : World), w.heap.size ≤ D → I (exitN op) W → W.heap[D]? = some (.deferred (some [])) → Q .normal { a with defers := { target := .collected D, args := #[] } :: a.defers } W) :
 (Code.rangeFunc g #[p] assign body).wp Tryz.prog Q a w := by (
 refine (wpIn_wide (n := 4)).1 (wpIn_rangeFunc fun fn hfn => ?_)
 obtain ⟨mk, hmk⟩ : ∃ mk : LoopState → Option Code → Loop, mk = fun st pe => { state := st, pending := pe, fn, tmps := a.tmps, params := #[p], assign, body, defers := w.heap.size } := ⟨_, rfl⟩
 -- the world with the two blocks of the loop's own
 obtain ⟨V, hV⟩ : ∃ V, (w.alloc (.deferred (some []))).alloc (.loop (mk .ready none)) = V := ⟨_, rfl⟩
 have lV : V.heap[w.heap.size + 1]? = some (.loop (mk .ready none)) := by (
 rw [← hV]; have := World.alloc_heap_new (w.alloc (.deferred (some []))) (.loop (mk .ready none)); rwa [World.size_alloc] at this)
 have dV : V.heap[w.heap.size]? = some (.deferred (some [])) := by (
 rw [← hV]; exact (Below.heap_alloc _ _ _ (by simp)).trans (World.alloc_heap_new w _))
 have iV : I 0 V := by rw [← hV]; exact hI.alloc _ (hI.alloc _ h0)
 -- what holds between two rounds
 let J : Nat → World → Prop := fun i W => I i W ∧ W.heap[w.heap.size + 1]? = some (.loop (mk .ready none)) ∧ W.heap[w.heap.size]? = some (.deferred (some []))
 have round : ∀ (i : Nat) (W : World), (i = 0 ∧ op ≠ 12 ∨ i = 1 ∧ op = 11) → J i W → YieldAt Fence.wide 2 Tryz.prog (w.heap.size + 1) #[.pointer (some ⟨b, 4 + i, none⟩)] W fun e W' => e = .returned (.bool true) ∧ J (i + 1) W' := by (
 rintro i W hi ⟨hw, hl, hd⟩
 have hlt : w.heap.size + 1 < W.heap.size := (Array.getElem?_eq_some_iff.1 hl).1
 have hy := run_yield (P := Tryz.prog) (args := #[.pointer (some ⟨b, 4 + i, none⟩)]) hl (by rw [hmk]; rfl)
 rw [hmk] at hy
 have hy' : (Instr.yield (w.heap.size + 1) #[.pointer (some ⟨b, 4 + i, none⟩)]).run Tryz.prog W = .ok (.round (w.heap.size + 1) fn (a.tmps.setIfInBounds p (.pointer (some ⟨b, 4 + i, none⟩))) assign body) W := by (
 have hz : ((#[p] : Array Tmp).zip (#[.pointer (some ⟨b, 4 + i, none⟩)] : Array Value)).foldl (fun tmps (t, v) => tmps.setIfInBounds t v) a.tmps = a.tmps.setIfInBounds p (.pointer (some ⟨b, 4 + i, none⟩)) := by simp
 rw [← hz]
 exact hy)
 obtain ⟨a₁, hassign, hbd⟩ := hbody (w.heap.size + 1) i hi
 refine ⟨fn, _, assign, body, hy', roundIn_of_wpIn hfn (hassign W _ ⟨_, run_beginRound hl (by rw [hmk]), ?_⟩)⟩
 obtain ⟨W1, hW1⟩ : ∃ W1 : World, W1 = W.putObj (w.heap.size + 1) (.loop { mk .ready none with state := .busy }) := ⟨_, rfl⟩
 rw [← hW1]
 have hl1 : W1.heap[w.heap.size + 1]? = some (.loop { mk .ready none with state := .busy }) := by rw [hW1]; exact World.putObj_heap_same hlt
 have hd1 : W1.heap[w.heap.size]? = some (.deferred (some [])) := by rw [hW1]; exact (World.putObj_heap_other (by omega)).trans hd
 have hw1 : I i W1 := by rw [hW1]; exact hI.putObj _ hw (by omega) hl rfl
 refine wpIn_mono (hbd W1 hw1) ?_
 rintro e a3 W3 hp
 cases e with
 | normal =>
  obtain ⟨hk, hn⟩ := hp
  have hl3 := hk.same _ _ (by omega) hl1 rfl
  have hd3 := hk.same _ _ (Nat.le_refl _) hd1 rfl
  have hr := run_endRound (P := Tryz.prog) none hl3
  refine ⟨_, _, hr, rfl, hI.putObj _ hn (by omega) hl3 rfl, ?_, (World.putObj_heap_other (by omega)).trans hd3⟩
  rw [World.putObj_heap_same (Array.getElem?_eq_some_iff.1 hl3).1, hmk]
  rfl
 | ret => exact hp.elim
 | exit id => exact hp.elim
 | goto t => exact hp.elim
 | panic ch => exact hp.elim
 | outgrown => exact hp.elim)
 refine ⟨w.heap.size + 1, [{ target := .collected w.heap.size, args := #[] }], V, { target := .fn (.func 100) #[.pointer (some ⟨gb, 0, none⟩)], args := #[.func (.yield (w.heap.size + 1)) #[] #[]] }, V, 100,
  #[.func (.yield (w.heap.size + 1)) #[] #[], .pointer (some ⟨gb, 0, none⟩)], V, ?_, ?_, fun _ _ => trivial, ?_, fun _ => by omega, ?_⟩
 · rw [← hV, hmk]; exact run_enterLoop_outer _ _ _ _ _
 · (
 simp only [resolve, hg]
 simp [go_sem])
 · (
 have he := enters_of Tryz.func100 (by kernel_rfl) rfl
 simp [invoke, go_sem, he])
 · (
 refine (exits1_in Fence.wide 3 trivial rfl (by omega) (w.heap.size + 1) gb b op J (fun i W h => hc i W h.1) (fun h W hj => round 0 W (.inl ⟨rfl, h⟩) hj) (fun h W hj => round 1 W (.inr ⟨rfl, h⟩) hj) V (And.intro iV (And.intro lV dV))).mono ?_
 rintro e W2 ⟨⟨v, rfl⟩, hw, hl, hd⟩
 have hend := run_endLoop (P := Tryz.prog) hl (by rw [hmk]; simp)
 have hpe : (mk .ready none).pending = none := by rw [hmk]
 rw [hpe] at hend
 refine ⟨none, _, hend, ?_⟩
 exact hdone _ _ (Nat.le_refl _) (hI.putObj _ hw (by omega) hl rfl) ((World.putObj_heap_other (by omega)).trans hd)))
end
section
open Go.RowKit
def wcnt (l : List Nd) (k m : Nat) : Nat := (sel (aheadP l m) k).length
theorem wcnt_all (l : List Nd) (m : Nat) : wcnt l l.length m = ways l m := by simp [wcnt, ways]
theorem wcnt_le (l : List Nd) (k m : Nat) : wcnt l k m ≤ k := sel_len _ _
def wmid (n : Nd) (i m : Nat) : Nat := (if 1 ≤ i ∧ n.t = (m : Int) then 1 else 0) + (if 2 ≤ i ∧ n.e = (m : Int) ∧ n.e ≠ n.t then 1 else 0)
theorem wmid_zero (n : Nd) (m : Nat) : wmid n 0 m = 0 := by simp [wmid]
theorem wcnt_succ {l : List Nd} {k : Nat} {n : Nd} (h : l[k]? = some n) (m : Nat) : wcnt l (k + 1) m = wcnt l k m + wmid n (exitN n.op) m := by (
 have hp : aheadP l m k = leadsB n m := aheadP_eq h
 have hw : wmid n (exitN n.op) m = if leadsB n m = true then 1 else 0 := by (
 unfold wmid exitN leadsB
 by_cases h12 : n.op = 12
 · simp [h12]
 · (
 by_cases h11 : n.op = 11
 · (
 by_cases ht : n.t = (m : Int)
 · (
 by_cases he : n.e = (m : Int)
 · simp [h11, ht, he]
 · simp [h11, ht, he])
 · (
 by_cases he : n.e = (m : Int)
 · (
 have : n.e ≠ n.t := by omega
 simp [h11, ht, he]
 omega)
 · simp [h11, ht, he]))
 · (
 by_cases ht : n.t = (m : Int)
 · simp [h12, h11, ht]
 · simp [h12, h11, ht])))
 unfold wcnt
 rw [hw]
 cases hl : leadsB n m with
 | true => rw [sel_succ_true (hp.trans hl)]; simp
 | false => rw [sel_succ_false (hp.trans hl)]; simp)
def lastOf (n : Nd) (i : Nat) : Int := if i = 0 then 0 else if i = 1 then n.t else n.e
theorem wmid_new {n : Nd} {i mm : Nat} (h : (i = 0 ∧ n.t = mm) ∨ (i = 1 ∧ n.e = mm)) (hm : 1 ≤ mm) (hl : (mm : Int) ≠ lastOf n i) (m : Nat) : wmid n (i + 1) m = wmid n i m + (if m = mm then 1 else 0) := by (
 rcases h with ⟨rfl, h⟩ | ⟨rfl, h⟩
 · (
 unfold wmid
 rw [h]
 by_cases hmm : m = mm
 · subst hmm; simp
 · (
 have : ¬ ((mm : Int) = (m : Int)) := by omega
 simp [hmm, this]))
 · (
 unfold wmid lastOf at *
 simp only [Nat.one_ne_zero, ↓reduceIte] at hl
 rw [h]
 by_cases hmm : m = mm
 · (
 subst hmm
 simp [hl])
 · (
 have : ¬ ((mm : Int) = (m : Int)) := by omega
 simp [hmm, this])))
theorem wmid_old {n : Nd} {i mm : Nat} (h : (i = 0 ∧ n.t = mm) ∨ (i = 1 ∧ n.e = mm)) (hm : 1 ≤ mm) (hl : (mm : Int) = lastOf n i) (m : Nat) : wmid n (i + 1) m = wmid n i m := by (
 rcases h with ⟨rfl, h⟩ | ⟨rfl, h⟩
 · (
 unfold lastOf at hl
 simp at hl
 omega)
 · (
 unfold wmid lastOf at *
 simp only [Nat.one_ne_zero, ↓reduceIte] at hl
 have : n.e = n.t := by omega
 simp [this]))
theorem lastOf_succ {n : Nd} {i mm : Nat} (h : (i = 0 ∧ n.t = mm) ∨ (i = 1 ∧ n.e = mm)) : lastOf n (i + 1) = mm := by (
 rcases h with ⟨rfl, h⟩ | ⟨rfl, h⟩ <;> simp [lastOf, h])
theorem wmid_le (n : Nd) (i m : Nat) : wmid n i m ≤ 2 := by unfold wmid; split <;> split <;> omega
end
section
open Go.RowKit
def xmid (l : List Nd) (n : Nd) (N : Nat) : Nat → Nd
 | 0 => n
 | 1 => { n with t := if 2 ≤ ways l n.t then (N : Int) else n.t }
 | _ => { n with t := if 2 ≤ ways l n.t then (N : Int) else n.t, e := if n.e = n.t then (if 2 ≤ ways l n.t then (N : Int) else n.t) else if 2 ≤ ways l n.e then ((N + (skips1 l n).length : Nat) : Int) else n.e }
def smid (l : List Nd) (n : Nd) : Nat → List Nd
 | 0 => []
 | 1 => skips1 l n
 | _ => skips1 l n ++ (if n.e ≠ n.t ∧ 2 ≤ ways l n.e then [skipN n.e] else [])
theorem xmid_op (l : List Nd) (n : Nd) (N i : Nat) : (xmid l n N i).op = n.op := by (
 rcases i with _ | _ | i <;> rfl)
theorem smid_len (l : List Nd) (n : Nd) (i : Nat) : (smid l n i).length ≤ 2 := by (
 have := skips1_len l n
 rcases i with _ | _ | i
 · simp [smid]
 · simp only [smid]; omega
 · simp only [smid, List.length_append]; split <;> simp <;> omega)
theorem mid_end {l : List Nd} {n : Nd} {k : Nat} {out : List Nd} (h0 : n.op ≠ 0) (hk : out[k]? = some n) : splitStep l k n out = out.set k (xmid l n out.length (exitN n.op)) ++ smid l n (exitN n.op) := by (
 have hko : k < out.length := (List.getElem?_eq_some_iff.1 hk).1
 by_cases h12 : n.op = 12
 · (
 rw [splitStep_skip (.inr h12)]
 simp [exitN, h12, xmid, smid, set_self hk])
 · (
 rw [splitStep_once hko h0 h12]
 by_cases h11 : n.op = 11
 · (
 have he : exitN n.op = 2 := by simp [exitN, h11]
 rw [he]
 by_cases hw : 2 ≤ ways l n.t
 · (
 by_cases het : n.e = n.t
 · simp [xmid, smid, split2, split1, elseB, skips2, hw, het, h11]
 · (
 by_cases hwe : 2 ≤ ways l n.e
 · simp [xmid, smid, split2, split1, elseB, skips2, hw, het, h11, hwe]
 · simp [xmid, smid, split2, split1, elseB, skips2, hw, het, h11, hwe]))
 · (
 by_cases het : n.e = n.t
 · (
 rcases n with ⟨op, d, a, b, t, e⟩
 simp only at *
 subst het
 simp [xmid, smid, split2, split1, elseB, skips2, skips1, hw, h11])
 · (
 by_cases hwe : 2 ≤ ways l n.e
 · (
 rcases n with ⟨op, d, a, b, t, e⟩
 simp only at *
 simp [xmid, smid, split2, split1, elseB, skips2, skips1, hw, het, h11, hwe])
 · (
 rcases n with ⟨op, d, a, b, t, e⟩
 simp only at *
 simp [xmid, smid, split2, split1, elseB, skips2, skips1, hw, het, h11, hwe]))))
 · (
 have he : exitN n.op = 1 := by simp [exitN, h12, h11]
 rw [he]
 by_cases hw : 2 ≤ ways l n.t
 · simp [xmid, smid, split2, split1, elseB, skips2, hw, h11]
 · simp [xmid, smid, split2, split1, elseB, skips2, hw, h11])))
theorem mid_t_more {l : List Nd} {n : Nd} {N : Nat} (h : 2 ≤ ways l n.t) : xmid l n N 1 = n.put 4 N ∧ smid l n 1 = smid l n 0 ++ [skipN n.t] := by (
 simp [xmid, smid, skips1, h, Nd.put])
theorem mid_t_one {l : List Nd} {n : Nd} {N : Nat} (h : ¬ 2 ≤ ways l n.t) : xmid l n N 1 = n ∧ smid l n 1 = smid l n 0 := by (
 simp [xmid, smid, skips1, h])
theorem mid_e_same {l : List Nd} {n : Nd} {N : Nat} (h : n.e = n.t) : xmid l n N 2 = (xmid l n N 1).put 5 (xmid l n N 1).t ∧ smid l n 2 = smid l n 1 := by (
 simp [xmid, smid, h, Nd.put])
theorem mid_e_more {l : List Nd} {n : Nd} {N : Nat} (he : n.e ≠ n.t) (h : 2 ≤ ways l n.e) : xmid l n N 2 = (xmid l n N 1).put 5 ((N + (smid l n 1).length : Nat) : Int) ∧ smid l n 2 = smid l n 1 ++ [skipN n.e] := by (
 simp [xmid, smid, he, h, Nd.put])
theorem mid_e_one {l : List Nd} {n : Nd} {N : Nat} (he : n.e ≠ n.t) (h : ¬ 2 ≤ ways l n.e) : xmid l n N 2 = xmid l n N 1 ∧ smid l n 2 = smid l n 1 := by (
 simp [xmid, smid, he, h])
theorem mid_more {l : List Nd} {n : Nd} {N i mm : Nat} (h : (i = 0 ∧ n.t = (mm : Int)) ∨ (i = 1 ∧ n.e = (mm : Int) ∧ n.e ≠ n.t)) (hw : 2 ≤ ways l mm) :
 xmid l n N (i + 1) = (xmid l n N i).put (4 + i) ((N + (smid l n i).length : Nat) : Int) ∧ smid l n (i + 1) = smid l n i ++ [skipN mm] := by (
 rcases h with ⟨rfl, h⟩ | ⟨rfl, h, hne⟩
 · (
 rw [← h] at hw ⊢
 obtain ⟨h1, h2⟩ := mid_t_more (N := N) hw
 exact ⟨h1, h2⟩)
 · (
 rw [← h] at hw ⊢
 exact mid_e_more hne hw))
theorem mid_one {l : List Nd} {n : Nd} {N i mm : Nat} (h : (i = 0 ∧ n.t = (mm : Int)) ∨ (i = 1 ∧ n.e = (mm : Int) ∧ n.e ≠ n.t)) (hw : ¬ 2 ≤ ways l mm) :
 xmid l n N (i + 1) = xmid l n N i ∧ smid l n (i + 1) = smid l n i := by (
 rcases h with ⟨rfl, h⟩ | ⟨rfl, h, hne⟩
 · (
 rw [← h] at hw
 exact mid_t_one hw)
 · (
 rw [← h] at hw
 exact mid_e_one hne hw))
theorem xmid_t (l : List Nd) (n : Nd) (N : Nat) : (xmid l n N 0).t = n.t := rfl
theorem xmid_e (l : List Nd) (n : Nd) (N : Nat) : (xmid l n N 1).e = n.e := rfl
end
section
open Go.RowKit
set_option maxHeartbeats 4000000
attribute [local irreducible] Row madeCells
theorem flip_ne {a b : Option Nat} (h : a = none ∨ a ≠ b) : b = none ∨ b ≠ a := by (
 rcases b with _ | b
 · exact .inl rfl
 · (
 rcases h with h | h
 · exact .inr (by rw [h]; simp)
 · exact .inr h.symm))
theorem map_const_range (z : Value) (n : Nat) : ((List.range n).map fun _ => z) = List.replicate n z := by rw [List.map_const', List.length_range]
theorem TrimOf_any (regs : Int) (A : Option Addr) (l : List Nd) (cap : Nat) (w : World) (hA : NodesAt w A l) (hR : Right regs l) :
 Calls Tryz.prog 51 #[.agg #[.int .i64 regs, .slice A l.length cap]] w (ProgPost w.heap.size 57 regs (trimL l) w) := by (
 have hlo := hR.lo
 have hhi := hR.hi
 have hO := fun W (hW : Below w.heap.size w W) => ReachOf_any regs A l cap W (hA.below hW) hR
 have HO := hide hO
 have HR := hide hR
 clear hO hR
 obtain ⟨ib, hbi, hbz, hbs, hbb⟩ := info_parts infoInt
 have hmk := run_make1 (P := Tryz.prog) 65 3 ib _ 8 Tryz.underlying65 hbi hbz hbs hbb (by omega) rfl l.length (by omega)
 obtain ⟨i3, h3i, h3z, h3s, h3b⟩ := info_parts infoNode
 go_enter Tryz.func51, Tryz.ntmps51
 go_wp2_with fail
 refine (HO.out _ (by (with_reducible repeat first | apply Qa | assumption | apply Qb | apply Qc | apply Qd | apply Qe | refine Qf ?_ (by assumption) ?_); all_goals (try simp only [Sz]); first | done | omega | (try simp only [Sz] at *); omega)).mono ?_
 rintro e w1 ⟨v1, rfl, hX1, hb1⟩
 obtain ⟨A1, c1, rfl, _, _⟩ := hX1.shape
 rw [bools_length, reachL_len] at hX1 ⊢
 have hxl : (reachL l).length = l.length := reachL_len l
 have hz1 := hb1.size
 simp only [World.size_alloc] at hz1
 have hP1 : Blk w1 w.heap.size 24 #[.int .i64 regs, .slice A l.length cap] := Blk.below (by repeat (first | ((with_reducible refine Blk.new' ?_); exact (by (try simp only [Sz]); first | done | omega | (try simp only [Sz] at *); omega)) | (with_reducible refine Blk.drew ?_) | (with_reducible refine Blk.drewN ?_ _) | (with_reducible refine Blk.alloc ?_ _) | with_reducible assumption)) hb1 (by simp <;> omega)
 have hO1 : Blk w1 (w.heap.size + 1) 24 #[.int .i64 0, .slice none 0 0] := Blk.below (by repeat (first | ((with_reducible refine Blk.new' ?_); exact (by (try simp only [Sz]); first | done | omega | (try simp only [Sz] at *); omega)) | (with_reducible refine Blk.drew ?_) | (with_reducible refine Blk.drewN ?_ _) | (with_reducible refine Blk.alloc ?_ _) | with_reducible assumption)) hb1 (by simp <;> omega)
 have hB1 : Below w.heap.size w w1 := Below.trans (by (with_reducible repeat first | apply Qa | assumption | apply Qb | apply Qc | apply Qd | apply Qe | refine Qf ?_ (by assumption) ?_); all_goals (try simp only [Sz]); first | done | omega | (try simp only [Sz] at *); omega) (hb1.mono (by simp <;> omega))
 have hX1' := hX1.mono (base' := w.heap.size) (by simp <;> omega)
 have p0 := hP1.cell 0
 have p1 := hP1.cell 1
 simp only [Yl] at p0 p1
 generalize hx : reachL l = x at *
 have Hx := hide hx
 clear hx hb1 HO hX1
 go_wp2_with fail
 have hW0 : Row (w1.alloc (.cells (madeCells #[.int .i64 0] l.length) 3)) w.heap.size 3 (.slice (some ⟨w1.heap.size, 0, none⟩) l.length l.length) ((List.range l.length).map fun _ => .int .i64 0) := by (
 have h : Row (w1.alloc (.cells (madeCells #[.int .i64 0] l.length) 3)) w.heap.size 3 (.slice (some ⟨w1.heap.size, 0, none⟩) l.length l.length) (List.replicate l.length (.int .i64 0)) := Row.made1' rfl (by omega) (by omega)
 rwa [← map_const_range] at h)
 go_loopg [5, 6] (l.length) (fun gk m i wr => ∃ (k : Nat) (vs : Nat → Value), k ≤ l.length ∧ m = .int .i64 (rk x k) ∧ i = .int .i64 k ∧ gk = l.length - k ∧ (∀ j, j < k → yn x j = true → vs j = .int .i64 (rk x j)) ∧
  Row wr w.heap.size 3 (.slice (some ⟨w1.heap.size, 0, none⟩) l.length l.length) ((List.range l.length).map vs) ∧ Row wr w.heap.size 4 (.slice A1 l.length c1) (bools x) ∧
  Blk wr w.heap.size 24 #[.int .i64 regs, .slice A l.length cap] ∧ Blk wr (w.heap.size + 1) 24 #[.int .i64 0, .slice none 0 0] ∧ Below w.heap.size w wr)
 case atStart => exact ⟨0, _, Nat.zero_le _, rfl, rfl, rfl, fun j hj => absurd hj (Nat.not_lt_zero _), hW0, hX1'.alloc _, hP1.alloc _, hO1.alloc _, (by (with_reducible repeat first | apply Qa | assumption | apply Qb | apply Qc | apply Qd | apply Qe | refine Qf ?_ (by assumption) ?_); all_goals (try simp only [Sz]); first | done | omega | (try simp only [Sz] at *); omega)⟩
 case round => (
 clear hmk hW0 hX1' hP1 hO1 hB1 p0 p1
 obtain ⟨k, vs, hk, rfl, rfl, hgk, hv, hW, hX, hP, hO, hB⟩ := hrel
 have Hgk := hide hgk
 have Hv := hide hv
 have p0 := hP.cell 0
 have p1 := hP.cell 1
 simp only [Yl] at p0 p1
 clear hgk hv
 have hrl := rk_le x k
 by_cases hlt : k < l.length
 · (
 obtain ⟨gx, ox, cx, ex, hgx, hlx, ck, fk⟩ := hX.bool (k := k) (by rw [hxl]; exact hlt)
 injection ex with ex e1 e2
 subst ex e2
 clear e1
 have q0 : (0 : Int) ≤ (k : Int) := by omega
 have q1 : (k : Int) < (l.length : Int) := by omega
 have fw := tabfree hW hlt
 have cw := tabcell hW hlt
 have hne := hW.ne_blk hP (by decide)
 have hne2 := hW.ne_blk hO (by decide)
 have hne3 := hX.ne_row hW (by decide)
 have HW := hide hW
 have HX := hide hX
 have HP := hide hP
 have HO := hide hO
 have Hne := hide hne
 have Hne2 := hide hne2
 have Hne3 := hide hne3
 clear hW hX hP hO hne hne2 hne3
 cases hxk : yn x k
 case false => (
 rw [hxk] at ck
 have Hxk := hide hxk
 clear hxk
 go_wp2_with fail
 go_roundg (l.length - (k + 1))
 case measure => have := Hgk.out; omega
 case rel => exact ⟨k + 1, vs, by omega, by rw [rk_no Hxk.out], by go_num, rfl, fun j hj hy => Hv.out j (by
  by_cases hjk : j = k
  · subst hjk; rw [Hxk.out] at hy; cases hy
  · omega) hy, HW.out, HX.out, HP.out, HO.out, hB⟩)
 case true => (
 rw [hxk] at ck
 have Hxk := hide hxk
 clear hxk
 go_wp2_with fail
 go_roundg (l.length - (k + 1))
 case measure => have := Hgk.out; omega
 case rel => (
 have hst := HW.out.store k (.int .i64 (rk x k))
 rw [Nat.zero_add, map_range_set _ _ hlt] at hst
 refine ⟨k + 1, upd vs k (.int .i64 (rk x k)), by omega, by rw [rk_yes Hxk.out]; go_num, by go_num, rfl, fun j hj hy => ?_, hst, HX.out.far ?_ _, HP.out.far ?_ _, HO.out.far ?_ _, hB.setCell (by simp <;> omega) _⟩
 · (
 by_cases hjk : j = k
 · subst hjk; rw [upd_same]
 · rw [upd_other _ _ hjk]; exact Hv.out j (by omega) hy)
 · (
 have := Hne3.out
 rcases this with h | h
 · rw [h]; simp
 · exact h)
 · intro e; exact Hne.out (by simp only [Value.ownBlock]; exact congrArg some e.symm)
 · intro e; exact Hne2.out (by simp only [Value.ownBlock]; exact congrArg some e.symm))))
 · (
 have hkk : k = l.length := by omega
 subst hkk
 have HW := hide hW
 have HX := hide hX
 have HP := hide hP
 have HO := hide hO
 clear Hgk hlt hk hW hX hP hO
 go_wp2_with fail
 obtain ⟨wo, rfl⟩ : ∃ wo : World, wo = wr := ⟨_, rfl⟩
 obtain ⟨gk3, rfl⟩ : ∃ gk3 : Nat, gk3 = gk := ⟨_, rfl⟩
 have hzo := HO.out.lt
 go_loopg [8] (l.length) (fun gk i wr => ∃ (k : Nat) (v : Value), k ≤ l.length ∧ i = .int .i64 k ∧ gk = l.length - k ∧ NRow wr w.heap.size 57 v (trimTo x l k) ∧ Blk wr wo.heap.size 24 #[.int .i64 regs, v] ∧
  Row wr w.heap.size 3 (.slice (some ⟨w1.heap.size, 0, none⟩) l.length l.length) ((List.range l.length).map vs) ∧ Row wr w.heap.size 4 (.slice A1 l.length c1) (bools x) ∧
  Blk wr w.heap.size 24 #[.int .i64 regs, .slice A l.length cap] ∧ Blk wr (w.heap.size + 1) 24 #[.int .i64 0, .slice none 0 0] ∧ Below w.heap.size w wr)
 case atStart => exact ⟨0, _, Nat.zero_le _, rfl, rfl, NRow.nil_ _ _ _, (by repeat (first | ((with_reducible refine Blk.new' ?_); exact (by (try simp only [Sz]); first | done | omega | (try simp only [Sz] at *); omega)) | (with_reducible refine Blk.drew ?_) | (with_reducible refine Blk.drewN ?_ _) | (with_reducible refine Blk.alloc ?_ _) | with_reducible assumption)), HW.out.alloc _, HX.out.alloc _, HP.out.alloc _, HO.out.alloc _, (by (with_reducible repeat first | apply Qa | assumption | apply Qb | apply Qc | apply Qd | apply Qe | refine Qf ?_ (by assumption) ?_); all_goals (try simp only [Sz]); first | done | omega | (try simp only [Sz] at *); omega)⟩
 case round => (
 clear HW HX HP HO hB p0 p1
 obtain ⟨k, v, hk, rfl, hgk, hN, hQ, hW, hX, hP, hO, hB⟩ := hrel
 have Hgk := hide hgk
 have hz := hB.size
 have p0 := hP.cell 0
 have p1 := hP.cell 1
 have q0 := hQ.cell 0
 have q1 := hQ.cell 1
 have fq := hQ.frozen 1
 simp only [Yl] at p0 p1 q0 q1
 clear hgk
 by_cases hlt : k < l.length
 · (
 obtain ⟨n, hn⟩ : ∃ n, l[k]? = some n := ⟨_, List.getElem?_eq_getElem hlt⟩
 obtain ⟨nb, no, n', rfl, hnb, hn', hnl⟩ := (hA.below hB).get (k := k) hlt
 rw [hn] at hn'
 injection hn' with hn'
 subst hn'
 obtain ⟨c0, c1, c2, c3, c4, c5⟩ := hnl
 have hm := List.mem_of_getElem? hn
 obtain ⟨gx, ox, cx, ex, hgx, hlx, ck, fk⟩ := hX.bool (k := k) (by rw [hxl]; exact hlt)
 injection ex with ex e1 e2
 subst ex e2
 clear e1
 have q0 : (0 : Int) ≤ (k : Int) := by omega
 have q1 : (k : Int) < (l.length : Int) := by omega
 have Hn := hide hn
 have HN := hide hN
 have HQ := hide hQ
 have HW := hide hW
 have HX := hide hX
 have HP := hide hP
 have HO := hide hO
 clear hn hN hQ hW hX hP hO hA
 cases hxk : yn x k
 case false => (
 rw [hxk] at ck
 have Hxk := hide hxk
 clear hxk
 go_wp2_with fail
 go_roundg (l.length - (k + 1))
 case measure => have := Hgk.out; omega
 case rel => exact ⟨k + 1, v, by omega, by go_num, rfl, by rw [trimTo_no Hxk.out]; exact HN.out, HQ.out, HW.out, HX.out, HP.out, HO.out, hB⟩)
 case true => (
 rw [hxk] at ck
 have Hxk := hide hxk
 have hlen := trimTo_len x l k
 have hlen2 : (trimTo x l k ++ [trimN x n]).length = rk x k + 1 := by simp [hlen]
 have hneP := HN.out.ne_blk HP.out (by decide)
 have hneO := HN.out.ne_blk HO.out (by decide)
 have hneW := flip_ne (HN.out.ne_row HW.out (by decide))
 have hneX := flip_ne (HN.out.ne_row HX.out (by decide))
 have hrl := rk_le x k
 have lq := HQ.out.lt
 clear hxk
 have hneQ := HN.out.ne_blk HQ.out (by decide)
 by_cases h12 : n.op = 12
 · (
 have t12 : (n.op != 12) = false := by simp [h12]
 have t11 : (n.op == 11) = false := by simp [h12]
 have hy : trimN x n = ⟨n.op, n.d, n.a, n.b, n.t, n.e⟩ := by simp [trimN, h12]
 have Hy := hide hy
 clear h12 hy
 (go_wp2_with (at_builtin; refine wpList_append_nodes (v := v) (l := trimTo x l k) (base := w.heap.size) rfl _ _ _ rfl i3 _ 48 Tryz.underlying22 h3i h3z h3s h3b rfl rfl (by repeat (first | exact HN.out | (with_reducible refine NRow.alloc ?_ _) | (with_reducible refine NRow.drew ?_) | (with_reducible refine NRow.drewN ?_ _))) (some ⟨wr.heap.size + 1, 0, none⟩) 1 1 [trimN x n] rfl rfl (by rw [Hy.out]; exact nodes_one' (by simp)) (by simp [maxLen]; omega) (by simp; omega) (by simp; omega) ?_; intro v2 w2 hr2 hg2 hat2; obtain ⟨A2, c2, hv2, _, _⟩ := hr2.shape; subst hv2; rw [hlen2] at hr2 hat2; try rw [hlen2]; have hQ2 : Blk w2 wo.heap.size 24 #[.int .i64 regs, v] := Blk.grown (by repeat (first | exact HQ.out | (with_reducible refine Blk.alloc ?_ _))) hg2 hneQ; have r1 := hQ2.cell 1; have r2 := hQ2.frozen 1; simp only [Yl] at r1); go_roundg (l.length - (k + 1)); (case measure => (have := Hgk.out; omega)); (case rel => exact ⟨k + 1, .slice A2 (rk x k + 1) c2, by omega, by go_num, rfl, by rw [trimTo_yes Hxk.out Hn.out]; exact hr2.far (hr2.ne_blk hQ2 (by decide)) _, hQ2.set_ 1 _, (Row.kept (by repeat (first | exact HW.out | (with_reducible refine Row.alloc ?_ _) | (with_reducible refine Blk.alloc ?_ _))) hg2 hneW).far (Row.ne_blk (by repeat (first | exact HW.out | (with_reducible refine Row.alloc ?_ _) | (with_reducible refine Blk.alloc ?_ _))) (by repeat (first | exact HQ.out | (with_reducible refine Row.alloc ?_ _) | (with_reducible refine Blk.alloc ?_ _))) (by decide)) _, (Row.kept (by repeat (first | exact HX.out | (with_reducible refine Row.alloc ?_ _) | (with_reducible refine Blk.alloc ?_ _))) hg2 hneX).far (Row.ne_blk (by repeat (first | exact HX.out | (with_reducible refine Row.alloc ?_ _) | (with_reducible refine Blk.alloc ?_ _))) (by repeat (first | exact HQ.out | (with_reducible refine Row.alloc ?_ _) | (with_reducible refine Blk.alloc ?_ _))) (by decide)) _, (Blk.grown (by repeat (first | exact HP.out | (with_reducible refine Row.alloc ?_ _) | (with_reducible refine Blk.alloc ?_ _))) hg2 hneP).far (by simp <;> omega) _, (Blk.grown (by repeat (first | exact HO.out | (with_reducible refine Row.alloc ?_ _) | (with_reducible refine Blk.alloc ?_ _))) hg2 hneO).far (by simp <;> omega) _, (((hB.alloc hz _).alloc (by simp <;> omega) _).grown hg2 (by simp <;> omega) (fun q hq => (HN.out.lt q hq).1)).setCell (by simp <;> omega) _⟩)))
 · (
 obtain ⟨t0, t1⟩ := HR.out.then_ hm h12
 obtain ⟨tt, htt⟩ := Int.eq_ofNat_of_zero_le (show 0 ≤ n.t by omega)
 have hld := leads_then h12
 rw [htt] at hld
 have hbnd : ∀ m : Nat, leadsB n m = true → m < l.length := by (
 intro m hlm
 rcases leads_cases hlm with ⟨h12, rfl'⟩ | ⟨h11, rfl'⟩
 · have := HR.out.then_ hm h12; omega
 · have := HR.out.else_ hm h11; omega)
 have htl : tt < l.length := by omega
 have hyt : yn x tt = true := by rw [← Hx.out]; exact reach_shut (by rw [Hx.out]; exact Hxk.out) Hn.out hld hbnd
 have ct := tabcell HW.out htl
 rw [Hv.out tt htl hyt] at ct
 have t0' : (0 : Int) ≤ (tt : Int) := by omega
 have t1' : (tt : Int) < (l.length : Int) := by omega
 have t12 : (n.op != 12) = true := by simp [h12]
 rw [htt] at c4
 have htn : n.t.toNat = tt := by omega
 have lw := rowlt HW.out
 by_cases h11 : n.op = 11
 · (
 obtain ⟨s0, s1⟩ := HR.out.else_ hm h11
 obtain ⟨ee, hee⟩ := Int.eq_ofNat_of_zero_le (show 0 ≤ n.e by omega)
 have hld2 := leads_else h11
 rw [hee] at hld2
 have hel : ee < l.length := by omega
 have hye : yn x ee = true := by rw [← Hx.out]; exact reach_shut (by rw [Hx.out]; exact Hxk.out) Hn.out hld2 hbnd
 have ce := tabcell HW.out hel
 rw [Hv.out ee hel hye] at ce
 have e0' : (0 : Int) ≤ (ee : Int) := by omega
 have e1' : (ee : Int) < (l.length : Int) := by omega
 have t11 : (n.op == 11) = true := by simp [h11]
 rw [hee] at c5
 have hen : n.e.toNat = ee := by omega
 have hy : trimN x n = ⟨n.op, n.d, n.a, n.b, (rk x tt : Nat), (rk x ee : Nat)⟩ := by simp [trimN, h11, htn, hen]
 have Hy := hide hy
 clear h12 h11 hy htt hee hld hld2 hbnd hyt hye t0 t1 s0 s1 htn hen
 (go_wp2_with (at_builtin; refine wpList_append_nodes (v := v) (l := trimTo x l k) (base := w.heap.size) rfl _ _ _ rfl i3 _ 48 Tryz.underlying22 h3i h3z h3s h3b rfl rfl (by repeat (first | exact HN.out | (with_reducible refine NRow.alloc ?_ _) | (with_reducible refine NRow.drew ?_) | (with_reducible refine NRow.drewN ?_ _))) (some ⟨wr.heap.size + 1, 0, none⟩) 1 1 [trimN x n] rfl rfl (by rw [Hy.out]; exact nodes_one' (by simp)) (by simp [maxLen]; omega) (by simp; omega) (by simp; omega) ?_; intro v2 w2 hr2 hg2 hat2; obtain ⟨A2, c2, hv2, _, _⟩ := hr2.shape; subst hv2; rw [hlen2] at hr2 hat2; try rw [hlen2]; have hQ2 : Blk w2 wo.heap.size 24 #[.int .i64 regs, v] := Blk.grown (by repeat (first | exact HQ.out | (with_reducible refine Blk.alloc ?_ _))) hg2 hneQ; have r1 := hQ2.cell 1; have r2 := hQ2.frozen 1; simp only [Yl] at r1); go_roundg (l.length - (k + 1)); (case measure => (have := Hgk.out; omega)); (case rel => exact ⟨k + 1, .slice A2 (rk x k + 1) c2, by omega, by go_num, rfl, by rw [trimTo_yes Hxk.out Hn.out]; exact hr2.far (hr2.ne_blk hQ2 (by decide)) _, hQ2.set_ 1 _, (Row.kept (by repeat (first | exact HW.out | (with_reducible refine Row.alloc ?_ _) | (with_reducible refine Blk.alloc ?_ _))) hg2 hneW).far (Row.ne_blk (by repeat (first | exact HW.out | (with_reducible refine Row.alloc ?_ _) | (with_reducible refine Blk.alloc ?_ _))) (by repeat (first | exact HQ.out | (with_reducible refine Row.alloc ?_ _) | (with_reducible refine Blk.alloc ?_ _))) (by decide)) _, (Row.kept (by repeat (first | exact HX.out | (with_reducible refine Row.alloc ?_ _) | (with_reducible refine Blk.alloc ?_ _))) hg2 hneX).far (Row.ne_blk (by repeat (first | exact HX.out | (with_reducible refine Row.alloc ?_ _) | (with_reducible refine Blk.alloc ?_ _))) (by repeat (first | exact HQ.out | (with_reducible refine Row.alloc ?_ _) | (with_reducible refine Blk.alloc ?_ _))) (by decide)) _, (Blk.grown (by repeat (first | exact HP.out | (with_reducible refine Row.alloc ?_ _) | (with_reducible refine Blk.alloc ?_ _))) hg2 hneP).far (by simp <;> omega) _, (Blk.grown (by repeat (first | exact HO.out | (with_reducible refine Row.alloc ?_ _) | (with_reducible refine Blk.alloc ?_ _))) hg2 hneO).far (by simp <;> omega) _, (((hB.alloc hz _).alloc (by simp <;> omega) _).grown hg2 (by simp <;> omega) (fun q hq => (HN.out.lt q hq).1)).setCell (by simp <;> omega) _⟩)))
 · (
 have t11 : (n.op == 11) = false := by simp [h11]
 have hy : trimN x n = ⟨n.op, n.d, n.a, n.b, (rk x tt : Nat), n.e⟩ := by simp [trimN, h11, h12, htn]
 have Hy := hide hy
 clear h12 h11 hy htt hld hbnd hyt t0 t1 htn
 (go_wp2_with (at_builtin; refine wpList_append_nodes (v := v) (l := trimTo x l k) (base := w.heap.size) rfl _ _ _ rfl i3 _ 48 Tryz.underlying22 h3i h3z h3s h3b rfl rfl (by repeat (first | exact HN.out | (with_reducible refine NRow.alloc ?_ _) | (with_reducible refine NRow.drew ?_) | (with_reducible refine NRow.drewN ?_ _))) (some ⟨wr.heap.size + 1, 0, none⟩) 1 1 [trimN x n] rfl rfl (by rw [Hy.out]; exact nodes_one' (by simp)) (by simp [maxLen]; omega) (by simp; omega) (by simp; omega) ?_; intro v2 w2 hr2 hg2 hat2; obtain ⟨A2, c2, hv2, _, _⟩ := hr2.shape; subst hv2; rw [hlen2] at hr2 hat2; try rw [hlen2]; have hQ2 : Blk w2 wo.heap.size 24 #[.int .i64 regs, v] := Blk.grown (by repeat (first | exact HQ.out | (with_reducible refine Blk.alloc ?_ _))) hg2 hneQ; have r1 := hQ2.cell 1; have r2 := hQ2.frozen 1; simp only [Yl] at r1); go_roundg (l.length - (k + 1)); (case measure => (have := Hgk.out; omega)); (case rel => exact ⟨k + 1, .slice A2 (rk x k + 1) c2, by omega, by go_num, rfl, by rw [trimTo_yes Hxk.out Hn.out]; exact hr2.far (hr2.ne_blk hQ2 (by decide)) _, hQ2.set_ 1 _, (Row.kept (by repeat (first | exact HW.out | (with_reducible refine Row.alloc ?_ _) | (with_reducible refine Blk.alloc ?_ _))) hg2 hneW).far (Row.ne_blk (by repeat (first | exact HW.out | (with_reducible refine Row.alloc ?_ _) | (with_reducible refine Blk.alloc ?_ _))) (by repeat (first | exact HQ.out | (with_reducible refine Row.alloc ?_ _) | (with_reducible refine Blk.alloc ?_ _))) (by decide)) _, (Row.kept (by repeat (first | exact HX.out | (with_reducible refine Row.alloc ?_ _) | (with_reducible refine Blk.alloc ?_ _))) hg2 hneX).far (Row.ne_blk (by repeat (first | exact HX.out | (with_reducible refine Row.alloc ?_ _) | (with_reducible refine Blk.alloc ?_ _))) (by repeat (first | exact HQ.out | (with_reducible refine Row.alloc ?_ _) | (with_reducible refine Blk.alloc ?_ _))) (by decide)) _, (Blk.grown (by repeat (first | exact HP.out | (with_reducible refine Row.alloc ?_ _) | (with_reducible refine Blk.alloc ?_ _))) hg2 hneP).far (by simp <;> omega) _, (Blk.grown (by repeat (first | exact HO.out | (with_reducible refine Row.alloc ?_ _) | (with_reducible refine Blk.alloc ?_ _))) hg2 hneO).far (by simp <;> omega) _, (((hB.alloc hz _).alloc (by simp <;> omega) _).grown hg2 (by simp <;> omega) (fun q hq => (HN.out.lt q hq).1)).setCell (by simp <;> omega) _⟩))))))
 · (
 have hkk : k = l.length := by omega
 subst hkk
 have r0 := hO.cell 0
 have r1 := hO.cell 1
 have r2 := hO.frozen 0
 have r3 := hO.frozen 1
 simp only [Yl] at r0 r1
 have hne2 := hN.ne_blk hO (by decide)
 obtain ⟨A2, c2, hv2, _, _⟩ := hN.shape
 subst hv2
 have HN := hide hN
 have HQ := hide hQ
 have HO := hide hO
 have Hne := hide hne2
 clear hN hQ hW hX hP hO hA hne2
 go_wp2_with fail
 go_tidy
 refine bodyPost_ret (v := .agg #[.int .i64 regs, .slice A2 _ c2]) (by simp [results, Tryz.results51, go_sem, r0, r1, World.cell?_setCell_same, World.cell?_setCell_other]; rfl) rfl ?_
 refine ⟨_, rfl, ?_, (hB.setCell (by simp) _).setCell (by simp) _⟩
 unfold trimL
 rw [Hx.out]
 exact (HN.out.far Hne.out _).far Hne.out _)))))
end
section
open Go.RowKit Go.Maps Go.ChangeMaps
open Go.WideMaps (KeyLaw)
theorem setBlock_self {w : World} {b : Nat} {o : Obj} (h : w.heap[b]? = some o) : setBlock w b o = w := by (
 have he : w.heap.setIfInBounds b o = w.heap := by (
 apply Array.ext_getElem?
 intro i
 rw [Array.getElem?_setIfInBounds]
 split
 · (
 rename_i hi
 subst hi
 split
 · exact h.symm
 · (
 rename_i hlt
 rw [Array.getElem?_eq_none (by omega)] at h
 cases h))
 · rfl)
 unfold setBlock
 rw [he])
theorem setBlock_twice (w : World) (b : Nat) (o o' : Obj) : setBlock (setBlock w b o) b o' = setBlock w b o' := by (
 unfold setBlock
 simp)
theorem vint_inj {k : IntKind} {a b : Int} (h : Value.int k a = .int k b) : a = b := by injection h
theorem lint_inj {H : Type} {k : IntKind} {a b : Int} (h : (DataW.lit (.int k a) : DataW H) = .lit (.int k b)) : a = b := by injection h with h; injection h
theorem ok_world {α : Type} {a b : α} {w w' : World} (h : (Result.ok a w : Result α) = .ok b w') : w = w' := by cases h; rfl
theorem ok_val {α : Type} {a b : α} {w w' : World} (h : (Result.ok a w : Result α) = .ok b w') : a = b := by cases h; rfl
theorem map_bump {P : Program} {H : Type} {w : World} {t k e : TypeId} {b n : Nat} {D : DataW H} (KL : KeyLaw P k) (ht : P.underlying t = some (.map k e)) (he : P.underlying e = some (.int .i64))
 (hz : ∀ u : World, (zeroValue e).run P u = .ok (.int .i64 0) u) (h : w.ownsMap P k (plainElem P e) b n D) (hn : n < maxLen) {key : Value} {kl : Lit} (hkey : keyOf P k key = some kl) :
 ∃ c, (Instr.lookup t (.map (some b)) key false).run P w = .ok (.int .i64 c) w ∧ D.atKey kl (.lit (.int .i64 0)) = .lit (.int .i64 c) ∧
  ∃ v0 st w1, (Instr.mapEntry t (.map (some b)) key).run P w = .ok (.tuple #[v0, goInt st]) w1 ∧ w.grownBy w1 (some b) ∧ (Instr.lookup t (.map (some b)) key false).run P w1 = .ok (.int .i64 c) w1 ∧
   ∀ val, (Lit.int .i64 val).wf = true → ∃ w3, (Instr.entryStore t (.map (some b)) (goInt st) (.int .i64 val)).run P w1 = .ok () w3 ∧ w3.ownsMap P k (plainElem P e) b (n + 1) (D.put kl (.lit (.int .i64 val))) ∧ w1.grownBy w3 (some b) := by (
 have K : Keyed P k := Keyed.of_law KL
 have h0 := h
 obtain ⟨c, hlook, hat, hwc⟩ := h.lookup_int K ht he (hz w) hkey
 obtain ⟨es, clock, hb, F, hs, hD⟩ := h
 obtain ⟨v0, st, es1, clock1, hme, _, hst⟩ := Go.WideElems.entry_then_store KL ht hz hb F hkey
 have hb1 : (setBlock w b (.map es1 clock1)).heap[b]? = some (.map es1 clock1) := heap_setBlock_same hb _
 refine ⟨c, hlook, hat, v0, st, _, hme, ⟨rfl, rfl, rfl, by simp [setBlock], fun i _ hi => heap_setBlock_other hb _ (fun e => hi (by rw [e]))⟩, ?_, fun val hwv => ?_⟩
 · (
 rcases KL.find w hkey es.toList F.keys with ⟨h1, h2⟩ | ⟨j, e0, h1, h2, h3⟩
 · (
 have r1 : (Instr.mapEntry t (.map (some b)) key).run P w = .ok (.tuple #[.int .i64 0, goInt clock]) (setBlock w b (.map (es.push ⟨key, .int .i64 0, clock⟩) (clock + 1))) := by (
 simp [Instr.mapEntry, run_underlying ht, MapKept.run_getObj_map hb, KL.check w false hkey, h1, hz, MapKept.run_setObj_map _ hb, Result.andThen, setBlock])
 have r2 : (Instr.mapUpdate t (.map (some b)) key (.int .i64 0)).run P w = .ok () (setBlock w b (.map (es.push ⟨key, .int .i64 0, clock⟩) (clock + 1))) := by (
 simp [Instr.mapUpdate, run_underlying ht, MapKept.run_getObj_map hb, KL.check w false hkey, h1, MapKept.run_setObj_map _ hb, Result.andThen, setBlock])
 have r1 := ok_world (hme.symm.trans r1)
 obtain ⟨w', q1, q2, _⟩ := h0.update K ht hn hkey (plainElem_int he (show (Lit.int .i64 0).wf = true by decide))
 have q1 := ok_world (r2.symm.trans q1)
 rw [← q1, ← r1] at q2
 obtain ⟨c1, p1, p2, _⟩ := q2.lookup_int K ht he (hz _) hkey
 rw [atKey_put_same h0.isMap (K.key hkey)] at p2
 have hl0 : (Instr.lookup t (.map (some b)) key false).run P w = .ok (.int .i64 0) w := by (
 simp [Instr.lookup, run_underlying ht, MapKept.run_getObj_map hb, KL.check w _ hkey, h1, hz, Result.andThen])
 have hl0 := ok_val (hlook.symm.trans hl0)
 have hl0 := vint_inj hl0
 have p2 := lint_inj p2
 rw [p1, hl0, ← p2])
 · (
 have hj : es[j]? = some e0 := by simpa using h2
 have hsame : es.modify j (fun e => { e with key := key }) = es := by (
 apply Array.ext'
 rw [Array.toList_modify, modify_eq_set _ _ _ _ h2]
 have : ({ e0 with key := key } : MapEntry) = e0 := by rw [← h3]
 rw [this]
 exact Go.WideElems.set_self _ _ _ h2)
 have r1 : (Instr.mapEntry t (.map (some b)) key).run P w = .ok (.tuple #[e0.val, goInt e0.born]) (setBlock w b (.map es clock)) := by (
 simp [Instr.mapEntry, run_underlying ht, MapKept.run_getObj_map hb, KL.check w false hkey, h1, hj, h3, KL.stays w hkey, hsame, MapKept.run_setObj_map _ hb, Result.andThen, setBlock])
 have r1 := ok_world (hme.symm.trans r1)
 rw [r1, setBlock_self hb]
 exact hlook))
 · (
 obtain ⟨es', clock', s1, s2⟩ := hst _ (.int .i64 val) hb1
 rw [setBlock_twice] at s1
 obtain ⟨w', q1, q2, _⟩ := h0.update K ht hn hkey (plainElem_int he hwv)
 have q1 := ok_world (s2.symm.trans q1)
 rw [← q1] at q2
 refine ⟨_, s1, q2, ?_⟩
 have hg : (setBlock w b (.map es1 clock1)).grownBy (setBlock (setBlock w b (.map es1 clock1)) b (.map es' clock')) (some b) := ⟨rfl, rfl, rfl, by simp [setBlock], fun i _ hi => heap_setBlock_other hb1 _ (fun e => hi (by rw [e]))⟩
 rw [setBlock_twice] at hg
 exact hg))
end
section
open Go.RowKit
set_option maxHeartbeats 4000000
def Tm.val (n : Tm) : Value := .agg #[.int .i64 n.op, .int .i64 n.a, .int .i64 n.b]
theorem run_eq_term (x y : Tm) (w : World) : (Op.equalIn 10000 26 x.val y.val).run Tryz.prog w = .ok (x == y) w := by (
 have u3 := Tryz.underlying3
 have a3 : ∀ w, (isAgg 3).run Tryz.prog w = .ok false w := fun w => by kernel_rfl
 have z3 : ∀ w, (sizeOf 3).run Tryz.prog w = .ok 1 w := fun w => by kernel_rfl
 have hS : Tryz.prog.underlying 26 = some (.struct (Tryz.prog.fieldsOf 26)) := by kernel_rfl
 have hp : Tryz.prog.stoodInHeld 26 = false := by kernel_rfl
 obtain ⟨x0, x1, x2⟩ := x
 obtain ⟨y0, y1, y2⟩ := y
 simp only [Tm.val]
 rw [show (10000 : Nat) = 9999 + 1 from rfl, run_equalIn_agg w 9999 26 _ _ hS hp]
 simp only [Program.fieldsOf, Tryz.underlying26]
 go_simp
 have hb : ((⟨x0, x1, x2⟩ : Tm) == ⟨y0, y1, y2⟩) = (x0 == y0 && (x1 == y1 && x2 == y2)) := by (
 rw [Bool.eq_iff_iff]
 simp)
 rw [hb]
 by_cases h0 : x0 = y0 <;> by_cases h1 : x1 = y1 <;> by_cases h2 : x2 = y2 <;> simp [h0, h1, h2])
theorem guardTerm : Tryz.prog.eqGuardType Tryz.prog.depth 26 = false := by kernel_rfl
theorem infoTerm : (Tryz.prog.info? 26).map (fun i => (i.zero, i.size, i.bytes)) = some (some (.agg #[.int .i64 0, .int .i64 0, .int .i64 0]), 3, 24) := by kernel_rfl
theorem contains_snoc (a : List Tm) (y t : Tm) : (a ++ [y]).contains t = (a.contains t || (y == t)) := by (
 rw [Bool.eq_iff_iff]
 simp only [List.contains_iff_mem, List.mem_append, List.mem_singleton, Bool.or_eq_true, beq_iff_eq]
 exact or_congr_right eq_comm)
end
section
open Go.RowKit
open Go.Maps
set_option maxHeartbeats 4000000
attribute [local irreducible] Row TRow madeCells
theorem laidOutP : laidOutB Tryz.prog = true := by kernel_rfl
theorem cellsTerm : Tryz.prog.cellsOf 26 = 3 := by kernel_rfl
theorem cellsInt : Tryz.prog.cellsOf 3 = 1 := by kernel_rfl
theorem wideTerm : (match Tryz.prog.underlying 26 with | some (.array _ _) | some (.struct _) => true | _ => false) = true := by rw [Tryz.underlying26]
theorem rowTerm : 26 < Tryz.prog.types.size := of_decide_eq_true (by kernel_rfl)
theorem deepTerm : Tryz.prog.keyTypeAt 2 26 = true := by kernel_rfl
theorem law_of {P : Program} {k : TypeId} (hl : laidOutB P = true) (hr : k < P.types.size) (hd : P.keyTypeAt 2 k = true) (hw : (match P.underlying k with | some (.array _ _) | some (.struct _) => true | _ => false) = true) : Go.WideMaps.KeyLaw P k := deep_law_laid hl (m := 2) (by omega) hr hd hw
theorem lawTerm : Go.WideMaps.KeyLaw Tryz.prog 26 := law_of laidOutP rowTerm deepTerm wideTerm
theorem keyTerm (t : Tm) (h0 : (Lit.int .i64 t.op).wf = true) (h1 : (Lit.int .i64 t.a).wf = true) (h2 : (Lit.int .i64 t.b).wf = true) : ∃ l, keyOf Tryz.prog 26 t.val = some l := by (
 obtain ⟨s, hs⟩ : ∃ s, Tryz.prog.types.size + 1 = s + 2 := ⟨Tryz.prog.types.size - 1, by kernel_rfl⟩
 have hk : Tryz.prog.keyType 26 = true := by kernel_rfl
 have hf : t.val.formed Tryz.prog 26 = true := by simp [Value.formed, Tm.val, Tryz.underlying26, cellsTerm]
 have hl : Tryz.prog.keyLits (Tryz.prog.types.size + 1) 26 t.val.cells.toList = some [.int .i64 t.op, .int .i64 t.a, .int .i64 t.b] := by (
 rw [hs]
 simp [Program.keyLits, Tryz.underlying26, Tryz.underlying3, cellsTerm, cellsInt, Tm.val, Value.cells, h0, h1, h2])
 refine ⟨.string (keyBytes [.int .i64 t.op, .int .i64 t.a, .int .i64 t.b]), ?_⟩
 unfold keyOf
 rw [Tryz.underlying26]
 show (if (Tryz.prog.keyType 26 && t.val.formed Tryz.prog 26) = true then (Tryz.prog.keyLits (Tryz.prog.types.size + 1) 26 t.val.cells.toList).map fun ls => Lit.string (keyBytes ls) else none) = _
 rw [hk, hf, hl]
 rfl)
theorem zero47 (w : World) : (zeroValue 3).run Tryz.prog w = .ok (.int .i64 0) w := by kernel_rfl
def TSeen (W : World) (g n : Nat) (ts : List Tm) : Prop :=
 ∃ D : DataW Unit, W.ownsMap Tryz.prog 26 (plainElem Tryz.prog 3) g n D ∧ ∀ (t : Tm) (l : Lit), keyOf Tryz.prog 26 t.val = some l → ∃ c : Nat, D.atKey l (.lit (.int .i64 0)) = .lit (.int .i64 c) ∧ c ≤ n ∧ (c = 0 ↔ ts.contains t = false)
theorem TSeen.own {W W' : World} {g n : Nat} {ts : List Tm} {row : Option Nat} (h : TSeen W g n ts) (hg : W.grownBy W' row) (hr : row ≠ some g) : TSeen W' g n ts := by (
 obtain ⟨D, h1, h2⟩ := h
 exact ⟨D, h1.kept hg (Ne.symm hr), h2⟩)
theorem TSeen.below {W W' : World} {g n : Nat} {ts : List Tm} (h : TSeen W g n ts) (hb : Below W.heap.size W W') : TSeen W' g n ts := by (
 obtain ⟨D, ⟨es, clock, hh, F, r⟩, h2⟩ := h
 exact ⟨D, ⟨es, clock, (hb.block g (lt_of_heap hh)).trans hh, F, r⟩, h2⟩)
theorem TSeen.drew {W : World} {g n : Nat} {ts : List Tm} (h : TSeen W g n ts) : TSeen W.drew g n ts := h
theorem TSeen.drewN {W : World} {g n : Nat} {ts : List Tm} (h : TSeen W g n ts) (d : Nat) : TSeen (W.drewN d) g n ts := h
theorem TSeen.mono {W : World} {g n n' : Nat} {ts : List Tm} (h : TSeen W g n ts) (hn : n ≤ n') : TSeen W g n' ts := by (
 obtain ⟨D, h1, h2⟩ := h
 refine ⟨D, h1.mono hn, fun t l hl => ?_⟩
 obtain ⟨c, e1, e2, e3⟩ := h2 t l hl
 exact ⟨c, e1, by omega, e3⟩)
theorem TSeen.ne_row {W : World} {B g n : Nat} {ts us : List Tm} {e : TypeId} {v : Value} (h : TSeen W g n ts) (hr : TRow W B e v us) : v.ownBlock ≠ some g := by (
 obtain ⟨D, ⟨es, clock, hh, F, r⟩, h2⟩ := h
 rcases hr.open with ⟨rfl, _⟩ | ⟨g', cap, cur, rfl, _, hh', _⟩
 · simp [Value.ownBlock]
 · (
 intro he
 simp [Value.ownBlock] at he
 subst he
 rw [hh] at hh'
 cases hh'))
theorem TSeen.lt {W : World} {g n : Nat} {ts : List Tm} (h : TSeen W g n ts) : g < W.heap.size := by (
 obtain ⟨D, h1, h2⟩ := h
 exact h1.lt)
theorem tm_inj {t t' : Tm} (h : t.val = t'.val) : t = t' := by (
 cases t
 cases t'
 simp [Tm.val] at h
 simp [h])
theorem TSeen.bump {W : World} {g n : Nat} {ts : List Tm} (h : TSeen W g n ts) (hn : n < 1000) {t : Tm} {l : Lit} (hl : keyOf Tryz.prog 26 t.val = some l) :
 ∃ c : Nat, (Instr.lookup 98 (.map (some g)) t.val false).run Tryz.prog W = .ok (.int .i64 c) W ∧ c ≤ n ∧ (c = 0 ↔ ts.contains t = false) ∧
  ∃ v0 st w1, (Instr.mapEntry 98 (.map (some g)) t.val).run Tryz.prog W = .ok (.tuple #[v0, goInt st]) w1 ∧ W.grownBy w1 (some g) ∧ (Instr.lookup 98 (.map (some g)) t.val false).run Tryz.prog w1 = .ok (.int .i64 c) w1 ∧
   ∃ w3, (Instr.entryStore 98 (.map (some g)) (goInt st) (.int .i64 ((c : Int) + 1))).run Tryz.prog w1 = .ok () w3 ∧ w1.grownBy w3 (some g) ∧ TSeen w3 g (n + 1) (if ts.contains t then ts else ts ++ [t]) ∧
    (Instr.lookup 98 (.map (some g)) t.val false).run Tryz.prog w3 = .ok (.int .i64 ((c : Int) + 1)) w3 := by (
 obtain ⟨D, hD, hc⟩ := h
 obtain ⟨c, e1, e2, e3⟩ := hc t l hl
 have hmax : n < maxLen := by unfold maxLen; omega
 obtain ⟨c', p1, p2, v0, st, w1, p3, p4, p5, p6⟩ := map_bump lawTerm Tryz.underlying98 Tryz.underlying3 zero47 hD hmax hl
 rw [e1] at p2
 have hcc := lint_inj p2
 subst hcc
 have hwf : (Lit.int .i64 ((c : Int) + 1)).wf = true := by (
 unfold Lit.wf
 rw [Bool.and_eq_true]
 exact ⟨decide_eq_true (by show (-9223372036854775808 : Int) ≤ _; omega), decide_eq_true (by show _ ≤ (9223372036854775807 : Int); omega)⟩)
 obtain ⟨w3, q1, q2, q3⟩ := p6 _ hwf
 obtain ⟨c3, r1, r2, _⟩ := q2.lookup_int (Keyed.of_law lawTerm) Tryz.underlying98 Tryz.underlying3 (zero47 _) hl
 rw [atKey_put_same hD.isMap ((Keyed.of_law lawTerm).key hl)] at r2
 have h3 := lint_inj r2
 subst h3
 refine ⟨c, p1, e2, e3, v0, st, w1, p3, p4, p5, w3, q1, q3, ⟨_, q2, fun t' l' hl' => ?_⟩, r1⟩
 by_cases htt : t' = t
 · (
 subst htt
 rw [hl] at hl'
 injection hl' with hl'
 subst hl'
 refine ⟨c + 1, by rw [atKey_put_same hD.isMap ((Keyed.of_law lawTerm).key hl)]; rfl, by omega, ?_⟩
 constructor
 · intro h; omega
 · (
 intro h
 exfalso
 by_cases hct : ts.contains t' = true
 · rw [if_pos hct, hct] at h; cases h
 · (
 rw [if_neg hct, contains_snoc] at h
 simp at h)))
 · (
 have hne : l' ≠ l := fun e => htt (by
  exact tm_inj (lawTerm.inj (e ▸ hl') hl))
 obtain ⟨c', f1, f2, f3⟩ := hc t' l' hl'
 refine ⟨c', by rw [atKey_put_other hne]; exact f1, by omega, ?_⟩
 rw [f3]
 split
 · rfl
 · (
 rw [contains_snoc]
 have : (t == t') = false := by simpa using Ne.symm htt
 rw [this, Bool.or_false])))
theorem TSeen.start {W : World} : TSeen (W.alloc (.map #[] 0)) W.heap.size 0 [] :=
 ⟨.map [], World.ownsMap_made _ _ _ _, fun t l hl => ⟨0, rfl, Nat.le_refl _, by simp⟩⟩
end
end Go.Proofs.YtmghkonmfbpjcabGreat
