/- live.sets: the registers that are live at each node, a bit each. -/
import Derived.Test.YtmghkonmfbpjcabDoorLiveB
import Derived.Test.YtmghkonmfbpjcabDoorJA
import Derived.Test.YtmghkonmfbpjcabDoorJB
import Derived.Deep.LoopGhost
import Derived.Deep.RegionHeld3
import Derived.Deep.DeepCutAuto
namespace Go.Proofs.YtmghkonmfbpjcabDoor
set_option linter.unusedVariables false
set_option linter.unusedSimpArgs false
open Go.RowKit
set_option maxHeartbeats 4000000
attribute [local irreducible] Row madeCells

theorem infoSet : (Tryd.prog.info? 60).map (fun i => (i.zero, i.size, i.bytes)) = some (some (.int .u64 0), 1, 8) := by kernel_rfl

/-- how many bits more there may be -/
def gauge (n : Nat) (ats : List Nat) : Nat := n * 2 ^ 64 - ats.sum
theorem gauge_lt {l : List Nd} {ats : List Nat} (h : Bits l ats) {k z : Nat} (hk : k < l.length) (hz : z < 2 ^ 64) (hle : ats.getD k 0 ≤ z) (hne : ats.getD k 0 ≠ z) (hb : Bits l (ats.set k z)) :
    gauge l.length (ats.set k z) < gauge l.length ats := by
  have h1 := sum_set (ats := ats) (k := k) (z := z) (by rw [h.1]; exact hk)
  have h2 := sum_le (ats := ats.set k z) (b := 2 ^ 64) (fun y hy => Nat.le_of_lt (hb.2.1 y hy))
  rw [hb.1] at h2
  unfold gauge
  generalize l.length * 2 ^ 64 = q at *
  omega
def SetsPost (l : List Nd) (B : Nat) (t : TypeId) (w : World) (e : Ending) (w' : World) : Prop :=
  ∃ ats v, (ats.length = l.length ∧ (∀ z ∈ ats, z < 2 ^ 64) ∧ ∀ r : Nat, r < 64 → Least (liveS l r) l.length (bitsAt r ats)) ∧ e = .returned v ∧ Row w' B t v (u64s ats) ∧ Below w.heap.size w w'

theorem sets_at {l : List Nd} {ats : List Nat} {k : Nat} {x : Nd} (hx : l[k]? = some x) (hr : Regs64 x) (r : Nat) (h64 : r < 64) : (newN x ats).testBit r = liveS l r (bitsAt r ats) k := by
  have hg : l.getD k default = x := by rw [List.getD_eq_getElem?_getD, hx]; rfl
  rw [newN_bit hr h64]
  unfold liveS
  rw [hg]

set_option maxRecDepth 100000 in
theorem sets_run (regs : Int) (A : Option Addr) (l : List Nd) (cap : Nat) (w : World) (hA : NodesAt w A l) (hR : Right regs l) :
    Calls Tryd.prog 22 #[.agg #[.int .i64 regs, .slice A l.length cap]] w (SetsPost l w.heap.size 60 w) := by
  have hlo := hR.lo
  have hhi := hR.hi
  have HRr := hide hR
  clear hR
  obtain ⟨ib, hbi, hbz, hbs, hbb⟩ := info_parts infoSet
  have hmk := run_make1 (P := Tryd.prog) 56 60 ib _ 8 Tryd.underlying56 hbi hbz hbs hbb (by omega) rfl l.length (by omega)
  go_enter Tryd.func22, Tryd.ntmps22
  go_wp2_with fail
  refine wp_scope_again 0 (fun g a' w' => ∃ (ats : List Nat) (u4 u5 u6 u11 u12 u13 u14 u15 u16 u17 u18 u19 u20 u21 u22 u23 u24 u25 u26 u27 u28 u29 u30 u31 u32 u33 u34 u35 u36 u37 u38 u39 u40 u41 u42 : Value), a' = { tmps := #[.agg #[.int .i64 regs, .slice A l.length cap], .pointer (some ⟨w.heap.size, 0, none⟩), .slice none 0 0, .slice (some ⟨w.heap.size + 1, 0, none⟩) l.length l.length, u4, u5, u6, .pointer (some ⟨w.heap.size, 1, none⟩), .slice A l.length cap, .int .i64 l.length, .slice (some ⟨w.heap.size + 1, 0, none⟩) l.length l.length, u11, u12, u13, u14, u15, u16, u17, u18, u19, u20, u21, u22, u23, u24, u25, u26, u27, u28, u29, u30, u31, u32, u33, u34, u35, u36, u37, u38, u39, u40, u41, u42], defers := [] } ∧ g = gauge l.length ats ∧ Bits l ats ∧
    Row w' w.heap.size 60 (.slice (some ⟨w.heap.size + 1, 0, none⟩) l.length l.length) (u64s ats) ∧ Blk w' w.heap.size 24 #[.int .i64 regs, .slice A l.length cap] ∧ Below w.heap.size w w') rfl ?pass ?first
  case first =>
    intro again
    have Again := hide again
    clear again
    go_wp2_with fail
    go_step3
    rename_i K hK
    refine hK _ _ ?_
    refine Again.out _ _ _ ⟨List.replicate l.length 0, _, _, _, _, _, _, _, _, _, _, _, _, _, _, _, _, _, _, _, _, _, _, _, _, _, _, _, _, _, _, _, _, _, _, _, rfl, rfl, Bits.start l, ?_, (by repeat (first | ((with_reducible refine Blk.new' ?_); exact (by (try simp only [World.size_alloc, World.size_setCell, World.size_drew, World.heap_drewN]); (first | done | omega | ((try simp only [World.size_alloc, World.size_setCell, World.size_drew, World.heap_drewN] at *); omega)))) | (with_reducible refine Blk.drew ?_) | (with_reducible refine Blk.drewN ?_ _) | (with_reducible refine Blk.alloc ?_ _) | with_reducible assumption)), (by repeat (first | (with_reducible exact Below.refl _ _) | (with_reducible assumption) | (with_reducible refine Below.drew ?_) | (with_reducible refine below_drewN ?_ _) | (with_reducible refine Below.alloc ?_ (by (try simp only [World.size_alloc, World.size_setCell, World.size_drew, World.heap_drewN]); (first | done | omega | ((try simp only [World.size_alloc, World.size_setCell, World.size_drew, World.heap_drewN] at *); omega))) _) | (with_reducible refine Below.setCell ?_ (by (try simp only [World.size_alloc, World.size_setCell, World.size_drew, World.heap_drewN]); (first | done | omega | ((try simp only [World.size_alloc, World.size_setCell, World.size_drew, World.heap_drewN] at *); omega))) _) | (with_reducible refine Below.trans ?_ (Below.mono (by assumption) (by (try simp only [World.size_alloc, World.size_setCell, World.size_drew, World.heap_drewN]); (first | done | omega | ((try simp only [World.size_alloc, World.size_setCell, World.size_drew, World.heap_drewN] at *); omega)))))))⟩
    rw [u64s, List.map_replicate]
    show Row _ _ _ _ (List.replicate l.length (.int .u64 0))
    exact (by repeat (first | ((with_reducible refine Row.made1' ?_ ?_ ?_); exact (by (try simp only [World.size_alloc, World.size_setCell, World.size_drew, World.heap_drewN]); (first | done | omega | ((try simp only [World.size_alloc, World.size_setCell, World.size_drew, World.heap_drewN] at *); omega))); exact (by (try simp only [World.size_alloc, World.size_setCell, World.size_drew, World.heap_drewN]); (first | done | omega | ((try simp only [World.size_alloc, World.size_setCell, World.size_drew, World.heap_drewN] at *); omega))); exact (by (try simp only [World.size_alloc, World.size_setCell, World.size_drew, World.heap_drewN]); (first | done | omega | ((try simp only [World.size_alloc, World.size_setCell, World.size_drew, World.heap_drewN] at *); omega)))) | (with_reducible refine Row.drew ?_) | (with_reducible refine Row.drewN ?_ _) | (with_reducible refine Row.alloc ?_ _) | with_reducible assumption))
  case pass =>
    rintro g a' wr ⟨ats, u4, u5, u6, u11, u12, u13, u14, u15, u16, u17, u18, u19, u20, u21, u22, u23, u24, u25, u26, u27, u28, u29, u30, u31, u32, u33, u34, u35, u36, u37, u38, u39, u40, u41, u42, rfl, hg, hbt, hRow, hP, hB⟩
    have Hg := hide hg
    have Hbt := hide hbt
    have hal := hbt.1
    have Hal := hide hal
    have HRow := hide hRow
    have HP := hide hP
    clear hg hbt hal hRow hP hmk
    go_wp2_with fail
    obtain ⟨wb, rfl⟩ : ∃ wb : World, wb = wr := ⟨_, rfl⟩
    go_loopg [4] (l.length) (fun gk i wr => ∃ k : Nat, k ≤ l.length ∧ i = .int .i64 ((k : Int) - 1) ∧ gk = k ∧ (∀ j x, k ≤ j → l[j]? = some x → newN x ats = ats.getD j 0) ∧
      Row wr w.heap.size 60 (.slice (some ⟨w.heap.size + 1, 0, none⟩) l.length l.length) (u64s ats) ∧ Blk wr w.heap.size 24 #[.int .i64 regs, .slice A l.length cap] ∧ Below w.heap.size w wr)
    case atStart => exact ⟨l.length, Nat.le_refl _, rfl, rfl, fun j x hj hx => absurd (List.getElem?_eq_some_iff.1 hx).1 (by omega), HRow.out, HP.out, hB⟩
    case round =>
      clear HRow HP hB
      obtain ⟨k, hk, rfl, hgk, hno, hRow, hP, hB⟩ := hrel
      have Hgk := hide hgk
      have Hno := hide hno
      clear hgk hno
      have hz := hB.size
      have p0 := hP.cell 0
      have p1 := hP.cell 1
      simp only [List.getElem?_toArray, List.getElem?_cons_zero, List.getElem?_cons_succ] at p0 p1
      have hxlt := (hRow.lt _ rfl).2
      have lp := hP.lt
      cases k with
      | zero =>
        have HRow := hide hRow
        have HP := hide hP
        clear hRow hP
        have k1 : (((0 : Nat) : Int) - 1) = -1 := by omega
        rw [k1]
        clear k1
        go_wp2_with fail
        simp only [Exit.jump]
        go_ret
        refine ⟨ats, _, ⟨Hal.out, Hbt.out.2.1, fun r h64 => Hbt.out.done (fun j r' hj hr' => ?_) h64⟩, rfl, HRow.out, hB⟩
        obtain ⟨x, hx⟩ : ∃ x, l[j]? = some x := ⟨_, List.getElem?_eq_getElem hj⟩
        rw [← Hno.out j x (Nat.zero_le _) hx]
        exact sets_at hx (HRr.out.regs64 (List.mem_of_getElem? hx)) r' hr'
      | succ k =>
        obtain ⟨x, hx⟩ : ∃ x, l[k]? = some x := ⟨_, List.getElem?_eq_getElem (by omega)⟩
        have Hx := hide hx
        obtain ⟨xb, xo, x', rfl, hxb, hx', hxl⟩ := (hA.below hB).get (k := k) (by omega)
        rw [hx] at hx'
        injection hx' with hx'
        subst hx'
        obtain ⟨c0, c1, c2, c3, c4, c5⟩ := hxl
        obtain ⟨g0, o0, cp0, e0, _, _, cx, fx⟩ := hRow.u64 (k := k) (by rw [Hal.out]; omega)
        injection e0 with e0 e1 e2
        injection e0 with e0
        injection e0 with e0 e3
        subst e0 e3
        simp only [Nat.zero_add] at cx fx
        clear e1 e2 hx
        have hz64 := Hbt.out.2.1
        have hreg := HRr.out.regs64 (List.mem_of_getElem? Hx.out)
        have hway : (x.op ≠ 12 → 0 ≤ x.t ∧ x.t < ats.length) ∧ (x.op = 11 → 0 ≤ x.e ∧ x.e < ats.length) := by
          rw [Hal.out]
          exact ⟨fun h => by have := HRr.out.then_ (List.mem_of_getElem? Hx.out) h; omega, fun h => by have := HRr.out.else_ (List.mem_of_getElem? Hx.out) h; omega⟩
        have hU := fun W => used_any x W hreg.2.1 hreg.2.2
        have hM := fun W => made_any x W hreg.1
        have hBh := fun W (hW : Lies wr W) => behind_any x (some ⟨w.heap.size + 1, 0, none⟩) ats l.length W (hRow.below' hW).vals (by rw [Hal.out]; omega) hz64 hway.1 hway.2
        rw [Hal.out] at hBh
        have eN : bits .or .u64 (usedN x : Int) (bits .andNot .u64 (behindN x ats : Int) (madeN x : Int)) = ((newN x ats : Nat) : Int) := by
          rw [u64_without _ _ (behindN_lt hz64) (madeN_lt hreg)]
          exact bits_or_u64_nat _ _ (usedN_lt hreg) (Nat.lt_of_le_of_lt Nat.and_le_left (behindN_lt hz64))
        have HU := hide hU
        have HM := hide hM
        have HBh := hide hBh
        have EN := hide eN
        have HRow := hide hRow
        have HP := hide hP
        have Hreg := hide hreg
        have k1 : (((k + 1 : Nat) : Int) - 1) = (k : Int) := by omega
        rw [k1]
        clear k1 hU hM hBh eN hRow hP hreg hway hz64 hA
        have q0 : (0 : Int) ≤ (k : Int) := by omega
        have q1 : (k : Int) < (l.length : Int) := by omega
        have lxw : wr.heap.size < (wr.alloc (.cells #[.int .i64 x.op, .int .i64 x.d, .int .i64 x.a, .int .i64 x.b, .int .i64 x.t, .int .i64 x.e] 55)).heap.size := by simp
        go_upto_region 6 with fail
        go_cut [6] (fun s6 wx => s6 = .int .u64 (newN x ats : Int) ∧ Lies wr wx)
        case first =>
          obtain ⟨w6, hw6⟩ : ∃ w6 : World, w6 = wr.alloc (.cells #[.int .i64 x.op, .int .i64 x.d, .int .i64 x.a, .int .i64 x.b, .int .i64 x.t, .int .i64 x.e] 55) := ⟨_, rfl⟩
          have hX6 : Blk w6 wr.heap.size 55 #[.int .i64 x.op, .int .i64 x.d, .int .i64 x.a, .int .i64 x.b, .int .i64 x.t, .int .i64 x.e] := by rw [hw6]; exact (by repeat (first | ((with_reducible refine Blk.new' ?_); exact (by (try simp only [World.size_alloc, World.size_setCell, World.size_drew, World.heap_drewN]); (first | done | omega | ((try simp only [World.size_alloc, World.size_setCell, World.size_drew, World.heap_drewN] at *); omega)))) | (with_reducible refine Blk.drew ?_) | (with_reducible refine Blk.drewN ?_ _) | (with_reducible refine Blk.alloc ?_ _) | with_reducible assumption))
          have hL6 : Lies wr w6 := by rw [hw6]; exact Below.alloc (Below.refl _ _) (Nat.le_refl _) _
          have hL66 := Lies.refl w6
          rw [← hw6]
          have b0 := hX6.cell 0
          have b1 := hX6.cell 1
          have b2 := hX6.cell 2
          have b3 := hX6.cell 3
          have b4 := hX6.cell 4
          have b5 := hX6.cell 5
          simp only [List.getElem?_toArray, List.getElem?_cons_zero, List.getElem?_cons_succ] at b0 b1 b2 b3 b4 b5
          have hll : wr.heap.size < w6.heap.size := hX6.lt
          clear hw6 hX6 c0 c1 c2 c3 c4 c5 p0 p1 cx fx lxw hxb hB HRow HP
          go_region_held3 (fun w' => w'.cell? ⟨wr.heap.size, 0, none⟩ = some (.int .i64 x.op) ∧ w'.cell? ⟨wr.heap.size, 1, none⟩ = some (.int .i64 x.d) ∧ w'.cell? ⟨wr.heap.size, 2, none⟩ = some (.int .i64 x.a) ∧
              w'.cell? ⟨wr.heap.size, 3, none⟩ = some (.int .i64 x.b) ∧ w'.cell? ⟨wr.heap.size, 4, none⟩ = some (.int .i64 x.t) ∧ w'.cell? ⟨wr.heap.size, 5, none⟩ = some (.int .i64 x.e) ∧ Lies wr w' ∧ Lies w6 w')
            (((try go_split_ands); (try dsimp only); (repeat' apply And.intro) <;> (first | assumption | go_keep | (exact Lies.drew (by assumption)) | (exact Lies.step (by assumption) (by assumption)) | (rw [hc3 _ _ (Nat.lt_of_lt_of_le hll (Below.size (by assumption : Lies w6 _)))]; assumption))))
            (first
              | (go_at_call 55; refine (HU.out _).mono ?_; rintro e w3 ⟨rfl, hb3⟩; obtain ⟨hc3, hf3⟩ := bcell hb3)
              | (go_at_call 57; refine (HM.out _).mono ?_; rintro e w3 ⟨rfl, hb3⟩; obtain ⟨hc3, hf3⟩ := bcell hb3)
              | (go_at_call 56; (try go_split_ands); refine (HBh.out _ (by assumption)).mono ?_; rintro e w3 ⟨rfl, hb3⟩; obtain ⟨hc3, hf3⟩ := bcell hb3))
          all_goals (try go_split_ands)
          all_goals (go_wp2_with fail)
          all_goals go_meet
          all_goals go_tidy
          all_goals exact ⟨by rw [← EN.out], by assumption⟩
        case rest =>
          obtain ⟨rfl, hL⟩ := hcut
          obtain ⟨wx, rfl⟩ : ∃ wx : World, wx = wc := ⟨_, rfl⟩
          have cx' := ((bcell hL).1 _ _ hxlt).trans cx
          have fx' := ((bcell hL).2 _ _ hxlt).trans fx
          have hn64 : newN x ats < 2 ^ 64 := newN_lt Hreg.out Hbt.out.2.1
          have hput := Hbt.out.put (k := k) (z := newN x ats) (by omega) hn64 (fun r h64 => sets_at Hx.out Hreg.out r h64)
          have HL := hide hL
          have Hput := hide hput
          have Hn64 := hide hn64
          have hz2 := hL.size
          clear cx fx c0 c1 c2 c3 c4 c5 p0 p1 hL lxw hput hn64
          generalize hzz : newN x ats = z at *
          generalize hyy : ats.getD k 0 = y at *
          have Hzz := hide hzz
          have Hyy := hide hyy
          clear hzz hyy
          cases hq : ((z : Int) != (y : Int))
          case true =>
            have Hq := hide hq
            go_wp2_with fail
            go_step3
            refine ⟨rfl, gauge l.length (ats.set k z), ?_, ats.set k z, _, _, _, _, _, _, _, _, _, _, _, _, _, _, _, _, _, _, _, _, _, _, _, _, _, _, _, _, _, _, _, _, _, _, _, rfl, rfl, Hput.out.1, ?_, (HP.out.below HL.out lp).far (by simp) _, (Below.trans hB (Below.mono HL.out hz)).setCell (by simp <;> omega) _⟩
            · rw [Hg.out]
              have hq' := Hq.out
              simp at hq'
              exact gauge_lt Hbt.out (by omega) Hn64.out (by rw [Hyy.out]; exact Hput.out.2) (by rw [Hyy.out]; omega) Hput.out.1
            · have := (HRow.out.below' HL.out).store k (.int .u64 (z : Int))
              rw [u64s_set, Nat.zero_add] at this
              exact this
          case false =>
            have Hq := hide hq
            go_wp2_with fail
            go_roundg k
            case measure => have := Hgk.out; omega
            case rel =>
              refine ⟨k, by omega, by go_num, rfl, fun j y hj hy => ?_, HRow.out.below' HL.out, HP.out.below HL.out lp, Below.trans hB (Below.mono HL.out hz)⟩
              by_cases hjk : j = k
              · subst hjk
                rw [Hx.out] at hy
                injection hy with hy
                subst hy
                have := Hq.out
                simp at this
                rw [Hzz.out, Hyy.out]
                omega
              · exact Hno.out j y (by omega) hy
end Go.Proofs.YtmghkonmfbpjcabDoor
