/- The reference's LiveOf: the registers that are live at each node. -/
import Derived.Test.YtmghkonmfbpjcaaDoorLiveA
import Derived.Test.YtmghkonmfbpjcaaDoorLiveL
namespace Go.Proofs.YtmghkonmfbpjcaaDoor
set_option linter.unusedVariables false
set_option linter.unusedSimpArgs false
open Go.RowKit
set_option maxHeartbeats 4000000
attribute [local irreducible] Row madeCells

def TabPost (n : Nat) (xs : Nat → List Int) (w : World) (e : Ending) (w' : World) : Prop :=
  ∃ v, e = .returned v ∧ IntsTab w.heap.size 36 3 n xs v w' ∧ Below w.heap.size w w'

theorem Row.bool_at {w : World} {B g : Nat} {e : TypeId} {n c : Nat} {x : List Bool} (h : Row w B e (.slice (some ⟨g, 0, none⟩) n c) (bools x)) {k : Nat} (hk : k < x.length) : w.cell? ⟨g, k, none⟩ = some (.bool (yn x k)) := by
  obtain ⟨g0, o0, cp0, e0, _, _, cx, _⟩ := h.bool hk
  injection e0 with e0 e1 e2
  injection e0 with e0
  injection e0 with e0 e3
  subst e0 e3
  rw [Nat.zero_add] at cx
  exact cx

theorem map_range_const {α : Type} (c : α) : ∀ n, (List.range n).map (fun _ => c) = List.replicate n c
  | 0 => rfl
  | n + 1 => by rw [List.range_succ, List.map_append, map_range_const c n, List.replicate_succ']; rfl

set_option maxRecDepth 100000 in
theorem LiveOf_any (regs : Int) (A : Option Addr) (l : List Nd) (cap : Nat) (w : World) (hA : NodesAt w A l) (hR : Right regs l) :
    Calls Tryd.prog 10 #[.agg #[.int .i64 regs, .slice A l.length cap]] w (TabPost l.length (liveL regs.toNat l) w) := by
  have hlo := hR.lo
  have hhi := hR.hi
  have hrl := hR.rlo
  have hrh := hR.rhi
  obtain ⟨rg, hrg⟩ := Int.eq_ofNat_of_zero_le (show 0 ≤ regs by omega)
  subst hrg
  rw [Int.toNat_natCast]
  have hAt := fun (r : Nat) W (hW : Below w.heap.size w W) => liveAt_any (rg : Int) A l cap r W (hA.below hW) hR
  have HAt := hide hAt
  clear hAt hR hA
  obtain ⟨i3, h3i, h3z, h3s, h3b⟩ := info_parts infoInt_
  obtain ⟨i5, h5i, h5z, h5s, h5b⟩ := info_parts infoInts_
  have hmk := run_make1 (P := Tryd.prog) 25 36 i5 _ 24 Tryd.underlying25 h5i h5z h5s h5b (by omega) rfl l.length (by omega)
  go_enter Tryd.func10, Tryd.ntmps10
  go_wp2_with fail
  go_loopg [4] (rg) (fun gk i wr => ∃ (k : Nat) (vs : Nat → Value), k ≤ rg ∧ i = .int .i64 k ∧ gk = rg - k ∧
    Row wr w.heap.size 36 (.slice (some ⟨w.heap.size + 1, 0, none⟩) l.length l.length) ((List.range l.length).map vs) ∧ Tab wr w.heap.size 3 l.length vs (fun i => ints (liveL k l i)) ∧
    Blk wr w.heap.size 24 #[.int .i64 rg, .slice A l.length cap] ∧ Below w.heap.size w wr)
  case atStart =>
    refine ⟨0, fun _ => .slice none 0 0, Nat.zero_le _, rfl, rfl, ?_, ?_, (by repeat (first | ((with_reducible refine Blk.new' ?_); exact (by (try simp only [World.size_alloc, World.size_setCell, World.size_drew, World.heap_drewN]); (first | done | omega | ((try simp only [World.size_alloc, World.size_setCell, World.size_drew, World.heap_drewN] at *); omega)))) | (with_reducible refine Blk.drew ?_) | (with_reducible refine Blk.drewN ?_ _) | (with_reducible refine Blk.alloc ?_ _) | with_reducible assumption)), (by repeat (first | (with_reducible exact Below.refl _ _) | (with_reducible assumption) | (with_reducible refine Below.drew ?_) | (with_reducible refine below_drewN ?_ _) | (with_reducible refine Below.alloc ?_ (by (try simp only [World.size_alloc, World.size_setCell, World.size_drew, World.heap_drewN]); (first | done | omega | ((try simp only [World.size_alloc, World.size_setCell, World.size_drew, World.heap_drewN] at *); omega))) _) | (with_reducible refine Below.setCell ?_ (by (try simp only [World.size_alloc, World.size_setCell, World.size_drew, World.heap_drewN]); (first | done | omega | ((try simp only [World.size_alloc, World.size_setCell, World.size_drew, World.heap_drewN] at *); omega))) _) | (with_reducible refine Below.trans ?_ (Below.mono (by assumption) (by (try simp only [World.size_alloc, World.size_setCell, World.size_drew, World.heap_drewN]); (first | done | omega | ((try simp only [World.size_alloc, World.size_setCell, World.size_drew, World.heap_drewN] at *); omega)))))))⟩
    · rw [map_range_const]
      exact (by repeat (first | ((with_reducible refine Row.made1' ?_ ?_ ?_); exact (by (try simp only [World.size_alloc, World.size_setCell, World.size_drew, World.heap_drewN]); (first | done | omega | ((try simp only [World.size_alloc, World.size_setCell, World.size_drew, World.heap_drewN] at *); omega))); exact (by (try simp only [World.size_alloc, World.size_setCell, World.size_drew, World.heap_drewN]); (first | done | omega | ((try simp only [World.size_alloc, World.size_setCell, World.size_drew, World.heap_drewN] at *); omega))); exact (by (try simp only [World.size_alloc, World.size_setCell, World.size_drew, World.heap_drewN]); (first | done | omega | ((try simp only [World.size_alloc, World.size_setCell, World.size_drew, World.heap_drewN] at *); omega)))) | (with_reducible refine Row.drew ?_) | (with_reducible refine Row.drewN ?_ _) | (with_reducible refine Row.alloc ?_ _) | with_reducible assumption))
    · exact (Tab.nils _ _ _ _).congr fun i hi => rfl
  case round =>
    clear hmk
    obtain ⟨k, vs, hk, rfl, hgk, hO, hTb, hP, hB⟩ := hrel
    have Hgk := hide hgk
    have HO := hide hO
    have HTb := hide hTb
    have p0 := hP.cell 0
    have p1 := hP.cell 1
    simp only [List.getElem?_toArray, List.getElem?_cons_zero, List.getElem?_cons_succ] at p0 p1
    have HP := hide hP
    have lp := hP.lt
    have hz := hB.size
    clear hgk hO hTb hP
    by_cases hlt : k < rg
    · go_wp2_with (go_at_call 28; refine (HAt.out k _ hB).mono ?_; rintro e w1 ⟨v1, rfl, hr1, hb1⟩)
      obtain ⟨X, xc, rfl, _, _⟩ := hr1.shape
      have hxl : (lvx l k).length = l.length := (lvx_least l k).1.1
      have hz1 := hb1.size
      have hbl : (bools (lvx l k)).length = l.length := by rw [bools_length, hxl]
      rw [hbl] at hr1 ⊢
      clear hbl
      have hB1 : Below w.heap.size w w1 := hB.trans (hb1.mono hz)
      have Hxl := hide hxl
      have HO1 := hide (HO.out.below' hb1)
      have HT1 := hide (HTb.out.below hb1)
      have HP1 := hide (HP.out.below hb1 lp)
      clear hb1 hB hxl
      generalize hxx : lvx l k = x at *
      have Hxx := hide hxx
      clear hxx
      go_wp2_with fail
      obtain ⟨wo, rfl⟩ : ∃ wo : World, wo = wr := ⟨_, rfl⟩
      obtain ⟨gk3, rfl⟩ : ∃ gk3 : Nat, gk3 = gk := ⟨_, rfl⟩
      go_loopg [6] (l.length) (fun gk i wr => ∃ (j : Nat) (us : Nat → Value), j ≤ l.length ∧ i = .int .i64 j ∧ gk = l.length - j ∧
        Row wr w.heap.size 36 (.slice (some ⟨w.heap.size + 1, 0, none⟩) l.length l.length) ((List.range l.length).map us) ∧ Tab wr w.heap.size 3 l.length us (fun i => ints (liveL (if i < j then k + 1 else k) l i)) ∧
        Row wr wo.heap.size 4 (.slice X l.length xc) (bools x) ∧ Blk wr w.heap.size 24 #[.int .i64 rg, .slice A l.length cap] ∧ Below w.heap.size w wr)
      case atStart => exact ⟨0, vs, Nat.zero_le _, rfl, rfl, HO1.out, HT1.out.congr fun i hi => rfl, hr1, HP1.out, hB1⟩
      case round =>
        clear HO1 HT1 HP1 HO HTb HP hr1 hB1 p0 p1
        obtain ⟨j, us, hj, rfl, hgk2, hO, hTb, hX, hP, hB⟩ := hrel
        have Hgk2 := hide hgk2
        have hz2 := hB.size
        have lp2 := hP.lt
        clear hgk2
        by_cases hjl : j < l.length
        · obtain ⟨xb, xo, cp, e0, hgx, hlx, cx, fx⟩ := hX.bool (k := j) (by rw [Hxl.out]; exact hjl)
          injection e0 with e0 e1 e2
          subst e0
          clear e1 e2
          have k0 : (0 : Int) ≤ (j : Int) := by omega
          have k1 : (j : Int) < (l.length : Int) := by omega
          have cA := tabcell hO hjl
          have fA := tabfree hO hjl
          have lA := rowlt hO
          have hrow := hTb.row hjl
          obtain ⟨Aj, cj, hvj, _, _⟩ := hrow.shape
          rw [hvj] at hrow cA
          have hlen : (ints (liveL (if j < j then k + 1 else k) l j)).length ≤ 64 := by
            rw [ints_length]
            have := sel_len (fun r => yn (lvx l r) j) (if j < j then k + 1 else k)
            unfold liveL
            simp at this ⊢
            omega
          have hjj : (if j < j then k + 1 else k) = k := by simp
          rw [hjj] at hlen hrow cA hvj
          have HO := hide hO
          have HTb := hide hTb
          have HX := hide hX
          have HP := hide hP
          have HRow := hide hrow
          have Hvj := hide hvj
          clear hO hTb hX hP hrow hvj
          cases hxk : yn x j
          case false =>
            have Hxk := hide hxk
            rw [hxk] at cx
            clear hxk
            go_wp2_with fail
            go_roundg (l.length - (j + 1))
            case measure => have := Hgk2.out; omega
            case rel =>
              refine ⟨j + 1, us, by omega, by go_num, rfl, HO.out, HTb.out.congr fun i hi => ?_, HX.out, HP.out, hB⟩
              by_cases hij : i = j
              · subst hij
                have : liveL (k + 1) l i = liveL k l i := sel_succ_false (by rw [Hxx.out]; exact Hxk.out)
                simp [this]
              · have h1 : (i < j) = (i < j + 1) := by simp; omega
                simp only [h1]
          case true =>
            have Hxk := hide hxk
            rw [hxk] at cx
            clear hxk
            go_wp2_with (at_builtin; refine wpList_append_row (v := .slice Aj (ints (liveL k l j)).length cj) (base := w.heap.size) rfl (.tmp 35) (.tmp 37) _ rfl i3 _ 8 Tryd.underlying36 h3i h3z h3s h3b rfl rfl (HRow.out.alloc _) (some ⟨wr.heap.size, 0, none⟩) 1 1 [.int .i64 (k : Int)] rfl rfl (vals_one _ _ _) (by simp [Value.oneCell']) (by simp [maxLen]; omega) (by simp; omega) (by simp; omega) ?_; intro v6 w6 hr6 hg6 hat6; have hOa := HO.out.alloc (.cells #[.int .i64 (k : Int)] 3); have nOR := (HRow.out.alloc (.cells #[.int .i64 (k : Int)] 3)).ne_blk hOa.blk.choose_spec (by decide); have cA6 : w6.cell? ⟨w.heap.size + 1, j, none⟩ = some (.slice Aj (ints (liveL k l j)).length cj) := (by rw [hg6.cell_far _ (by simp <;> omega) (fun e => nOR e.symm)]; exact (cpast lA).trans cA); have fA6 : w6.frozen? ⟨w.heap.size + 1, j, none⟩ = false := (by rw [hg6.frozen_far _ (by simp <;> omega) (fun e => nOR e.symm)]; exact (fpast lA).trans fA); obtain ⟨A6, c6, hv6, _, _⟩ := hr6.shape; subst hv6; simp only [List.length_append, List.length_singleton] at hr6 hat6)
            go_roundg (l.length - (j + 1))
            case measure => have := Hgk2.out; omega
            case rel =>
              have hO6 := hOa.kept hg6 ((HRow.out.alloc (.cells #[.int .i64 (k : Int)] 3)).ne_row hOa (by decide) |> fun h => by
                rcases h with h | h
                · refine .inr fun e => ?_
                  rw [h] at e
                  simp [Value.ownBlock] at e
                · exact .inr fun e => h e.symm)
              have hb6 := hO6.blk.choose_spec
              have hTa := HTb.out.alloc (.cells #[.int .i64 (k : Int)] 3)
              have hT6 := (hTa.put (w' := w6) (v' := .slice A6 ((ints (liveL k l j)).length + 1) c6) (ys := ints (liveL k l j) ++ [Value.int .i64 (k : Int)]) hjl hr6 (by rw [Hvj.out]; exact hg6) (by rw [Hvj.out]; exact hat6)).far (p := ⟨w.heap.size + 1, j, none⟩) hb6 (by decide) (.slice A6 ((ints (liveL k l j)).length + 1) c6)
              have hX6 := ((HX.out.alloc (.cells #[.int .i64 (k : Int)] 3)).kept hg6 ((HX.out.alloc (.cells #[.int .i64 (k : Int)] 3)).ne_row (HRow.out.alloc (.cells #[.int .i64 (k : Int)] 3)) (by decide)))
              have hP6 := (HP.out.alloc (.cells #[.int .i64 (k : Int)] 3)).grown hg6 ((HRow.out.alloc (.cells #[.int .i64 (k : Int)] 3)).ne_blk (HP.out.alloc (.cells #[.int .i64 (k : Int)] 3)) (by decide))
              have hOs := hO6.store j (.slice A6 ((ints (liveL k l j)).length + 1) c6)
              rw [Nat.zero_add, map_range_set _ _ hjl] at hOs
              refine ⟨j + 1, upd us j (.slice A6 ((ints (liveL k l j)).length + 1) c6), by omega, by go_num, rfl, hOs, hT6.congr fun i hi => ?_, hX6.far (hX6.ne_blk hb6 (by decide)) _, hP6.far (Blk.ne_ hP6 hb6 (by decide)) _, ?_⟩
              · by_cases hij : i = j
                · subst hij
                  rw [upd_same, if_pos (by omega)]
                  have : liveL (k + 1) l i = liveL k l i ++ [(k : Int)] := sel_succ_true (by rw [Hxx.out]; exact Hxk.out)
                  rw [this, ints_append]
                  rfl
                · rw [upd_other _ _ hij]
                  have h1 : (i < j) = (i < j + 1) := by simp; omega
                  simp only [h1]
              · exact ((hB.alloc (by omega) _).grown hg6 (by simp; omega) (fun q hq => (HRow.out.lt q hq).1)).setCell (by simp) _
        · have hjj : j = l.length := by omega
          have HO := hide hO
          have HTb := hide hTb
          have HP := hide hP
          have Hjj := hide hjj
          clear hO hTb hP hjj hX
          go_wp2_with fail
          go_roundg (rg - (k + 1))
          case measure => have := Hgk.out; omega
          case rel =>
            refine ⟨k + 1, us, by omega, by go_num, rfl, HO.out, HTb.out.congr fun i hi => ?_, HP.out, hB⟩
            rw [if_pos (by rw [Hjj.out]; exact hi)]
    · have hkk : k = rg := by omega
      have Hkk := hide hkk
      clear hkk
      go_wp2_with fail
      go_ret
      refine ⟨_, rfl, ⟨vs, HO.out, ?_⟩, hB⟩
      have := HTb.out
      rw [Hkk.out] at this
      exact this
end Go.Proofs.YtmghkonmfbpjcaaDoor
