/- The reference's ReachOf. -/
import Derived.Test.YtmghkonmfbpjcaaGraphP
import Derived.Test.YtmghkonmfbpjcaaOps
import Derived.Deep.LoopGhost
import Derived.Deep.DeepCutAuto
namespace Go.Proofs.Ytmghkonmfbpjcaa
set_option linter.unusedVariables false
set_option linter.unusedSimpArgs false
open Go.RowKit
set_option maxHeartbeats 4000000
attribute [local irreducible] Row madeCells

theorem infoBoolG : (Try.prog.info? 4).map (fun i => (i.zero, i.size, i.bytes)) = some (some (.bool false), 1, 1) := by kernel_rfl
def BoolPost (t : TypeId) (x : List Bool) (w : World) (e : Ending) (w' : World) : Prop := ∃ v, e = .returned v ∧ Row w' w.heap.size t v (bools x) ∧ Below w.heap.size w w'
theorem Row.bool_at_ {w : World} {B g : Nat} {e : TypeId} {n c : Nat} {x : List Bool} (h : Row w B e (.slice (some ⟨g, 0, none⟩) n c) (bools x)) {k : Nat} (hk : k < x.length) :
    w.cell? ⟨g, k, none⟩ = some (.bool (yn x k)) ∧ w.frozen? ⟨g, k, none⟩ = false := by
  obtain ⟨g0, o0, cp0, e0, _, _, cx, fx⟩ := h.bool hk
  injection e0 with e0 e1 e2
  injection e0 with e0
  injection e0 with e0 e3
  subst e0 e3
  rw [Nat.zero_add] at cx fx
  exact ⟨cx, fx⟩
theorem Row.setb0 {w : World} {B : Nat} {e : TypeId} {g n cap : Nat} {x : List Bool} (h : Row w B e (.slice (some ⟨g, 0, none⟩) n cap) (bools x)) (k : Nat) (b : Bool) :
    Row (w.setCell ⟨g, k, none⟩ (.bool b)) B e (.slice (some ⟨g, 0, none⟩) n cap) (bools (x.set k b)) := by
  have := h.setb k b
  rwa [Nat.zero_add] at this

set_option maxRecDepth 100000 in
theorem ReachOf_any (regs : Int) (A : Option Addr) (l : List Nd) (cap : Nat) (w : World) (hA : NodesAt w A l) (hR : Right regs l) :
    Calls Try.prog 23 #[.agg #[.int .i64 regs, .slice A l.length cap]] w (BoolPost 4 (reachL l) w) := by
  have hlo := hR.lo
  have hhi := hR.hi
  have HR := hide hR
  clear hR
  obtain ⟨ib, hbi, hbz, hbs, hbb⟩ := info_parts infoBoolG
  have hmk := run_make1 (P := Try.prog) 25 4 ib _ 1 Try.underlying25 hbi hbz hbs hbb (by omega) rfl l.length (by omega)
  have hm1 : Row ((w.alloc (.cells #[.int .i64 regs, .slice A l.length cap] 24)).alloc (.cells ((madeCells #[.bool false] l.length).setIfInBounds 0 (.bool true)) 4)) w.heap.size 4 (.slice (some ⟨w.heap.size + 1, 0, none⟩) l.length l.length) (bools ((List.replicate l.length false).set 0 true)) := by
    have h := Row.made (w := w.alloc (.cells #[.int .i64 regs, .slice A l.length cap] 24)) (base := w.heap.size) (e := 4) (cs := (madeCells #[.bool false] l.length).setIfInBounds 0 (.bool true)) (n := l.length) (by simp) (by simp [size_madeCells]) (by unfold maxLen; omega)
    rw [Array.toList_setIfInBounds, toList_madeCells_one] at h
    rw [← bools_set, bools, List.map_replicate]
    simpa using h
  have hm0 : Row ((w.alloc (.cells #[.int .i64 regs, .slice A l.length cap] 24)).alloc (.cells (madeCells #[.bool false] l.length) 4)) w.heap.size 4 (.slice (some ⟨w.heap.size + 1, 0, none⟩) l.length l.length) (bools (List.replicate l.length false)) := by
    rw [bools, List.map_replicate]
    exact (by repeat (first | ((with_reducible refine Row.made1' ?_ ?_ ?_); exact (by (try simp only [World.size_alloc, World.size_setCell, World.size_drew, World.heap_drewN]); (first | done | omega | ((try simp only [World.size_alloc, World.size_setCell, World.size_drew, World.heap_drewN] at *); omega))); exact (by (try simp only [World.size_alloc, World.size_setCell, World.size_drew, World.heap_drewN]); (first | done | omega | ((try simp only [World.size_alloc, World.size_setCell, World.size_drew, World.heap_drewN] at *); omega))); exact (by (try simp only [World.size_alloc, World.size_setCell, World.size_drew, World.heap_drewN]); (first | done | omega | ((try simp only [World.size_alloc, World.size_setCell, World.size_drew, World.heap_drewN] at *); omega)))) | (with_reducible refine Row.drew ?_) | (with_reducible refine Row.drewN ?_ _) | (with_reducible refine Row.alloc ?_ _) | with_reducible assumption))
  obtain ⟨cm, fm⟩ := hm0.bool_at_ (k := 0) (by simp; omega)
  clear hm0
  have HM := hide hm1
  have hlp : (0 : Int) < (l.length : Int) := by omega
  have HU := hide (under_start l hlo)
  have HZ := hide (show yn ((List.replicate l.length false).set 0 true) 0 = true by rw [yn_set _ _ _ _ (by simp; omega)]; simp)
  clear hm1
  go_enter Try.func23, Try.ntmps23
  go_wp2_with fail
  go_loopg [4] (l.length) (fun gk i wr => ∃ (c : Nat) (x : List Bool), c ≤ l.length ∧ i = .int .i64 c ∧ gk = l.length - c ∧ Under (reachS l) l.length x ∧ yn x 0 = true ∧ (c + 1 ≤ cnt x ∨ Closed (reachS l) l.length x) ∧
    Row wr w.heap.size 4 (.slice (some ⟨w.heap.size + 1, 0, none⟩) l.length l.length) (bools x) ∧ Blk wr w.heap.size 24 #[.int .i64 regs, .slice A l.length cap] ∧ Below w.heap.size w wr)
  case atStart => exact ⟨0, _, Nat.zero_le _, rfl, rfl, HU.out, HZ.out, .inl (cnt_pos HZ.out), HM.out, (by repeat (first | ((with_reducible refine Blk.new' ?_); exact (by (try simp only [World.size_alloc, World.size_setCell, World.size_drew, World.heap_drewN]); (first | done | omega | ((try simp only [World.size_alloc, World.size_setCell, World.size_drew, World.heap_drewN] at *); omega)))) | (with_reducible refine Blk.drew ?_) | (with_reducible refine Blk.drewN ?_ _) | (with_reducible refine Blk.alloc ?_ _) | with_reducible assumption)), (by repeat (first | (with_reducible exact Below.refl _ _) | (with_reducible assumption) | (with_reducible refine Below.drew ?_) | (with_reducible refine below_drewN ?_ _) | (with_reducible refine Below.alloc ?_ (by (try simp only [World.size_alloc, World.size_setCell, World.size_drew, World.heap_drewN]); (first | done | omega | ((try simp only [World.size_alloc, World.size_setCell, World.size_drew, World.heap_drewN] at *); omega))) _) | (with_reducible refine Below.setCell ?_ (by (try simp only [World.size_alloc, World.size_setCell, World.size_drew, World.heap_drewN]); (first | done | omega | ((try simp only [World.size_alloc, World.size_setCell, World.size_drew, World.heap_drewN] at *); omega))) _) | (with_reducible refine Below.trans ?_ (Below.mono (by assumption) (by (try simp only [World.size_alloc, World.size_setCell, World.size_drew, World.heap_drewN]); (first | done | omega | ((try simp only [World.size_alloc, World.size_setCell, World.size_drew, World.heap_drewN] at *); omega)))))))⟩
  case round =>
    clear hmk HM HU HZ cm fm
    obtain ⟨c, x, hcl, rfl, hgk, hU, h0, hw, hRow, hP, hB⟩ := hrel
    have Hgk := hide hgk
    have HU := hide hU
    have H0 := hide h0
    have Hw := hide hw
    have p0 := hP.cell 0
    have p1 := hP.cell 1
    simp only [List.getElem?_toArray, List.getElem?_cons_zero, List.getElem?_cons_succ] at p0 p1
    have HRow := hide hRow
    have HP := hide hP
    clear hgk hU h0 hw hRow hP
    by_cases hlt : c < l.length
    · go_wp2_with fail
      obtain ⟨wo, rfl⟩ : ∃ wo : World, wo = wr := ⟨_, rfl⟩
      obtain ⟨gk3, rfl⟩ : ∃ gk3 : Nat, gk3 = gk := ⟨_, rfl⟩
      go_loopg [5] (l.length) (fun gk i wr => ∃ (k : Nat) (x : List Bool), k ≤ l.length ∧ i = .int .i64 k ∧ gk = l.length - k ∧ Reaching l c k x ∧
        Row wr w.heap.size 4 (.slice (some ⟨w.heap.size + 1, 0, none⟩) l.length l.length) (bools x) ∧ Blk wr w.heap.size 24 #[.int .i64 regs, .slice A l.length cap] ∧ Below w.heap.size w wr)
      case atStart => exact ⟨0, x, Nat.zero_le _, rfl, rfl, Reaching.start HU.out H0.out Hw.out, HRow.out, HP.out, hB⟩
      case round =>
        clear HU H0 Hw HRow HP hB p0 p1
        obtain ⟨k, x, hk, rfl, hgk, hRe, hRow, hP, hB⟩ := hrel
        have Hgk2 := hide hgk
        have HRe := hide hRe
        have hz := hB.size
        have hxl := hRe.under.1
        have p0 := hP.cell 0
        have p1 := hP.cell 1
        simp only [List.getElem?_toArray, List.getElem?_cons_zero, List.getElem?_cons_succ] at p0 p1
        have lx := (hRow.lt _ rfl).2
        have lp := hP.lt
        clear hgk hRe
        by_cases hkl : k < l.length
        · obtain ⟨n, hn⟩ : ∃ n, l[k]? = some n := ⟨_, List.getElem?_eq_getElem hkl⟩
          obtain ⟨nb, no, n', rfl, hnb, hn', hnl⟩ := (hA.below hB).get (k := k) hkl
          rw [hn] at hn'
          injection hn' with hn'
          subst hn'
          obtain ⟨c0, c1, c2, c3, c4, c5⟩ := hnl
          have hm := List.mem_of_getElem? hn
          have hbnd : ∀ n, l[k]? = some n → ∀ m : Nat, leadsB n m = true → m < l.length := by
            intro n2 h2 m hlm
            rw [hn] at h2
            injection h2 with h2
            subst h2
            rcases leads_cases hlm with ⟨h12, rfl'⟩ | ⟨h11, rfl'⟩
            · have := HR.out.then_ hm h12; omega
            · have := HR.out.else_ hm h11; omega
          have hway := fun h => HR.out.then_ hm h
          have hway2 := fun h => HR.out.else_ hm h
          obtain ⟨ck, fk⟩ := hRow.bool_at_ (k := k) (by rw [hxl]; exact hkl)
          have q0 : (0 : Int) ≤ (k : Int) := by omega
          have q1 : (k : Int) < (l.length : Int) := by omega
          have Hn := hide hn
          have Hb := hide hbnd
          have Hxl := hide hxl
          have HRow := hide hRow
          have HP := hide hP
          clear hn hbnd hxl hRow hP hA
          cases hxk : yn x k
          case false =>
            rw [hxk] at ck
            have Hxk := hide hxk
            clear hxk hway hway2
            go_wp2_with fail
            go_roundg (l.length - (k + 1))
            case measure => have := Hgk2.out; omega
            case rel => exact ⟨k + 1, x, by omega, by go_num, rfl, HRe.out.next (fun h => by rw [Hxk.out] at h; cases h), HRow.out.alloc _, HP.out.alloc _, hB.alloc hz _⟩
          case true =>
            rw [hxk] at ck
            have Hxk := hide hxk
            clear hxk
            by_cases h12 : n.op = 12
            · have t12 : (n.op != 12) = false := by simp [h12]
              have t11 : (n.op == 11) = false := by simp [h12]
              have H12 := hide h12
              clear h12 hway hway2
              go_wp2_with fail
              go_roundg (l.length - (k + 1))
              case measure => have := Hgk2.out; omega
              case rel =>
                refine ⟨k + 1, x, by omega, by go_num, rfl, HRe.out.next (fun _ n2 h2 m hlm => ?_), HRow.out.alloc _, HP.out.alloc _, hB.alloc hz _⟩
                rw [Hn.out] at h2
                injection h2 with h2
                subst h2
                have := H12.out
                rcases leads_cases hlm with ⟨h, _⟩ | ⟨h, _⟩ <;> omega
            · obtain ⟨t0, t1⟩ := hway h12
              obtain ⟨tt, htt⟩ := Int.eq_ofNat_of_zero_le (show 0 ≤ n.t by omega)
              have t12 : (n.op != 12) = true := by simp [h12]
              obtain ⟨ct, ft⟩ := HRow.out.bool_at_ (k := tt) (by rw [Hxl.out]; omega)
              rw [htt] at c4
              have t0' : (0 : Int) ≤ (tt : Int) := by omega
              have t1' : (tt : Int) < (l.length : Int) := by omega
              have htl : tt < l.length := by omega
              have hxtl : tt < x.length := by rw [Hxl.out]; exact htl
              have Hxtl := hide hxtl
              have Htt := hide htt
              have H12 := hide h12
              have hld := leads_then h12
              rw [htt] at hld
              have Hld := hide hld
              clear h12 htt t0 t1 hway hld hxtl
              go_upto_if 40 with fail
              obtain ⟨wn, hwn⟩ : ∃ wn : World, wn = wr.alloc (.cells #[.int .i64 n.op, .int .i64 n.d, .int .i64 n.a, .int .i64 n.b, .int .i64 (tt : Int), .int .i64 n.e] 91) := ⟨_, rfl⟩
              have hbW : Below wr.heap.size wr wn := by rw [hwn]; exact (Below.refl _ _).alloc (Nat.le_refl _) _
              have hXn : Blk wn wr.heap.size 91 #[.int .i64 n.op, .int .i64 n.d, .int .i64 n.a, .int .i64 n.b, .int .i64 (tt : Int), .int .i64 n.e] := by rw [hwn]; exact (by repeat (first | ((with_reducible refine Blk.new' ?_); exact (by (try simp only [World.size_alloc, World.size_setCell, World.size_drew, World.heap_drewN]); (first | done | omega | ((try simp only [World.size_alloc, World.size_setCell, World.size_drew, World.heap_drewN] at *); omega)))) | (with_reducible refine Blk.drew ?_) | (with_reducible refine Blk.drewN ?_ _) | (with_reducible refine Blk.alloc ?_ _) | with_reducible assumption))
              rw [← hwn]
              have b4 := hXn.cell 4
              simp only [List.getElem?_toArray, List.getElem?_cons_zero, List.getElem?_cons_succ] at b4
              have ct' := ((bcell hbW).1 _ _ lx).trans ct
              have ft' := ((bcell hbW).2 _ _ lx).trans ft
              have lxn := Nat.lt_of_lt_of_le lx hbW.size
              have HXn := hide hXn
              clear hwn hXn ct ft ck fk c0 c1 c2 c3 c4 c5
              go_cut [] (fun wx => Row wx w.heap.size 4 (.slice (some ⟨w.heap.size + 1, 0, none⟩) l.length l.length) (bools (x.set tt true)) ∧ Blk wx wr.heap.size 91 #[.int .i64 n.op, .int .i64 n.d, .int .i64 n.a, .int .i64 n.b, .int .i64 (tt : Int), .int .i64 n.e] ∧
                Blk wx w.heap.size 24 #[.int .i64 regs, .slice (some ⟨nb, no, none⟩) l.length cap] ∧ Below w.heap.size w wx ∧ wr.heap.size < wx.heap.size)
              case first =>
                go_wp2_with fail
                go_meet
                go_tidy
                exact ⟨(HRow.out.below' hbW).setb0 tt true, HXn.out.far (by simp <;> omega) _, (HP.out.below hbW lp).far (by simp) _, (hB.trans (hbW.mono hz)).setCell (by simp) _, by have := HXn.out.lt; simpa using this⟩
              case rest =>
                obtain ⟨hR2, hX2, hP2, hB2, hz2⟩ := hcut
                obtain ⟨wx, rfl⟩ : ∃ wx : World, wx = wc := ⟨_, rfl⟩
                obtain ⟨ck, fk⟩ := hR2.bool_at_ (k := k) (by rw [List.length_set, Hxl.out]; exact hkl)
                rw [yn_set_mono Hxtl.out Hxk.out] at ck
                have b0 := hX2.cell 0
                have b5 := hX2.cell 5
                simp only [List.getElem?_toArray, List.getElem?_cons_zero, List.getElem?_cons_succ] at b0 b5
                have lx2 := (hR2.lt _ rfl).2
                have lp2 := hP2.lt
                have hRe2 := HRe.out.add Hxk.out Hn.out Hld.out htl Hb.out
                have HRe2 := hide hRe2
                clear ct' ft' lxn b4 HXn hRe2
                by_cases h11 : n.op = 11
                · obtain ⟨e0, e1⟩ := hway2 h11
                  obtain ⟨ee, hee⟩ := Int.eq_ofNat_of_zero_le (show 0 ≤ n.e by omega)
                  have t11 : (n.op == 11) = true := by simp [h11]
                  have hel : ee < l.length := by omega
                  obtain ⟨ce, fe⟩ := hR2.bool_at_ (k := ee) (by rw [List.length_set, Hxl.out]; exact hel)
                  rw [hee] at b5
                  have e0' : (0 : Int) ≤ (ee : Int) := by omega
                  have e1' : (ee : Int) < (l.length : Int) := by omega
                  have hld2 := leads_else h11
                  rw [hee] at hld2
                  have Hld2 := hide hld2
                  have Hee := hide hee
                  have H11 := hide h11
                  have HR2 := hide hR2
                  have HP2 := hide hP2
                  clear h11 hee e0 e1 hld2 hR2 hP2 hX2 hway2
                  go_wp2_with fail
                  go_roundg (l.length - (k + 1))
                  case measure => have := Hgk2.out; omega
                  case rel =>
                    have hyk : yn (x.set tt true) k = true := yn_set_mono Hxtl.out Hxk.out
                    have hel' : ee < (x.set tt true).length := by rw [List.length_set, Hxl.out]; exact hel
                    refine ⟨k + 1, (x.set tt true).set ee true, by omega, by go_num, rfl, (HRe2.out.add hyk Hn.out Hld2.out hel Hb.out).next (fun _ n2 h2 m hlm => ?_), HR2.out.setb0 ee true, HP2.out.far (by simp) _, hB2.setCell (by simp) _⟩
                    rw [Hn.out] at h2
                    injection h2 with h2
                    subst h2
                    rcases leads_cases hlm with ⟨_, h⟩ | ⟨_, h⟩
                    · rw [Htt.out] at h
                      obtain rfl : m = tt := by omega
                      exact yn_set_mono hel' (by rw [yn_set _ _ _ _ Hxtl.out]; simp)
                    · rw [Hee.out] at h
                      obtain rfl : m = ee := by omega
                      rw [yn_set _ _ _ _ hel']
                      simp
                · have t11 : (n.op == 11) = false := by simp [h11]
                  have H11 := hide h11
                  have HR2 := hide hR2
                  have HP2 := hide hP2
                  clear h11 hR2 hP2 hX2 hway2
                  go_wp2_with fail
                  go_roundg (l.length - (k + 1))
                  case measure => have := Hgk2.out; omega
                  case rel =>
                    refine ⟨k + 1, x.set tt true, by omega, by go_num, rfl, HRe2.out.next (fun _ n2 h2 m hlm => ?_), HR2.out, HP2.out, hB2⟩
                    rw [Hn.out] at h2
                    injection h2 with h2
                    subst h2
                    rcases leads_cases hlm with ⟨_, h⟩ | ⟨h, _⟩
                    · rw [Htt.out] at h
                      obtain rfl : m = tt := by omega
                      rw [yn_set _ _ _ _ Hxtl.out]
                      simp
                    · exact absurd h H11.out
        · have hkk : k = l.length := by omega
          have Hkk := hide hkk
          have HRow := hide hRow
          have HP := hide hP
          clear hkk hRow hP
          go_wp2_with fail
          go_roundg (l.length - (c + 1))
          case measure => have := Hgk.out; omega
          case rel =>
            have := HRe.out
            rw [Hkk.out] at this
            exact ⟨c + 1, x, by omega, by go_num, rfl, this.under, this.zero, this.end_, HRow.out, HP.out, hB⟩
    · have hcc : c = l.length := by omega
      have Hcc := hide hcc
      clear hcc
      go_wp2_with fail
      go_ret
      refine ⟨_, rfl, ?_, hB⟩
      rw [← reach_done HU.out (by have := Hw.out; rwa [Hcc.out] at this)]
      exact HRow.out
end Go.Proofs.Ytmghkonmfbpjcaa
