/- The reference's liveAt: at which nodes a register is live. -/
import Derived.Test.YtmghkonmfbpjcaaDoorLiveW
import Derived.Test.YtmghkonmfbpjcaaDoorLiveR
import Derived.Deep.LoopGhost
import Derived.Deep.DeepCutAuto
namespace Go.Proofs.YtmghkonmfbpjcaaDoor
set_option linter.unusedVariables false
set_option linter.unusedSimpArgs false
open Go.RowKit
set_option maxHeartbeats 4000000
attribute [local irreducible] Row madeCells

theorem infoBool_ : (Tryd.prog.info? 4).map (fun i => (i.zero, i.size, i.bytes)) = some (some (.bool false), 1, 1) := by kernel_rfl
def BoolsPost (t : TypeId) (x : List Bool) (w : World) (e : Ending) (w' : World) : Prop := ∃ v, e = .returned v ∧ Row w' w.heap.size t v (bools x) ∧ Below w.heap.size w w'

theorem sweep_len (S : List Bool → Nat → Bool) : ∀ (k : Nat) (x : List Bool), (sweep S k x).length = x.length
  | 0, _ => rfl
  | k + 1, x => by rw [sweep, sweep_len S k]; simp
theorem sweeps_len (S : List Bool → Nat → Bool) (n : Nat) : ∀ c, (sweeps S n c).length = n
  | 0 => by simp [sweeps]
  | c + 1 => by rw [sweeps, sweep_len, sweeps_len S n c]

set_option maxRecDepth 100000 in
theorem liveAt_any (regs : Int) (A : Option Addr) (l : List Nd) (cap : Nat) (r : Nat) (w : World) (hA : NodesAt w A l) (hR : Right regs l) :
    Calls Tryd.prog 28 #[.agg #[.int .i64 regs, .slice A l.length cap], .int .i64 r] w (BoolsPost 4 (lvx l r) w) := by
  have hlo := hR.lo
  have hhi := hR.hi
  have HR := hide hR
  clear hR
  obtain ⟨ib, hbi, hbz, hbs, hbb⟩ := info_parts infoBool_
  have hmk := run_make1 (P := Tryd.prog) 63 4 ib _ 1 Tryd.underlying63 hbi hbz hbs hbb (by omega) rfl l.length (by omega)
  go_enter Tryd.func28, Tryd.ntmps28
  go_wp2_with fail
  go_loopg [6] (l.length + 1) (fun gk i wr => ∃ c : Nat, c ≤ l.length + 1 ∧ i = .int .i64 c ∧ gk = l.length + 1 - c ∧
    Row wr w.heap.size 4 (.slice (some ⟨w.heap.size + 1, 0, none⟩) l.length l.length) (bools (sweeps (liveS l r) l.length c)) ∧ Blk wr w.heap.size 24 #[.int .i64 regs, .slice A l.length cap] ∧ Below w.heap.size w wr)
  case atStart => exact ⟨0, Nat.zero_le _, rfl, rfl, by rw [sweeps, bools, List.map_replicate]; exact (by repeat (first | ((with_reducible refine Row.made1' ?_ ?_ ?_); exact (by (try simp only [World.size_alloc, World.size_setCell, World.size_drew, World.heap_drewN]); (first | done | omega | ((try simp only [World.size_alloc, World.size_setCell, World.size_drew, World.heap_drewN] at *); omega))); exact (by (try simp only [World.size_alloc, World.size_setCell, World.size_drew, World.heap_drewN]); (first | done | omega | ((try simp only [World.size_alloc, World.size_setCell, World.size_drew, World.heap_drewN] at *); omega))); exact (by (try simp only [World.size_alloc, World.size_setCell, World.size_drew, World.heap_drewN]); (first | done | omega | ((try simp only [World.size_alloc, World.size_setCell, World.size_drew, World.heap_drewN] at *); omega)))) | (with_reducible refine Row.drew ?_) | (with_reducible refine Row.drewN ?_ _) | (with_reducible refine Row.alloc ?_ _) | with_reducible assumption)), (by repeat (first | ((with_reducible refine Blk.new' ?_); exact (by (try simp only [World.size_alloc, World.size_setCell, World.size_drew, World.heap_drewN]); (first | done | omega | ((try simp only [World.size_alloc, World.size_setCell, World.size_drew, World.heap_drewN] at *); omega)))) | (with_reducible refine Blk.drew ?_) | (with_reducible refine Blk.drewN ?_ _) | (with_reducible refine Blk.alloc ?_ _) | with_reducible assumption)), (by repeat (first | (with_reducible exact Below.refl _ _) | (with_reducible assumption) | (with_reducible refine Below.drew ?_) | (with_reducible refine below_drewN ?_ _) | (with_reducible refine Below.alloc ?_ (by (try simp only [World.size_alloc, World.size_setCell, World.size_drew, World.heap_drewN]); (first | done | omega | ((try simp only [World.size_alloc, World.size_setCell, World.size_drew, World.heap_drewN] at *); omega))) _) | (with_reducible refine Below.setCell ?_ (by (try simp only [World.size_alloc, World.size_setCell, World.size_drew, World.heap_drewN]); (first | done | omega | ((try simp only [World.size_alloc, World.size_setCell, World.size_drew, World.heap_drewN] at *); omega))) _) | (with_reducible refine Below.trans ?_ (Below.mono (by assumption) (by (try simp only [World.size_alloc, World.size_setCell, World.size_drew, World.heap_drewN]); (first | done | omega | ((try simp only [World.size_alloc, World.size_setCell, World.size_drew, World.heap_drewN] at *); omega)))))))⟩
  case round =>
    clear hmk
    obtain ⟨c, hcl, rfl, hgk, hRow, hP, hB⟩ := hrel
    have Hgk := hide hgk
    have HRow := hide hRow
    have HP := hide hP
    clear hgk hRow hP
    by_cases hlt : c ≤ l.length
    · go_wp2_with fail
      obtain ⟨wo, rfl⟩ : ∃ wo : World, wo = wr := ⟨_, rfl⟩
      obtain ⟨gk3, rfl⟩ : ∃ gk3 : Nat, gk3 = gk := ⟨_, rfl⟩
      go_loopg [7] (l.length) (fun gk i wr => ∃ (k : Nat) (y : List Bool), k ≤ l.length ∧ i = .int .i64 ((k : Int) - 1) ∧ gk = k ∧ y.length = l.length ∧ sweep (liveS l r) k y = sweeps (liveS l r) l.length (c + 1) ∧
        Row wr w.heap.size 4 (.slice (some ⟨w.heap.size + 1, 0, none⟩) l.length l.length) (bools y) ∧ Blk wr w.heap.size 24 #[.int .i64 regs, .slice A l.length cap] ∧ Below w.heap.size w wr)
      case atStart => exact ⟨l.length, _, Nat.le_refl _, rfl, rfl, sweeps_len _ _ _, rfl, HRow.out, HP.out, hB⟩
      case round =>
        clear HRow HP hB
        obtain ⟨k, y, hk, rfl, hgk, hyl, hsw, hRow, hP, hB⟩ := hrel
        have Hgk2 := hide hgk
        have Hyl := hide hyl
        have Hsw := hide hsw
        have hz := hB.size
        have p0 := hP.cell 0
        have p1 := hP.cell 1
        simp only [List.getElem?_toArray, List.getElem?_cons_zero, List.getElem?_cons_succ] at p0 p1
        have hxlt := (hRow.lt _ rfl).2
        have lp := hP.lt
        clear hgk hyl hsw
        cases k with
        | zero =>
          have HRow := hide hRow
          have HP := hide hP
          clear hRow hP
          have k1 : (((0 : Nat) : Int) - 1) = -1 := by omega
          rw [k1]
          clear k1
          go_wp2_with fail
          go_roundg (l.length + 1 - (c + 1))
          case measure => have := Hgk.out; omega
          case rel => exact ⟨c + 1, by omega, by go_num, rfl, by rw [← Hsw.out]; exact HRow.out, HP.out, hB⟩
        | succ k =>
          obtain ⟨x, hx⟩ : ∃ x, l[k]? = some x := ⟨_, List.getElem?_eq_getElem (by omega)⟩
          obtain ⟨xb, xo, x', rfl, hxb, hx', hxl⟩ := (hA.below hB).get (k := k) (by omega)
          rw [hx] at hx'
          injection hx' with hx'
          subst hx'
          obtain ⟨c0, c1, c2, c3, c4, c5⟩ := hxl
          have hm := List.mem_of_getElem? hx
          have Hx := hide hx
          clear hx
          have hway := fun h => HR.out.then_ hm h
          have hway2 := fun h => HR.out.else_ hm h
          have hcell := fun (q : Nat) (hq : q < l.length) => hRow.bool (k := q) (by rw [Hyl.out]; exact hq)
          have hcell2 : ∀ q, q < l.length → wr.cell? ⟨w.heap.size + 1, q, none⟩ = some (.bool (yn y q)) := fun q hq => by
            obtain ⟨g0, o0, cp0, e0, _, _, cx, _⟩ := hcell q hq
            injection e0 with e0 e1 e2
            injection e0 with e0
            injection e0 with e0 e3
            subst e0 e3
            rw [Nat.zero_add] at cx
            exact cx
          have Hcell2 := hide hcell2
          have HRow := hide hRow
          have HP := hide hP
          have k1 : (((k + 1 : Nat) : Int) - 1) = (k : Int) := by omega
          rw [k1]
          clear k1 hcell hcell2 hRow hP hA
          have q0 : (0 : Int) ≤ (k : Int) := by omega
          have q1 : (k : Int) < (l.length : Int) := by omega
          go_upto_region 9 with fail
          obtain ⟨w6, hw6⟩ : ∃ w6 : World, w6 = wr.alloc (.cells #[.int .i64 x.op, .int .i64 x.d, .int .i64 x.a, .int .i64 x.b, .int .i64 x.t, .int .i64 x.e] 41) := ⟨_, rfl⟩
          have hX6 : Blk w6 wr.heap.size 41 #[.int .i64 x.op, .int .i64 x.d, .int .i64 x.a, .int .i64 x.b, .int .i64 x.t, .int .i64 x.e] := by rw [hw6]; exact (by repeat (first | ((with_reducible refine Blk.new' ?_); exact (by (try simp only [World.size_alloc, World.size_setCell, World.size_drew, World.heap_drewN]); (first | done | omega | ((try simp only [World.size_alloc, World.size_setCell, World.size_drew, World.heap_drewN] at *); omega)))) | (with_reducible refine Blk.drew ?_) | (with_reducible refine Blk.drewN ?_ _) | (with_reducible refine Blk.alloc ?_ _) | with_reducible assumption))
          have hL6 : Below wr.heap.size wr w6 := by rw [hw6]; exact Below.alloc (Below.refl _ _) (Nat.le_refl _) _
          rw [← hw6]
          clear hw6
          have b0 := hX6.cell 0
          have b1 := hX6.cell 1
          have b2 := hX6.cell 2
          have b3 := hX6.cell 3
          have b4 := hX6.cell 4
          have b5 := hX6.cell 5
          simp only [List.getElem?_toArray, List.getElem?_cons_zero, List.getElem?_cons_succ] at b0 b1 b2 b3 b4 b5
          have lx6 := hX6.lt
          have hz6 := hL6.size
          have Hc6 := hide (fun (q : Nat) (hq : q < l.length) => ((bcell hL6).1 _ q hxlt).trans (Hcell2.out q hq))
          have HX6 := hide hX6
          clear hX6 c0 c1 c2 c3 c4 c5 p0 p1
          go_cut [9] (fun s9 wx => s9 = .bool (behindB x y) ∧ wx = w6)
          case first =>
            by_cases h12 : x.op = 12
            · have hb : behindB x y = false := by simp [behindB, h12]
              have t12 : (x.op != 12) = false := by simp [h12]
              have t11 : (x.op == 11) = false := by simp [h12]
              have Hb := hide hb
              clear hb h12 hway hway2
              go_wp2_with fail
              go_meet
              go_tidy
              exact ⟨by rw [Hb.out], rfl⟩
            · obtain ⟨t0, t1⟩ := hway h12
              obtain ⟨tt, htt⟩ := Int.eq_ofNat_of_zero_le (show 0 ≤ x.t by omega)
              have ct := Hc6.out tt (by omega)
              have t12 : (x.op != 12) = true := by simp [h12]
              have t1' : (tt : Int) < (l.length : Int) := by omega
              have t0' : (0 : Int) ≤ (tt : Int) := by omega
              by_cases h11 : x.op = 11
              · obtain ⟨e0, e1⟩ := hway2 h11
                obtain ⟨ee, hee⟩ := Int.eq_ofNat_of_zero_le (show 0 ≤ x.e by omega)
                have ce := Hc6.out ee (by omega)
                have e1' : (ee : Int) < (l.length : Int) := by omega
                have e0' : (0 : Int) ≤ (ee : Int) := by omega
                have t11 : (x.op == 11) = true := by simp [h11]
                have hb : behindB x y = (yn y tt || yn y ee) := by simp [behindB, h11, htt, hee]
                have Hb := hide hb
                rw [htt] at b4
                rw [hee] at b5
                clear hb h12 h11 hway hway2 htt hee e0 e1 t0 t1
                generalize yn y tt = vt at *
                generalize yn y ee = ve at *
                cases vt
                all_goals go_wp2_with fail
                all_goals go_meet
                all_goals go_tidy
                all_goals exact ⟨by first | (rw [Hb.out]; done) | (rw [Hb.out]; rfl), rfl⟩
              · have t11 : (x.op == 11) = false := by simp [h11]
                have hb : behindB x y = yn y tt := by
                  have e1 : (x.op == 11) = false := t11
                  simp [behindB, h12, htt, e1]
                have Hb := hide hb
                rw [htt] at b4
                clear hb h12 h11 hway hway2 htt t0 t1
                generalize yn y tt = vt at *
                cases vt
                all_goals go_wp2_with fail
                all_goals go_meet
                all_goals go_tidy
                all_goals exact ⟨by first | (rw [Hb.out]; done) | (rw [Hb.out]; rfl), rfl⟩
          case rest =>
            obtain ⟨rfl, rfl⟩ := hcut
            obtain ⟨w7, rfl⟩ : ∃ w7 : World, w7 = wc := ⟨_, rfl⟩
            have hU : ∀ W, Calls Tryd.prog 42 #[.agg #[.int .i64 x.op, .int .i64 x.d, .int .i64 x.a, .int .i64 x.b, .int .i64 x.t, .int .i64 x.e], .int .i64 r] W fun e w' => e = .returned (.bool (usesB x r)) ∧ Below W.heap.size W w' := fun W => uses_any x r W
            have hM : ∀ W, Calls Tryd.prog 43 #[.agg #[.int .i64 x.op, .int .i64 x.d, .int .i64 x.a, .int .i64 x.b, .int .i64 x.t, .int .i64 x.e], .int .i64 r] W fun e w' => e = .returned (.bool (makesB x r)) ∧ Below W.heap.size W w' := fun W => sets_any x r W
            have hS : liveS l r y k = (usesB x r || (!makesB x r && behindB x y)) := by
              unfold liveS
              rw [List.getD_eq_getElem?_getD, Hx.out]
              rfl
            have HS := hide hS
            have cx := Hc6.out k (by omega)
            have fx : w7.frozen? ⟨w.heap.size + 1, k, none⟩ = false := by
              have := (HRow.out.below' hL6).get (k := k) (by rw [bools_length, Hyl.out]; omega)
              obtain ⟨g, o, cp, v, e0, _, _, _, _, hf⟩ := this
              injection e0 with e0 e1 e2
              injection e0 with e0
              injection e0 with e0 e3
              subst e0 e3
              rw [Nat.zero_add] at hf
              exact hf
            have lx7 : w.heap.size + 1 < w7.heap.size := by omega
            clear hway hway2 hS
            generalize behindB x y = vb at *
            generalize usesB x r = vu at *
            generalize makesB x r = vm at *
            have HU := hide hU
            have HM := hide hM
            clear hU hM
            cases vu
            case true =>
              go_wp2_with (go_at_call 42; refine (HU.out _).mono ?_; rintro e w8 ⟨rfl, hb8⟩; have hz8 := hb8.size; have cx8 := ((bcell hb8).1 _ _ lx7).trans cx; have fx8 := ((bcell hb8).2 _ _ lx7).trans fx)
              (go_roundg k; (case measure => (have := Hgk2.out; omega)); (case rel => (have hb7 : Below w7.heap.size w7 w8 := hb8; have hz7 : w7.heap.size ≤ w8.heap.size := hz8; have hR7 := ((HRow.out.below' hL6).below' hb7).setb k (liveS l r y k); rw [Nat.zero_add] at hR7; refine ⟨k, y.set k (liveS l r y k), by omega, by go_num, rfl, by simpa using Hyl.out, by rw [← Hsw.out]; rfl, ?_, (((HP.out.below hL6 lp)).below hb7 (by omega)).far (by simp) _, ((hB.trans (hL6.mono hz)).trans (hb7.mono (by omega))).setCell (by simp <;> omega) _⟩; rw [HS.out] at hR7 ⊢; exact hR7)))
            case false =>
              cases vm
              all_goals (go_wp2_with (first
                | (go_at_call 42; refine (HU.out _).mono ?_; rintro e w8 ⟨rfl, hb8⟩; have hz8 := hb8.size; obtain ⟨hc8, hf8⟩ := bcell hb8; have cx8 := (hc8 _ _ lx7).trans cx; have fx8 := (hf8 _ _ lx7).trans fx; have lx8 := Nat.lt_of_lt_of_le lx7 hz8; have d0 := (hc8 _ _ lx6).trans b0; have d1 := (hc8 _ _ lx6).trans b1; have d2 := (hc8 _ _ lx6).trans b2; have d3 := (hc8 _ _ lx6).trans b3; have d4 := (hc8 _ _ lx6).trans b4; have d5 := (hc8 _ _ lx6).trans b5)
                | (go_at_call 43; refine (HM.out _).mono ?_; rintro e w9 ⟨rfl, hb9⟩; have hz9 := hb9.size; have cx9 := ((bcell hb9).1 _ _ lx8).trans cx8; have fx9 := ((bcell hb9).2 _ _ lx8).trans fx8)))
              all_goals (go_roundg k; (case measure => (have := Hgk2.out; omega)); (case rel => (have hb7 : Below w7.heap.size w7 w9 := (hb8.trans (hb9.mono hz8)); have hz7 : w7.heap.size ≤ w9.heap.size := (Nat.le_trans hz8 hz9); have hR7 := ((HRow.out.below' hL6).below' hb7).setb k (liveS l r y k); rw [Nat.zero_add] at hR7; refine ⟨k, y.set k (liveS l r y k), by omega, by go_num, rfl, by simpa using Hyl.out, by rw [← Hsw.out]; rfl, ?_, (((HP.out.below hL6 lp)).below hb7 (by omega)).far (by simp) _, ((hB.trans (hL6.mono hz)).trans (hb7.mono (by omega))).setCell (by simp <;> omega) _⟩; rw [HS.out] at hR7 ⊢; exact hR7)))
    · have hcc : c = l.length + 1 := by omega
      have Hcc := hide hcc
      clear hcc
      go_wp2_with fail
      go_ret
      refine ⟨_, rfl, ?_, hB⟩
      have := HRow.out
      rw [Hcc.out] at this
      exact this
end Go.Proofs.YtmghkonmfbpjcaaDoor
