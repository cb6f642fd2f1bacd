/- The reference's SolveOf: the greatest answer. -/
import Derived.Test.YtmghkonmfbpjcaaFlowP
import Derived.Deep.LoopGhost
namespace Go.Proofs.Ytmghkonmfbpjcaa
set_option linter.unusedVariables false
set_option linter.unusedSimpArgs false
open Go.RowKit
set_option maxHeartbeats 2000000
attribute [local irreducible] Row madeCells

theorem infoBool : (Try.prog.info? 4).map (fun i => (i.zero, i.size, i.bytes)) = some (some (.bool false), 1, 1) := by kernel_rfl

theorem SolveOf_any (regs : Int) (A : Option Addr) (l : List Nd) (cap : Nat) (bk em : Bool) (G P Q T : Option Addr) (g p q t gc pc qc tc : Nat) (gen pass plus lt : List Bool) (w : World)
    (hA : NodesAt w A l) (hl : 1 ≤ l.length ∧ l.length ≤ 256)
    (hG : ValsAt w G (bools gen)) (hP : ValsAt w P (bools pass)) (hQ : ValsAt w Q (bools plus)) (hT : ValsAt w T (bools lt))
    (hg : gen.length = g) (hp : pass.length = p) (hq : plus.length = q) (ht : lt.length = t)
    (eg : g = l.length) (ep : p = l.length) (eq_ : q = l.length) (et : t = l.length) :
    Calls Try.prog 14 #[.agg #[.int .i64 regs, .slice A l.length cap], .agg #[.bool bk, .bool em, .slice G g gc, .slice P p pc, .slice Q q qc, .slice T t tc]] w
      fun e w' => ∃ x, Great (flowS bk em gen pass plus lt l) l.length x ∧ RowPost w.heap.size 4 (bools x) w e w' := by
  obtain ⟨hl1, hl2⟩ := hl
  have hsays := fun (x : List Bool) (X : Option Addr) (xc : Nat) (n : Nat) (W : World) (hn : n < l.length) (hx : x.length = l.length) (hW : Below w.heap.size w W) (hX : ValsAt W X (bools x)) =>
    rsays_loop regs A l cap bk em G P Q T X g p q t x.length gc pc qc tc xc gen pass plus lt x n W (hA.below hW) ⟨hl1, hl2⟩ hn (hG.below hW) (hP.below hW) (hQ.below hW) (hT.below hW) hX hg hp hq ht rfl eg ep eq_ et hx
  have Hsays := hide hsays
  clear hsays hG hP hQ hT hg hp hq ht eg ep eq_ et
  obtain ⟨ib, hbi, hbz, hbs, hbb⟩ := info_parts infoBool
  have hmk := run_make1 (P := Try.prog) 25 4 ib _ 1 Try.underlying25 hbi hbz hbs hbb (by omega) rfl l.length (by omega)
  go_enter Try.func14, Try.ntmps14
  go_wp2_with fail
  go_loopg [6] (l.length) (fun gk i wr => ∃ k : Nat, k ≤ l.length ∧ i = .int .i64 k ∧ gk = l.length - k ∧ ∃ x : List Bool, x.length = l.length ∧ (∀ j, j < k → yn x j = true) ∧ Row wr w.heap.size 4 (.slice (some ⟨w.heap.size + 1 + 1, 0, none⟩) l.length l.length) (bools x) ∧
      Blk wr w.heap.size 24 #[.int .i64 regs, .slice A l.length cap] ∧ Blk wr (w.heap.size + 1) 27 #[.bool bk, .bool em, .slice G g gc, .slice P p pc, .slice Q q qc, .slice T t tc] ∧ Below w.heap.size w wr)
  case atStart => exact ⟨0, Nat.zero_le _, rfl, by omega, List.replicate l.length false, by simp, fun j hj => by omega, by rw [bools, List.map_replicate]; exact (by repeat (first | ((with_reducible refine Row.made1' ?_ ?_ ?_); exact (by (try simp only [World.size_alloc, World.size_setCell, World.size_drew, World.heap_drewN]); (first | done | omega | ((try simp only [World.size_alloc, World.size_setCell, World.size_drew, World.heap_drewN] at *); omega))); exact (by (try simp only [World.size_alloc, World.size_setCell, World.size_drew, World.heap_drewN]); (first | done | omega | ((try simp only [World.size_alloc, World.size_setCell, World.size_drew, World.heap_drewN] at *); omega))); exact (by (try simp only [World.size_alloc, World.size_setCell, World.size_drew, World.heap_drewN]); (first | done | omega | ((try simp only [World.size_alloc, World.size_setCell, World.size_drew, World.heap_drewN] at *); omega)))) | (with_reducible refine Row.drew ?_) | (with_reducible refine Row.drewN ?_ _) | (with_reducible refine Row.alloc ?_ _) | with_reducible assumption)), (by repeat (first | ((with_reducible refine Blk.new' ?_); exact (by (try simp only [World.size_alloc, World.size_setCell, World.size_drew, World.heap_drewN]); (first | done | omega | ((try simp only [World.size_alloc, World.size_setCell, World.size_drew, World.heap_drewN] at *); omega)))) | (with_reducible refine Blk.drew ?_) | (with_reducible refine Blk.drewN ?_ _) | (with_reducible refine Blk.alloc ?_ _) | with_reducible assumption)), (by repeat (first | ((with_reducible refine Blk.new' ?_); exact (by (try simp only [World.size_alloc, World.size_setCell, World.size_drew, World.heap_drewN]); (first | done | omega | ((try simp only [World.size_alloc, World.size_setCell, World.size_drew, World.heap_drewN] at *); omega)))) | (with_reducible refine Blk.drew ?_) | (with_reducible refine Blk.drewN ?_ _) | (with_reducible refine Blk.alloc ?_ _) | with_reducible assumption)), (by repeat (first | (with_reducible exact Below.refl _ _) | (with_reducible assumption) | (with_reducible refine Below.drew ?_) | (with_reducible refine below_drewN ?_ _) | (with_reducible refine Below.alloc ?_ (by (try simp only [World.size_alloc, World.size_setCell, World.size_drew, World.heap_drewN]); (first | done | omega | ((try simp only [World.size_alloc, World.size_setCell, World.size_drew, World.heap_drewN] at *); omega))) _) | (with_reducible refine Below.setCell ?_ (by (try simp only [World.size_alloc, World.size_setCell, World.size_drew, World.heap_drewN]); (first | done | omega | ((try simp only [World.size_alloc, World.size_setCell, World.size_drew, World.heap_drewN] at *); omega))) _) | (with_reducible refine Below.trans ?_ (Below.mono (by assumption) (by (try simp only [World.size_alloc, World.size_setCell, World.size_drew, World.heap_drewN]); (first | done | omega | ((try simp only [World.size_alloc, World.size_setCell, World.size_drew, World.heap_drewN] at *); omega)))))))⟩
  case round =>
    obtain ⟨k, hk, rfl, hgk, x, hxl, hxt, hR, hP, hF, hB⟩ := hrel
    have Hgk := hide hgk
    clear hgk
    have hxt' := hide hxt
    have Hxl := hide hxl
    clear hxt hxl
    have hz := hB.size
    have hxlt := (hR.lt _ rfl).2
    by_cases hlt : k < l.length
    · obtain ⟨g0, o0, cp0, e0, _, _, cx, fx⟩ := hR.bool (k := k) (by rw [Hxl.out]; exact hlt)
      injection e0 with e0 e1 e2
      injection e0 with e0
      injection e0 with e0 e3
      subst e0 e3
      simp only [Nat.zero_add] at cx fx
      clear e1 e2
      have HR := hide hR
      have HP := hide hP
      have HF := hide hF
      clear hR hP hF
      go_wp2_with fail
      go_roundg (l.length - (k + 1))
      case measure => have := Hgk.out; omega
      case rel =>
        refine ⟨k + 1, by omega, by go_num, rfl, x.set k true, by simpa using Hxl.out, fun j hj => ?_, by have := HR.out.setb k true; rwa [Nat.zero_add] at this, HP.out.far (by simp <;> omega) _, HF.out.far (by simp <;> omega) _, hB.setCell (by simp <;> omega) _⟩
        rw [yn_set _ _ _ _ (by rw [Hxl.out]; exact hlt)]
        split
        · rfl
        · exact hxt'.out j (by omega)
    · have hkk : k = l.length := by omega
      have hAb : Above (flowS bk em gen pass plus lt l) l.length x := Above.start Hxl.out fun i hi => hxt'.out i (by omega)
      have HAb := hide hAb
      have HR := hide hR
      have HP := hide hP
      have HF := hide hF
      clear hR hP hF hAb hkk hxt'
      obtain ⟨w1, rfl⟩ : ∃ w1 : World, w1 = wr := ⟨_, rfl⟩
      go_wp2_with fail
      go_loopg [7] (2 * l.length + 1) (fun gk ch wr => ∃ (x : List Bool) (c : Bool), ch = .bool c ∧ 2 * cnt x + (if c = true then 1 else 0) ≤ gk ∧ Above (flowS bk em gen pass plus lt l) l.length x ∧ (c = false → ∀ i, i < l.length → yn x i = true → flowS bk em gen pass plus lt l x i = true) ∧
          Row wr w.heap.size 4 (.slice (some ⟨w.heap.size + 1 + 1, 0, none⟩) l.length l.length) (bools x) ∧
          Blk wr w.heap.size 24 #[.int .i64 regs, .slice A l.length cap] ∧ Blk wr (w.heap.size + 1) 27 #[.bool bk, .bool em, .slice G g gc, .slice P p pc, .slice Q q qc, .slice T t tc] ∧ Below w.heap.size w wr)
      case atStart => exact ⟨x, true, rfl, by have := cnt_le x; rw [Hxl.out] at this; simp; omega, HAb.out, fun h => by (simp at h), HR.out, HP.out, HF.out, hB⟩
      case round =>
        clear HAb HR HP HF hB hz hxlt Hgk Hxl
        obtain ⟨x, c, rfl, hgc, hAb, hcf, hR, hP, hF, hB⟩ := hrel
        have Hgc := hide hgc
        have HAb := hide hAb
        have Hcf := hide hcf
        clear hgc hAb hcf
        have hz := hB.size
        cases c
        case false =>
          go_wp2_with fail
          go_ret
          exact ⟨x, Above.great (flowS_mono _ _ _ _ _ _ _) HAb.out (Hcf.out (by trivial)), _, rfl, hR, hB⟩
        case true =>
          obtain ⟨w2, rfl⟩ : ∃ w2 : World, w2 = wr := ⟨_, rfl⟩
          obtain ⟨gk2, rfl⟩ : ∃ gk2 : Nat, gk2 = gk := ⟨_, rfl⟩
          have HR := hide hR
          have HP := hide hP
          have HF := hide hF
          clear hR hP hF
          go_wp2_with fail
          go_loopg [7, 8] (l.length) (fun gk ch i wr => ∃ (k : Nat) (y : List Bool) (c : Bool), k ≤ l.length ∧ i = .int .i64 k ∧ gk = l.length - k ∧ ch = .bool c ∧ Above (flowS bk em gen pass plus lt l) l.length y ∧ cnt y + (if c = true then 1 else 0) ≤ cnt x ∧
              (c = false → ∀ i, i < k → yn y i = true → flowS bk em gen pass plus lt l y i = true) ∧
              Row wr w.heap.size 4 (.slice (some ⟨w.heap.size + 1 + 1, 0, none⟩) l.length l.length) (bools y) ∧
              Blk wr w.heap.size 24 #[.int .i64 regs, .slice A l.length cap] ∧ Blk wr (w.heap.size + 1) 27 #[.bool bk, .bool em, .slice G g gc, .slice P p pc, .slice Q q qc, .slice T t tc] ∧ Below w.heap.size w wr)
          case atStart => exact ⟨0, x, false, Nat.zero_le _, rfl, by omega, rfl, HAb.out, by simp, fun _ i hi => by omega, HR.out, HP.out, HF.out, hB⟩
          case round =>
            clear HAb HR HP HF hB hz Hcf
            obtain ⟨k, y, c, hk, rfl, hgk, rfl, hAb, hcnt, hcf, hR, hP, hF, hB⟩ := hrel
            have Hgk := hide hgk
            have hyl := hAb.1
            have HAb := hide hAb
            have Hcf := hide hcf
            have Hcnt := hide hcnt
            clear hgk hAb hcf hcnt
            have hz := hB.size
            have hxlt := (hR.lt _ rfl).2
            by_cases hlt : k < l.length
            · obtain ⟨g0, o0, cp0, e0, _, _, cx, fx⟩ := hR.bool (k := k) (by rw [hyl]; exact hlt)
              injection e0 with e0 e1 e2
              injection e0 with e0
              injection e0 with e0 e3
              subst e0 e3
              simp only [Nat.zero_add] at cx fx
              have Hyl := hide hyl
              clear e1 e2 hyl
              have p0 := hP.cell 0
              have p1 := hP.cell 1
              have f0 := hF.cell 0
              have f1 := hF.cell 1
              have f2 := hF.cell 2
              have f3 := hF.cell 3
              have f4 := hF.cell 4
              have f5 := hF.cell 5
              simp only [List.getElem?_toArray, List.getElem?_cons_zero, List.getElem?_cons_succ] at p0 p1 f0 f1 f2 f3 f4 f5
              have hcall := Hsays.out y (some ⟨w.heap.size + 1 + 1, 0, none⟩) l.length k wr hlt Hyl.out hB hR.vals
              rw [Hyl.out] at hcall
              have HR := hide hR
              have HP := hide hP
              have HF := hide hF
              clear hR hP hF
              cases hyk : yn y k
              case false =>
                rw [hyk] at cx
                clear hcall
                have Hyk := hide hyk
                clear hyk
                go_wp2_with fail
                go_roundg (l.length - (k + 1))
                case measure => have := Hgk.out; omega
                case rel =>
                  refine ⟨k + 1, y, c, by omega, by go_num, rfl, rfl, HAb.out, Hcnt.out, fun hc i hi hyi => ?_, HR.out, HP.out, HF.out, hB⟩
                  by_cases hik : i = k
                  · subst hik; rw [Hyk.out] at hyi; cases hyi
                  · exact Hcf.out hc i (by omega) hyi
              case true =>
                rw [hyk] at cx
                change Calls _ _ _ _ (fun e w' => e = .returned (.bool (flowS bk em gen pass plus lt l y k)) ∧ Below wr.heap.size wr w') at hcall
                have Hyk := hide hyk
                cases hs : flowS bk em gen pass plus lt l y k
                case true =>
                  rw [hs] at hcall
                  have Hcall := hide hcall
                  have Hs := hide hs
                  clear hcall hs hyk
                  go_wp2_with (go_at_call 53; refine (Hcall.out).mono ?_; rintro e w3 ⟨rfl, hb3⟩)
                  go_roundg (l.length - (k + 1))
                  case measure => have := Hgk.out; omega
                  case rel =>
                    refine ⟨k + 1, y, c, by omega, by go_num, rfl, rfl, HAb.out, Hcnt.out, fun hc i hi hyi => ?_, HR.out.below' hb3, HP.out.below hb3 HP.out.lt, HF.out.below hb3 HF.out.lt, (by repeat (first | (with_reducible exact Below.refl _ _) | (with_reducible assumption) | (with_reducible refine Below.drew ?_) | (with_reducible refine below_drewN ?_ _) | (with_reducible refine Below.alloc ?_ (by (try simp only [World.size_alloc, World.size_setCell, World.size_drew, World.heap_drewN]); (first | done | omega | ((try simp only [World.size_alloc, World.size_setCell, World.size_drew, World.heap_drewN] at *); omega))) _) | (with_reducible refine Below.setCell ?_ (by (try simp only [World.size_alloc, World.size_setCell, World.size_drew, World.heap_drewN]); (first | done | omega | ((try simp only [World.size_alloc, World.size_setCell, World.size_drew, World.heap_drewN] at *); omega))) _) | (with_reducible refine Below.trans ?_ (Below.mono (by assumption) (by (try simp only [World.size_alloc, World.size_setCell, World.size_drew, World.heap_drewN]); (first | done | omega | ((try simp only [World.size_alloc, World.size_setCell, World.size_drew, World.heap_drewN] at *); omega)))))))⟩
                    by_cases hik : i = k
                    · subst hik; exact Hs.out
                    · exact Hcf.out hc i (by omega) hyi
                case false =>
                  rw [hs] at hcall
                  have Hcall := hide hcall
                  have Hs := hide hs
                  clear hcall hs hyk
                  go_wp2_with (go_at_call 53; refine (Hcall.out).mono ?_; rintro e w3 ⟨rfl, hb3⟩; have hz3 := hb3.size; have c3 := ((bcell hb3).1 _ _ hxlt).trans cx; have fr3 := ((bcell hb3).2 _ _ hxlt).trans fx)
                  go_roundg (l.length - (k + 1))
                  case measure => have := Hgk.out; omega
                  case rel =>
                    have hset := cnt_set (x := y) (k := k) (by rw [Hyl.out]; exact hlt) Hyk.out
                    have hcc := Hcnt.out
                    refine ⟨k + 1, y.set k false, true, by omega, by go_num, rfl, rfl, HAb.out.drop (flowS_mono _ _ _ _ _ _ _) hlt Hs.out, by simp; omega, fun hc => by (simp at hc), ?_, (HP.out.below hb3 HP.out.lt).far (by simp <;> omega) _, (HF.out.below hb3 HF.out.lt).far (by simp <;> omega) _, (hB.trans (hb3.mono hz)).setCell (by simp <;> omega) _⟩
                    have := (HR.out.below' hb3).setb k false
                    rwa [Nat.zero_add] at this
            · have hkk : k = l.length := by omega
              have Hkk := hide hkk
              clear hkk
              have HR := hide hR
              have HP := hide hP
              have HF := hide hF
              clear hR hP hF
              go_wp2_with fail
              go_roundg (2 * cnt y + (if c = true then 1 else 0))
              case measure =>
                have h1 := Hgc.out
                have h2 := Hcnt.out
                cases c <;> simp at * <;> omega
              case rel => exact ⟨y, c, rfl, Nat.le_refl _, HAb.out, fun hc i hi => Hcf.out hc i (by rw [Hkk.out]; exact hi), HR.out, HP.out, HF.out, hB⟩
end Go.Proofs.Ytmghkonmfbpjcaa
