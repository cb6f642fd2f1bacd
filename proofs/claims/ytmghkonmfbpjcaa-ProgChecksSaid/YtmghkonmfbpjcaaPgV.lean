/- prog.Terms, walked. -/
import Derived.Test.YtmghkonmfbpjcaaPgK
namespace Go.Proofs.Ytmghkonmfbpjcaa
set_option linter.unusedVariables false
set_option linter.unusedSimpArgs false
open Go.RowKit
open Go.Maps
set_option maxHeartbeats 4000000
attribute [local irreducible] Row TRow madeCells TSeen

theorem wf_small {z : Int} (h0 : -1000 ≤ z) (h1 : z ≤ 1000) : (Lit.int .i64 z).wf = true := by
  unfold Lit.wf
  rw [Bool.and_eq_true]
  exact ⟨decide_eq_true (by show (-9223372036854775808 : Int) ≤ _; omega), decide_eq_true (by show _ ≤ (9223372036854775807 : Int); omega)⟩
theorem Right.key {regs : Int} {l : List Nd} (h : Right regs l) {n : Nd} (hn : n ∈ l) (hB : hasB n.op = true) : ∃ k, keyOf Try.prog 47 n.tm.val = some k := by
  have h1 := h.rng n hn
  have h2 := h.rhi
  have hA : hasA n.op = true := by
    simp only [hasB, hasA, inB, Bool.and_eq_true, Bool.or_eq_true, decide_eq_true_eq] at *
    omega
  unfold badR okR at h1
  simp only [hB, hA, Bool.or_eq_false_iff, Bool.not_eq_false', Bool.not_true, Bool.false_or, Bool.and_eq_true, decide_eq_true_eq] at h1
  obtain ⟨⟨⟨⟨_, ha⟩, hb⟩, _⟩, _⟩ := h1
  simp only [hasB, inB, Bool.and_eq_true, decide_eq_true_eq] at hB
  exact keyTerm n.tm (wf_small (by show _ ≤ n.op; omega) (by show n.op ≤ _; omega)) (wf_small (by show _ ≤ n.a; omega) (by show n.a ≤ _; omega)) (wf_small (by show _ ≤ n.b; omega) (by show n.b ≤ _; omega))

def TmPost (tT : TypeId) (regs : Int) (l : List Nd) (w : World) (e : Ending) (w' : World) : Prop :=
  Below w.heap.size w w' ∧ ∃ v, e = .returned (.tuple #[v, .int .i64 (chk regs l)]) ∧ TRow w' w.heap.size tT v (if chk regs l = 0 then tmsOf l l.length else [])
set_option maxRecDepth 100000 in
theorem Terms_any (regs : Int) (A : Option Addr) (l : List Nd) (cap : Nat) (w : World) (hl : l.length ≤ maxLen) (hA : NodesAt w A l) :
    Calls Try.prog 35 #[.agg #[.int .i64 regs, .slice A l.length cap]] w (TmPost 47 regs l w) := by
  have hC := fun W (hW : Below w.heap.size w W) => Check_any regs A l cap W hl (hA.below hW)
  unfold maxLen at hl
  by_cases h0 : chk regs l = 0
  · have hR := right_of_chk h0
    unfold TmPost
    rw [if_pos h0]
    rw [h0] at hC ⊢
    have HC := hide hC
    have HR := hide hR
    have hhi := hR.hi
    obtain ⟨ii, hii, hiz, his, hib⟩ := info_parts infoTerm
    have hmm := @run_makeMap Try.prog
    clear hC h0 hR
    go_enter Try.func35, Try.ntmps35
    go_wp2_with fail
    refine (HC.out _ (by repeat (first | (with_reducible exact Below.refl _ _) | (with_reducible assumption) | (with_reducible refine Below.drew ?_) | (with_reducible refine below_drewN ?_ _) | (with_reducible refine Below.alloc ?_ (by (try simp only [World.size_alloc, World.size_setCell, World.size_drew, World.heap_drewN]); (first | done | omega | ((try simp only [World.size_alloc, World.size_setCell, World.size_drew, World.heap_drewN] at *); omega))) _) | (with_reducible refine Below.setCell ?_ (by (try simp only [World.size_alloc, World.size_setCell, World.size_drew, World.heap_drewN]); (first | done | omega | ((try simp only [World.size_alloc, World.size_setCell, World.size_drew, World.heap_drewN] at *); omega))) _) | (with_reducible refine Below.trans ?_ (Below.mono (by assumption) (by (try simp only [World.size_alloc, World.size_setCell, World.size_drew, World.heap_drewN]); (first | done | omega | ((try simp only [World.size_alloc, World.size_setCell, World.size_drew, World.heap_drewN] at *); omega)))))))).mono ?_
    rintro e w1 ⟨rfl, hb1⟩
    have hP : Blk w1 w.heap.size 24 #[.int .i64 regs, .slice A l.length cap] := Blk.below (Blk.new' rfl) hb1 (by simp)
    have hB : Below w.heap.size w w1 := (by repeat (first | (with_reducible exact Below.refl _ _) | (with_reducible assumption) | (with_reducible refine Below.drew ?_) | (with_reducible refine below_drewN ?_ _) | (with_reducible refine Below.alloc ?_ (by (try simp only [World.size_alloc, World.size_setCell, World.size_drew, World.heap_drewN]); (first | done | omega | ((try simp only [World.size_alloc, World.size_setCell, World.size_drew, World.heap_drewN] at *); omega))) _) | (with_reducible refine Below.setCell ?_ (by (try simp only [World.size_alloc, World.size_setCell, World.size_drew, World.heap_drewN]); (first | done | omega | ((try simp only [World.size_alloc, World.size_setCell, World.size_drew, World.heap_drewN] at *); omega))) _) | (with_reducible refine Below.trans ?_ (Below.mono (by assumption) (by (try simp only [World.size_alloc, World.size_setCell, World.size_drew, World.heap_drewN]); (first | done | omega | ((try simp only [World.size_alloc, World.size_setCell, World.size_drew, World.heap_drewN] at *); omega)))))))
    have p0 := hP.cell 0
    have p1 := hP.cell 1
    have lp := hP.lt
    simp only [List.getElem?_toArray, List.getElem?_cons_zero, List.getElem?_cons_succ] at p0 p1
    obtain ⟨g, hg⟩ : ∃ g, g = w1.heap.size := ⟨_, rfl⟩
    have hSn : TSeen (w1.alloc (.map #[] 0)) g 0 [] := by rw [hg]; exact TSeen.start
    have hBn : Below w.heap.size w (w1.alloc (.map #[] 0)) := hB.alloc hB.size _
    have Hg := hide hg
    have HSn := hide hSn
    have hgw : w.heap.size ≤ g := by rw [hg]; exact hB.size
    clear hb1 hg hSn
    go_wp2_with fail
    clear hmm
    rw [← Hg.out]
    go_loopg [5, 21] (l.length) (fun gk v i wr => ∃ m : Nat, m ≤ l.length ∧ i = .int .i64 m ∧ gk = l.length - m ∧ TRow wr w.heap.size 47 v (tmsOf l m) ∧ TSeen wr g m (tmsOf l m) ∧ Below w.heap.size w wr)
    case atStart => exact ⟨0, Nat.zero_le _, rfl, rfl, TRow.nil_ _ _ _, HSn.out, hBn⟩
    case round =>
      obtain ⟨m, hm, rfl, hgk, hrow, hsn, hbr⟩ := hrel
      have Hgk := hide hgk
      clear hgk p0 p1 lp hP hB hBn
      by_cases hlt : m < l.length
      · obtain ⟨nb, no, x, rfl, hnb, hx, hxl⟩ := hA.get hlt
        obtain ⟨c0, c1, c2, c3, c4, c5⟩ := hxl.below hbr hnb
        have u0 : (0 : Int) ≤ (m : Int) := by omega
        have u1 : (m : Int) < (l.length : Int) := by omega
        have hlb := Nat.lt_of_lt_of_le hnb hbr.size
        have hzr := hbr.size
        obtain ⟨A5, c5', rfl, _, _⟩ := hrow.shape
        have hlen := tmsOf_len l m
        obtain ⟨ts, hts⟩ : ∃ ts, ts = tmsOf l m := ⟨_, rfl⟩
        rw [← hts] at hrow hsn hlen ⊢
        have Hts := hide hts
        have Hx := hide hx
        have Hrow := hide hrow
        have Hsn := hide hsn
        clear hxl hx hrow hsn hts
        go_wp2_with fail
        have hT : Blk ((wr.alloc (.cells #[.int .i64 x.op, .int .i64 x.d, .int .i64 x.a, .int .i64 x.b, .int .i64 x.t, .int .i64 x.e] 91)).alloc (.cells #[.int .i64 x.op, .int .i64 x.a, .int .i64 x.b] 47)) (wr.heap.size + 1) 47 #[.int .i64 x.op, .int .i64 x.a, .int .i64 x.b] := Blk.new' (by simp)
        have hbw : Below wr.heap.size wr ((wr.alloc (.cells #[.int .i64 x.op, .int .i64 x.d, .int .i64 x.a, .int .i64 x.b, .int .i64 x.t, .int .i64 x.e] 91)).alloc (.cells #[.int .i64 x.op, .int .i64 x.a, .int .i64 x.b] 47)) := ((Below.refl _ _).alloc (Nat.le_refl _) _).alloc (by simp) _
        have hN1 : Blk ((wr.alloc (.cells #[.int .i64 x.op, .int .i64 x.d, .int .i64 x.a, .int .i64 x.b, .int .i64 x.t, .int .i64 x.e] 91)).alloc (.cells #[.int .i64 x.op, .int .i64 x.a, .int .i64 x.b] 47)) wr.heap.size 91 #[.int .i64 x.op, .int .i64 x.d, .int .i64 x.a, .int .i64 x.b, .int .i64 x.t, .int .i64 x.e] := (Blk.new' rfl).alloc _
        have hsz : ((wr.alloc (.cells #[.int .i64 x.op, .int .i64 x.d, .int .i64 x.a, .int .i64 x.b, .int .i64 x.t, .int .i64 x.e] 91)).alloc (.cells #[.int .i64 x.op, .int .i64 x.a, .int .i64 x.b] 47)).heap.size = wr.heap.size + 1 + 1 := by simp
        refine (of_any x.op _).mono ?_
        rintro e w2 ⟨rfl, hb2⟩
        obtain ⟨g9, hg9⟩ : ∃ g, g = wr.heap.size + 1 := ⟨_, rfl⟩
        have hT2 := hT.below hb2 hT.lt
        rw [← hg9] at hT2 ⊢
        have hbw2 : Below wr.heap.size wr w2 := hbw.trans (hb2.mono (by rw [hsz]; omega))
        have hz2 := hb2.size
        rw [hsz] at hz2
        obtain ⟨W, hW⟩ : ∃ W, W = w2.alloc (.cells #[.bool (hasD x.op), .bool (hasA x.op), .bool (hasB x.op), .bool (isSet x.op), .bool (shT x.op), .bool (hasE x.op)] 111) := ⟨_, rfl⟩
        have hX : Blk W w2.heap.size 111 #[.bool (hasD x.op), .bool (hasA x.op), .bool (hasB x.op), .bool (isSet x.op), .bool (shT x.op), .bool (hasE x.op)] := by rw [hW]; exact Blk.new' rfl
        have hT3 : Blk W g9 47 #[.int .i64 x.op, .int .i64 x.a, .int .i64 x.b] := by rw [hW]; exact hT2.alloc _
        have hbW : Below wr.heap.size wr W := by rw [hW]; exact hbw2.alloc (by omega) _
        have hrW := Hrow.out.below' hbW
        have hsW := Hsn.out.below hbW
        have hBW := hbr.trans (hbW.mono hzr)
        have hn9 : ¬ (g = g9) := by have := Hsn.out.lt; omega
        have x2 := hX.cell 2
        have t0 := hT3.cell 0
        have t1 := hT3.cell 1
        have t2 := hT3.cell 2
        have lX := hX.lt
        have lT := hT3.lt
        simp only [List.getElem?_toArray, List.getElem?_cons_zero, List.getElem?_cons_succ] at x2 t0 t1 t2
        have hWe : w2.alloc (.cells #[.bool (hasD x.op), .bool (hasA x.op), .bool (hasB x.op), .bool (isSet x.op), .bool (shT x.op), .bool (hasE x.op)] 111) = W := hW.symm
        have HWe := hide hWe
        have HrW := hide hrW
        have HsW := hide hsW
        have HBW := hide hBW
        clear hT hbw hN1 hsz hb2 hT2 hbw2 hz2 hW hX hbW hrW hsW hBW hWe Hrow Hsn hbr c0 c1 c2 c3 c4 c5 hT3 hg9
        cases hb : hasB x.op
        case false =>
          have hnext : tmsOf l (m + 1) = ts := by rw [Hts.out]; exact tmsOf_no Hx.out hb
          have Hn := hide hnext
          rw [hb] at x2 HWe
          clear hnext
          go_wp2_with fail
          go_roundg (l.length - (m + 1))
          case measure => have := Hgk.out; omega
          case rel => rw [HWe.out]; exact ⟨m + 1, by omega, by go_num, rfl, by rw [Hn.out]; exact HrW.out, by rw [Hn.out]; exact HsW.out.mono (by omega), HBW.out⟩
        case true =>
          rw [hb] at x2 HWe
          have hBsz := HBW.out.size
          obtain ⟨kl, hkl⟩ := HR.out.key (List.mem_of_getElem? Hx.out) hb
          obtain ⟨c, hlook, hcm, hcz, v0, st, W1, hme, hg1, hlook1, W3, hst, hg3, hS3, hlook3⟩ := (HsW.out.drew).bump (by omega) hkl
          have hlook : (Instr.lookup 109 (.map (some g)) (.agg #[.int .i64 x.op, .int .i64 x.a, .int .i64 x.b]) false).run Try.prog W.drew = .ok (.int .i64 c) W.drew := hlook
          have hlook1 : (Instr.lookup 109 (.map (some g)) (.agg #[.int .i64 x.op, .int .i64 x.a, .int .i64 x.b]) false).run Try.prog W1 = .ok (.int .i64 c) W1 := hlook1
          have hme : (Instr.mapEntry 109 (.map (some g)) (.agg #[.int .i64 x.op, .int .i64 x.a, .int .i64 x.b])).run Try.prog W.drew = .ok (.tuple #[v0, .int .i64 (st : Int)]) W1 := hme
          have hst : (Instr.entryStore 109 (.map (some g)) (.int .i64 (st : Int)) (.int .i64 (IntKind.i64.wrap ((c : Int) + 1)))).run Try.prog W1 = .ok () W3 := by rw [show IntKind.i64.wrap ((c : Int) + 1) = (c : Int) + 1 by rw [IntKind.wrap_i64]; omega]; exact hst
          obtain ⟨cv, hcv⟩ : ∃ cv : Int, cv = (c : Int) + 1 := ⟨_, rfl⟩
          have hlook3 : (Instr.lookup 109 (.map (some g)) (.agg #[.int .i64 x.op, .int .i64 x.a, .int .i64 x.b]) false).run Try.prog W3 = .ok (.int .i64 cv) W3 := by rw [hcv]; exact hlook3
          have e0 : W1.cell? ⟨g9, 0, none⟩ = some (.int .i64 x.op) := by rw [hg1.cell_far _ (by simp <;> omega) (by simp; omega)]; exact t0
          have e1 : W1.cell? ⟨g9, 1, none⟩ = some (.int .i64 x.a) := by rw [hg1.cell_far _ (by simp <;> omega) (by simp; omega)]; exact t1
          have e2 : W1.cell? ⟨g9, 2, none⟩ = some (.int .i64 x.b) := by rw [hg1.cell_far _ (by simp <;> omega) (by simp; omega)]; exact t2
          have hs1 := hg1.size
          simp only [World.size_drew] at hs1
          have l1 : g9 < W1.heap.size := by omega
          have f0 : W3.cell? ⟨g9, 0, none⟩ = some (.int .i64 x.op) := by rw [hg3.cell_far _ (by simp <;> omega) (by simp; omega)]; exact e0
          have f1 : W3.cell? ⟨g9, 1, none⟩ = some (.int .i64 x.a) := by rw [hg3.cell_far _ (by simp <;> omega) (by simp; omega)]; exact e1
          have f2 : W3.cell? ⟨g9, 2, none⟩ = some (.int .i64 x.b) := by rw [hg3.cell_far _ (by simp <;> omega) (by simp; omega)]; exact e2
          have hr3 : TRow W3 w.heap.size 47 (.slice A5 ts.length c5') ts := ((HrW.out.drew).kept hg1 (.inr (HsW.out.ne_row HrW.out))).kept hg3 (.inr (HsW.out.ne_row HrW.out))
          have hB3 : Below w.heap.size w W3 := ((HBW.out.drew).grown hg1 (by simp; omega) (fun q hq => by injection hq with hq; omega)).grown hg3 (by omega) (fun q hq => by injection hq with hq; omega)
          have hz3 : w.heap.size ≤ W3.heap.size := hB3.size
          have HR3 := hide hr3
          have HB3 := hide hB3
          have HS3 := hide hS3
          clear hkl hg1 hg3 hs1 hr3 hB3 hS3
          cases hct : ts.contains x.tm
          case true =>
            have hnext : tmsOf l (m + 1) = ts := by rw [Hts.out] at hct ⊢; exact tmsOf_seen Hx.out hct
            have hc0 : c ≠ 0 := fun h => by have := hcz.1 h; rw [hct] at this; cases this
            have b1 : (cv == 1) = false := by rw [hcv]; have h : ((c : Int) + 1) ≠ 1 := (by omega); simpa using h
            rw [hct, if_pos rfl] at HS3
            have Hn := hide hnext
            clear hnext hcz hc0 hcv hct
            go_upto_region 12 with fail
            rw [HWe.out]
            refine wp_region_held_drew (S := fun w' => w'.cell? ⟨g9, 0, none⟩ = some (.int .i64 x.op) ∧ w'.cell? ⟨g9, 1, none⟩ = some (.int .i64 x.a) ∧ w'.cell? ⟨g9, 2, none⟩ = some (.int .i64 x.b)) (by kernel_rfl) ⟨t0, t1, t2⟩ ?_
            intro hHeld
            refine wpAnyH_take (i := 0) (v := ?_) rfl (by kernel_rfl) (by kernel_rfl) (by kernel_rfl) (fun _ _ _ h => h) (Or.inl ⟨by rfl, ?_⟩) hHeld ?_; rotate_left; (focus (intro w' hSw; (try dsimp only at hSw); go_simp; try with_reducible rfl))
            try simp only [List.getElem_toArray, List.getElem_cons_zero, List.getElem_cons_succ, Act.put, List.setIfInBounds_toArray, List.set_cons_zero, List.set_cons_succ]
            refine wpAnyH_take (i := 1) (v := ?_) rfl (by kernel_rfl) (by kernel_rfl) (by kernel_rfl) (fun _ _ _ h => h) (Or.inl ⟨by rfl, ?_⟩) hHeld ?_; rotate_left; (focus (intro w' hSw; (try dsimp only at hSw); go_simp; try with_reducible rfl))
            try simp only [List.getElem_toArray, List.getElem_cons_zero, List.getElem_cons_succ, Act.put, List.setIfInBounds_toArray, List.set_cons_zero, List.set_cons_succ]
            refine wpAnyH_ready (rs := [2, 4]) (by kernel_rfl) (by simp) ?_
            refine AllReadyH.cons rfl (fun K hK => ?_) (AllReadyH.cons rfl (fun K hK => ?_) AllReadyH.nil)
            · have HK2 := hide hK
              clear hK
              go_simp
              refine Shut.out HK2.out _ _ hHeld (fun _ => ?_)
              try simp only [List.getElem_toArray, List.getElem_cons_zero, List.getElem_cons_succ, Act.put, List.setIfInBounds_toArray, List.set_cons_zero, List.set_cons_succ]
              refine wpAnyH_take (i := 3) (v := ?_) rfl (by kernel_rfl) (by kernel_rfl) (by kernel_rfl) (fun _ _ _ h => h) (Or.inl ⟨by rfl, ?_⟩) hHeld ?_; rotate_left; (focus (intro w' hSw; (try dsimp only at hSw); go_simp; try with_reducible rfl))
              try simp only [List.getElem_toArray, List.getElem_cons_zero, List.getElem_cons_succ, Act.put, List.setIfInBounds_toArray, List.set_cons_zero, List.set_cons_succ]
              refine wpAnyH_ready (rs := [4]) (by kernel_rfl) (by simp) ?_
              refine AllReadyH.cons rfl (fun K hK => ?_) AllReadyH.nil
              have HK4 := hide hK
              clear hK
              go_simp
              refine Shut.out HK4.out _ _ ⟨e0, e1, e2⟩ (fun hHeld => ?_)
              try simp only [List.getElem_toArray, List.getElem_cons_zero, List.getElem_cons_succ, Act.put, List.setIfInBounds_toArray, List.set_cons_zero, List.set_cons_succ]
              refine wpAnyH_take (i := 5) (v := ?_) rfl (by kernel_rfl) (by kernel_rfl) (by kernel_rfl) (fun _ _ _ h => h) (Or.inl ⟨by rfl, ?_⟩) hHeld ?_; rotate_left; (focus (intro w' hSw; (try dsimp only at hSw); go_simp; try with_reducible rfl))
              try simp only [List.getElem_toArray, List.getElem_cons_zero, List.getElem_cons_succ, Act.put, List.setIfInBounds_toArray, List.set_cons_zero, List.set_cons_succ]
              refine wpAnyH_ready (rs := [6]) (by kernel_rfl) (by simp) ?_
              refine AllReadyH.cons rfl (fun K hK => ?_) AllReadyH.nil
              have HK6 := hide hK
              clear hK
              go_simp
              refine Shut.out HK6.out _ _ ⟨f0, f1, f2⟩ (fun hHeld => ?_)
              try simp only [List.getElem_toArray, List.getElem_cons_zero, List.getElem_cons_succ, Act.put, List.setIfInBounds_toArray, List.set_cons_zero, List.set_cons_succ]
              refine wpAnyH_done (by kernel_rfl) ?_ _
              clear hHeld HK2 HK4 HK6 t0 t1 t2 e0 e1 e2 hlook hme hlook1 hst
              go_wp2_with fail
              go_roundg (l.length - (m + 1))
              case measure => have := Hgk.out; omega
              case rel => exact ⟨m + 1, by omega, by go_num, rfl, by rw [Hn.out]; exact HR3.out, by rw [Hn.out]; exact HS3.out, HB3.out⟩
            · have HK4 := hide hK
              clear hK
              go_simp
              refine Shut.out HK4.out _ _ ⟨e0, e1, e2⟩ (fun hHeld => ?_)
              try simp only [List.getElem_toArray, List.getElem_cons_zero, List.getElem_cons_succ, Act.put, List.setIfInBounds_toArray, List.set_cons_zero, List.set_cons_succ]
              refine wpAnyH_take (i := 5) (v := ?_) rfl (by kernel_rfl) (by kernel_rfl) (by kernel_rfl) (fun _ _ _ h => h) (Or.inl ⟨by rfl, ?_⟩) hHeld ?_; rotate_left; (focus (intro w' hSw; (try dsimp only at hSw); go_simp; try with_reducible rfl))
              try simp only [List.getElem_toArray, List.getElem_cons_zero, List.getElem_cons_succ, Act.put, List.setIfInBounds_toArray, List.set_cons_zero, List.set_cons_succ]
              refine wpAnyH_ready (rs := [2]) (by kernel_rfl) (by simp) ?_
              refine AllReadyH.cons rfl (fun K hK => ?_) AllReadyH.nil
              have HK2 := hide hK
              clear hK
              go_simp
              refine Shut.out HK2.out _ _ hHeld (fun _ => ?_)
              try simp only [List.getElem_toArray, List.getElem_cons_zero, List.getElem_cons_succ, Act.put, List.setIfInBounds_toArray, List.set_cons_zero, List.set_cons_succ]
              refine wpAnyH_take (i := 3) (v := ?_) rfl (by kernel_rfl) (by kernel_rfl) (by kernel_rfl) (fun _ _ _ h => h) (Or.inl ⟨by rfl, ?_⟩) hHeld ?_; rotate_left; (focus (intro w' hSw; (try dsimp only at hSw); go_simp; try with_reducible rfl))
              try simp only [List.getElem_toArray, List.getElem_cons_zero, List.getElem_cons_succ, Act.put, List.setIfInBounds_toArray, List.set_cons_zero, List.set_cons_succ]
              refine wpAnyH_ready (rs := [6]) (by kernel_rfl) (by simp) ?_
              refine AllReadyH.cons rfl (fun K hK => ?_) AllReadyH.nil
              have HK6 := hide hK
              clear hK
              go_simp
              refine Shut.out HK6.out _ _ ⟨f0, f1, f2⟩ (fun hHeld => ?_)
              try simp only [List.getElem_toArray, List.getElem_cons_zero, List.getElem_cons_succ, Act.put, List.setIfInBounds_toArray, List.set_cons_zero, List.set_cons_succ]
              refine wpAnyH_done (by kernel_rfl) ?_ _
              clear hHeld HK2 HK4 HK6 t0 t1 t2 e0 e1 e2 hlook hme hlook1 hst
              go_wp2_with fail
              go_roundg (l.length - (m + 1))
              case measure => have := Hgk.out; omega
              case rel => exact ⟨m + 1, by omega, by go_num, rfl, by rw [Hn.out]; exact HR3.out, by rw [Hn.out]; exact HS3.out, HB3.out⟩
          case false =>
            have hnext : tmsOf l (m + 1) = ts ++ [x.tm] := by rw [Hts.out] at hct ⊢; exact tmsOf_yes Hx.out hb hct
            have hc0 : c = 0 := hcz.2 hct
            have b1 : (cv == 1) = true := by rw [hcv, hc0]; rfl
            rw [hct, if_neg (by simp)] at HS3
            have Hn := hide hnext
            clear hnext hcz hc0 hcv hct
            go_upto_region 12 with fail
            rw [HWe.out]
            refine wp_region_held_drew (S := fun w' => w'.cell? ⟨g9, 0, none⟩ = some (.int .i64 x.op) ∧ w'.cell? ⟨g9, 1, none⟩ = some (.int .i64 x.a) ∧ w'.cell? ⟨g9, 2, none⟩ = some (.int .i64 x.b)) (by kernel_rfl) ⟨t0, t1, t2⟩ ?_
            intro hHeld
            refine wpAnyH_take (i := 0) (v := ?_) rfl (by kernel_rfl) (by kernel_rfl) (by kernel_rfl) (fun _ _ _ h => h) (Or.inl ⟨by rfl, ?_⟩) hHeld ?_; rotate_left; (focus (intro w' hSw; (try dsimp only at hSw); go_simp; try with_reducible rfl))
            try simp only [List.getElem_toArray, List.getElem_cons_zero, List.getElem_cons_succ, Act.put, List.setIfInBounds_toArray, List.set_cons_zero, List.set_cons_succ]
            refine wpAnyH_take (i := 1) (v := ?_) rfl (by kernel_rfl) (by kernel_rfl) (by kernel_rfl) (fun _ _ _ h => h) (Or.inl ⟨by rfl, ?_⟩) hHeld ?_; rotate_left; (focus (intro w' hSw; (try dsimp only at hSw); go_simp; try with_reducible rfl))
            try simp only [List.getElem_toArray, List.getElem_cons_zero, List.getElem_cons_succ, Act.put, List.setIfInBounds_toArray, List.set_cons_zero, List.set_cons_succ]
            refine wpAnyH_ready (rs := [2, 4]) (by kernel_rfl) (by simp) ?_
            refine AllReadyH.cons rfl (fun K hK => ?_) (AllReadyH.cons rfl (fun K hK => ?_) AllReadyH.nil)
            · have HK2 := hide hK
              clear hK
              go_simp
              refine Shut.out HK2.out _ _ hHeld (fun _ => ?_)
              try simp only [List.getElem_toArray, List.getElem_cons_zero, List.getElem_cons_succ, Act.put, List.setIfInBounds_toArray, List.set_cons_zero, List.set_cons_succ]
              refine wpAnyH_take (i := 3) (v := ?_) rfl (by kernel_rfl) (by kernel_rfl) (by kernel_rfl) (fun _ _ _ h => h) (Or.inl ⟨by rfl, ?_⟩) hHeld ?_; rotate_left; (focus (intro w' hSw; (try dsimp only at hSw); go_simp; try with_reducible rfl))
              try simp only [List.getElem_toArray, List.getElem_cons_zero, List.getElem_cons_succ, Act.put, List.setIfInBounds_toArray, List.set_cons_zero, List.set_cons_succ]
              refine wpAnyH_ready (rs := [4]) (by kernel_rfl) (by simp) ?_
              refine AllReadyH.cons rfl (fun K hK => ?_) AllReadyH.nil
              have HK4 := hide hK
              clear hK
              go_simp
              refine Shut.out HK4.out _ _ ⟨e0, e1, e2⟩ (fun hHeld => ?_)
              try simp only [List.getElem_toArray, List.getElem_cons_zero, List.getElem_cons_succ, Act.put, List.setIfInBounds_toArray, List.set_cons_zero, List.set_cons_succ]
              refine wpAnyH_take (i := 5) (v := ?_) rfl (by kernel_rfl) (by kernel_rfl) (by kernel_rfl) (fun _ _ _ h => h) (Or.inl ⟨by rfl, ?_⟩) hHeld ?_; rotate_left; (focus (intro w' hSw; (try dsimp only at hSw); go_simp; try with_reducible rfl))
              try simp only [List.getElem_toArray, List.getElem_cons_zero, List.getElem_cons_succ, Act.put, List.setIfInBounds_toArray, List.set_cons_zero, List.set_cons_succ]
              refine wpAnyH_ready (rs := [6]) (by kernel_rfl) (by simp) ?_
              refine AllReadyH.cons rfl (fun K hK => ?_) AllReadyH.nil
              have HK6 := hide hK
              clear hK
              go_simp
              refine Shut.out HK6.out _ _ ⟨f0, f1, f2⟩ (fun hHeld => ?_)
              try simp only [List.getElem_toArray, List.getElem_cons_zero, List.getElem_cons_succ, Act.put, List.setIfInBounds_toArray, List.set_cons_zero, List.set_cons_succ]
              refine wpAnyH_done (by kernel_rfl) ?_ _
              clear hHeld HK2 HK4 HK6 t0 t1 t2 e0 e1 e2 hlook hme hlook1 hst
              go_wp2_with (at_builtin; refine wpList_append_terms (v := .slice A5 ts.length c5') rfl (.tmp 51) (.tmp 53) _ rfl ii _ 24 Try.underlying59 hii hiz his hib rfl rfl (HR3.out.alloc _) (some ⟨W3.heap.size, 0, none⟩) 1 1 [x.tm] rfl rfl (terms_one' (n := x.tm) rfl) (by simp [maxLen]; omega) (by simp; omega) (by simp; omega) ?_; intro v4 w4 hr4 hg4 hat4)
              go_roundg (l.length - (m + 1))
              case measure => have := Hgk.out; omega
              case rel => exact ⟨m + 1, by omega, by go_num, rfl, by rw [Hn.out]; exact hr4, by rw [Hn.out]; exact ((HS3.out.below ((Below.refl _ _).alloc (Nat.le_refl _) _)).own hg4 (HS3.out.ne_row HR3.out)), (HB3.out.alloc (by omega) _).grown hg4 (by simp; omega) (fun q hq => (HR3.out.lt q hq).1)⟩
            · have HK4 := hide hK
              clear hK
              go_simp
              refine Shut.out HK4.out _ _ ⟨e0, e1, e2⟩ (fun hHeld => ?_)
              try simp only [List.getElem_toArray, List.getElem_cons_zero, List.getElem_cons_succ, Act.put, List.setIfInBounds_toArray, List.set_cons_zero, List.set_cons_succ]
              refine wpAnyH_take (i := 5) (v := ?_) rfl (by kernel_rfl) (by kernel_rfl) (by kernel_rfl) (fun _ _ _ h => h) (Or.inl ⟨by rfl, ?_⟩) hHeld ?_; rotate_left; (focus (intro w' hSw; (try dsimp only at hSw); go_simp; try with_reducible rfl))
              try simp only [List.getElem_toArray, List.getElem_cons_zero, List.getElem_cons_succ, Act.put, List.setIfInBounds_toArray, List.set_cons_zero, List.set_cons_succ]
              refine wpAnyH_ready (rs := [2]) (by kernel_rfl) (by simp) ?_
              refine AllReadyH.cons rfl (fun K hK => ?_) AllReadyH.nil
              have HK2 := hide hK
              clear hK
              go_simp
              refine Shut.out HK2.out _ _ hHeld (fun _ => ?_)
              try simp only [List.getElem_toArray, List.getElem_cons_zero, List.getElem_cons_succ, Act.put, List.setIfInBounds_toArray, List.set_cons_zero, List.set_cons_succ]
              refine wpAnyH_take (i := 3) (v := ?_) rfl (by kernel_rfl) (by kernel_rfl) (by kernel_rfl) (fun _ _ _ h => h) (Or.inl ⟨by rfl, ?_⟩) hHeld ?_; rotate_left; (focus (intro w' hSw; (try dsimp only at hSw); go_simp; try with_reducible rfl))
              try simp only [List.getElem_toArray, List.getElem_cons_zero, List.getElem_cons_succ, Act.put, List.setIfInBounds_toArray, List.set_cons_zero, List.set_cons_succ]
              refine wpAnyH_ready (rs := [6]) (by kernel_rfl) (by simp) ?_
              refine AllReadyH.cons rfl (fun K hK => ?_) AllReadyH.nil
              have HK6 := hide hK
              clear hK
              go_simp
              refine Shut.out HK6.out _ _ ⟨f0, f1, f2⟩ (fun hHeld => ?_)
              try simp only [List.getElem_toArray, List.getElem_cons_zero, List.getElem_cons_succ, Act.put, List.setIfInBounds_toArray, List.set_cons_zero, List.set_cons_succ]
              refine wpAnyH_done (by kernel_rfl) ?_ _
              clear hHeld HK2 HK4 HK6 t0 t1 t2 e0 e1 e2 hlook hme hlook1 hst
              go_wp2_with (at_builtin; refine wpList_append_terms (v := .slice A5 ts.length c5') rfl (.tmp 51) (.tmp 53) _ rfl ii _ 24 Try.underlying59 hii hiz his hib rfl rfl (HR3.out.alloc _) (some ⟨W3.heap.size, 0, none⟩) 1 1 [x.tm] rfl rfl (terms_one' (n := x.tm) rfl) (by simp [maxLen]; omega) (by simp; omega) (by simp; omega) ?_; intro v4 w4 hr4 hg4 hat4)
              go_roundg (l.length - (m + 1))
              case measure => have := Hgk.out; omega
              case rel => exact ⟨m + 1, by omega, by go_num, rfl, by rw [Hn.out]; exact hr4, by rw [Hn.out]; exact ((HS3.out.below ((Below.refl _ _).alloc (Nat.le_refl _) _)).own hg4 (HS3.out.ne_row HR3.out)), (HB3.out.alloc (by omega) _).grown hg4 (by simp; omega) (fun q hq => (HR3.out.lt q hq).1)⟩
      · have hkk : m = l.length := by omega
        have Hkk := hide hkk
        clear hkk
        go_wp2_with fail
        go_tidy
        go_ret2
        exact ⟨hbr, _, rfl, by rw [← Hkk.out]; exact hrow⟩
  · unfold TmPost
    rw [if_neg h0]
    have HC := hide hC
    have b0 : (chk regs l != 0) = true := by simpa using h0
    clear hC h0
    generalize chk regs l = c at *
    go_enter Try.func35, Try.ntmps35
    go_wp2_with fail
    refine (HC.out _ (by repeat (first | (with_reducible exact Below.refl _ _) | (with_reducible assumption) | (with_reducible refine Below.drew ?_) | (with_reducible refine below_drewN ?_ _) | (with_reducible refine Below.alloc ?_ (by (try simp only [World.size_alloc, World.size_setCell, World.size_drew, World.heap_drewN]); (first | done | omega | ((try simp only [World.size_alloc, World.size_setCell, World.size_drew, World.heap_drewN] at *); omega))) _) | (with_reducible refine Below.setCell ?_ (by (try simp only [World.size_alloc, World.size_setCell, World.size_drew, World.heap_drewN]); (first | done | omega | ((try simp only [World.size_alloc, World.size_setCell, World.size_drew, World.heap_drewN] at *); omega))) _) | (with_reducible refine Below.trans ?_ (Below.mono (by assumption) (by (try simp only [World.size_alloc, World.size_setCell, World.size_drew, World.heap_drewN]); (first | done | omega | ((try simp only [World.size_alloc, World.size_setCell, World.size_drew, World.heap_drewN] at *); omega)))))))).mono ?_
    rintro e w1 ⟨rfl, hb1⟩
    have hB : Below w.heap.size w w1 := (by repeat (first | (with_reducible exact Below.refl _ _) | (with_reducible assumption) | (with_reducible refine Below.drew ?_) | (with_reducible refine below_drewN ?_ _) | (with_reducible refine Below.alloc ?_ (by (try simp only [World.size_alloc, World.size_setCell, World.size_drew, World.heap_drewN]); (first | done | omega | ((try simp only [World.size_alloc, World.size_setCell, World.size_drew, World.heap_drewN] at *); omega))) _) | (with_reducible refine Below.setCell ?_ (by (try simp only [World.size_alloc, World.size_setCell, World.size_drew, World.heap_drewN]); (first | done | omega | ((try simp only [World.size_alloc, World.size_setCell, World.size_drew, World.heap_drewN] at *); omega))) _) | (with_reducible refine Below.trans ?_ (Below.mono (by assumption) (by (try simp only [World.size_alloc, World.size_setCell, World.size_drew, World.heap_drewN]); (first | done | omega | ((try simp only [World.size_alloc, World.size_setCell, World.size_drew, World.heap_drewN] at *); omega)))))))
    go_wp2_with fail
    go_tidy
    go_ret2
    exact ⟨hB, _, rfl, TRow.nil_ _ _ _⟩
end Go.Proofs.Ytmghkonmfbpjcaa
