/- live.Live of a right program. -/
import Derived.Test.YtmghkonmfbpjcabDoorLiveZ
namespace Go.Proofs.YtmghkonmfbpjcabDoor
set_option linter.unusedVariables false
set_option linter.unusedSimpArgs false
open Go.RowKit
set_option maxHeartbeats 4000000
theorem IntsTab.row {B : Nat} {tS tI : TypeId} {n : Nat} {xs : Nat → List Int} {v : Value} {w : World} (h : IntsTab B tS tI n xs v w) {i : Nat} (hi : i < n) :
    ∃ g o cap A c, v = .slice (some ⟨g, o, none⟩) n cap ∧ g < w.heap.size ∧ w.cell? ⟨g, o + i, none⟩ = some (.slice A (xs i).length c) ∧ ValsAt w A (ints (xs i)) := by
  obtain ⟨vs, hO, hT⟩ := h
  obtain ⟨g, o, cap, x, e, _, hl, hx, hc, _⟩ := hO.get (k := i) (by simpa using hi)
  have hr := hT.row hi
  obtain ⟨A, c, hv, _, _⟩ := hr.shape
  rw [ints_length] at hv
  simp [hi] at hx
  subst hx
  rw [hv] at hc hr
  rw [List.length_map, List.length_range] at e
  exact ⟨g, o, cap, A, c, e, hl, hc, hr.vals⟩
theorem IntsTab.of {B : Nat} {tS tI : TypeId} {n : Nat} {xs : Nat → List Int} {v : Value} {w w' : World} (h : IntsTab B tS tI n xs v w) (hb : ∀ k, B ≤ k → k < w.heap.size → (∃ cs, Blk w k tS cs ∨ Blk w k tI cs) → w'.heap[k]? = w.heap[k]?) : IntsTab B tS tI n xs v w' := by
  obtain ⟨vs, hO, hT⟩ := h
  refine ⟨vs, hO.of_block fun k hk => ?_, hT.of_blocks fun i k hi hk => ?_⟩
  · have h2 := hO.lt k hk
    refine hb k h2.1 h2.2 ?_
    obtain ⟨A, cap, hv, _, _⟩ := hO.shape
    subst hv
    rcases A with _ | ⟨g, o, sp⟩
    · simp [Value.ownBlock] at hk
    · simp [Value.ownBlock] at hk
      subst hk
      rcases hO with ⟨he, _⟩ | ⟨g', o', cp, cur, he, _, hh, _⟩
      · cases he
      · injection he with he
        injection he with he
        injection he with he
        subst he
        exact ⟨cur, .inl (by unfold Blk; exact hh)⟩
  · have hr := hT.row hi
    have h2 := hr.lt k hk
    refine hb k h2.1 h2.2 ?_
    rcases hr with ⟨he, _⟩ | ⟨g', o', cp, cur, he, _, hh, _⟩
    · rw [he] at hk; simp [Value.ownBlock] at hk
    · rw [he] at hk
      simp [Value.ownBlock] at hk
      subst hk
      exact ⟨cur, .inr (by unfold Blk; exact hh)⟩
theorem IntsTab.below {B : Nat} {tS tI : TypeId} {n : Nat} {xs : Nat → List Int} {v : Value} {w w' : World} (h : IntsTab B tS tI n xs v w) (hb : Below w.heap.size w w') : IntsTab B tS tI n xs v w' := h.of fun k _ hk _ => hb.block k hk
theorem IntsTab.far {B : Nat} {tS tI : TypeId} {n : Nat} {xs : Nat → List Int} {v : Value} {w : World} (h : IntsTab B tS tI n xs v w) {p : Addr} {t : TypeId} {cs : Array Value} (hp : Blk w p.block t cs) (h1 : t ≠ tS) (h2 : t ≠ tI) (u : Value) : IntsTab B tS tI n xs v (w.setCell p u) :=
  h.of fun k _ _ ⟨cs', hk⟩ => Below.heap_setCell w p u k (by
    rintro rfl
    rcases hk with hk | hk
    · exact Blk.ne_ hp hk h1 rfl
    · exact Blk.ne_ hp hk h2 rfl)

attribute [local irreducible] Row madeCells

theorem infoInt_ : (Tryd.prog.info? 3).map (fun i => (i.zero, i.size, i.bytes)) = some (some (.int .i64 0), 1, 8) := by kernel_rfl
theorem infoInts_ : (Tryd.prog.info? 25).map (fun i => (i.zero, i.size, i.bytes)) = some (some (.slice none 0 0), 1, 24) := by kernel_rfl

theorem map_range_succ {α : Type} (f : Nat → α) (x : α) (k : Nat) : (List.range (k + 1)).map (upd f k x) = (List.range k).map f ++ [x] := by
  rw [List.range_succ, List.map_append]
  simp only [List.map_cons, List.map_nil, upd_same]
  congr 1
  apply List.map_congr_left
  intro i hi
  rw [upd_other _ _ (by have := List.mem_range.1 hi; omega)]
theorem Tab.congr {w : World} {base N : Nat} {e : TypeId} {vs : Nat → Value} {xs ys : Nat → List Value} (h : Tab w base e N vs xs) (he : ∀ i, i < N → xs i = ys i) : Tab w base e N vs ys := by
  unfold Tab at *
  exact   ⟨fun i hi => by rw [← he i hi]; exact h.1 i hi, h.2⟩
theorem Tab.congr2 {w : World} {base N : Nat} {e : TypeId} {vs us : Nat → Value} {xs : Nat → List Value} (h : Tab w base e N vs xs) (he : ∀ i, i < N → vs i = us i) : Tab w base e N us xs := by
  unfold Tab at *
  exact   ⟨fun i hi => by rw [← he i hi]; exact h.1 i hi, fun i j hi hj hne => by rw [← he i hi, ← he j hj]; exact h.2 i j hi hj hne⟩

theorem Tab.kept_ {w w' : World} {base N : Nat} {e : TypeId} {vs : Nat → Value} {xs : Nat → List Value} (h : Tab w base e N vs xs) {base' : Nat} {e' : TypeId} {u : Value} {ys : List Value} (hu : Row w base' e' u ys) (hne : e ≠ e')
    (hg : w.grownBy w' u.ownBlock) : Tab w' base e N vs xs :=
  h.of_blocks fun i k hi hk => hg.block k ((h.row hi).lt k hk).2 (by
    rcases (h.row hi).ne_row hu hne with h0 | h0
    · rw [h0] at hk; cases hk
    · rw [← hk]; exact h0)
theorem Tab.none_ {w : World} {base : Nat} {e : TypeId} {vs : Nat → Value} {xs : Nat → List Value} : Tab w base e 0 vs xs := by
  unfold Tab
  exact ⟨fun i hi => absurd hi (by omega), fun i j hi => absurd hi (by omega)⟩

set_option maxRecDepth 100000 in
theorem Live_ok (regs : Int) (A : Option Addr) (l : List Nd) (cap : Nat) (w : World) (hA : NodesAt w A l) (hR : Right regs l) (hc : chk regs l = 0) (hT : Tz w) :
    Calls Tryd.prog 27 #[.agg #[.int .i64 regs, .slice A l.length cap]] w (LivePost regs.toNat l w) := by
  have hlo := hR.lo
  have hhi := hR.hi
  have hC := fun W (hW : Below w.heap.size w W) => Check_any regs A l cap W (by unfold maxLen; omega) (hA.below hW)
  rw [hc] at hC
  have hS := fun W (hW : Below w.heap.size w W) => sets_run regs A l cap W (hA.below hW) hR
  have HC := hide hC
  have HS := hide hS
  have HRr := hide hR
  have HT := hide hT
  clear hC hc hS hR hA hT
  obtain ⟨i3, h3i, h3z, h3s, h3b⟩ := info_parts infoInt_
  obtain ⟨i5, h5i, h5z, h5s, h5b⟩ := info_parts infoInts_
  go_enter Tryd.func27, Tryd.ntmps27
  go_wp2_with fail
  refine (HC.out _ (by repeat (first | (with_reducible exact Below.refl _ _) | (with_reducible assumption) | (with_reducible refine Below.drew ?_) | (with_reducible refine below_drewN ?_ _) | (with_reducible refine Below.alloc ?_ (by (try simp only [World.size_alloc, World.size_setCell, World.size_drew, World.heap_drewN]); (first | done | omega | ((try simp only [World.size_alloc, World.size_setCell, World.size_drew, World.heap_drewN] at *); omega))) _) | (with_reducible refine Below.setCell ?_ (by (try simp only [World.size_alloc, World.size_setCell, World.size_drew, World.heap_drewN]); (first | done | omega | ((try simp only [World.size_alloc, World.size_setCell, World.size_drew, World.heap_drewN] at *); omega))) _) | (with_reducible refine Below.trans ?_ (Below.mono (by assumption) (by (try simp only [World.size_alloc, World.size_setCell, World.size_drew, World.heap_drewN]); (first | done | omega | ((try simp only [World.size_alloc, World.size_setCell, World.size_drew, World.heap_drewN] at *); omega)))))))).mono ?_
  rintro e w1 ⟨rfl, hb1⟩
  have hz1 := hb1.size
  simp only [World.size_alloc] at hz1
  have hP1 : Blk w1 w.heap.size 24 #[.int .i64 regs, .slice A l.length cap] := Blk.below (Blk.new' rfl) hb1 (by simp)
  have hB1 : Below w.heap.size w w1 := (by repeat (first | (with_reducible exact Below.refl _ _) | (with_reducible assumption) | (with_reducible refine Below.drew ?_) | (with_reducible refine below_drewN ?_ _) | (with_reducible refine Below.alloc ?_ (by (try simp only [World.size_alloc, World.size_setCell, World.size_drew, World.heap_drewN]); (first | done | omega | ((try simp only [World.size_alloc, World.size_setCell, World.size_drew, World.heap_drewN] at *); omega))) _) | (with_reducible refine Below.setCell ?_ (by (try simp only [World.size_alloc, World.size_setCell, World.size_drew, World.heap_drewN]); (first | done | omega | ((try simp only [World.size_alloc, World.size_setCell, World.size_drew, World.heap_drewN] at *); omega))) _) | (with_reducible refine Below.trans ?_ (Below.mono (by assumption) (by (try simp only [World.size_alloc, World.size_setCell, World.size_drew, World.heap_drewN]); (first | done | omega | ((try simp only [World.size_alloc, World.size_setCell, World.size_drew, World.heap_drewN] at *); omega)))))))
  have p0 := hP1.cell 0
  have p1 := hP1.cell 1
  simp only [List.getElem?_toArray, List.getElem?_cons_zero, List.getElem?_cons_succ] at p0 p1
  clear hb1
  go_wp2_with fail
  refine (HS.out _ hB1).mono ?_
  rintro e w2 ⟨ats, v2, ⟨hal, hz64, hlst⟩, rfl, hr2, hb2⟩
  have hz2 := hb2.size
  obtain ⟨A2, c2, rfl, _, _⟩ := hr2.shape
  rw [u64s_length] at *
  have hB2 : Below w.heap.size w w2 := hB1.trans (hb2.mono (by omega))
  have Hal := hide hal
  have Hz64 := hide hz64
  have Hlst := hide hlst
  have hal2 : ats.length ≤ 256 := by omega
  clear hal hz64 hlst hb2 hP1 p0 p1
  go_wp2_with fail
  go_loopg [5, 17] (ats.length) (fun gk v i wr => ∃ (k : Nat) (vs : Nat → Value), k ≤ ats.length ∧ i = .int .i64 k ∧ gk = ats.length - k ∧
    Row wr w.heap.size 25 v ((List.range k).map vs) ∧ Tab wr w.heap.size 3 k vs (fun i => ints (regsOf (ats.getD i 0))) ∧ Row wr w1.heap.size 60 (.slice A2 ats.length c2) (u64s ats) ∧ Below w.heap.size w wr)
  case atStart => exact ⟨0, fun _ => .slice none 0 0, Nat.zero_le _, rfl, rfl, Row.nil_ _ _ _, Tab.none_, hr2, hB2⟩
  case round =>
    clear hr2 hB2
    obtain ⟨k, vs, hk, rfl, hgk, hO, hTb, hr2, hB⟩ := hrel
    have Hgk := hide hgk
    have HO := hide hO
    have HTb := hide hTb
    clear hgk hO hTb
    have hz := hB.size
    by_cases hlt : k < ats.length
    · obtain ⟨g0, o0, cp0, e0, hg1, hgl, cx, fx⟩ := hr2.u64 (k := k) hlt
      injection e0 with e0 e1 e2
      subst e0 e2
      have Hr2 := hide hr2
      have k0 : (0 : Int) ≤ (k : Int) := by omega
      have k1 : (k : Int) < (ats.length : Int) := by omega
      have hzk : ats.getD k 0 < 2 ^ 64 := by have := getD_lt Hz64.out k; simpa using this
      clear e1 hr2
      generalize hgz : ats.getD k 0 = z0 at *
      have Hgz := hide hgz
      have Hzk := hide hzk
      clear hgz hzk
      go_wp2_with fail
      obtain ⟨w3, rfl⟩ : ∃ w3 : World, w3 = wr := ⟨_, rfl⟩
      obtain ⟨gk3, rfl⟩ : ∃ gk3 : Nat, gk3 = gk := ⟨_, rfl⟩
      go_loopg [7, 8] z0 (fun gk s v wr => ∃ (z : Nat) (acc : List Int), s = .int .u64 (z : Int) ∧ gk = z ∧ z < 2 ^ 64 ∧ acc ++ regsOf z = regsOf z0 ∧ Row wr w.heap.size 3 v (ints acc) ∧ (∀ q, v.ownBlock = some q → w3.heap.size ≤ q) ∧ Below w3.heap.size w3 wr)
      case atStart => exact ⟨z0, [], rfl, rfl, Hzk.out, rfl, Row.nil_ _ _ _, fun q hq => by (simp [Value.ownBlock] at hq), Below.refl _ _⟩
      case round =>
        obtain ⟨z, acc, rfl, hgk4, hz4, hacc, hRow, hown, hB4⟩ := hrel
        have Hacc := hide hacc
        have Hz4 := hide hz4
        have HRow := hide hRow
        have Hown := hide hown
        have Hgk4 := hide hgk4
        have hz4 := hB4.size
        have hacl : (ints acc).length ≤ 64 := by
          have h1 := congrArg List.length hacc
          rw [List.length_append] at h1
          have h2 := regsOf_len z0
          rw [ints_length]
          omega
        clear hacc hRow hown hgk4
        by_cases h0 : z = 0
        · have h0' : ((z : Int) != 0) = false := by simp [h0]
          have H0 := hide h0
          clear h0
          obtain ⟨A8, c8, rfl, _, _⟩ := HRow.out.shape
          have hzB : w.heap.size ≤ wr.heap.size := by omega
          have hO4 := HO.out.below' hB4
          obtain ⟨A5, c5, rfl, _, _⟩ := hO4.shape
          have hO4l : ((List.range k).map vs).length ≤ 256 := by simp; omega
          go_wp2_with (at_builtin; refine wpList_append_row (v := .slice A5 ((List.range k).map vs).length c5) (base := w.heap.size) rfl (.tmp 32) (.tmp 34) _ rfl i5 _ 24 Tryd.underlying64 h5i h5z h5s h5b rfl rfl (hO4.alloc _) (some ⟨wr.heap.size, 0, none⟩) 1 1 [.slice A8 (ints acc).length c8] rfl rfl (vals_one _ _ _) (by simp [Value.oneCell']) (by simp [maxLen]; omega) (by simp; omega) (by simp; omega) ?_; intro v6 w6 hr6 hg6 hat6)
          go_roundg (ats.length - (k + 1))
          case measure => have := Hgk.out; omega
          case rel =>
            have hT1 := (Tab.add HTb.out hB4 HRow.out (fun q hq => Hown.out q hq)).alloc (.cells #[.slice A8 (ints acc).length c8] 25)
            have hT2 := hT1.kept_ (hO4.alloc _) (by decide) hg6
            have hr2n := ((Hr2.out.below' hB4).alloc (.cells #[.slice A8 (ints acc).length c8] 25)).kept hg6 (((Hr2.out.below' hB4).alloc (.cells #[.slice A8 (ints acc).length c8] 25)).ne_row (hO4.alloc (.cells #[.slice A8 (ints acc).length c8] 25)) (by decide))
            have hacc' : acc = regsOf z0 := by
              have h1 := Hacc.out
              have h2 := H0.out
              subst h2
              rw [regsOf_zero, List.append_nil] at h1
              exact h1
            refine ⟨k + 1, upd vs k (.slice A8 (ints acc).length c8), by omega, by go_num, rfl, by rw [map_range_succ]; exact hr6, ?_, hr2n, ?_⟩
            · refine hT2.congr fun i hi => ?_
              by_cases hik : i = k
              · subst hik; rw [upd_same, hacc', Hgz.out]
              · rw [upd_other _ _ hik]
            · exact ((hB.trans (hB4.mono hz)).alloc hzB _).grown hg6 (by simp; omega) (fun q hq => (hO4.lt q hq).1)
        · have h0' : ((z : Int) != 0) = true := by simp; omega
          obtain ⟨hcons, hc64, hlow⟩ := regsOf_cons h0 Hz4.out
          have htz := fun W (hW : Below w.heap.size w W) => tz_any z Hz4.out h0 W (HT.out.below' hW)
          have hzz : z < 18446744073709551616 := by have := Hz4.out; simpa using this
          have e1 : IntKind.u64.wrap ((z : Int) - 1) = ((z - 1 : Nat) : Int) := by rw [IntKind.wrap_u64]; omega
          have e2 : bits .and .u64 (z : Int) ((z - 1 : Nat) : Int) = ((z &&& (z - 1) : Nat) : Int) := bits_and_u64_nat z (z - 1) hzz (by omega)
          have Hcons := hide hcons
          have Hlow := hide hlow
          have Htz := hide htz
          have E1 := hide e1
          have E2 := hide e2
          clear hcons hlow htz h0 hzz e1 e2
          obtain ⟨A8, c8, rfl, _, _⟩ := HRow.out.shape
          go_wp2_with (first
            | (go_at_call 58; refine (Htz.out _ (Below.trans hB (hB4.mono hz))).mono ?_; rintro e w5 ⟨rfl, rfl⟩)
            | (at_builtin; refine wpList_append_row (v := .slice A8 (ints acc).length c8) (base := w.heap.size) rfl (.tmp 27) (.tmp 30) _ rfl i3 _ 8 Tryd.underlying25 h3i h3z h3s h3b rfl rfl (HRow.out.alloc _) (some ⟨wr.heap.size, 0, none⟩) 1 1 [.int .i64 (Lib.ctz 64 z : Nat)] rfl rfl (vals_one _ _ _) (by simp [Value.oneCell']) (by simp [maxLen]; omega) (by simp; omega) (by simp; omega) ?_; intro v6 w6 hr6 hg6 hat6))
          go_roundg (z &&& (z - 1))
          case measure => have h1 := Hgk4.out; have h2 := Hlow.out; omega
          case rel =>
            refine ⟨z &&& (z - 1), acc ++ [(Lib.ctz 64 z : Int)], ?_, rfl, Nat.lt_trans Hlow.out Hz4.out, ?_, by rw [ints_append]; exact hr6, fun q hq => ?_, ?_⟩
            · rw [← E2.out, ← E1.out]
            · rw [List.append_assoc, List.singleton_append, ← Hcons.out]
              exact Hacc.out
            · rcases hat6 with h | h
              · rw [h] at hq; exact Hown.out q hq
              · have := h q hq; simp at this; omega
            · exact (hB4.alloc hz4 _).grown hg6 (by simp; omega) (fun q hq => Hown.out q hq)
    · have hkk : k = ats.length := by omega
      have Hkk := hide hkk
      clear hkk
      go_wp2_with fail
      go_ret2
      have hO := HO.out
      have hTb := HTb.out
      rw [Hkk.out] at hO hTb
      refine ⟨_, rfl, ⟨vs, by rw [← Hal.out]; exact hO, by rw [← Hal.out]; exact hTb.congr fun i hi => by rw [regsOf_live HRr.out Hlst.out i]⟩, hB⟩
end Go.Proofs.YtmghkonmfbpjcabDoor
