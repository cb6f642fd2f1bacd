/- The reference's DeadOf. -/
import Derived.Test.YtmghkonmfbpjcaaDoorLiveO
import Derived.Test.YtmghkonmfbpjcaaDoorLiveE
import Derived.Test.YtmghkonmfbpjcaaDoorSame
namespace Go.Proofs.YtmghkonmfbpjcaaDoor
set_option linter.unusedVariables false
set_option linter.unusedSimpArgs false
open Go.RowKit
set_option maxHeartbeats 4000000

def DeadOfPost (regs : Int) (l : List Nd) (w : World) (e : Ending) (w' : World) : Prop :=
  ∃ (v : Value) (l' : List Nd), e = .returned (.agg #[.int .i64 regs, v]) ∧ DeadIs l l' ∧ l'.length = l.length ∧ NRow w' w.heap.size 41 v l' ∧ Below w.heap.size w w'

theorem IntsTab.row {B : Nat} {tS tI : TypeId} {n : Nat} {xs : Nat → List Int} {v : Value} {w : World} (h : IntsTab B tS tI n xs v w) {i : Nat} (hi : i < n) :
    ∃ g o cap A c, v = .slice (some ⟨g, o, none⟩) n cap ∧ g < w.heap.size ∧ w.cell? ⟨g, o + i, none⟩ = some (.slice A (xs i).length c) ∧ ValsAt w A (ints (xs i)) := by
  obtain ⟨vs, hO, hT⟩ := h
  obtain ⟨g, o, cap, x, e, _, hl, hx, hc, _⟩ := hO.get (k := i) (by simpa using hi)
  have hr := hT.row hi
  obtain ⟨A, c, hv, _, _⟩ := hr.shape
  rw [ints_length] at hv
  simp [hi] at hx
  subst hx
  rw [hv] at hc hr
  rw [List.length_map, List.length_range] at e
  exact ⟨g, o, cap, A, c, e, hl, hc, hr.vals⟩
theorem IntsTab.of {B : Nat} {tS tI : TypeId} {n : Nat} {xs : Nat → List Int} {v : Value} {w w' : World} (h : IntsTab B tS tI n xs v w) (hb : ∀ k, B ≤ k → k < w.heap.size → (∃ cs, Blk w k tS cs ∨ Blk w k tI cs) → w'.heap[k]? = w.heap[k]?) : IntsTab B tS tI n xs v w' := by
  obtain ⟨vs, hO, hT⟩ := h
  refine ⟨vs, hO.of_block fun k hk => ?_, hT.of_blocks fun i k hi hk => ?_⟩
  · have h2 := hO.lt k hk
    refine hb k h2.1 h2.2 ?_
    obtain ⟨A, cap, hv, _, _⟩ := hO.shape
    subst hv
    rcases A with _ | ⟨g, o, sp⟩
    · simp [Value.ownBlock] at hk
    · simp [Value.ownBlock] at hk
      subst hk
      rcases hO with ⟨he, _⟩ | ⟨g', o', cp, cur, he, _, hh, _⟩
      · cases he
      · injection he with he
        injection he with he
        injection he with he
        subst he
        exact ⟨cur, .inl (by unfold Blk; exact hh)⟩
  · have hr := hT.row hi
    have h2 := hr.lt k hk
    refine hb k h2.1 h2.2 ?_
    rcases hr with ⟨he, _⟩ | ⟨g', o', cp, cur, he, _, hh, _⟩
    · rw [he] at hk; simp [Value.ownBlock] at hk
    · rw [he] at hk
      simp [Value.ownBlock] at hk
      subst hk
      exact ⟨cur, .inr (by unfold Blk; exact hh)⟩
theorem IntsTab.below {B : Nat} {tS tI : TypeId} {n : Nat} {xs : Nat → List Int} {v : Value} {w w' : World} (h : IntsTab B tS tI n xs v w) (hb : Below w.heap.size w w') : IntsTab B tS tI n xs v w' := h.of fun k _ hk _ => hb.block k hk
theorem IntsTab.far {B : Nat} {tS tI : TypeId} {n : Nat} {xs : Nat → List Int} {v : Value} {w : World} (h : IntsTab B tS tI n xs v w) {p : Addr} {t : TypeId} {cs : Array Value} (hp : Blk w p.block t cs) (h1 : t ≠ tS) (h2 : t ≠ tI) (u : Value) : IntsTab B tS tI n xs v (w.setCell p u) :=
  h.of fun k _ _ ⟨cs', hk⟩ => Below.heap_setCell w p u k (by
    rintro rfl
    rcases hk with hk | hk
    · exact Blk.ne_ hp hk h1 rfl
    · exact Blk.ne_ hp hk h2 rfl)

attribute [local irreducible] Row madeCells
set_option maxRecDepth 100000 in
theorem DeadOf_any (regs : Int) (A : Option Addr) (l : List Nd) (cap : Nat) (w : World) (hA : NodesAt w A l) (hR : Right regs l) :
    Calls Tryd.prog 12 #[.agg #[.int .i64 regs, .slice A l.length cap]] w (DeadOfPost regs l w) := by
  have hlo := hR.lo
  have hhi := hR.hi
  have hO := fun W (hW : Below w.heap.size w W) => OwnProg_any regs A l cap W (hA.below hW) (by omega)
  have HO := hide hO
  have HR := hide hR
  clear hO hR hA
  go_enter Tryd.func12, Tryd.ntmps12
  go_wp2_with fail
  refine (HO.out _ (by repeat (first | (with_reducible exact Below.refl _ _) | (with_reducible assumption) | (with_reducible refine Below.drew ?_) | (with_reducible refine below_drewN ?_ _) | (with_reducible refine Below.alloc ?_ (by (try simp only [World.size_alloc, World.size_setCell, World.size_drew, World.heap_drewN]); (first | done | omega | ((try simp only [World.size_alloc, World.size_setCell, World.size_drew, World.heap_drewN] at *); omega))) _) | (with_reducible refine Below.setCell ?_ (by (try simp only [World.size_alloc, World.size_setCell, World.size_drew, World.heap_drewN]); (first | done | omega | ((try simp only [World.size_alloc, World.size_setCell, World.size_drew, World.heap_drewN] at *); omega))) _) | (with_reducible refine Below.trans ?_ (Below.mono (by assumption) (by (try simp only [World.size_alloc, World.size_setCell, World.size_drew, World.heap_drewN]); (first | done | omega | ((try simp only [World.size_alloc, World.size_setCell, World.size_drew, World.heap_drewN] at *); omega)))))))).mono ?_
  rintro e w1 ⟨v1, rfl, hN1, hb1⟩
  obtain ⟨A1, c1, rfl, _, _⟩ := hN1.shape
  have hz1 := hb1.size
  simp only [World.size_alloc] at hz1
  have hRes1 : Blk w1 (w.heap.size + 1) 24 #[.int .i64 0, .slice none 0 0] := Blk.below (Blk.new' (by simp)) hb1 (by simp)
  have hB1 : Below w.heap.size w w1 := (by repeat (first | (with_reducible exact Below.refl _ _) | (with_reducible assumption) | (with_reducible refine Below.drew ?_) | (with_reducible refine below_drewN ?_ _) | (with_reducible refine Below.alloc ?_ (by (try simp only [World.size_alloc, World.size_setCell, World.size_drew, World.heap_drewN]); (first | done | omega | ((try simp only [World.size_alloc, World.size_setCell, World.size_drew, World.heap_drewN] at *); omega))) _) | (with_reducible refine Below.setCell ?_ (by (try simp only [World.size_alloc, World.size_setCell, World.size_drew, World.heap_drewN]); (first | done | omega | ((try simp only [World.size_alloc, World.size_setCell, World.size_drew, World.heap_drewN] at *); omega))) _) | (with_reducible refine Below.trans ?_ (Below.mono (by assumption) (by (try simp only [World.size_alloc, World.size_setCell, World.size_drew, World.heap_drewN]); (first | done | omega | ((try simp only [World.size_alloc, World.size_setCell, World.size_drew, World.heap_drewN] at *); omega)))))))
  have hN1' : NRow w1 w.heap.size 41 (.slice A1 l.length c1) l := hN1.mono (by simp <;> omega)
  clear hb1 hN1 HO
  go_wp2_with fail
  go_loopg [4] (2 * busyN l + 1) (fun gk ch wr => ∃ (c : Bool) (l1 : List Nd), ch = .bool c ∧ 2 * busyN l1 + (if c = true then 1 else 0) ≤ gk ∧ (c = false → ∀ i, ¬ DeadN l1 i) ∧ Right regs l1 ∧ l1.length = l.length ∧ Hushes l l1 ∧
    Blk wr w1.heap.size 24 #[.int .i64 regs, .slice A1 l.length c1] ∧ NRow wr w.heap.size 41 (.slice A1 l.length c1) l1 ∧ Blk wr (w.heap.size + 1) 24 #[.int .i64 0, .slice none 0 0] ∧ Below w.heap.size w wr)
  case atStart => exact ⟨true, l, rfl, by simp, fun h => by (cases h), HR.out, rfl, Hushes.nil l, (by repeat (first | ((with_reducible refine Blk.new' ?_); exact (by (try simp only [World.size_alloc, World.size_setCell, World.size_drew, World.heap_drewN]); (first | done | omega | ((try simp only [World.size_alloc, World.size_setCell, World.size_drew, World.heap_drewN] at *); omega)))) | (with_reducible refine Blk.drew ?_) | (with_reducible refine Blk.drewN ?_ _) | (with_reducible refine Blk.alloc ?_ _) | with_reducible assumption)), hN1'.alloc _, hRes1.alloc _, (by repeat (first | (with_reducible exact Below.refl _ _) | (with_reducible assumption) | (with_reducible refine Below.drew ?_) | (with_reducible refine below_drewN ?_ _) | (with_reducible refine Below.alloc ?_ (by (try simp only [World.size_alloc, World.size_setCell, World.size_drew, World.heap_drewN]); (first | done | omega | ((try simp only [World.size_alloc, World.size_setCell, World.size_drew, World.heap_drewN] at *); omega))) _) | (with_reducible refine Below.setCell ?_ (by (try simp only [World.size_alloc, World.size_setCell, World.size_drew, World.heap_drewN]); (first | done | omega | ((try simp only [World.size_alloc, World.size_setCell, World.size_drew, World.heap_drewN] at *); omega))) _) | (with_reducible refine Below.trans ?_ (Below.mono (by assumption) (by (try simp only [World.size_alloc, World.size_setCell, World.size_drew, World.heap_drewN]); (first | done | omega | ((try simp only [World.size_alloc, World.size_setCell, World.size_drew, World.heap_drewN] at *); omega)))))))⟩
  case round =>
    clear hN1' hRes1 hB1
    obtain ⟨c, l1, rfl, hgk, hno, hR1, hl1, hH, hQ, hN, hRes, hB⟩ := hrel
    have Hgk := hide hgk
    have hz := hB.size
    have q0 := hQ.cell 0
    have q1 := hQ.cell 1
    simp only [List.getElem?_toArray, List.getElem?_cons_zero, List.getElem?_cons_succ] at q0 q1
    have lq := hQ.lt
    have lres := hRes.lt
    cases c with
    | false =>
      have r0 := hRes.cell 0
      have r1 := hRes.cell 1
      have r2 := hRes.frozen 0
      have r3 := hRes.frozen 1
      simp only [List.getElem?_toArray, List.getElem?_cons_zero, List.getElem?_cons_succ] at r0 r1
      have hne2 := hN.ne_blk hRes (by decide)
      have HD := hide (And.intro hH (hno rfl))
      have HN := hide hN
      have Hl1 := hide hl1
      have Hne := hide hne2
      clear hno hH hN hQ hRes hR1 hne2 hgk hl1
      go_wp2_with fail
      go_tidy
      refine bodyPost_ret (v := .agg #[.int .i64 regs, .slice A1 l.length c1]) (by simp [results, Tryd.results12, go_sem, r0, r1, World.cell?_setCell_same, World.cell?_setCell_other]) rfl ?_
      exact ⟨_, l1, rfl, HD.out, Hl1.out, (HN.out.far Hne.out _).far Hne.out _, (hB.setCell (by simp) _).setCell (by simp) _⟩
    | true =>
      have hLO := LiveOf_any regs A1 l1 c1 wr hN.nodes hR1
      rw [hl1] at hLO
      have HLO := hide hLO
      have HR1 := hide hR1
      have Hl1 := hide hl1
      have HH := hide hH
      have HQ := hide hQ
      have HN := hide hN
      have HRes := hide hRes
      clear hno hH hN hQ hRes hR1 hLO hgk hl1
      go_wp2_with fail
      refine (HLO.out).mono ?_
      rintro e w2 ⟨v2, rfl, hT2, hb2⟩
      have hz2 := hb2.size
      have HT2 := hide hT2
      have HQ2 := hide (HQ.out.below hb2 lq)
      have HN2 := hide (HN.out.below' hb2)
      have HRes2 := hide (HRes.out.below hb2 lres)
      have hB2 : Below w.heap.size w w2 := hB.trans (hb2.mono hz)
      clear hb2 q0 q1 lq lres hT2 HLO
      go_wp2_with fail
      obtain ⟨wo, rfl⟩ : ∃ wo : World, wo = wr := ⟨_, rfl⟩
      obtain ⟨gk3, rfl⟩ : ∃ gk3 : Nat, gk3 = gk := ⟨_, rfl⟩
      go_loopg [4, 6] (l.length) (fun gk ch i wr => ∃ (k : Nat) (c : Bool) (l2 : List Nd), k ≤ l.length ∧ ch = .bool c ∧ i = .int .i64 k ∧ gk = l.length - k ∧ Hushing regs l l1 l2 k c ∧
        IntsTab wo.heap.size 36 3 l.length (liveL regs.toNat l1) v2 wr ∧
        Blk wr w1.heap.size 24 #[.int .i64 regs, .slice A1 l.length c1] ∧ NRow wr w.heap.size 41 (.slice A1 l.length c1) l2 ∧ Blk wr (w.heap.size + 1) 24 #[.int .i64 0, .slice none 0 0] ∧ Below w.heap.size w wr)
      case atStart => exact ⟨0, false, l1, Nat.zero_le _, rfl, rfl, rfl, Hushing.start HR1.out Hl1.out HH.out, HT2.out, HQ2.out, HN2.out, HRes2.out, hB2⟩
      case round =>
        clear HT2 HQ2 HN2 HRes2 hB2 HQ HN HRes hB
        obtain ⟨k, c, l2, hk, rfl, rfl, hgk2, hHu, hT, hQ, hN, hRes, hB⟩ := hrel
        have Hgk2 := hide hgk2
        have HHu := hide hHu
        have HT := hide hT
        have hz3 := hB.size
        have q0 := hQ.cell 0
        have q1 := hQ.cell 1
        simp only [List.getElem?_toArray, List.getElem?_cons_zero, List.getElem?_cons_succ] at q0 q1
        have lq := hQ.lt
        have lres := hRes.lt
        have HQ := hide hQ
        have HRes := hide hRes
        clear hgk2 hHu hT hQ hRes
        by_cases hlt : k < l.length
        · obtain ⟨gN, cN, x, e1, hgB, hgl, hx, hlies, hfr⟩ := hN.get (k := k) (by rw [HHu.out.len]; exact hlt)
          injection e1 with e1 e2 e3
          subst e1 e3
          clear e2
          have HN := hide hN
          have Hx := hide hx
          obtain ⟨c0, c1', c2, c3, c4, c5⟩ := hlies
          have f0 := hfr (k * 6) (by rw [HHu.out.len]; omega)
          have f1 := hfr (k * 6 + 1) (by rw [HHu.out.len]; omega)
          have f2 := hfr (k * 6 + 2) (by rw [HHu.out.len]; omega)
          have f3 := hfr (k * 6 + 3) (by rw [HHu.out.len]; omega)
          have f4 := hfr (k * 6 + 4) (by rw [HHu.out.len]; omega)
          have f5 := hfr (k * 6 + 5) (by rw [HHu.out.len]; omega)
          have k0 : (0 : Int) ≤ (k : Int) := by omega
          have k1 : (k : Int) < (l.length : Int) := by omega
          clear hN hx hfr
          cases hw : inB x.op 1 8
          case false =>
            have Hw := hide hw
            go_wp2_with (go_at_call 25; refine (within_any _ _ _ _).mono ?_; rw [hw]; rintro e w' ⟨rfl, rfl⟩)
            go_roundg (l.length - (k + 1))
            case measure => have := Hgk2.out; omega
            case rel =>
              have hnd : ¬ DeadN l1 k := by
                rintro ⟨y, hy, h1, h8, _⟩
                rw [← HHu.out.same k (Nat.le_refl _), Hx.out] at hy
                injection hy with hy
                subst hy
                have := Hw.out
                simp [inB] at this
                omega
              exact ⟨k + 1, c, l2, by omega, rfl, by go_num, rfl, HHu.out.pass hnd, HT.out.below ((Below.refl _ _).alloc (Nat.le_refl _) _), HQ.out.alloc _, HN.out.alloc _, HRes.out.alloc _, hB.alloc hz3 _⟩
          case true =>
            have Hw := hide hw
            have hop : 1 ≤ x.op ∧ x.op ≤ 8 := by simp [inB] at hw; omega
            have hm := List.mem_of_getElem? Hx.out
            have ht := HHu.out.right.then_ hm (by omega)
            rw [HHu.out.len] at ht
            have hd := (by
              have h1 := HHu.out.right.rng x hm
              simp only [badR, Bool.or_eq_false_iff, Bool.not_eq_false'] at h1
              have h2 := h1.1.1.1.1
              have h3 : hasD x.op = true := by simp [hasD, inB]; omega
              simpa [okR, h3] using h2 : 0 ≤ x.d ∧ x.d < regs)
            obtain ⟨tt, htt⟩ := Int.eq_ofNat_of_zero_le (show 0 ≤ x.t by omega)
            obtain ⟨gT, oT, cT, AT, cT2, rfl, hgT, hcT, hvT⟩ := HT.out.row (i := tt) (by omega)
            have hlv : (liveL regs.toNat l1 tt).any (fun z => z == x.d) = yn (lvx l1 x.d.toNat) tt := any_live hd.1 (by omega)
            have hll : (liveL regs.toNat l1 tt).length ≤ 64 := by
              have := sel_len (fun r => yn (lvx l1 r) tt) regs.toNat
              have := HHu.out.right.rhi
              unfold liveL
              omega
            rw [htt] at c4
            have t0' : (0 : Int) ≤ (tt : Int) := by omega
            have t1' : (tt : Int) < (l.length : Int) := by omega
            have Hhop := hide hop
            have Hht := hide htt
            have Hlv := hide hlv
            have hbn : Below w.heap.size w (wr.alloc (.cells #[.int .i64 x.op, .int .i64 x.d, .int .i64 x.a, .int .i64 x.b, .int .i64 (tt : Int), .int .i64 x.e] 41)) := hB.alloc hz3 _
            clear hop htt hlv ht hd hm
            generalize hLL : liveL regs.toNat l1 tt = L at *
            have HLL := hide hLL
            clear hLL
            go_wp2_with (go_at_call 25; refine (within_any _ _ _ _).mono ?_; rw [hw]; rintro e w' ⟨rfl, rfl⟩)
            obtain ⟨wn, hwn⟩ : ∃ wn : World, wn = wr.alloc (.cells #[.int .i64 x.op, .int .i64 x.d, .int .i64 x.a, .int .i64 x.b, .int .i64 (tt : Int), .int .i64 x.e] 41) := ⟨_, rfl⟩
            have hbW : Below wr.heap.size wr wn := by rw [hwn]; exact (Below.refl _ _).alloc (Nat.le_refl _) _
            have hXn : Blk wn wr.heap.size 41 #[.int .i64 x.op, .int .i64 x.d, .int .i64 x.a, .int .i64 x.b, .int .i64 (tt : Int), .int .i64 x.e] := by rw [hwn]; exact (by repeat (first | ((with_reducible refine Blk.new' ?_); exact (by (try simp only [World.size_alloc, World.size_setCell, World.size_drew, World.heap_drewN]); (first | done | omega | ((try simp only [World.size_alloc, World.size_setCell, World.size_drew, World.heap_drewN] at *); omega)))) | (with_reducible refine Blk.drew ?_) | (with_reducible refine Blk.drewN ?_ _) | (with_reducible refine Blk.alloc ?_ _) | with_reducible assumption))
            rw [← hwn] at hbn ⊢
            have n0 := hXn.cell 1
            have n1 := hXn.cell 4
            simp only [List.getElem?_toArray, List.getElem?_cons_zero, List.getElem?_cons_succ] at n0 n1
            have HQn := hide (HQ.out.below hbW lq)
            have HNn := hide (HN.out.below' hbW)
            have HResn := hide (HRes.out.below hbW lres)
            have HTn := hide (HT.out.below hbW)
            have hvTn := hvT.below hbW
            have q0n := ((bcell hbW).1 _ _ lq).trans q0
            have q1n := ((bcell hbW).1 _ _ lq).trans q1
            have hgln := Nat.lt_of_lt_of_le hgl hbW.size
            have e0 := ((bcell hbW).1 _ _ hgl).trans c0
            have e1 := ((bcell hbW).1 _ _ hgl).trans c1'
            have e2 := ((bcell hbW).1 _ _ hgl).trans c2
            have e3 := ((bcell hbW).1 _ _ hgl).trans c3
            have e4 := ((bcell hbW).1 _ _ hgl).trans c4
            have e5 := ((bcell hbW).1 _ _ hgl).trans c5
            have i0 := ((bcell hbW).2 _ _ hgl).trans f0
            have i1 := ((bcell hbW).2 _ _ hgl).trans f1
            have i2 := ((bcell hbW).2 _ _ hgl).trans f2
            have i3 := ((bcell hbW).2 _ _ hgl).trans f3
            have i4 := ((bcell hbW).2 _ _ hgl).trans f4
            have i5 := ((bcell hbW).2 _ _ hgl).trans f5
            clear hwn hvT hcT q0 q1 c0 c1' c2 c3 c4 c5 f0 f1 f2 f3 f4 f5 hXn HT
            obtain ⟨wp, rfl⟩ : ∃ wp : World, wp = wr := ⟨_, rfl⟩
            obtain ⟨gk4, rfl⟩ : ∃ gk4 : Nat, gk4 = gk := ⟨_, rfl⟩
            go_loopg [9, 10] (L.length) (fun gk is i w4 => ∃ j : Nat, j ≤ L.length ∧ is = .bool ((L.take j).any fun z => z == x.d) ∧ i = .int .i64 j ∧ gk = L.length - j ∧ ∃ d, w4 = wn.drewN d)
            case atStart => exact ⟨0, Nat.zero_le _, rfl, rfl, rfl, 0, rfl⟩
            case round =>
              obtain ⟨j, hj, rfl, rfl, hgk5, d, rfl⟩ := hrel
              have Hgk5 := hide hgk5
              clear hgk5
              by_cases hjl : j < L.length
              · obtain ⟨lb, lo, z, rfl, hlb, hzL, cz⟩ := hvTn.int hjl
                have HzL := hide hzL
                have j0 : (0 : Int) ≤ (j : Int) := by omega
                have j1 : (j : Int) < (L.length : Int) := by omega
                clear hzL hvTn
                have hsucc : ((L.take (j + 1)).any fun z => z == x.d) = (((L.take j).any fun z => z == x.d) || z == x.d) := any_take_succ _ L j z HzL.out
                have Hsucc := hide hsucc
                clear hsucc
                generalize ((L.take j).any fun z => z == x.d) = q at *
                cases q
                all_goals (go_wp2_with fail)
                all_goals (go_quiet (fail))
                all_goals (go_wp2_with fail)
                all_goals (go_roundg (L.length - (j + 1)))
                all_goals first
                  | (case measure => (have := Hgk5.out; omega))
                  | (case rel => exact ⟨j + 1, by omega, by rw [Hsucc.out]; simp, by go_num, rfl, d + nq, by simp⟩)
              · have hq : ((L.take j).any fun z => z == x.d) = yn (lvx l1 x.d.toNat) tt := by rw [any_take_all _ L j hjl]; exact Hlv.out
                rw [hq]
                clear hq
                have Hhjl := hide hjl
                clear hjl hvTn
                cases hy : yn (lvx l1 x.d.toNat) tt
                case true =>
                  have Hy := hide hy
                  clear hy
                  go_wp2_with fail
                  go_roundg (l.length - (k + 1))
                  case measure => have := Hgk2.out; omega
                  case rel =>
                    have hx1 : l1[k]? = some x := by rw [← HHu.out.same k (Nat.le_refl _)]; exact Hx.out
                    have hnd : ¬ DeadN l1 k := fun h => by
                      have := (deadX_iff HR1.out hx1).2 h
                      unfold deadX at this
                      rw [Hht.out, Int.toNat_natCast, Hy.out] at this
                      simp at this
                    exact ⟨k + 1, c, l2, by omega, rfl, by go_num, rfl, HHu.out.pass hnd, by rw [HLL.out] at *; exact HTn.out.below (below_drewN (Below.refl _ _) _), HQn.out.drewN _, HNn.out.drewN _, HResn.out.drewN _, below_drewN hbn _⟩
                case false =>
                  have Hy := hide hy
                  clear hy
                  go_wp2_with fail
                  go_roundg (l.length - (k + 1))
                  case measure => have := Hgk2.out; omega
                  case rel =>
                    have hx1 : l1[k]? = some x := by rw [← HHu.out.same k (Nat.le_refl _)]; exact Hx.out
                    have hnd : DeadN l1 k := (deadX_iff HR1.out hx1).1 (by
                      unfold deadX
                      rw [Hht.out, Int.toNat_natCast, Hy.out]
                      have := Hhop.out
                      simp
                      omega)
                    have hne := HNn.out.ne_blk HQn.out (by decide)
                    have hne2 := HNn.out.ne_blk HResn.out (by decide)
                    have g1 : gN ≠ w1.heap.size := fun e => hne (by simp [Value.ownBlock, e])
                    have g2 : gN ≠ w.heap.size + 1 := fun e => hne2 (by simp [Value.ownBlock, e])
                    have hput := (HNn.out.drewN d).put6 Hx.out (hush x)
                    have hgt : (hush x).t = (tt : Int) := Hht.out
                    rw [hgt] at hput
                    obtain ⟨csN, hNb⟩ := HNn.out.blk
                    have b0 := hNb.drewN d
                    have t0 : IntsTab wo.heap.size 36 3 l.length (liveL regs.toNat l1) (.slice (some ⟨gT, oT, none⟩) l.length cT) (wn.drewN d) := HTn.out.below (below_drewN (Below.refl _ _) _)
                    have t1 := t0.far (p := ⟨gN, k * 6, none⟩) b0 (by decide) (by decide) (.int .i64 0)
                    have b1 := b0.set_ (k * 6) (.int .i64 0)
                    have t2 := t1.far (p := ⟨gN, k * 6 + 1, none⟩) b1 (by decide) (by decide) (.int .i64 0)
                    have b2 := b1.set_ (k * 6 + 1) (.int .i64 0)
                    have t3 := t2.far (p := ⟨gN, k * 6 + 2, none⟩) b2 (by decide) (by decide) (.int .i64 0)
                    have b3 := b2.set_ (k * 6 + 2) (.int .i64 0)
                    have t4 := t3.far (p := ⟨gN, k * 6 + 3, none⟩) b3 (by decide) (by decide) (.int .i64 0)
                    have b4 := b3.set_ (k * 6 + 3) (.int .i64 0)
                    have t5 := t4.far (p := ⟨gN, k * 6 + 4, none⟩) b4 (by decide) (by decide) (.int .i64 (tt : Int))
                    have b5 := b4.set_ (k * 6 + 4) (.int .i64 (tt : Int))
                    have t6 := t5.far (p := ⟨gN, k * 6 + 5, none⟩) b5 (by decide) (by decide) (.int .i64 0)
                    refine ⟨k + 1, true, hushAt l2 k, by omega, rfl, by go_num, rfl, HHu.out.step hnd, t6, (((((((HQn.out.drewN d).far (Ne.symm g1) _).far (Ne.symm g1) _).far (Ne.symm g1) _).far (Ne.symm g1) _).far (Ne.symm g1) _).far (Ne.symm g1) _), ?_, (((((((HResn.out.drewN d).far (Ne.symm g2) _).far (Ne.symm g2) _).far (Ne.symm g2) _).far (Ne.symm g2) _).far (Ne.symm g2) _).far (Ne.symm g2) _), ?_⟩
                    · rw [hushAt_eq Hx.out]; exact hput
                    · exact ((((((below_drewN hbn d).setCell hgB _).setCell hgB _).setCell hgB _).setCell hgB _).setCell hgB _).setCell hgB _
        · have hkk : k = l.length := by omega
          have Hkk := hide hkk
          have HN := hide hN
          clear hkk hN
          go_wp2_with fail
          go_roundg (2 * busyN l2 + (if c = true then 1 else 0))
          case measure =>
            have h1 := Hgk.out
            have h2 := HHu.out.busy
            have h3 := HHu.out.le
            cases c
            · simp at h1 ⊢; omega
            · have := h2 rfl
              simp at h1 ⊢; omega
          case rel =>
            refine ⟨c, l2, rfl, Nat.le_refl _, fun hc i hd => ?_, HHu.out.right, HHu.out.len, HHu.out.hush, HQ.out, HN.out, HRes.out, hB⟩
            obtain ⟨he, hn⟩ := HHu.out.idle hc
            rw [he] at hd
            refine hn i ?_ hd
            obtain ⟨y, hy, _⟩ := hd
            have := (List.getElem?_eq_some_iff.1 hy).1
            rw [Hkk.out, ← HHu.out.len, he]
            exact this
end Go.Proofs.YtmghkonmfbpjcaaDoor
