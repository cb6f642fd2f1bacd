/- text.node: what a line shows, if anything. -/
import Derived.Test.YtmghkonmfbpjcabDoorTxO
import Derived.Test.YtmghkonmfbpjcabDoorTxL
import Derived.Deep.RegionHeld3
import Derived.Deep.MidRow
import Derived.BigQuiet
namespace Go.Proofs.YtmghkonmfbpjcabDoor
set_option linter.unusedVariables false
set_option linter.unusedSimpArgs false
open Go.RowKit
set_option maxHeartbeats 16000000
open Go.Lib Go.Maps

/-- the memory while a line is read -/
structure NSt (g0 gw gi gn q base : Nat) (o : Int) (w0 W : World) (A : Option Addr) (c : Nat) (r : List (List UInt8)) (is : Bool) (n : Nd) : Prop where
  Z : Blk W g0 55 #[.int .i64 0, .int .i64 0, .int .i64 0, .int .i64 0, .int .i64 0, .int .i64 0]
  P : Blk W gw 105 #[.slice A r.length c]
  I : Blk W gi 4 #[.bool is]
  N : Blk W gn 55 #[.int .i64 n.op, .int .i64 n.d, .int .i64 n.a, .int .i64 n.b, .int .i64 n.t, .int .i64 n.e]
  Q : Blk W q 91 (partCells gn o).toArray
  R : Row W base 9 (.slice A r.length c) (r.map strB)
  B : Below w0.heap.size w0 W
  l : g0 < gn ∧ w0.heap.size ≤ g0 ∧ w0.heap.size ≤ gw ∧ w0.heap.size ≤ gi
section
variable {g0 gw gi gn q base : Nat} {o : Int} {w0 W W' : World} {A : Option Addr} {c : Nat} {r : List (List UInt8)} {is : Bool} {n : Nd}
theorem NSt.below (h : NSt g0 gw gi gn q base o w0 W A c r is n) (hb : Below W.heap.size W W') : NSt g0 gw gi gn q base o w0 W' A c r is n :=
  ⟨h.Z.below hb h.Z.lt, h.P.below hb h.P.lt, h.I.below hb h.I.lt, h.N.below hb h.N.lt, h.Q.below hb h.Q.lt, h.R.below' hb, h.B.trans (hb.mono h.B.size), h.l⟩
theorem NSt.pop (h : NSt g0 gw gi gn q base o w0 W A c r is n) {A' : Option Addr} {c' : Nat} {r' : List (List UInt8)} (hR : Row W base 9 (.slice A' r'.length c') (r'.map strB)) :
    NSt g0 gw gi gn q base o w0 (W.setCell ⟨gw, 0, none⟩ (.slice A' r'.length c')) A' c' r' is n :=
  ⟨h.Z.far (h.Z.ne_ h.P (by decide)) _, h.P.set_ 0 _, h.I.far (h.I.ne_ h.P (by decide)) _, h.N.far (h.N.ne_ h.P (by decide)) _, h.Q.far (h.Q.ne_ h.P (by decide)) _, hR.far (hR.ne_blk h.P (by decide)) _, h.B.setCell h.l.2.2.1 _, h.l⟩
theorem NSt.no (h : NSt g0 gw gi gn q base o w0 W A c r is n) : NSt g0 gw gi gn q base o w0 (W.setCell ⟨gi, 0, none⟩ (.bool false)) A c r false n :=
  ⟨h.Z.far (h.Z.ne_ h.I (by decide)) _, h.P.far (h.P.ne_ h.I (by decide)) _, h.I.set_ 0 _, h.N.far (h.N.ne_ h.I (by decide)) _, h.Q.far (h.Q.ne_ h.I (by decide)) _, h.R.far (h.R.ne_blk h.I (by decide)) _, h.B.setCell h.l.2.2.2 _, h.l⟩
theorem NSt.put (h : NSt g0 gw gi gn q base o w0 W A c r is n) {f : Nat} (k : Int) (h1 : 1 ≤ f) (h6 : f < 6) : NSt g0 gw gi gn q base o w0 (W.setCell ⟨gn, f, none⟩ (.int .i64 k)) A c r is (n.put f k) := by
  refine ⟨h.Z.far (by have := h.l.1; simp only; omega) _, h.P.far (h.P.ne_ h.N (by decide)) _, h.I.far (h.I.ne_ h.N (by decide)) _, ?_, h.Q.far (h.Q.ne_ h.N (by decide)) _, h.R.far (h.R.ne_blk h.N (by decide)) _, h.B.setCell (by have := h.l; simp only; omega) _, h.l⟩
  have hN := h.N.set_ f (.int .i64 k)
  rcases f with _ | _ | _ | _ | _ | _ | f
  · omega
  all_goals first | exact hN | omega
theorem NSt.take (h : NSt g0 gw gi gn q base o w0 W A c r is n) : Calls Tryd.prog 72 #[.pointer (some ⟨gw, 0, none⟩), .pointer (some ⟨gi, 0, none⟩)] W fun e W' =>
    ((r = [] ∧ e = .returned (strB []) ∧ NSt g0 gw gi gn q base o w0 W' A c r false n) ∨ ∃ x r' A' c', r = x :: r' ∧ e = .returned (strB x) ∧ NSt g0 gw gi gn q base o w0 W' A' c' r' is n) ∧ ∀ g t cs, Blk W g t cs → t ≠ 105 → t ≠ 4 → Blk W' g t cs := by
  refine (take_any gw gi base A c r is W h.P h.I h.R).mono ?_
  rintro e W' (⟨rfl, rfl, rfl⟩ | ⟨x, r', A', c', rfl, rfl, rfl, hR⟩)
  · exact ⟨.inl ⟨rfl, rfl, h.no⟩, fun g t cs hb h1 h2 => hb.far (hb.ne_ h.I h2) _⟩
  · exact ⟨.inr ⟨x, r', A', c', rfl, rfl, h.pop hR⟩, fun g t cs hb h1 h2 => hb.far (hb.ne_ h.P h1) _⟩
end
theorem splB_ne_ (c : UInt8) (s : List UInt8) : splB c s ≠ [] := cutL_ne c s []
theorem mem_joinB_len (c : UInt8) : ∀ (l : List (List UInt8)), ∀ p ∈ l, p.length ≤ (joinB c l).length
  | [], p, h => by cases h
  | [x], p, h => by
    rw [List.mem_singleton.1 h]; exact Nat.le_refl _
  | x :: y :: r, p, h => by
    show p.length ≤ (x ++ c :: joinB c (y :: r)).length
    rw [List.length_append, List.length_cons]
    rcases List.mem_cons.1 h with e | e
    · rw [e]; omega
    · have := mem_joinB_len c (y :: r) p e
      omega
theorem splB_len_ (c : UInt8) (s : List UInt8) (p : List UInt8) (h : p ∈ splB c s) : p.length ≤ s.length := by
  have := mem_joinB_len c _ p h
  unfold splB at this
  rw [joinB_cutL] at this
  simpa using this
theorem fst_of {p0 : List UInt8} {c : Int} (h : (opsD 13).atKey (.string p0) (.lit (.int .i64 0)) = .lit (.int .i64 c)) : Fst p0 c (Maps.has (opsD 13) (.string p0)) := by
  cases hb : Maps.has (opsD 13) (.string p0) with
  | true =>
    obtain ⟨j, hj, hp⟩ := (opsD_has 13 p0 (Nat.le_refl _)).1 hb
    rw [← hp, opsD_at 13 j _ (Nat.le_refl _) hj] at h
    injection h with h
    injection h with _ h
    subst h
    exact ⟨by omega, .inl ⟨rfl, hp.symm⟩⟩
  | false =>
    rw [opsD_no 13 p0 _ hb] at h
    injection h with h
    injection h with _ h
    subst h
    refine ⟨by omega, .inr ⟨rfl, fun m h0 h1 e => ?_⟩⟩
    have := (opsD_has 13 p0 (Nat.le_refl _)).2 ⟨m.toNat, by omega, by rw [← e]; congr 1; omega⟩
    rw [this] at hb
    cases hb
/-- what text.node answers -/
def NodePost (s : List UInt8) (w : World) (e : Ending) (w' : World) : Prop :=
  ∃ (n : Nd) (ok : Bool), e = .returned (.tuple #[.agg #[.int .i64 n.op, .int .i64 n.d, .int .i64 n.a, .int .i64 n.b, .int .i64 n.t, .int .i64 n.e], .bool ok]) ∧ Below w.heap.size w w' ∧ ((ok = true ∧ Shaped n ∧ s = nodeL n) ∨ (ok = false ∧ ∀ m, Shaped m → s ≠ nodeL m))
set_option maxRecDepth 100000 in
theorem node_any (s : List UInt8) (hs : s.length ≤ 4294967280) (gm : Nat) (w : World) (hT : Tv w) (hM : OpsM gm 13 w) : Calls Tryd.prog 45 #[strB s, .map (some gm)] w (NodePost s w) := by
  have HS := fun W h => hide (Split_b s hs W h)
  go_enter Tryd.func45, Tryd.ntmps45
  go_upto_region 2 with fail
  have hZ := Blk.new w 55 #[.int .i64 0, .int .i64 0, .int .i64 0, .int .i64 0, .int .i64 0, .int .i64 0]
  have hB0 : Below w.heap.size w (w.alloc (.cells #[.int .i64 0, .int .i64 0, .int .i64 0, .int .i64 0, .int .i64 0, .int .i64 0] 55)) := (Below.refl _ _).alloc (Nat.le_refl _) _
  have hM0 := hM.alloc (.cells #[.int .i64 0, .int .i64 0, .int .i64 0, .int .i64 0, .int .i64 0, .int .i64 0] 55)
  refine Calls.mono (HS _ (hT.below hB0)).out ?_
  rintro e w1 ⟨v1, rfl, hR1, hb1⟩
  have hZ1 := hZ.below hb1 hZ.lt
  have hM1 := hM0.below hb1
  have hB1 := hB0.trans (hb1.mono hB0.size)
  clear hZ hB0 hM0 hb1 HS
  generalize hps : splB 32 s = ps at *
  obtain ⟨A1, c1, rfl, hc1, hm1⟩ := hR1.shape
  rw [List.length_map] at *
  obtain ⟨p0, r0, rfl⟩ : ∃ x r, ps = x :: r := by
    cases h : ps with
    | nil => rw [h] at hps; exact absurd hps (splB_ne_ 32 s)
    | cons x r => exact ⟨x, r, rfl⟩
  obtain ⟨b0, o0, rfl, hb0, hv0⟩ := hR1.vals (by simp)
  have hv0 : w1.cell? ⟨b0, o0, none⟩ = some (strB p0) := by have := hv0 0 (strB p0) rfl; simpa using this
  have hp0 : p0.length ≤ 4294967280 := by
    have := splB_len_ 32 s p0 (by rw [hps]; simp)
    omega
  have hR1t := hide (Row.tail (x := strB p0) (xs := r0.map strB) hR1)
  have Hps := hide hps
  clear hps hR1
  rw [List.length_cons] at *
  have l0 : (0 : Int) < ((r0.length + 1 : Nat) : Int) := by omega
  go_upto_region 4 with (at_lookup; refine wpList_lookup_own_ok_int _ rfl _ _ 98 rfl 9 3 .i64 lawStr Tryd.underlying98 Tryd.underlying3 (zeroOp _) gm 13 (opsD 13) rfl (hM1.alloc _) (strB p0) (.string p0) rfl (keyStr hp0) ?_; intro c hat hwc)
  have hF := fst_of hat
  generalize Maps.has (opsD 13) (.string p0) = is0 at *
  obtain ⟨k, rfl⟩ : ∃ k : Nat, c = (k : Int) := ⟨c.toNat, by have := hF.1.1; omega⟩
  have hk13 : k < 13 := by have := hF.1.2; omega
  have HF := hide hF
  clear hat hwc hM1 hF
  have hP3 : Blk (((w1.alloc (.cells #[.slice (some ⟨b0, o0, none⟩) (r0.length + 1) c1] 105)).alloc (.cells #[.bool is0] 4)).alloc (.cells #[.int .i64 (k : Int), .int .i64 0, .int .i64 0, .int .i64 0, .int .i64 0, .int .i64 0] 55)) w1.heap.size 105 #[.slice (some ⟨b0, o0, none⟩) (r0.length + 1) c1] := (by repeat (first | ((with_reducible refine Blk.new' ?_); exact (by (try simp only [World.size_alloc, World.size_setCell, World.size_drew, World.heap_drewN]); (first | done | omega | ((try simp only [World.size_alloc, World.size_setCell, World.size_drew, World.heap_drewN] at *); omega)))) | (with_reducible refine Blk.drew ?_) | (with_reducible refine Blk.drewN ?_ _) | (with_reducible refine Blk.alloc ?_ _) | with_reducible assumption))
  have hI3 : Blk (((w1.alloc (.cells #[.slice (some ⟨b0, o0, none⟩) (r0.length + 1) c1] 105)).alloc (.cells #[.bool is0] 4)).alloc (.cells #[.int .i64 (k : Int), .int .i64 0, .int .i64 0, .int .i64 0, .int .i64 0, .int .i64 0] 55)) (w1.heap.size + 1) 4 #[.bool is0] := (by repeat (first | ((with_reducible refine Blk.new' ?_); exact (by (try simp only [World.size_alloc, World.size_setCell, World.size_drew, World.heap_drewN]); (first | done | omega | ((try simp only [World.size_alloc, World.size_setCell, World.size_drew, World.heap_drewN] at *); omega)))) | (with_reducible refine Blk.drew ?_) | (with_reducible refine Blk.drewN ?_ _) | (with_reducible refine Blk.alloc ?_ _) | with_reducible assumption))
  have hN3 : Blk (((w1.alloc (.cells #[.slice (some ⟨b0, o0, none⟩) (r0.length + 1) c1] 105)).alloc (.cells #[.bool is0] 4)).alloc (.cells #[.int .i64 (k : Int), .int .i64 0, .int .i64 0, .int .i64 0, .int .i64 0, .int .i64 0] 55)) (w1.heap.size + 1 + 1) 55 #[.int .i64 (k : Int), .int .i64 0, .int .i64 0, .int .i64 0, .int .i64 0, .int .i64 0] := (by repeat (first | ((with_reducible refine Blk.new' ?_); exact (by (try simp only [World.size_alloc, World.size_setCell, World.size_drew, World.heap_drewN]); (first | done | omega | ((try simp only [World.size_alloc, World.size_setCell, World.size_drew, World.heap_drewN] at *); omega)))) | (with_reducible refine Blk.drew ?_) | (with_reducible refine Blk.drewN ?_ _) | (with_reducible refine Blk.alloc ?_ _) | with_reducible assumption))
  have hZ3 : Blk (((w1.alloc (.cells #[.slice (some ⟨b0, o0, none⟩) (r0.length + 1) c1] 105)).alloc (.cells #[.bool is0] 4)).alloc (.cells #[.int .i64 (k : Int), .int .i64 0, .int .i64 0, .int .i64 0, .int .i64 0, .int .i64 0] 55)) w.heap.size 55 #[.int .i64 0, .int .i64 0, .int .i64 0, .int .i64 0, .int .i64 0, .int .i64 0] := ((hZ1.alloc _).alloc _).alloc _
  have hR3 := hide (((hR1t.out.alloc (.cells #[.slice (some ⟨b0, o0, none⟩) (r0.length + 1) c1] 105)).alloc (.cells #[.bool is0] 4)).alloc (.cells #[.int .i64 (k : Int), .int .i64 0, .int .i64 0, .int .i64 0, .int .i64 0, .int .i64 0] 55))
  have hB3 : Below w.heap.size w (((w1.alloc (.cells #[.slice (some ⟨b0, o0, none⟩) (r0.length + 1) c1] 105)).alloc (.cells #[.bool is0] 4)).alloc (.cells #[.int .i64 (k : Int), .int .i64 0, .int .i64 0, .int .i64 0, .int .i64 0, .int .i64 0] 55)) := ((hB1.alloc hB1.size _).alloc (by have := hB1.size; simp; omega) _).alloc (by have := hB1.size; simp; omega) _
  have hzw : w.heap.size < w1.heap.size := hZ1.lt
  clear hZ1 hR1t hv0 hb0
  generalize (((w1.alloc (.cells #[.slice (some ⟨b0, o0, none⟩) (r0.length + 1) c1] 105)).alloc (.cells #[.bool is0] 4)).alloc (.cells #[.int .i64 (k : Int), .int .i64 0, .int .i64 0, .int .i64 0, .int .i64 0, .int .i64 0] 55)) = w3 at *
  have a0 := hP3.cell 0
  have af := hP3.frozen 0
  simp only [List.getElem?_toArray, List.getElem?_cons_zero] at a0
  have l1 : (1 : Int) ≤ ((r0.length + 1 : Nat) : Int) := by omega
  go_cut [] (fun wx => ∃ A' c', Blk wx w1.heap.size 105 #[.slice A' r0.length c'] ∧ Row wx (w.heap.size + 1) 9 (.slice A' r0.length c') (r0.map strB) ∧ Blk wx (w1.heap.size + 1) 4 #[.bool is0] ∧ Blk wx (w1.heap.size + 1 + 1) 55 #[.int .i64 (k : Int), .int .i64 0, .int .i64 0, .int .i64 0, .int .i64 0, .int .i64 0] ∧ Blk wx w.heap.size 55 #[.int .i64 0, .int .i64 0, .int .i64 0, .int .i64 0, .int .i64 0, .int .i64 0] ∧ Below w.heap.size w wx)
  case first =>
    go_wp2_with fail
    all_goals go_meet
    all_goals refine ⟨_, _, hP3.set_ 0 _, ?_, hI3.far (by simp) _, hN3.far (by simp; omega) _, hZ3.far (by simp; omega) _, hB3.setCell (by simp; omega) _⟩
    all_goals have hT2 := hR3.out
    all_goals clear hR3
    all_goals split at hT2
    all_goals first | exact ((hT2.far (hT2.ne_blk hP3 (by decide)) _).mono (by simp)) | (exfalso; omega) | (subst_vars; exact ((hT2.far (hT2.ne_blk hP3 (by decide)) _).mono (by simp)))
  case rest =>
    obtain ⟨A', c', hP, hR, hI, hN, hZ, hB⟩ := hcut
    clear hP3 hI3 hN3 hZ3 hR3 hB3 a0 af
    generalize w1.heap.size = gw at *
    have HP := hide (parts_any (gw + 1 + 1) k 0 0 0 0 0 wc hN hk13)
    unfold PartsPost at HP
    go_wp2_with fail
    refine Calls.mono HP.out ?_
    rintro e w4 ⟨q, rfl, hq, hQ, hb4⟩
    have hS : NSt w.heap.size gw (gw + 1) (gw + 1 + 1) q (w.heap.size + 1) (k : Int) w w4 A' c' r0 is0 ⟨k, 0, 0, 0, 0, 0⟩ :=
      ⟨hZ.below hb4 hZ.lt, hP.below hb4 hP.lt, hI.below hb4 hI.lt, hN.below hb4 hN.lt, hQ, hR.below' hb4, hB.trans (hb4.mono hB.size), by omega, by omega, by omega, by omega⟩
    have hRd : Rd (k : Int) p0 (p0 :: r0) 0 r0 ⟨k, 0, 0, 0, 0, 0⟩ := by
      refine ⟨rfl, by simp, fun i h1 h6 _ => ?_, fun i h6 => ?_⟩
      · rcases i with _ | _ | _ | _ | _ | _ | i <;> first | rfl | omega
      · have hz : ∀ z : Int, 0 ≤ z → z ≤ 12 → i64ok z := fun z a b => ⟨by omega, by omega⟩
        rcases i with _ | _ | _ | _ | _ | _ | i <;> first | exact hz 0 (by omega) (by omega) | exact hz (k : Int) (by omega) (by omega) | omega
    clear hZ hP hI hN hR hB hb4 hQ HP
    generalize hpn : (partsL (k : Int)).length = pn at *
    have Hpn := hide hpn
    have hp4 : pn ≤ 4 := by rw [← hpn]; exact partsL_len (k : Int)
    clear hpn
    have HRd := hide hRd
    have HS := hide hS
    clear hRd hS
    go_wp2_with fail
    go_loopg [33] (pn) (fun gk i wr => ∃ (j : Nat) (A : Option Addr) (c : Nat) (r : List (List UInt8)) (n : Nd), j ≤ pn ∧ i = .int .i64 j ∧ gk = pn - j ∧ NSt w.heap.size gw (gw + 1) (gw + 1 + 1) q (w.heap.size + 1) (k : Int) w wr A c r is0 n ∧ Rd (k : Int) p0 (p0 :: r0) j r n)
    case atStart => exact ⟨0, A', c', r0, _, by omega, rfl, rfl, HS.out, HRd.out⟩
    case round =>
      obtain ⟨j, A, c, r, n, hj, rfl, hgk, hS, hRd⟩ := hrel
      have Hgk := hide hgk
      have HRd := hide hRd
      clear hgk hRd
      by_cases hlt : j < pn
      · obtain ⟨⟨wd, f⟩, hp⟩ : ∃ p, (partsL (k : Int))[j]? = some p := ⟨_, List.getElem?_eq_getElem (by have := Hpn.out; omega)⟩
        have hw := partsL_words (k : Int) _ (List.mem_of_getElem? hp)
        have pg := pairs_get (fun p : List UInt8 × Nat => strB p.1) (fun p => .pointer (some ⟨gw + 1 + 1, p.2, none⟩)) (partsL (k : Int)) j _ hp
        have cq0 : wr.cell? ⟨q, j * 2, none⟩ = some (strB wd) := (hS.Q.cell (j * 2)).trans (by rw [List.getElem?_toArray]; exact pg.1)
        have cq1 : wr.cell? ⟨q, j * 2 + 1, none⟩ = some (.pointer (some ⟨gw + 1 + 1, f, none⟩)) := (hS.Q.cell (j * 2 + 1)).trans (by rw [List.getElem?_toArray]; exact pg.2)
        have Hp := hide hp
        have k0 : (0 : Int) ≤ (j : Int) := by omega
        have k1 : (j : Int) < (pn : Int) := by omega
        clear hp pg
        go_upto_region 9 with fail
        have hS8 := hS.below ((Below.refl _ _).alloc (Nat.le_refl _) (.cells #[strB wd, .pointer (some ⟨gw + 1 + 1, f, none⟩)] 91))
        have hX8 := Blk.new wr 91 #[strB wd, .pointer (some ⟨gw + 1 + 1, f, none⟩)]
        generalize wr.alloc (.cells #[strB wd, .pointer (some ⟨gw + 1 + 1, f, none⟩)] 91) = w8 at *
        generalize wr.heap.size = gx at *
        clear cq0 cq1 hS
        have x0 := hX8.cell 0
        have x1 := hX8.cell 1
        simp only [List.getElem?_toArray, List.getElem?_cons_zero, List.getElem?_cons_succ] at x0 x1
        go_cut [46] (fun s46 wx => ∃ (bad : Bool) (A2 : Option Addr) (c2 : Nat) (r2 : List (List UInt8)) (is2 : Bool), s46 = .bool bad ∧ NSt w.heap.size gw (gw + 1) (gw + 1 + 1) q (w.heap.size + 1) (k : Int) w wx A2 c2 r2 is2 n ∧ Blk wx gx 91 #[strB wd, .pointer (some ⟨gw + 1 + 1, f, none⟩)] ∧
          (bad = false → is2 = is0 ∧ r = (if wd = [] then [] else [wd]) ++ r2) ∧ (bad = true → ∀ y, r ≠ (if wd = [] then [] else [wd]) ++ y))
        case first =>
          by_cases hwd : wd = []
          · subst hwd
            go_quiet (fail)
            all_goals (go_wp2_with fail)
            all_goals go_meet
            all_goals exact ⟨false, A, c, r, is0, rfl, hS8.below (below_drewN (Below.refl _ _) _), hX8.drewN _, fun _ => ⟨rfl, rfl⟩, fun h => by cases h⟩
          · have he1 : wd.isEmpty = false := by simpa using hwd
            have HX := hide hX8
            have HQ := hide hS8
            have hTk := fun W (hb : Below w8.heap.size w8 W) => hide ((HQ.out.below hb).take)
            cases r with
            | nil =>
              clear hS8 hX8
              go_region_with (go_at_call 72; refine ((hTk _ ((Below.refl _ _).drew)).out).mono ?_; rintro e w9 ⟨⟨_, rfl, hS9⟩ | ⟨x, r', A', c', he, _⟩, hk9⟩; rotate_left; (cases he); have hX9 := hk9 _ _ _ (HX.out.drew) (by decide) (by decide); have x0 := hX9.cell 0; simp only [List.getElem?_toArray, List.getElem?_cons_zero, List.getElem?_cons_succ] at x0; clear hk9)
              all_goals (go_wp2_with fail)
              all_goals go_meet
              all_goals refine ⟨true, A, c, [], false, ?_, hS9, hX9, (fun h => by cases h), fun _ y e => ?_⟩
              all_goals first | rfl | (exfalso; revert e; simp [hwd]; done) | (congr 1; simp [hwd]; try exact fun h => hwd h.symm)
            | cons x r' =>
              clear hS8 hX8
              go_region_with (go_at_call 72; refine ((hTk _ ((Below.refl _ _).drew)).out).mono ?_; rintro e w9 ⟨⟨he, _⟩ | ⟨x1, r1, A9, c9, he, rfl, hS9⟩, hk9⟩; (cases he); have he1 := (List.cons.inj he).1; have he2 := (List.cons.inj he).2; subst he1; subst he2; clear he; have hX9 := hk9 _ _ _ (HX.out.drew) (by decide) (by decide); have x0 := hX9.cell 0; simp only [List.getElem?_toArray, List.getElem?_cons_zero, List.getElem?_cons_succ] at x0; clear hk9)
              all_goals (go_wp2_with fail)
              all_goals go_meet
              all_goals
                by_cases hxw : x = wd
                · refine ⟨false, A9, c9, r', is0, ?_, hS9, hX9, fun _ => ⟨rfl, ?_⟩, fun h => by cases h⟩
                  · subst hxw; first | rfl | (congr 1; simp)
                  · rw [if_neg hwd, hxw]; rfl
                · refine ⟨true, A9, c9, r', is0, ?_, hS9, hX9, (fun h => by cases h), fun _ y e => ?_⟩
                  · first | rfl | (congr 1; simp [hxw])
                  · rw [if_neg hwd] at e
                    exact hxw (List.cons.inj e).1
        case rest =>
          obtain ⟨bad, A2, c2, r2, is2, rfl, hS2, hX2, hg, hb⟩ := hcut
          clear hS8 hX8 x0 x1
          have Hg := hide hg
          have Hb := hide hb
          clear hg hb
          cases bad with
          | true =>
            have hZ := hS2.Z
            have z0 := hZ.cell 0
            have z1 := hZ.cell 1
            have z2 := hZ.cell 2
            have z3 := hZ.cell 3
            have z4 := hZ.cell 4
            have z5 := hZ.cell 5
            have zf := hZ.frozen 0
            have zf1 := hZ.frozen 1
            have zf2 := hZ.frozen 2
            have zf3 := hZ.frozen 3
            have zf4 := hZ.frozen 4
            have zf5 := hZ.frozen 5
            have lZ := hZ.lt
            have hBk := hS2.B
            simp only [List.getElem?_toArray, List.getElem?_cons_zero, List.getElem?_cons_succ] at z0 z1 z2 z3 z4 z5
            go_wp2_with fail
            refine bodyPost_ret (v := .tuple #[.agg #[.int .i64 0, .int .i64 0, .int .i64 0, .int .i64 0, .int .i64 0, .int .i64 0], .bool false]) (by simp [results, Tryd.results45, go_sem, z0, z1, z2, z3, z4, z5, World.cell?_setCell_same, World.cell?_setCell_other]; try rfl) rfl ⟨⟨0, 0, 0, 0, 0, 0⟩, false, rfl, ?_, Or.inr (And.intro rfl ?_)⟩
            · exact (by repeat (first | (with_reducible exact Below.refl _ _) | (with_reducible assumption) | (with_reducible refine Below.drew ?_) | (with_reducible refine below_drewN ?_ _) | (with_reducible refine Below.alloc ?_ (by (try simp only [World.size_alloc, World.size_setCell, World.size_drew, World.heap_drewN]); (first | done | omega | ((try simp only [World.size_alloc, World.size_setCell, World.size_drew, World.heap_drewN] at *); omega))) _) | (with_reducible refine Below.setCell ?_ (by (try simp only [World.size_alloc, World.size_setCell, World.size_drew, World.heap_drewN]); (first | done | omega | ((try simp only [World.size_alloc, World.size_setCell, World.size_drew, World.heap_drewN] at *); omega))) _) | (with_reducible refine Below.trans ?_ (Below.mono (by assumption) (by (try simp only [World.size_alloc, World.size_setCell, World.size_drew, World.heap_drewN]); (first | done | omega | ((try simp only [World.size_alloc, World.size_setCell, World.size_drew, World.heap_drewN] at *); omega)))))))
            intro m hm e
            have hw1 := (Hps.out ▸ HRd.out : Rd (k : Int) p0 (splB 32 s) j r n).word HF.out Hp.out hm e
            exact Hb.out (by first | rfl | trivial) _ hw1
          | false =>
            obtain ⟨hi2, hr2⟩ := Hg.out rfl
            subst hi2
            have Hr2 := hide hr2
            have hsub : ∀ x ∈ r2, x.length ≤ 4294967280 := by
              intro x hx
              have := splB_len_ 32 s x (by rw [Hps.out, HRd.out.ws, hr2]; simp [hx])
              omega
            have Hsub := hide hsub
            clear hr2 hsub Hg Hb
            have HTk := hide hS2.take
            go_upto_region 12 with fail
            refine Calls.mono HTk.out ?_
            rintro e w5 ⟨h5, hk5⟩
            obtain ⟨sx, A5, c5, r5, is5, rfl, hS5, hD⟩ : ∃ sx A5 c5 r5 is5, e = .returned (strB sx) ∧ NSt w.heap.size gw (gw + 1) (gw + 1 + 1) q (w.heap.size + 1) (k : Int) w w5 A5 c5 r5 is5 n ∧ ((r2 = [] ∧ sx = []) ∨ (r2 = sx :: r5 ∧ is5 = is2)) := by
              rcases h5 with ⟨h1, h2, h3⟩ | ⟨x, r', A', c', h1, h2, h3⟩
              · exact ⟨[], _, _, _, _, h2, h3, .inl ⟨h1, rfl⟩⟩
              · exact ⟨x, _, _, _, _, h2, h3, .inr ⟨h1, rfl⟩⟩
            have hX5 := hk5 _ _ _ hX2 (by decide) (by decide)
            have hsx : sx.length ≤ 4294967280 := by
              rcases hD with ⟨_, h⟩ | ⟨h, _⟩
              · rw [h]; simp
              · exact Hsub.out sx (by rw [h]; simp)
            have HD := hide hD
            have HA := hide (Atoi_b sx hsx w5 (hT.below hS5.B))
            clear hS2 hX2 h5 hk5 hD HTk
            go_wp2_with fail
            refine Calls.mono HA.out ?_
            rintro e w6 ⟨v, er, rfl, hb6, hA⟩
            have hS6 := hS5.below hb6
            have hX6 := hX5.below hb6 hX5.lt
            clear HA hS5 hX5 hb6
            have hbad : (∀ z, i64ok z → sx ≠ itoa z) → ∀ m, Shaped m → s ≠ nodeL m := by
              intro hno m hm e
              have hw1 := (Hps.out ▸ HRd.out : Rd (k : Int) p0 (splB 32 s) j r n).word HF.out Hp.out hm e
              rw [Hr2.out] at hw1
              have hw2 := List.append_cancel_left hw1
              rcases HD.out with ⟨h1, _⟩ | ⟨h1, _⟩
              · rw [h1] at hw2; cases hw2
              · rw [h1] at hw2
                injection hw2 with hw2 _
                exact hno _ (hm.fit f (by have := hw.2.2; exact this)) hw2
            have Hbad := hide hbad
            clear hbad
            rcases hA with ⟨rfl, hv, hvn⟩ | ⟨⟨t, q', rfl⟩, hvn⟩
            · have HI := hide (Itoa_b v hv w6 (hT.below hS6.B))
              have Hvn := hide hvn
              clear hvn
              go_wp2_with fail
              refine Calls.mono HI.out ?_
              rintro e w7 ⟨rfl, hb7⟩
              have hS7 := hS6.below hb7
              have hX7 := hX6.below hb7 hX6.lt
              clear HI hS6 hX6 hb7
              by_cases heq : itoa v = sx
              · rw [heq]
                have x1 := hX7.cell 1
                simp only [List.getElem?_toArray, List.getElem?_cons_zero, List.getElem?_cons_succ] at x1
                have nf := hS7.N.frozen f
                obtain ⟨y, hy⟩ : ∃ y, w7.cell? ⟨gw + 1 + 1, f, none⟩ = some y := by
                  have h6 : f < 6 := hw.2.2
                  exact ⟨_, (hS7.N.cell f).trans (by rw [List.getElem?_toArray]; exact List.getElem?_eq_getElem (by simpa using h6))⟩
                obtain ⟨hr2, hi5⟩ : r2 = sx :: r5 ∧ is5 = is2 := by
                  rcases HD.out with ⟨_, h1⟩ | h1
                  · exact absurd (heq.trans h1) (itoa_ne v)
                  · exact h1
                have hSp := hide (hS7.put v hw.2.1 hw.2.2)
                have hRn := hide (HRd.out.next Hp.out hv (r3 := r5) (by rw [Hr2.out, hr2, heq]))
                subst hi5
                clear hr2 heq
                go_wp2_with fail
                go_roundg (pn - (j + 1))
                case measure => have := Hgk.out; omega
                case rel => exact ⟨j + 1, A5, c5, r5, _, by omega, by go_num, rfl, hSp.out, hRn.out⟩
              · have hne : (itoa v == sx) = false := by rw [beq_eq_false_iff_ne]; exact heq
                have Heq := hide heq
                clear heq
                generalize hiv : itoa v = iv at *
                have Hiv := hide hiv
                clear hiv
                have hZ := hS7.Z
                have z0 := hZ.cell 0
                have z1 := hZ.cell 1
                have z2 := hZ.cell 2
                have z3 := hZ.cell 3
                have z4 := hZ.cell 4
                have z5 := hZ.cell 5
                have zf := hZ.frozen 0
                have zf1 := hZ.frozen 1
                have zf2 := hZ.frozen 2
                have zf3 := hZ.frozen 3
                have zf4 := hZ.frozen 4
                have zf5 := hZ.frozen 5
                have lZ := hZ.lt
                have hBk := hS7.B
                simp only [List.getElem?_toArray, List.getElem?_cons_zero, List.getElem?_cons_succ] at z0 z1 z2 z3 z4 z5
                go_wp2_with fail
                refine bodyPost_ret (v := .tuple #[.agg #[.int .i64 0, .int .i64 0, .int .i64 0, .int .i64 0, .int .i64 0, .int .i64 0], .bool false]) (by simp [results, Tryd.results45, go_sem, z0, z1, z2, z3, z4, z5, World.cell?_setCell_same, World.cell?_setCell_other]; try rfl) rfl ⟨⟨0, 0, 0, 0, 0, 0⟩, false, rfl, ?_, Or.inr (And.intro rfl ?_)⟩
                · exact (by repeat (first | (with_reducible exact Below.refl _ _) | (with_reducible assumption) | (with_reducible refine Below.drew ?_) | (with_reducible refine below_drewN ?_ _) | (with_reducible refine Below.alloc ?_ (by (try simp only [World.size_alloc, World.size_setCell, World.size_drew, World.heap_drewN]); (first | done | omega | ((try simp only [World.size_alloc, World.size_setCell, World.size_drew, World.heap_drewN] at *); omega))) _) | (with_reducible refine Below.setCell ?_ (by (try simp only [World.size_alloc, World.size_setCell, World.size_drew, World.heap_drewN]); (first | done | omega | ((try simp only [World.size_alloc, World.size_setCell, World.size_drew, World.heap_drewN] at *); omega))) _) | (with_reducible refine Below.trans ?_ (Below.mono (by assumption) (by (try simp only [World.size_alloc, World.size_setCell, World.size_drew, World.heap_drewN]); (first | done | omega | ((try simp only [World.size_alloc, World.size_setCell, World.size_drew, World.heap_drewN] at *); omega)))))))
                intro m hm e
                refine Hbad.out (fun z hz ez => ?_) m hm e
                apply Heq.out
                rw [← Hiv.out, Hvn.out z hz ez, ← ez]
            · have Hvn := hide hvn
              clear hvn
              have hZ := hS6.Z
              have z0 := hZ.cell 0
              have z1 := hZ.cell 1
              have z2 := hZ.cell 2
              have z3 := hZ.cell 3
              have z4 := hZ.cell 4
              have z5 := hZ.cell 5
              have zf := hZ.frozen 0
              have zf1 := hZ.frozen 1
              have zf2 := hZ.frozen 2
              have zf3 := hZ.frozen 3
              have zf4 := hZ.frozen 4
              have zf5 := hZ.frozen 5
              have lZ := hZ.lt
              have hBk := hS6.B
              simp only [List.getElem?_toArray, List.getElem?_cons_zero, List.getElem?_cons_succ] at z0 z1 z2 z3 z4 z5
              go_wp2_with fail
              refine bodyPost_ret (v := .tuple #[.agg #[.int .i64 0, .int .i64 0, .int .i64 0, .int .i64 0, .int .i64 0, .int .i64 0], .bool false]) (by simp [results, Tryd.results45, go_sem, z0, z1, z2, z3, z4, z5, World.cell?_setCell_same, World.cell?_setCell_other]; try rfl) rfl ⟨⟨0, 0, 0, 0, 0, 0⟩, false, rfl, ?_, Or.inr (And.intro rfl ?_)⟩
              · exact (by repeat (first | (with_reducible exact Below.refl _ _) | (with_reducible assumption) | (with_reducible refine Below.drew ?_) | (with_reducible refine below_drewN ?_ _) | (with_reducible refine Below.alloc ?_ (by (try simp only [World.size_alloc, World.size_setCell, World.size_drew, World.heap_drewN]); (first | done | omega | ((try simp only [World.size_alloc, World.size_setCell, World.size_drew, World.heap_drewN] at *); omega))) _) | (with_reducible refine Below.setCell ?_ (by (try simp only [World.size_alloc, World.size_setCell, World.size_drew, World.heap_drewN]); (first | done | omega | ((try simp only [World.size_alloc, World.size_setCell, World.size_drew, World.heap_drewN] at *); omega))) _) | (with_reducible refine Below.trans ?_ (Below.mono (by assumption) (by (try simp only [World.size_alloc, World.size_setCell, World.size_drew, World.heap_drewN]); (first | done | omega | ((try simp only [World.size_alloc, World.size_setCell, World.size_drew, World.heap_drewN] at *); omega)))))))
              intro m hm e
              exact Hbad.out Hvn.out m hm e
      · obtain rfl : j = pn := by omega
        have hZ := hS.Z
        have z0 := hZ.cell 0
        have z1 := hZ.cell 1
        have z2 := hZ.cell 2
        have z3 := hZ.cell 3
        have z4 := hZ.cell 4
        have z5 := hZ.cell 5
        have zf := hZ.frozen 0
        have zf1 := hZ.frozen 1
        have zf2 := hZ.frozen 2
        have zf3 := hZ.frozen 3
        have zf4 := hZ.frozen 4
        have zf5 := hZ.frozen 5
        have lZ := hZ.lt
        have hBk := hS.B
        have n0 := hS.N.cell 0
        have n1 := hS.N.cell 1
        have n2 := hS.N.cell 2
        have n3 := hS.N.cell 3
        have n4 := hS.N.cell 4
        have n5 := hS.N.cell 5
        have i0 := hS.I.cell 0
        have p1 := hS.P.cell 0
        simp only [List.getElem?_toArray, List.getElem?_cons_zero, List.getElem?_cons_succ] at z0 z1 z2 z3 z4 z5 n0 n1 n2 n3 n4 n5 i0 p1
        clear hS hZ
        have hRd := hide (Hps.out ▸ HRd.out : Rd (k : Int) p0 (splB 32 s) j r n)
        cases is0 with
        | true =>
          cases r with
          | nil =>
            have hdn := hide ((by rw [Hpn.out]; exact hRd.out : Rd (k : Int) p0 (splB 32 s) (partsL (k : Int)).length [] n).done HF.out)
            go_upto_region 17 with fail
            go_region
            all_goals (go_wp2_with fail)
            all_goals refine bodyPost_ret (v := .tuple #[.agg #[.int .i64 n.op, .int .i64 n.d, .int .i64 n.a, .int .i64 n.b, .int .i64 n.t, .int .i64 n.e], .bool true]) (by simp [results, Tryd.results45, go_sem, z0, z1, z2, z3, z4, z5, World.cell?_setCell_same, World.cell?_setCell_other]; try rfl) rfl ⟨n, true, rfl, ?_, Or.inl (And.intro rfl hdn.out)⟩
            · exact (by repeat (first | (with_reducible exact Below.refl _ _) | (with_reducible assumption) | (with_reducible refine Below.drew ?_) | (with_reducible refine below_drewN ?_ _) | (with_reducible refine Below.alloc ?_ (by (try simp only [World.size_alloc, World.size_setCell, World.size_drew, World.heap_drewN]); (first | done | omega | ((try simp only [World.size_alloc, World.size_setCell, World.size_drew, World.heap_drewN] at *); omega))) _) | (with_reducible refine Below.setCell ?_ (by (try simp only [World.size_alloc, World.size_setCell, World.size_drew, World.heap_drewN]); (first | done | omega | ((try simp only [World.size_alloc, World.size_setCell, World.size_drew, World.heap_drewN] at *); omega))) _) | (with_reducible refine Below.trans ?_ (Below.mono (by assumption) (by (try simp only [World.size_alloc, World.size_setCell, World.size_drew, World.heap_drewN]); (first | done | omega | ((try simp only [World.size_alloc, World.size_setCell, World.size_drew, World.heap_drewN] at *); omega)))))))
          | cons x r' =>
            rw [List.length_cons] at *
            have l9 : (((r'.length + 1 : Nat) : Int) == 0) = false := by rw [beq_eq_false_iff_ne]; omega
            have hdn := hide (fun m (hm : Shaped m) (e : s = nodeL m) => (hRd.out.left HF.out hm e).2.2)
            go_upto_region 17 with fail
            go_region
            all_goals (go_wp2_with fail)
            all_goals refine bodyPost_ret (v := .tuple #[.agg #[.int .i64 n.op, .int .i64 n.d, .int .i64 n.a, .int .i64 n.b, .int .i64 n.t, .int .i64 n.e], .bool false]) (by simp [results, Tryd.results45, go_sem, z0, z1, z2, z3, z4, z5, World.cell?_setCell_same, World.cell?_setCell_other]; try first | rfl | omega) rfl ⟨n, false, rfl, ?_, Or.inr (And.intro rfl ?_)⟩
            · exact (by repeat (first | (with_reducible exact Below.refl _ _) | (with_reducible assumption) | (with_reducible refine Below.drew ?_) | (with_reducible refine below_drewN ?_ _) | (with_reducible refine Below.alloc ?_ (by (try simp only [World.size_alloc, World.size_setCell, World.size_drew, World.heap_drewN]); (first | done | omega | ((try simp only [World.size_alloc, World.size_setCell, World.size_drew, World.heap_drewN] at *); omega))) _) | (with_reducible refine Below.setCell ?_ (by (try simp only [World.size_alloc, World.size_setCell, World.size_drew, World.heap_drewN]); (first | done | omega | ((try simp only [World.size_alloc, World.size_setCell, World.size_drew, World.heap_drewN] at *); omega))) _) | (with_reducible refine Below.trans ?_ (Below.mono (by assumption) (by (try simp only [World.size_alloc, World.size_setCell, World.size_drew, World.heap_drewN]); (first | done | omega | ((try simp only [World.size_alloc, World.size_setCell, World.size_drew, World.heap_drewN] at *); omega)))))))
            · intro m hm e
              have h9 := hdn.out m hm e
              rw [List.drop_of_length_le (by have := Hpn.out; omega)] at h9
              cases h9
        | false =>
          have hdn := hide (fun m (hm : Shaped m) (e : s = nodeL m) => (hRd.out.left HF.out hm e).1)
          go_upto_region 17 with fail
          go_region
          all_goals (go_wp2_with fail)
          all_goals refine bodyPost_ret (v := .tuple #[.agg #[.int .i64 n.op, .int .i64 n.d, .int .i64 n.a, .int .i64 n.b, .int .i64 n.t, .int .i64 n.e], .bool false]) (by simp [results, Tryd.results45, go_sem, z0, z1, z2, z3, z4, z5, World.cell?_setCell_same, World.cell?_setCell_other]; try first | rfl | omega) rfl ⟨n, false, rfl, ?_, Or.inr (And.intro rfl ?_)⟩
          · exact (by repeat (first | (with_reducible exact Below.refl _ _) | (with_reducible assumption) | (with_reducible refine Below.drew ?_) | (with_reducible refine below_drewN ?_ _) | (with_reducible refine Below.alloc ?_ (by (try simp only [World.size_alloc, World.size_setCell, World.size_drew, World.heap_drewN]); (first | done | omega | ((try simp only [World.size_alloc, World.size_setCell, World.size_drew, World.heap_drewN] at *); omega))) _) | (with_reducible refine Below.setCell ?_ (by (try simp only [World.size_alloc, World.size_setCell, World.size_drew, World.heap_drewN]); (first | done | omega | ((try simp only [World.size_alloc, World.size_setCell, World.size_drew, World.heap_drewN] at *); omega))) _) | (with_reducible refine Below.trans ?_ (Below.mono (by assumption) (by (try simp only [World.size_alloc, World.size_setCell, World.size_drew, World.heap_drewN]); (first | done | omega | ((try simp only [World.size_alloc, World.size_setCell, World.size_drew, World.heap_drewN] at *); omega)))))))
          · intro m hm e
            have h9 := hdn.out m hm e
            cases h9
end Go.Proofs.YtmghkonmfbpjcabDoor
