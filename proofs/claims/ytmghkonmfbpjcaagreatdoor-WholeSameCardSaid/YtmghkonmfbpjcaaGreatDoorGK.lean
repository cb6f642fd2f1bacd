/- TxL TxQ TxJ TxS TxY WpO TxG TxF TxZ RunJ RunB. -/
import Derived.Test.YtmghkonmfbpjcaaGreatDoorGJ
import Derived.Test.YtmghkonmfbpjcaaGreatDoorGA
import Derived.Deep.RegionHeld3
import Derived.Deep.MidRow
import Derived.BigQuiet
import Derived.Test.YtmghkonmfbpjcaaGreatDoorGB
import Derived.Deep.DeepCutAuto
import Derived.Deep.RegionWith
import Derived.RegionTactic
import Derived.Test.YtmghkonmfbpjcaaGreatDoorGD
import Derived.Test.YtmghkonmfbpjcaaGreatDoorGI
import Derived.Test.YtmghkonmfbpjcaaGreatDoorCheckP
import Derived.Test.YtmghkonmfbpjcaaGreatDoorGF
import Derived.Test.YtmghkonmfbpjcaaGreatDoorRunI
import Derived.Test.YtmghkonmfbpjcaaGreatDoorGM
set_option linter.unusedVariables false
set_option linter.unusedSimpArgs false
namespace Go.Proofs.YtmghkonmfbpjcaaGreatDoor
section
open Go.Lib
theorem parts_nodup (o : Int) : ((partsL o).map Prod.snd).Nodup := by
  unfold partsL
  repeat' split
  all_goals simp
structure RdT (o : Int) (p0 : List UInt8) (ps : List (List UInt8)) (j : Nat) (r : List (List UInt8)) (n : Nd) : Prop where
  op : n.op = o
  ws : ps = p0 :: (((partsL o).take j).flatMap (partW n) ++ r)
  rest : ∀ i, 1 ≤ i → i < 6 → i ∉ ((partsL o).take j).map Prod.snd → n.fld i = 0
  fit : ∀ i, i < 6 → i64ok (n.fld i)
def Fst (p0 : List UInt8) (o : Int) (is : Bool) : Prop := (0 ≤ o ∧ o ≤ 12) ∧ ((is = true ∧ p0 = opW o) ∨ (is = false ∧ ∀ m : Int, 0 ≤ m → m ≤ 12 → opW m ≠ p0))
theorem partW_len (n m : Nd) (p : List UInt8 × Nat) : (partW n p).length = (partW m p).length := by unfold partW; simp
theorem flatW_len (n m : Nd) : ∀ l : List (List UInt8 × Nat), (l.flatMap (partW n)).length = (l.flatMap (partW m)).length
  | [] => rfl
  | p :: l => by rw [List.flatMap_cons, List.flatMap_cons, List.length_append, List.length_append, partW_len n m p, flatW_len n m l]
theorem RdT.left {o : Int} {p0 : List UInt8} {s : List UInt8} {j : Nat} {r : List (List UInt8)} {n m : Nd} {is : Bool} (h : RdT o p0 (splB 32 s) j r n) (hf : Fst p0 o is) (hm : Shaped m) (hs : s = nodeL m) :
    is = true ∧ o = m.op ∧ r = ((partsL o).drop j).flatMap (partW m) := by
  have h1 : splB 32 s = wordsL m := by rw [hs]; exact splB_joinB (by simp [wordsL]) fun x hx => (words_clean hm.op x hx).1
  have h2 := h.ws
  rw [h1] at h2
  unfold wordsL at h2
  injection h2 with h3 h4
  obtain ⟨ho, ⟨hi, hp⟩ | ⟨hi, hp⟩⟩ := hf
  · have e : o = m.op := opW_inj ho hm.op (hp ▸ h3.symm)
    refine ⟨hi, e, ?_⟩
    rw [← e] at h4
    have h5 : (partsL o).flatMap (partW m) = ((partsL o).take j).flatMap (partW m) ++ ((partsL o).drop j).flatMap (partW m) := by rw [← List.flatMap_append, List.take_append_drop]
    rw [h5] at h4
    exact (List.append_inj h4 (flatW_len m n _)).2.symm
  · exact absurd h3 (hp m.op hm.op.1 hm.op.2)
theorem RdT.word {o : Int} {p0 : List UInt8} {s : List UInt8} {j : Nat} {r : List (List UInt8)} {n m : Nd} {is : Bool} {p : List UInt8 × Nat} (h : RdT o p0 (splB 32 s) j r n) (hf : Fst p0 o is) (hp : (partsL o)[j]? = some p) (hm : Shaped m) (hs : s = nodeL m) :
    r = (if p.1 = [] then [] else [p.1]) ++ itoa (m.fld p.2) :: ((partsL o).drop (j + 1)).flatMap (partW m) := by
  obtain ⟨hlt, he⟩ := List.getElem?_eq_some_iff.1 hp
  rw [(h.left hf hm hs).2.2, List.drop_eq_getElem_cons hlt, he, List.flatMap_cons]
  unfold partW
  simp
theorem RdT.next {o : Int} {p0 : List UInt8} {ps : List (List UInt8)} {j : Nat} {r r3 : List (List UInt8)} {n : Nd} {wd : List UInt8} {f : Nat} {k : Int} (h : RdT o p0 ps j r n) (hp : (partsL o)[j]? = some (wd, f)) (hk : i64ok k)
    (hr : r = (if wd = [] then [] else [wd]) ++ itoa k :: r3) : RdT o p0 ps (j + 1) r3 (n.put f k) := by
  obtain ⟨hlt, he⟩ := List.getElem?_eq_some_iff.1 hp
  have hw := partsL_words o _ (List.mem_of_getElem? hp)
  have ht : (partsL o).take (j + 1) = (partsL o).take j ++ [(wd, f)] := by rw [List.take_add_one, hp]; rfl
  have hnd := parts_nodup o
  have hfn : f ∉ ((partsL o).take j).map Prod.snd := by
    intro hm
    rw [← List.take_append_drop j (partsL o), List.drop_eq_getElem_cons hlt, he, List.map_append, List.nodup_append] at hnd
    exact hnd.2.2 f hm f (by simp) rfl
  have hput : ∀ i, i < 6 → (n.put f k).fld i = if i = f then k else n.fld i := fun i hi => n.fld_put f k hi hw.2.2
  refine ⟨?_, ?_, ?_, ?_⟩
  · have := hput 0 (by omega)
    rw [if_neg (by have := hw.2.1; simp only at this; omega)] at this
    exact this.trans h.op
  · rw [h.ws, hr, ht, List.flatMap_append]
    have e1 : ((partsL o).take j).flatMap (partW (n.put f k)) = ((partsL o).take j).flatMap (partW n) := by
      rw [List.flatMap_def, List.flatMap_def]
      congr 1
      refine List.map_congr_left fun p hp' => ?_
      have h6 := (partsL_words o p (List.mem_of_mem_take hp')).2.2
      unfold partW
      rw [hput _ h6, if_neg (fun e : p.2 = f => hfn (by rw [← e]; exact List.mem_map_of_mem hp'))]
    rw [e1]
    have e2 : ([(wd, f)] : List (List UInt8 × Nat)).flatMap (partW (n.put f k)) = (if wd = [] then [] else [wd]) ++ [itoa k] := by
      rw [List.flatMap_cons, List.flatMap_nil, List.append_nil]
      unfold partW
      rw [hput _ hw.2.2, if_pos rfl]
    rw [e2]
    simp
  · intro i h1 h6 hi
    rw [ht, List.map_append, List.mem_append, not_or] at hi
    rw [hput i h6, if_neg (fun e => hi.2 (by simp [e]))]
    exact h.rest i h1 h6 hi.1
  · intro i h6
    rw [hput i h6]
    split
    · exact hk
    · exact h.fit i h6
theorem RdT.done {o : Int} {p0 : List UInt8} {s : List UInt8} {n : Nd} (h : RdT o p0 (splB 32 s) (partsL o).length [] n) (hf : Fst p0 o true) : Shaped n ∧ s = nodeL n := by
  have hp : p0 = opW o := by
    rcases hf.2 with ⟨_, h⟩ | ⟨h, _⟩
    · exact h
    · cases h
  refine ⟨⟨by rw [h.op]; exact hf.1, fun i h1 h6 hi => h.rest i h1 h6 (by rw [List.take_length, ← h.op]; exact hi), h.fit⟩, ?_⟩
  have hw := h.ws
  rw [List.take_length, List.append_nil, hp, ← h.op] at hw
  have e : joinB 32 (splB 32 s) = s := by
    unfold splB
    rw [joinB_cutL]
    rfl
  rw [← e, hw]
  rfl
end
section
open Go.RowKit
set_option maxHeartbeats 16000000
open Go.Lib Go.Maps
structure NSt (g0 gw gi gn q base : Nat) (o : Int) (w0 W : World) (A : Option Addr) (c : Nat) (r : List (List UInt8)) (is : Bool) (n : Nd) : Prop where
  Z : Blk W g0 44 #[.int .i64 0, .int .i64 0, .int .i64 0, .int .i64 0, .int .i64 0, .int .i64 0]
  P : Blk W gw 163 #[.slice A r.length c]
  I : Blk W gi 4 #[.bool is]
  N : Blk W gn 44 #[.int .i64 n.op, .int .i64 n.d, .int .i64 n.a, .int .i64 n.b, .int .i64 n.t, .int .i64 n.e]
  Q : Blk W q 114 (partCells gn o).toArray
  R : Row W base 9 (.slice A r.length c) (r.map strB)
  B : Below w0.heap.size w0 W
  l : g0 < gn ∧ w0.heap.size ≤ g0 ∧ w0.heap.size ≤ gw ∧ w0.heap.size ≤ gi
section
variable {g0 gw gi gn q base : Nat} {o : Int} {w0 W W' : World} {A : Option Addr} {c : Nat} {r : List (List UInt8)} {is : Bool} {n : Nd}
theorem NSt.below (h : NSt g0 gw gi gn q base o w0 W A c r is n) (hb : Below W.heap.size W W') : NSt g0 gw gi gn q base o w0 W' A c r is n :=
  ⟨h.Z.below hb h.Z.lt, h.P.below hb h.P.lt, h.I.below hb h.I.lt, h.N.below hb h.N.lt, h.Q.below hb h.Q.lt, h.R.below' hb, h.B.trans (hb.mono h.B.size), h.l⟩
theorem NSt.pop (h : NSt g0 gw gi gn q base o w0 W A c r is n) {A' : Option Addr} {c' : Nat} {r' : List (List UInt8)} (hR : Row W base 9 (.slice A' r'.length c') (r'.map strB)) :
    NSt g0 gw gi gn q base o w0 (W.setCell ⟨gw, 0, none⟩ (.slice A' r'.length c')) A' c' r' is n :=
  ⟨h.Z.far (h.Z.ne_ h.P (by decide)) _, h.P.set_ 0 _, h.I.far (h.I.ne_ h.P (by decide)) _, h.N.far (h.N.ne_ h.P (by decide)) _, h.Q.far (h.Q.ne_ h.P (by decide)) _, hR.far (hR.ne_blk h.P (by decide)) _, h.B.setCell h.l.2.2.1 _, h.l⟩
theorem NSt.no (h : NSt g0 gw gi gn q base o w0 W A c r is n) : NSt g0 gw gi gn q base o w0 (W.setCell ⟨gi, 0, none⟩ (.bool false)) A c r false n :=
  ⟨h.Z.far (h.Z.ne_ h.I (by decide)) _, h.P.far (h.P.ne_ h.I (by decide)) _, h.I.set_ 0 _, h.N.far (h.N.ne_ h.I (by decide)) _, h.Q.far (h.Q.ne_ h.I (by decide)) _, h.R.far (h.R.ne_blk h.I (by decide)) _, h.B.setCell h.l.2.2.2 _, h.l⟩
theorem NSt.put (h : NSt g0 gw gi gn q base o w0 W A c r is n) {f : Nat} (k : Int) (h1 : 1 ≤ f) (h6 : f < 6) : NSt g0 gw gi gn q base o w0 (W.setCell ⟨gn, f, none⟩ (.int .i64 k)) A c r is (n.put f k) := by
  refine ⟨h.Z.far (by have := h.l.1; simp only; omega) _, h.P.far (h.P.ne_ h.N (by decide)) _, h.I.far (h.I.ne_ h.N (by decide)) _, ?_, h.Q.far (h.Q.ne_ h.N (by decide)) _, h.R.far (h.R.ne_blk h.N (by decide)) _, h.B.setCell (by have := h.l; simp only; omega) _, h.l⟩
  have hN := h.N.set_ f (.int .i64 k)
  rcases f with _ | _ | _ | _ | _ | _ | f
  · omega
  all_goals first | exact hN | omega
theorem NSt.take (h : NSt g0 gw gi gn q base o w0 W A c r is n) : Calls Tryz.prog 115 #[.pointer (some ⟨gw, 0, none⟩), .pointer (some ⟨gi, 0, none⟩)] W fun e W' =>
    ((r = [] ∧ e = .returned (strB []) ∧ NSt g0 gw gi gn q base o w0 W' A c r false n) ∨ ∃ x r' A' c', r = x :: r' ∧ e = .returned (strB x) ∧ NSt g0 gw gi gn q base o w0 W' A' c' r' is n) ∧ ∀ g t cs, Blk W g t cs → t ≠ 163 → t ≠ 4 → Blk W' g t cs := by
  refine (nodeTake_any gw gi base A c r is W h.P h.I h.R).mono ?_
  rintro e W' (⟨rfl, rfl, rfl⟩ | ⟨x, r', A', c', rfl, rfl, rfl, hR⟩)
  · exact ⟨.inl ⟨rfl, rfl, h.no⟩, fun g t cs hb h1 h2 => hb.far (hb.ne_ h.I h2) _⟩
  · exact ⟨.inr ⟨x, r', A', c', rfl, rfl, h.pop hR⟩, fun g t cs hb h1 h2 => hb.far (hb.ne_ h.P h1) _⟩
end
theorem splB_ne_ (c : UInt8) (s : List UInt8) : splB c s ≠ [] := cutL_ne c s []
theorem mem_joinB_len (c : UInt8) : ∀ (l : List (List UInt8)), ∀ p ∈ l, p.length ≤ (joinB c l).length
  | [], p, h => by cases h
  | [x], p, h => by
    rw [List.mem_singleton.1 h]; exact Nat.le_refl _
  | x :: y :: r, p, h => by
    show p.length ≤ (x ++ c :: joinB c (y :: r)).length
    rw [List.length_append, List.length_cons]
    rcases List.mem_cons.1 h with e | e
    · rw [e]; omega
    · have := mem_joinB_len c (y :: r) p e
      omega
theorem splB_len_ (c : UInt8) (s : List UInt8) (p : List UInt8) (h : p ∈ splB c s) : p.length ≤ s.length := by
  have := mem_joinB_len c _ p h
  unfold splB at this
  rw [joinB_cutL] at this
  simpa using this
theorem fst_of {p0 : List UInt8} {c : Int} (h : (opsD 13).atKey (.string p0) (.lit (.int .i64 0)) = .lit (.int .i64 c)) : Fst p0 c (Maps.has (opsD 13) (.string p0)) := by
  cases hb : Maps.has (opsD 13) (.string p0) with
  | true =>
    obtain ⟨j, hj, hp⟩ := (opsD_has 13 p0 (Nat.le_refl _)).1 hb
    rw [← hp, opsD_at 13 j _ (Nat.le_refl _) hj] at h
    injection h with h
    injection h with _ h
    subst h
    exact ⟨by omega, .inl ⟨rfl, hp.symm⟩⟩
  | false =>
    rw [opsD_no 13 p0 _ hb] at h
    injection h with h
    injection h with _ h
    subst h
    refine ⟨by omega, .inr ⟨rfl, fun m h0 h1 e => ?_⟩⟩
    have := (opsD_has 13 p0 (Nat.le_refl _)).2 ⟨m.toNat, by omega, by rw [← e]; congr 1; omega⟩
    rw [this] at hb
    cases hb
def NodePost (s : List UInt8) (w : World) (e : Ending) (w' : World) : Prop :=
  ∃ (n : Nd) (ok : Bool), e = .returned (.tuple #[.agg #[.int .i64 n.op, .int .i64 n.d, .int .i64 n.a, .int .i64 n.b, .int .i64 n.t, .int .i64 n.e], .bool ok]) ∧ Below w.heap.size w w' ∧ ((ok = true ∧ Shaped n ∧ s = nodeL n) ∨ (ok = false ∧ ∀ m, Shaped m → s ≠ nodeL m))
set_option maxRecDepth 100000 in
theorem node_any (s : List UInt8) (hs : s.length ≤ 4294967280) (gm : Nat) (w : World) (hT : Tv w) (hM : OpsM gm 13 w) : Calls Tryz.prog 68 #[strB s, .map (some gm)] w (NodePost s w) := by
  have HS := fun W h => hide (Split_b s hs W h)
  go_enter Tryz.func68, Tryz.ntmps68
  go_upto_region 2 with fail
  have hZ := Blk.new w 44 #[.int .i64 0, .int .i64 0, .int .i64 0, .int .i64 0, .int .i64 0, .int .i64 0]
  have hB0 : Below w.heap.size w (w.alloc (.cells #[.int .i64 0, .int .i64 0, .int .i64 0, .int .i64 0, .int .i64 0, .int .i64 0] 44)) := (Below.refl _ _).alloc (Nat.le_refl _) _
  have hM0 := hM.alloc (.cells #[.int .i64 0, .int .i64 0, .int .i64 0, .int .i64 0, .int .i64 0, .int .i64 0] 44)
  refine Calls.mono (HS _ (hT.below hB0)).out ?_
  rintro e w1 ⟨v1, rfl, hR1, hb1⟩
  have hZ1 := hZ.below hb1 hZ.lt
  have hM1 := hM0.below hb1
  have hB1 := hB0.trans (hb1.mono hB0.size)
  clear hZ hB0 hM0 hb1 HS
  generalize hps : splB 32 s = ps at *
  obtain ⟨A1, c1, rfl, hc1, hm1⟩ := hR1.shape
  rw [List.length_map] at *
  obtain ⟨p0, r0, rfl⟩ : ∃ x r, ps = x :: r := by
    cases h : ps with
    | nil => rw [h] at hps; exact absurd hps (splB_ne_ 32 s)
    | cons x r => exact ⟨x, r, rfl⟩
  obtain ⟨b0, o0, rfl, hb0, hv0⟩ := hR1.vals (by simp)
  have hv0 : w1.cell? ⟨b0, o0, none⟩ = some (strB p0) := by have := hv0 0 (strB p0) rfl; simpa using this
  have hp0 : p0.length ≤ 4294967280 := by
    have := splB_len_ 32 s p0 (by rw [hps]; simp)
    omega
  have hR1t := hide (Row.tail (x := strB p0) (xs := r0.map strB) hR1)
  have Hps := hide hps
  clear hps hR1
  rw [List.length_cons] at *
  have l0 : (0 : Int) < ((r0.length + 1 : Nat) : Int) := by omega
  go_upto_region 4 with (at_lookup; refine wpList_lookup_own_ok_int _ rfl _ _ 117 rfl 9 3 .i64 lawStr Tryz.underlying117 Tryz.underlying3 (zeroOp _) gm 13 (opsD 13) rfl (hM1.alloc _) (strB p0) (.string p0) rfl (keyStr hp0) ?_; intro c hat hwc)
  have hF := fst_of hat
  generalize Maps.has (opsD 13) (.string p0) = is0 at *
  obtain ⟨k, rfl⟩ : ∃ k : Nat, c = (k : Int) := ⟨c.toNat, by have := hF.1.1; omega⟩
  have hk13 : k < 13 := by have := hF.1.2; omega
  have HF := hide hF
  clear hat hwc hM1 hF
  have hP3 : Blk (((w1.alloc (.cells #[.slice (some ⟨b0, o0, none⟩) (r0.length + 1) c1] 163)).alloc (.cells #[.bool is0] 4)).alloc (.cells #[.int .i64 (k : Int), .int .i64 0, .int .i64 0, .int .i64 0, .int .i64 0, .int .i64 0] 44)) w1.heap.size 163 #[.slice (some ⟨b0, o0, none⟩) (r0.length + 1) c1] := (by repeat (first | ((with_reducible refine Blk.new' ?_); exact (by (try simp only [Sz]); first | done | omega | (try simp only [Sz] at *); omega)) | (with_reducible refine Blk.drew ?_) | (with_reducible refine Blk.drewN ?_ _) | (with_reducible refine Blk.alloc ?_ _) | with_reducible assumption))
  have hI3 : Blk (((w1.alloc (.cells #[.slice (some ⟨b0, o0, none⟩) (r0.length + 1) c1] 163)).alloc (.cells #[.bool is0] 4)).alloc (.cells #[.int .i64 (k : Int), .int .i64 0, .int .i64 0, .int .i64 0, .int .i64 0, .int .i64 0] 44)) (w1.heap.size + 1) 4 #[.bool is0] := (by repeat (first | ((with_reducible refine Blk.new' ?_); exact (by (try simp only [Sz]); first | done | omega | (try simp only [Sz] at *); omega)) | (with_reducible refine Blk.drew ?_) | (with_reducible refine Blk.drewN ?_ _) | (with_reducible refine Blk.alloc ?_ _) | with_reducible assumption))
  have hN3 : Blk (((w1.alloc (.cells #[.slice (some ⟨b0, o0, none⟩) (r0.length + 1) c1] 163)).alloc (.cells #[.bool is0] 4)).alloc (.cells #[.int .i64 (k : Int), .int .i64 0, .int .i64 0, .int .i64 0, .int .i64 0, .int .i64 0] 44)) (w1.heap.size + 1 + 1) 44 #[.int .i64 (k : Int), .int .i64 0, .int .i64 0, .int .i64 0, .int .i64 0, .int .i64 0] := (by repeat (first | ((with_reducible refine Blk.new' ?_); exact (by (try simp only [Sz]); first | done | omega | (try simp only [Sz] at *); omega)) | (with_reducible refine Blk.drew ?_) | (with_reducible refine Blk.drewN ?_ _) | (with_reducible refine Blk.alloc ?_ _) | with_reducible assumption))
  have hZ3 : Blk (((w1.alloc (.cells #[.slice (some ⟨b0, o0, none⟩) (r0.length + 1) c1] 163)).alloc (.cells #[.bool is0] 4)).alloc (.cells #[.int .i64 (k : Int), .int .i64 0, .int .i64 0, .int .i64 0, .int .i64 0, .int .i64 0] 44)) w.heap.size 44 #[.int .i64 0, .int .i64 0, .int .i64 0, .int .i64 0, .int .i64 0, .int .i64 0] := ((hZ1.alloc _).alloc _).alloc _
  have hR3 := hide (((hR1t.out.alloc (.cells #[.slice (some ⟨b0, o0, none⟩) (r0.length + 1) c1] 163)).alloc (.cells #[.bool is0] 4)).alloc (.cells #[.int .i64 (k : Int), .int .i64 0, .int .i64 0, .int .i64 0, .int .i64 0, .int .i64 0] 44))
  have hB3 : Below w.heap.size w (((w1.alloc (.cells #[.slice (some ⟨b0, o0, none⟩) (r0.length + 1) c1] 163)).alloc (.cells #[.bool is0] 4)).alloc (.cells #[.int .i64 (k : Int), .int .i64 0, .int .i64 0, .int .i64 0, .int .i64 0, .int .i64 0] 44)) := ((hB1.alloc hB1.size _).alloc (by have := hB1.size; simp; omega) _).alloc (by have := hB1.size; simp; omega) _
  have hzw : w.heap.size < w1.heap.size := hZ1.lt
  clear hZ1 hR1t hv0 hb0
  generalize (((w1.alloc (.cells #[.slice (some ⟨b0, o0, none⟩) (r0.length + 1) c1] 163)).alloc (.cells #[.bool is0] 4)).alloc (.cells #[.int .i64 (k : Int), .int .i64 0, .int .i64 0, .int .i64 0, .int .i64 0, .int .i64 0] 44)) = w3 at *
  have a0 := hP3.cell 0
  have af := hP3.frozen 0
  simp only [List.getElem?_toArray, List.getElem?_cons_zero] at a0
  have l1 : (1 : Int) ≤ ((r0.length + 1 : Nat) : Int) := by omega
  go_cut [] (fun wx => ∃ A' c', Blk wx w1.heap.size 163 #[.slice A' r0.length c'] ∧ Row wx (w.heap.size + 1) 9 (.slice A' r0.length c') (r0.map strB) ∧ Blk wx (w1.heap.size + 1) 4 #[.bool is0] ∧ Blk wx (w1.heap.size + 1 + 1) 44 #[.int .i64 (k : Int), .int .i64 0, .int .i64 0, .int .i64 0, .int .i64 0, .int .i64 0] ∧ Blk wx w.heap.size 44 #[.int .i64 0, .int .i64 0, .int .i64 0, .int .i64 0, .int .i64 0, .int .i64 0] ∧ Below w.heap.size w wx)
  case first =>
    go_wp2_with fail
    all_goals go_meet
    all_goals refine ⟨_, _, hP3.set_ 0 _, ?_, hI3.far (by simp) _, hN3.far (by simp; omega) _, hZ3.far (by simp; omega) _, hB3.setCell (by simp; omega) _⟩
    all_goals have hT2 := hR3.out
    all_goals clear hR3
    all_goals split at hT2
    all_goals first | exact ((hT2.far (hT2.ne_blk hP3 (by decide)) _).mono (by simp)) | (exfalso; omega) | (subst_vars; exact ((hT2.far (hT2.ne_blk hP3 (by decide)) _).mono (by simp)))
  case rest =>
    obtain ⟨A', c', hP, hR, hI, hN, hZ, hB⟩ := hcut
    clear hP3 hI3 hN3 hZ3 hR3 hB3 a0 af
    generalize w1.heap.size = gw at *
    have HP := hide (parts_any (gw + 1 + 1) k 0 0 0 0 0 wc hN hk13)
    unfold PartsPost at HP
    go_wp2_with fail
    refine Calls.mono HP.out ?_
    rintro e w4 ⟨q, rfl, hq, hQ, hb4⟩
    have hS : NSt w.heap.size gw (gw + 1) (gw + 1 + 1) q (w.heap.size + 1) (k : Int) w w4 A' c' r0 is0 ⟨k, 0, 0, 0, 0, 0⟩ :=
      ⟨hZ.below hb4 hZ.lt, hP.below hb4 hP.lt, hI.below hb4 hI.lt, hN.below hb4 hN.lt, hQ, hR.below' hb4, hB.trans (hb4.mono hB.size), by omega, by omega, by omega, by omega⟩
    have hRd : RdT (k : Int) p0 (p0 :: r0) 0 r0 ⟨k, 0, 0, 0, 0, 0⟩ := by
      refine ⟨rfl, by simp, fun i h1 h6 _ => ?_, fun i h6 => ?_⟩
      · rcases i with _ | _ | _ | _ | _ | _ | i <;> first | rfl | omega
      · have hz : ∀ z : Int, 0 ≤ z → z ≤ 12 → i64ok z := fun z a b => ⟨by omega, by omega⟩
        rcases i with _ | _ | _ | _ | _ | _ | i <;> first | exact hz 0 (by omega) (by omega) | exact hz (k : Int) (by omega) (by omega) | omega
    clear hZ hP hI hN hR hB hb4 hQ HP
    generalize hpn : (partsL (k : Int)).length = pn at *
    have Hpn := hide hpn
    have hp4 : pn ≤ 4 := by rw [← hpn]; exact partsL_len (k : Int)
    clear hpn
    have HRd := hide hRd
    have HS := hide hS
    clear hRd hS
    go_wp2_with fail
    go_loopg [33] (pn) (fun gk i wr => ∃ (j : Nat) (A : Option Addr) (c : Nat) (r : List (List UInt8)) (n : Nd), j ≤ pn ∧ i = .int .i64 j ∧ gk = pn - j ∧ NSt w.heap.size gw (gw + 1) (gw + 1 + 1) q (w.heap.size + 1) (k : Int) w wr A c r is0 n ∧ RdT (k : Int) p0 (p0 :: r0) j r n)
    case atStart => exact ⟨0, A', c', r0, _, by omega, rfl, rfl, HS.out, HRd.out⟩
    case round =>
      obtain ⟨j, A, c, r, n, hj, rfl, hgk, hS, hRd⟩ := hrel
      have Hgk := hide hgk
      have HRd := hide hRd
      clear hgk hRd
      by_cases hlt : j < pn
      · obtain ⟨⟨wd, f⟩, hp⟩ : ∃ p, (partsL (k : Int))[j]? = some p := ⟨_, List.getElem?_eq_getElem (by have := Hpn.out; omega)⟩
        have hw := partsL_words (k : Int) _ (List.mem_of_getElem? hp)
        have pg := pairs_get (fun p : List UInt8 × Nat => strB p.1) (fun p => .pointer (some ⟨gw + 1 + 1, p.2, none⟩)) (partsL (k : Int)) j _ hp
        have cq0 : wr.cell? ⟨q, j * 2, none⟩ = some (strB wd) := (hS.Q.cell (j * 2)).trans (by rw [List.getElem?_toArray]; exact pg.1)
        have cq1 : wr.cell? ⟨q, j * 2 + 1, none⟩ = some (.pointer (some ⟨gw + 1 + 1, f, none⟩)) := (hS.Q.cell (j * 2 + 1)).trans (by rw [List.getElem?_toArray]; exact pg.2)
        have Hp := hide hp
        have k0 : (0 : Int) ≤ (j : Int) := by omega
        have k1 : (j : Int) < (pn : Int) := by omega
        clear hp pg
        go_upto_region 9 with fail
        have hS8 := hS.below ((Below.refl _ _).alloc (Nat.le_refl _) (.cells #[strB wd, .pointer (some ⟨gw + 1 + 1, f, none⟩)] 114))
        have hX8 := Blk.new wr 114 #[strB wd, .pointer (some ⟨gw + 1 + 1, f, none⟩)]
        generalize wr.alloc (.cells #[strB wd, .pointer (some ⟨gw + 1 + 1, f, none⟩)] 114) = w8 at *
        generalize wr.heap.size = gx at *
        clear cq0 cq1 hS
        have x0 := hX8.cell 0
        have x1 := hX8.cell 1
        simp only [Yl] at x0 x1
        go_cut [46] (fun s46 wx => ∃ (bad : Bool) (A2 : Option Addr) (c2 : Nat) (r2 : List (List UInt8)) (is2 : Bool), s46 = .bool bad ∧ NSt w.heap.size gw (gw + 1) (gw + 1 + 1) q (w.heap.size + 1) (k : Int) w wx A2 c2 r2 is2 n ∧ Blk wx gx 114 #[strB wd, .pointer (some ⟨gw + 1 + 1, f, none⟩)] ∧
          (bad = false → is2 = is0 ∧ r = (if wd = [] then [] else [wd]) ++ r2) ∧ (bad = true → ∀ y, r ≠ (if wd = [] then [] else [wd]) ++ y))
        case first =>
          by_cases hwd : wd = []
          · subst hwd
            go_quiet (fail)
            all_goals (go_wp2_with fail)
            all_goals go_meet
            all_goals exact ⟨false, A, c, r, is0, rfl, hS8.below (below_drewN (Below.refl _ _) _), hX8.drewN _, fun _ => ⟨rfl, rfl⟩, fun h => by cases h⟩
          · have he1 : wd.isEmpty = false := by simpa using hwd
            have HX := hide hX8
            have HQ := hide hS8
            have hTk := fun W (hb : Below w8.heap.size w8 W) => hide ((HQ.out.below hb).take)
            cases r with
            | nil =>
              clear hS8 hX8
              go_region_with (go_at_call 115; refine ((hTk _ ((Below.refl _ _).drew)).out).mono ?_; rintro e w9 ⟨⟨_, rfl, hS9⟩ | ⟨x, r', A', c', he, _⟩, hk9⟩; rotate_left; (cases he); have hX9 := hk9 _ _ _ (HX.out.drew) (by decide) (by decide); have x0 := hX9.cell 0; simp only [Yl] at x0; clear hk9)
              all_goals (go_wp2_with fail)
              all_goals go_meet
              all_goals refine ⟨true, A, c, [], false, ?_, hS9, hX9, (fun h => by cases h), fun _ y e => ?_⟩
              all_goals first | rfl | (exfalso; revert e; simp [hwd]; done) | (congr 1; simp [hwd]; try exact fun h => hwd h.symm)
            | cons x r' =>
              clear hS8 hX8
              go_region_with (go_at_call 115; refine ((hTk _ ((Below.refl _ _).drew)).out).mono ?_; rintro e w9 ⟨⟨he, _⟩ | ⟨x1, r1, A9, c9, he, rfl, hS9⟩, hk9⟩; (cases he); have he1 := (List.cons.inj he).1; have he2 := (List.cons.inj he).2; subst he1; subst he2; clear he; have hX9 := hk9 _ _ _ (HX.out.drew) (by decide) (by decide); have x0 := hX9.cell 0; simp only [Yl] at x0; clear hk9)
              all_goals (go_wp2_with fail)
              all_goals go_meet
              all_goals
                by_cases hxw : x = wd
                · refine ⟨false, A9, c9, r', is0, ?_, hS9, hX9, fun _ => ⟨rfl, ?_⟩, fun h => by cases h⟩
                  · subst hxw; first | rfl | (congr 1; simp)
                  · rw [if_neg hwd, hxw]; rfl
                · refine ⟨true, A9, c9, r', is0, ?_, hS9, hX9, (fun h => by cases h), fun _ y e => ?_⟩
                  · first | rfl | (congr 1; simp [hxw])
                  · rw [if_neg hwd] at e
                    exact hxw (List.cons.inj e).1
        case rest =>
          obtain ⟨bad, A2, c2, r2, is2, rfl, hS2, hX2, hg, hb⟩ := hcut
          clear hS8 hX8 x0 x1
          have Hg := hide hg
          have Hb := hide hb
          clear hg hb
          cases bad with
          | true =>
            have hZ := hS2.Z
            have z0 := hZ.cell 0
            have z1 := hZ.cell 1
            have z2 := hZ.cell 2
            have z3 := hZ.cell 3
            have z4 := hZ.cell 4
            have z5 := hZ.cell 5
            have zf := hZ.frozen 0
            have zf1 := hZ.frozen 1
            have zf2 := hZ.frozen 2
            have zf3 := hZ.frozen 3
            have zf4 := hZ.frozen 4
            have zf5 := hZ.frozen 5
            have lZ := hZ.lt
            have hBk := hS2.B
            simp only [Yl] at z0 z1 z2 z3 z4 z5
            go_wp2_with fail
            refine bodyPost_ret (v := .tuple #[.agg #[.int .i64 0, .int .i64 0, .int .i64 0, .int .i64 0, .int .i64 0, .int .i64 0], .bool false]) (by simp [results, Tryz.results68, go_sem, z0, z1, z2, z3, z4, z5, World.cell?_setCell_same, World.cell?_setCell_other]; try rfl) rfl ⟨⟨0, 0, 0, 0, 0, 0⟩, false, rfl, ?_, Or.inr (And.intro rfl ?_)⟩
            · exact (by (with_reducible repeat first | apply Qa | assumption | apply Qb | apply Qc | apply Qd | apply Qe | refine Qf ?_ (by assumption) ?_); all_goals (try simp only [Sz]); first | done | omega | (try simp only [Sz] at *); omega)
            intro m hm e
            have hw1 := (Hps.out ▸ HRd.out : RdT (k : Int) p0 (splB 32 s) j r n).word HF.out Hp.out hm e
            exact Hb.out (by first | rfl | trivial) _ hw1
          | false =>
            obtain ⟨hi2, hr2⟩ := Hg.out rfl
            subst hi2
            have Hr2 := hide hr2
            have hsub : ∀ x ∈ r2, x.length ≤ 4294967280 := by
              intro x hx
              have := splB_len_ 32 s x (by rw [Hps.out, HRd.out.ws, hr2]; simp [hx])
              omega
            have Hsub := hide hsub
            clear hr2 hsub Hg Hb
            have HTk := hide hS2.take
            go_upto_region 12 with fail
            refine Calls.mono HTk.out ?_
            rintro e w5 ⟨h5, hk5⟩
            obtain ⟨sx, A5, c5, r5, is5, rfl, hS5, hD⟩ : ∃ sx A5 c5 r5 is5, e = .returned (strB sx) ∧ NSt w.heap.size gw (gw + 1) (gw + 1 + 1) q (w.heap.size + 1) (k : Int) w w5 A5 c5 r5 is5 n ∧ ((r2 = [] ∧ sx = []) ∨ (r2 = sx :: r5 ∧ is5 = is2)) := by
              rcases h5 with ⟨h1, h2, h3⟩ | ⟨x, r', A', c', h1, h2, h3⟩
              · exact ⟨[], _, _, _, _, h2, h3, .inl ⟨h1, rfl⟩⟩
              · exact ⟨x, _, _, _, _, h2, h3, .inr ⟨h1, rfl⟩⟩
            have hX5 := hk5 _ _ _ hX2 (by decide) (by decide)
            have hsx : sx.length ≤ 4294967280 := by
              rcases hD with ⟨_, h⟩ | ⟨h, _⟩
              · rw [h]; simp
              · exact Hsub.out sx (by rw [h]; simp)
            have HD := hide hD
            have HA := hide (Atoi_b sx hsx w5 (hT.below hS5.B))
            clear hS2 hX2 h5 hk5 hD HTk
            go_wp2_with fail
            refine Calls.mono HA.out ?_
            rintro e w6 ⟨v, er, rfl, hb6, hA⟩
            have hS6 := hS5.below hb6
            have hX6 := hX5.below hb6 hX5.lt
            clear HA hS5 hX5 hb6
            have hbad : (∀ z, i64ok z → sx ≠ itoa z) → ∀ m, Shaped m → s ≠ nodeL m := by
              intro hno m hm e
              have hw1 := (Hps.out ▸ HRd.out : RdT (k : Int) p0 (splB 32 s) j r n).word HF.out Hp.out hm e
              rw [Hr2.out] at hw1
              have hw2 := List.append_cancel_left hw1
              rcases HD.out with ⟨h1, _⟩ | ⟨h1, _⟩
              · rw [h1] at hw2; cases hw2
              · rw [h1] at hw2
                injection hw2 with hw2 _
                exact hno _ (hm.fit f (by have := hw.2.2; exact this)) hw2
            have Hbad := hide hbad
            clear hbad
            rcases hA with ⟨rfl, hv, hvn⟩ | ⟨⟨t, q', rfl⟩, hvn⟩
            · have HI := hide (Itoa_b v hv w6 (hT.below hS6.B))
              have Hvn := hide hvn
              clear hvn
              go_wp2_with fail
              refine Calls.mono HI.out ?_
              rintro e w7 ⟨rfl, hb7⟩
              have hS7 := hS6.below hb7
              have hX7 := hX6.below hb7 hX6.lt
              clear HI hS6 hX6 hb7
              by_cases heq : itoa v = sx
              · rw [heq]
                have x1 := hX7.cell 1
                simp only [Yl] at x1
                have nf := hS7.N.frozen f
                obtain ⟨y, hy⟩ : ∃ y, w7.cell? ⟨gw + 1 + 1, f, none⟩ = some y := by
                  have h6 : f < 6 := hw.2.2
                  exact ⟨_, (hS7.N.cell f).trans (by rw [List.getElem?_toArray]; exact List.getElem?_eq_getElem (by simpa using h6))⟩
                obtain ⟨hr2, hi5⟩ : r2 = sx :: r5 ∧ is5 = is2 := by
                  rcases HD.out with ⟨_, h1⟩ | h1
                  · exact absurd (heq.trans h1) (itoa_ne v)
                  · exact h1
                have hSp := hide (hS7.put v hw.2.1 hw.2.2)
                have hRn := hide (HRd.out.next Hp.out hv (r3 := r5) (by rw [Hr2.out, hr2, heq]))
                subst hi5
                clear hr2 heq
                go_wp2_with fail
                go_roundg (pn - (j + 1))
                case measure => have := Hgk.out; omega
                case rel => exact ⟨j + 1, A5, c5, r5, _, by omega, by go_num, rfl, hSp.out, hRn.out⟩
              · have hne : (itoa v == sx) = false := by rw [beq_eq_false_iff_ne]; exact heq
                have Heq := hide heq
                clear heq
                generalize hiv : itoa v = iv at *
                have Hiv := hide hiv
                clear hiv
                have hZ := hS7.Z
                have z0 := hZ.cell 0
                have z1 := hZ.cell 1
                have z2 := hZ.cell 2
                have z3 := hZ.cell 3
                have z4 := hZ.cell 4
                have z5 := hZ.cell 5
                have zf := hZ.frozen 0
                have zf1 := hZ.frozen 1
                have zf2 := hZ.frozen 2
                have zf3 := hZ.frozen 3
                have zf4 := hZ.frozen 4
                have zf5 := hZ.frozen 5
                have lZ := hZ.lt
                have hBk := hS7.B
                simp only [Yl] at z0 z1 z2 z3 z4 z5
                go_wp2_with fail
                refine bodyPost_ret (v := .tuple #[.agg #[.int .i64 0, .int .i64 0, .int .i64 0, .int .i64 0, .int .i64 0, .int .i64 0], .bool false]) (by simp [results, Tryz.results68, go_sem, z0, z1, z2, z3, z4, z5, World.cell?_setCell_same, World.cell?_setCell_other]; try rfl) rfl ⟨⟨0, 0, 0, 0, 0, 0⟩, false, rfl, ?_, Or.inr (And.intro rfl ?_)⟩
                · exact (by (with_reducible repeat first | apply Qa | assumption | apply Qb | apply Qc | apply Qd | apply Qe | refine Qf ?_ (by assumption) ?_); all_goals (try simp only [Sz]); first | done | omega | (try simp only [Sz] at *); omega)
                intro m hm e
                refine Hbad.out (fun z hz ez => ?_) m hm e
                apply Heq.out
                rw [← Hiv.out, Hvn.out z hz ez, ← ez]
            · have Hvn := hide hvn
              clear hvn
              have hZ := hS6.Z
              have z0 := hZ.cell 0
              have z1 := hZ.cell 1
              have z2 := hZ.cell 2
              have z3 := hZ.cell 3
              have z4 := hZ.cell 4
              have z5 := hZ.cell 5
              have zf := hZ.frozen 0
              have zf1 := hZ.frozen 1
              have zf2 := hZ.frozen 2
              have zf3 := hZ.frozen 3
              have zf4 := hZ.frozen 4
              have zf5 := hZ.frozen 5
              have lZ := hZ.lt
              have hBk := hS6.B
              simp only [Yl] at z0 z1 z2 z3 z4 z5
              go_wp2_with fail
              refine bodyPost_ret (v := .tuple #[.agg #[.int .i64 0, .int .i64 0, .int .i64 0, .int .i64 0, .int .i64 0, .int .i64 0], .bool false]) (by simp [results, Tryz.results68, go_sem, z0, z1, z2, z3, z4, z5, World.cell?_setCell_same, World.cell?_setCell_other]; try rfl) rfl ⟨⟨0, 0, 0, 0, 0, 0⟩, false, rfl, ?_, Or.inr (And.intro rfl ?_)⟩
              · exact (by (with_reducible repeat first | apply Qa | assumption | apply Qb | apply Qc | apply Qd | apply Qe | refine Qf ?_ (by assumption) ?_); all_goals (try simp only [Sz]); first | done | omega | (try simp only [Sz] at *); omega)
              intro m hm e
              exact Hbad.out Hvn.out m hm e
      · obtain rfl : j = pn := by omega
        have hZ := hS.Z
        have z0 := hZ.cell 0
        have z1 := hZ.cell 1
        have z2 := hZ.cell 2
        have z3 := hZ.cell 3
        have z4 := hZ.cell 4
        have z5 := hZ.cell 5
        have zf := hZ.frozen 0
        have zf1 := hZ.frozen 1
        have zf2 := hZ.frozen 2
        have zf3 := hZ.frozen 3
        have zf4 := hZ.frozen 4
        have zf5 := hZ.frozen 5
        have lZ := hZ.lt
        have hBk := hS.B
        have n0 := hS.N.cell 0
        have n1 := hS.N.cell 1
        have n2 := hS.N.cell 2
        have n3 := hS.N.cell 3
        have n4 := hS.N.cell 4
        have n5 := hS.N.cell 5
        have i0 := hS.I.cell 0
        have p1 := hS.P.cell 0
        simp only [Yl] at z0 z1 z2 z3 z4 z5 n0 n1 n2 n3 n4 n5 i0 p1
        clear hS hZ
        have hRd := hide (Hps.out ▸ HRd.out : RdT (k : Int) p0 (splB 32 s) j r n)
        cases is0 with
        | true =>
          cases r with
          | nil =>
            have hdn := hide ((by rw [Hpn.out]; exact hRd.out : RdT (k : Int) p0 (splB 32 s) (partsL (k : Int)).length [] n).done HF.out)
            go_upto_region 17 with fail
            go_region
            all_goals (go_wp2_with fail)
            all_goals refine bodyPost_ret (v := .tuple #[.agg #[.int .i64 n.op, .int .i64 n.d, .int .i64 n.a, .int .i64 n.b, .int .i64 n.t, .int .i64 n.e], .bool true]) (by simp [results, Tryz.results68, go_sem, z0, z1, z2, z3, z4, z5, World.cell?_setCell_same, World.cell?_setCell_other]; try rfl) rfl ⟨n, true, rfl, ?_, Or.inl (And.intro rfl hdn.out)⟩
            · exact (by (with_reducible repeat first | apply Qa | assumption | apply Qb | apply Qc | apply Qd | apply Qe | refine Qf ?_ (by assumption) ?_); all_goals (try simp only [Sz]); first | done | omega | (try simp only [Sz] at *); omega)
          | cons x r' =>
            rw [List.length_cons] at *
            have l9 : (((r'.length + 1 : Nat) : Int) == 0) = false := by rw [beq_eq_false_iff_ne]; omega
            have hdn := hide (fun m (hm : Shaped m) (e : s = nodeL m) => (hRd.out.left HF.out hm e).2.2)
            go_upto_region 17 with fail
            go_region
            all_goals (go_wp2_with fail)
            all_goals refine bodyPost_ret (v := .tuple #[.agg #[.int .i64 n.op, .int .i64 n.d, .int .i64 n.a, .int .i64 n.b, .int .i64 n.t, .int .i64 n.e], .bool false]) (by simp [results, Tryz.results68, go_sem, z0, z1, z2, z3, z4, z5, World.cell?_setCell_same, World.cell?_setCell_other]; try first | rfl | omega) rfl ⟨n, false, rfl, ?_, Or.inr (And.intro rfl ?_)⟩
            · exact (by (with_reducible repeat first | apply Qa | assumption | apply Qb | apply Qc | apply Qd | apply Qe | refine Qf ?_ (by assumption) ?_); all_goals (try simp only [Sz]); first | done | omega | (try simp only [Sz] at *); omega)
            · intro m hm e
              have h9 := hdn.out m hm e
              rw [List.drop_of_length_le (by have := Hpn.out; omega)] at h9
              cases h9
        | false =>
          have hdn := hide (fun m (hm : Shaped m) (e : s = nodeL m) => (hRd.out.left HF.out hm e).1)
          go_upto_region 17 with fail
          go_region
          all_goals (go_wp2_with fail)
          all_goals refine bodyPost_ret (v := .tuple #[.agg #[.int .i64 n.op, .int .i64 n.d, .int .i64 n.a, .int .i64 n.b, .int .i64 n.t, .int .i64 n.e], .bool false]) (by simp [results, Tryz.results68, go_sem, z0, z1, z2, z3, z4, z5, World.cell?_setCell_same, World.cell?_setCell_other]; try first | rfl | omega) rfl ⟨n, false, rfl, ?_, Or.inr (And.intro rfl ?_)⟩
          · exact (by (with_reducible repeat first | apply Qa | assumption | apply Qb | apply Qc | apply Qd | apply Qe | refine Qf ?_ (by assumption) ?_); all_goals (try simp only [Sz]); first | done | omega | (try simp only [Sz] at *); omega)
          · intro m hm e
            have h9 := hdn.out m hm e
            cases h9
end
section
open Go.Lib
theorem lines_split : ∀ {l l' : List Nd} {rest : List UInt8}, (∀ m ∈ l, Shaped m) → (∀ m ∈ l', Shaped m) → linesL l ++ rest = linesL l' → ∃ t, l' = l ++ t ∧ rest = linesL t
  | [], l', rest, _, _, h => ⟨l', rfl, h⟩
  | a :: l, [], rest, _, _, h => by simp [linesL, lineL] at h
  | a :: l, b :: l', rest, h1, h2, h => by
    have h : nodeL a ++ 10 :: (linesL l ++ rest) = nodeL b ++ 10 :: linesL l' := by simpa [linesL, lineL] using h
    obtain ⟨e1, e2⟩ := head_inj (node_clean (h1 a (by simp)).op) (node_clean (h2 b (by simp)).op) h
    obtain ⟨t, e3, e4⟩ := lines_split (fun m hm => h1 m (by simp [hm])) (fun m hm => h2 m (by simp [hm])) e2
    exact ⟨t, by rw [node_inj (h1 a (by simp)) (h2 b (by simp)) e1, e3]; rfl, e4⟩
theorem showL_eq (n : Int) (l : List Nd) (rest : List UInt8) : showL n l ++ rest = (regsW ++ itoa n) ++ 10 :: (linesL l ++ rest) := by
  unfold showL
  simp
theorem head_clean (n : Int) : (10 : UInt8) ∉ regsW ++ itoa n := by
  intro hm
  rcases List.mem_append.1 hm with h1 | h1
  · revert h1; decide
  · exact itoa_clean n 10 (by decide) h1
theorem show_split {n r : Int} {l l' : List Nd} {rest : List UInt8} (hl : ∀ m ∈ l, Shaped m) (hl' : ∀ m ∈ l', Shaped m) (h : showL n l ++ rest = showL r l') : r = n ∧ ∃ t, l' = l ++ t ∧ rest = linesL t := by
  have h2 := showL_eq r l' []
  rw [List.append_nil, List.append_nil] at h2
  rw [showL_eq, h2] at h
  obtain ⟨e1, e2⟩ := head_inj (head_clean n) (head_clean r) h
  exact ⟨(itoa_inj (List.append_cancel_left e1)).symm, lines_split hl hl' e2⟩
theorem no_head {s : List UInt8} (H : ∀ r t, i64ok r → s ≠ (regsW ++ itoa r) ++ 10 :: t) : NoText s := by
  intro r l hc hf hs
  obtain ⟨_, _, h1, h2, _⟩ := chk_small hc
  have h3 := showL_eq r l []
  rw [List.append_nil, List.append_nil] at h3
  exact H r (linesL l) ⟨by omega, by omega⟩ (hs.trans h3)
theorem no_rest {s : List UInt8} {n : Int} {l : List Nd} {rest : List UInt8} (hs : s = showL n l ++ rest) (hl : ∀ m ∈ l, Shaped m) (hne : rest ≠ []) (H : ∀ m t, Shaped m → rest ≠ nodeL m ++ 10 :: t) : NoText s := by
  intro r l' hc hf hs'
  have hl' := right_fit hc hf
  obtain ⟨_, t, h1, h2⟩ := show_split hl hl' (hs.symm.trans hs')
  cases t with
  | nil => exact hne h2
  | cons m t => exact H m (linesL t) (hl' m (by rw [h1]; simp)) (by rw [h2]; simp [linesL, lineL])
theorem no_chk {s : List UInt8} {n : Int} {l : List Nd} {rest : List UInt8} (hs : s = showL n l ++ rest) (hl : ∀ m ∈ l, Shaped m) (h : (rest = [] ∧ chk n l ≠ 0) ∨ 256 < l.length) : NoText s := by
  intro r l' hc hf hs'
  have hl' := right_fit hc hf
  obtain ⟨h0, t, h1, h2⟩ := show_split hl hl' (hs.symm.trans hs')
  rcases h with ⟨h3, h4⟩ | h3
  · cases t with
    | nil => rw [List.append_nil] at h1; rw [← h0, ← h1] at h4; exact h4 hc
    | cons m t => rw [h3] at h2; simp [linesL, lineL] at h2
  · obtain ⟨_, h4, _⟩ := chk_small hc
    rw [h1, List.length_append] at h4
    omega
theorem showL_next {n : Int} {l : List Nd} {m : Nd} {r : List UInt8} : showL n l ++ (nodeL m ++ 10 :: r) = showL n (l ++ [m]) ++ r := by
  rw [showL_eq, showL_eq]
  simp [linesL, lineL]
end
section
open Go.RowKit
set_option maxHeartbeats 8000000
open Go.Lib
theorem names_index (k : Nat) (hk : k < 13) (w : World) : (Instr.index 109 (.agg namesV) (.int .i64 (k : Int))).run Tryz.prog w = .ok (strB (opW (k : Int))) w := by
  have h0 : k = 0 ∨ k = 1 ∨ k = 2 ∨ k = 3 ∨ k = 4 ∨ k = 5 ∨ k = 6 ∨ k = 7 ∨ k = 8 ∨ k = 9 ∨ k = 10 ∨ k = 11 ∨ k = 12 := by omega
  rcases h0 with rfl | rfl | rfl | rfl | rfl | rfl | rfl | rfl | rfl | rfl | rfl | rfl | rfl <;> simp [Instr.index, run_underlying Tryz.underlying109, asIntOf, go_sem, namesV] <;> rfl
set_option maxRecDepth 100000 in
theorem Show_ok (regs : Int) (A : Option Addr) (l : List Nd) (cap : Nat) (w : World) (hl : l.length ≤ maxLen) (hA : NodesAt w A l) (hc : chk regs l = 0) (hT : Tv w) (fit : ∀ n ∈ l, ∀ i, i < 6 → i64ok (n.fld i)) :
    Calls Tryz.prog 21 #[.agg #[.int .i64 regs, .slice A l.length cap]] w fun e w' => e = .returned (.tuple #[strB (showL regs l), .int .i64 0]) ∧ Below w.heap.size w w' := by
  have HC := fun W h => hide (Check_any regs A l cap W hl h)
  rw [hc] at HC
  obtain ⟨h1, h256, hr1, hr64, ho⟩ := chk_small hc
  have hri : i64ok regs := ⟨by omega, by omega⟩
  have L1 := itoa_length_le regs hri.1 hri.2
  have EQ : (⟨#[114, 101, 103, 115, 32]⟩ : ByteArray) ++ ⟨(itoa regs).toArray⟩ ++ ⟨#[10]⟩ = ⟨(showL regs []).toArray⟩ := by
    apply ByteArray.ext
    simp [showL, linesL, regsW]
  have LS0 : (showL regs []).length ≤ 27 := showL_len (l := []) hri (by simp)
  have Ho := hide ho
  have Fit := hide fit
  have Hri := hide hri
  have HI := fun W hW => hide (Itoa_b regs hri W hW)
  clear ho fit hri hc
  go_enter Tryz.func21, Tryz.ntmps21
  go_wp2_with (first
    | (go_at_call 18; refine ((HC _ (hA.below (by (with_reducible repeat first | apply Qa | assumption | apply Qb | apply Qc | apply Qd | apply Qe | refine Qf ?_ (by assumption) ?_); all_goals (try simp only [Sz]); first | done | omega | (try simp only [Sz] at *); omega))).out).mono ?_; rintro e w1 ⟨rfl, hb1⟩; have hP1 := Blk.below (Blk.new w 24 #[.int .i64 regs, .slice A l.length cap]) hb1 (by simp); have c0 := hP1.cell 0; have c1 := hP1.cell 1; have lP := hP1.lt; simp only [Yl] at c0 c1; have hB1 : Below w.heap.size w w1 := (((Below.refl _ _).alloc (Nat.le_refl _) _).trans (hb1.mono (by simp))))
    | (go_at_call 60; refine ((HI _ (hT.below (hB1.alloc (by omega) _))).out).mono ?_; rintro e w2 ⟨rfl, hb2⟩; have hd2 := (Bd.fresh w1).below hb2; have hB2 : Below w1.heap.size w1 w2 := ((Below.refl _ _).alloc (Nat.le_refl _) _).trans (hb2.mono (by simp)))
    | (go_at_call 59; refine (WrS w1.heap.size w1.heap.size [] (showL regs []) _ hd2 (by simp; omega) hB2.size).mono ?_; rintro e w3 ⟨rfl, hd3, hb3, -⟩; have hB3 := hB2.trans hb3; have hP3 := hP1.below hB3 lP; have c3 := hP3.cell 1; simp only [Yl] at c3))
  rw [List.nil_append] at hd3
  go_loopg [24] (l.length) (fun gk i wr => ∃ k : Nat, k ≤ l.length ∧ i = .int .i64 k ∧ gk = l.length - k ∧ Bd w1.heap.size w1.heap.size (showL regs (l.take k)) wr ∧ Below w1.heap.size w1 wr)
  case atStart => exact ⟨0, Nat.zero_le _, rfl, by omega, hd3, hB3⟩
  case round =>
    obtain ⟨k, hk, rfl, hgk, hd, hBl⟩ := hrel
    have Hgk := hide hgk
    clear hgk EQ HC HI hd2 hd3 hb2 hb3 c0 c1 c3 hB2 hB3 hP3 hb1 L1 LS0
    have hz := hBl.size
    have LS : (showL regs (l.take k)).length ≤ 27 + k * 199 := by
      have := showL_len (l := l.take k) Hri.out fun n hn => Fit.out n (List.mem_of_mem_take hn)
      rw [List.length_take, Nat.min_eq_left hk] at this
      exact this
    by_cases hlt : k < l.length
    · obtain ⟨ab, ao, x, rfl, hab, hx, hxl⟩ := (hA.below (hB1.trans (hBl.mono hB1.size))).get hlt
      have hmem := List.mem_of_getElem? hx
      obtain ⟨op, d, a, b, t, e⟩ := x
      obtain ⟨kk, rfl⟩ : ∃ kk : Nat, op = (kk : Int) := ⟨op.toNat, by have := (Ho.out _ hmem).1; simp only at this; omega⟩
      have hk13 : kk < 13 := by have := (Ho.out _ hmem).2; simp only at this; omega
      have ES := showL_step (regs := regs) hx
      have hfx := Fit.out _ hmem
      have k0 : (0 : Int) ≤ (k : Int) := by omega
      have k1 : (k : Int) < (l.length : Int) := by omega
      obtain ⟨c0, c1, c2, c3, c4, c5⟩ := hxl
      have ES := hide ES
      have Hfx := hide hfx
      generalize hsa : showL regs (l.take k) = sa at *
      clear hsa hx hmem
      go_upto_region 9 with fail
      go_cut [] (fun wx => Bd w1.heap.size w1.heap.size (sa ++ opW (kk : Int)) wx ∧ Blk wx wr.heap.size 44 #[.int .i64 (kk : Int), .int .i64 d, .int .i64 a, .int .i64 b, .int .i64 t, .int .i64 e] ∧ Below w1.heap.size w1 wx)
      case first =>
        have hix := fun W => names_index kk hk13 W
        have hW := Blk.new wr 44 #[.int .i64 (kk : Int), .int .i64 d, .int .i64 a, .int .i64 b, .int .i64 t, .int .i64 e]
        have hlo := opW_len (kk : Int)
        have lW := hW.lt
        have lb := hd.lt
        have hdW := hd.alloc (.cells #[.int .i64 (kk : Int), .int .i64 d, .int .i64 a, .int .i64 b, .int .i64 t, .int .i64 e] 44)
        have hBW : Below w1.heap.size w1 (wr.alloc (.cells #[.int .i64 (kk : Int), .int .i64 d, .int .i64 a, .int .i64 b, .int .i64 t, .int .i64 e] 44)) := hBl.alloc hz _
        generalize wr.alloc (.cells #[.int .i64 (kk : Int), .int .i64 d, .int .i64 a, .int .i64 b, .int .i64 t, .int .i64 e] 44) = wa at *
        have cW := hW.cell 0
        simp only [List.getElem?_toArray, List.getElem?_cons_zero] at cW
        clear hd hBl
        go_region_with (first
          | (go_at_call 61; refine (names_any _).mono ?_; rintro e w4 ⟨rfl, hb4⟩; have hN4 := (hW.drew).below hb4 lW; have hd4 := (hdW.drew).below hb4; have c4 := hN4.cell 0; simp only [List.getElem?_toArray, List.getElem?_cons_zero] at c4; have hB4 : Below w1.heap.size w1 w4 := (hBW.drew).trans (hb4.mono (hBW.size)))
          | (go_at_call 59; refine (WrS w1.heap.size w1.heap.size sa (opW (kk : Int)) _ hd4 (by omega) hB4.size).mono ?_; rintro e w5 ⟨rfl, hd5, hb5, hk5⟩))
        all_goals (go_wp2_with fail)
        all_goals go_meet
        all_goals exact ⟨hd5, hN4.others hk5 (by omega) (by decide), hB4.trans hb5⟩
      case rest =>
        have lb := hd.lt
        clear hd hBl c0 c1 c2 c3 c4 c5 hz
        obtain ⟨hd, hN, hBl⟩ := hcut
        have lN := hN.lt
        have hz := hBl.size
        have NL := nodeL_parts ⟨(kk : Int), d, a, b, t, e⟩
        have LN := nodeL_len Hfx.out
        rw [NL] at LN
        have hp4 := partsL_len (kk : Int)
        have hpw := partsL_words (kk : Int)
        have hpa := fun W hN => hide (parts_any wr.heap.size kk d a b t e W hN hk13)
        unfold PartsPost partCells at hpa
        have ES2 : showL regs (l.take (k + 1)) = sa ++ (opW (kk : Int) ++ (partsL (kk : Int)).flatMap (partT ⟨(kk : Int), d, a, b, t, e⟩)) ++ [10] := by
          rw [ES.out]
          unfold lineL
          rw [NL]
          simp
        have ES2 := hide ES2
        clear ES NL
        simp only at LN
        generalize opW (kk : Int) = ow at *
        generalize partsL (kk : Int) = ps at *
        generalize hg7 : wr.heap.size = g7 at *
        clear hg7
        have LS' : sa.length ≤ 27 + k * 199 := LS
        simp only [List.length_append] at LN
        go_wp2_with (refine ((hpa _ hN).out).mono ?_; rintro ee w4 ⟨q, rfl, hq, hq4, hb4⟩; have hd4 := hd.below hb4; have hN4 := hN.below hb4 lN; have hB4 : Below w1.heap.size w1 w4 := hBl.trans (hb4.mono hz))
        clear hpa
        go_loopg [35] (ps.length) (fun gk i wi => ∃ j : Nat, j ≤ ps.length ∧ i = .int .i64 j ∧ gk = ps.length - j ∧ Bd w1.heap.size w1.heap.size (sa ++ (ow ++ (ps.take j).flatMap (partT ⟨(kk : Int), d, a, b, t, e⟩))) wi ∧ Blk wi g7 44 #[.int .i64 (kk : Int), .int .i64 d, .int .i64 a, .int .i64 b, .int .i64 t, .int .i64 e] ∧ Blk wi q 114 (ps.flatMap fun p => [strB p.1, .pointer (some ⟨g7, p.2, none⟩)]).toArray ∧ Below w1.heap.size w1 wi)
        case atStart => exact ⟨0, Nat.zero_le _, rfl, by omega, by simpa using hd4, hN4, hq4, hB4⟩
        case round =>
          obtain ⟨j, hj, rfl, hgj, hdi, hNi, hqi, hBi⟩ := hrel
          have Hgj := hide hgj
          clear hgj hd4 hN4 hq4 hB4 hb4 hd hN hBl
          have hzi := hBi.size
          have LF := flat_take_len (partT ⟨(kk : Int), d, a, b, t, e⟩) ps j
          by_cases hjl : j < ps.length
          · obtain ⟨⟨wd, f⟩, hp⟩ : ∃ p, ps[j]? = some p := ⟨_, List.getElem?_eq_getElem hjl⟩
            have hw := hpw _ (List.mem_of_getElem? hp)
            have pg := pairs_get (fun p : List UInt8 × Nat => strB p.1) (fun p => .pointer (some ⟨g7, p.2, none⟩)) ps j _ hp
            have cq0 := hqi.cell (j * 2)
            have cq1 := hqi.cell (j * 2 + 1)
            rw [List.getElem?_toArray, pg.1] at cq0
            rw [List.getElem?_toArray, pg.2] at cq1
            have hf6 : f < 6 := hw.2.2
            have cN := hNi.cell f
            have hcf := (⟨(kk : Int), d, a, b, t, e⟩ : Nd).fld_cell hf6
            have hz64 := Hfx.out f hf6
            have Fsp := flat_take_succ (partT ⟨(kk : Int), d, a, b, t, e⟩) hp
            have hpt : partT ⟨(kk : Int), d, a, b, t, e⟩ (wd, f) = (if wd = [] then [] else 32 :: wd) ++ 32 :: itoa ((⟨(kk : Int), d, a, b, t, e⟩ : Nd).fld f) := rfl
            rw [hpt] at Fsp
            generalize (⟨(kk : Int), d, a, b, t, e⟩ : Nd).fld f = z at *
            have hcf : #[Value.int .i64 (kk : Int), .int .i64 d, .int .i64 a, .int .i64 b, .int .i64 t, .int .i64 e][f]? = some (.int .i64 z) := by rw [← hcf]; simp [Nd.cells]
            rw [hcf] at cN
            have LZ := itoa_length_le z hz64.1 hz64.2
            have EQZ : (⟨#[32]⟩ : ByteArray) ++ ⟨(itoa z).toArray⟩ = ⟨(32 :: itoa z).toArray⟩ := by apply ByteArray.ext; simp
            have EQW : (⟨#[32]⟩ : ByteArray) ++ ⟨wd.toArray⟩ = ⟨(32 :: wd).toArray⟩ := by apply ByteArray.ext; simp
            have lNi := hNi.lt
            have hTi : Tv wr := hT.below (hB1.trans (hBi.mono hB1.size))
            have j0 : (0 : Int) ≤ (j : Int) := by omega
            have j1 : (j : Int) < (ps.length : Int) := by omega
            have LW : wd.length ≤ 4 := by rcases hw.1 with h | h | h <;> rw [show wd = _ from h] <;> decide
            have ltB := hdi.lt
            have ltQ := hqi.lt
            have HIZ := fun W hW => hide (Itoa_b z hz64 W hW)
            clear hz64 hw pg hpw
            have Fsp := hide Fsp
            by_cases hwd : wd = []
            · subst hwd
              go_wp2_with (refine ((HIZ _ (hTi.below ((Below.refl _ _).alloc (Nat.le_refl _) _))).out).mono ?_; rintro ee w5 ⟨rfl, hb5⟩; have hd5 := (hdi.alloc _).below hb5; have hN5 := (hNi.alloc _).below hb5 (by simp <;> omega); have hq5 := (hqi.alloc _).below hb5 (by simp <;> omega); have hB5 : Below w1.heap.size w1 w5 := (hBi.alloc hzi _).trans (hb5.mono (by simp <;> omega)))
              go_wp2_with (refine (WrS w1.heap.size w1.heap.size _ (32 :: itoa z) _ hd5 (by simp only [List.length_append, List.length_cons]; omega) hB5.size).mono ?_; rintro ee w6 ⟨rfl, hd6, hb6, hk6⟩)
              go_roundg (ps.length - (j + 1))
              case measure => have := Hgj.out; omega
              case rel => exact ⟨j + 1, by omega, by go_num, rfl, (by rw [Fsp.out]; simpa using hd6), hN5.others hk6 (by omega) (by decide), hq5.others hk6 (by omega) (by decide), hB5.trans hb6⟩
            · have hcmp : wd.isEmpty = false := by
                cases wd with
                | nil => exact absurd rfl hwd
                | cons x r => rfl
              rw [if_neg hwd] at hpt
              have Fsp : List.flatMap (partT ⟨(kk : Int), d, a, b, t, e⟩) (ps.take (j + 1)) = List.flatMap (partT ⟨(kk : Int), d, a, b, t, e⟩) (ps.take j) ++ ((32 :: wd) ++ 32 :: itoa z) := by rw [Fsp.out, if_neg hwd]
              have Fsp := hide Fsp
              go_wp2_with (refine (WrS w1.heap.size w1.heap.size _ (32 :: wd) _ (hdi.alloc _) (by simp only [List.length_append, List.length_cons]; omega) ((hBi.alloc hzi _).size)).mono ?_; rintro ee w5 ⟨rfl, hd5, hb5, hk5⟩; have hN5 := (hNi.alloc _).others hk5 (by omega) (by decide); have hq5 := (hqi.alloc _).others hk5 (by omega) (by decide); have hp5 := (Blk.new wr 114 #[.string ⟨wd.toArray⟩, .pointer (some ⟨g7, f, none⟩)]).others hk5 (by omega) (by decide); have hB5 : Below w1.heap.size w1 w5 := (hBi.alloc hzi _).trans hb5; have c51 := hp5.cell 1; have c5f := hN5.cell f; rw [hcf] at c5f; simp only [Yl] at c51)
              have hT5 : Tv w5 := hT.below (hB1.trans (hB5.mono hB1.size))
              go_wp2_with (refine ((HIZ _ hT5).out).mono ?_; rintro ee w6 ⟨rfl, hb6⟩; have hd6 := hd5.below hb6; have hN6 := hN5.below hb6 hN5.lt; have hq6 := hq5.below hb6 hq5.lt; have hB6 : Below w1.heap.size w1 w6 := hB5.trans (hb6.mono hB5.size))
              go_wp2_with (refine (WrS w1.heap.size w1.heap.size _ (32 :: itoa z) _ hd6 (by simp only [List.length_append, List.length_cons]; omega) hB6.size).mono ?_; rintro ee w7 ⟨rfl, hd7, hb7, hk7⟩)
              go_roundg (ps.length - (j + 1))
              case measure => have := Hgj.out; omega
              case rel => exact ⟨j + 1, by omega, by go_num, rfl, (by rw [Fsp.out]; simpa using hd7), hN6.others hk7 (by omega) (by decide), hq6.others hk7 (by omega) (by decide), hB6.trans hb7⟩
          · obtain rfl : j = ps.length := by omega
            rw [List.take_length] at hdi LF
            have hlen : (sa ++ (ow ++ ps.flatMap (partT ⟨(kk : Int), d, a, b, t, e⟩))).length + 1 ≤ 1000000 := by
              simp only [List.length_append]
              omega
            go_wp2_with (refine (WrB w1.heap.size w1.heap.size _ 10 _ hdi hlen hzi).mono ?_; rintro ee w8 ⟨rfl, hd8, hb8, -⟩)
            go_roundg (l.length - (k + 1))
            case measure => have := Hgk.out; omega
            case rel => exact ⟨k + 1, by omega, by go_num, rfl, (by rw [ES2.out]; exact hd8), hBi.trans hb8⟩
    · obtain rfl : k = l.length := by omega
      go_wp2_with (refine (BdStr w1.heap.size w1.heap.size _ _ hd hz).mono ?_; rintro e w9 ⟨rfl, hb9⟩)
      go_ret2
      exact ⟨rfl, hB1.trans ((hBl.trans hb9).mono hB1.size)⟩
end
section
open Go.RowKit
set_option maxHeartbeats 16000000
open Go.Lib Go.Maps
def ReadPost (s : List UInt8) (w : World) (e : Ending) (w' : World) : Prop :=
  ∃ (regs : Int) (l : List Nd) (v : Value) (ok : Bool), e = .returned (.tuple #[.agg #[.int .i64 regs, v], .int .i64 (if ok then 0 else 1)]) ∧ NRow w' w.heap.size 44 v l ∧ Below w.heap.size w w' ∧ TxGot s regs l ok
theorem OpsM.grown {g k : Nat} {w w' : World} {row : Option Nat} (h : OpsM g k w) (hg : w.grownBy w' row) (hr : row ≠ some g) : OpsM g k w' := by
  obtain ⟨es, clock, hh, F, r⟩ := h
  exact ⟨es, clock, (hg.block g (lt_of_heap hh) (fun e => hr e.symm)).trans hh, F, r⟩
theorem OpsM.ne_row {g k B : Nat} {w : World} {e : TypeId} {v : Value} {l : List Nd} (h : OpsM g k w) (hr : NRow w B e v l) : v.ownBlock ≠ some g := by
  obtain ⟨es, clock, hh, F, r⟩ := h
  rcases hr.open with ⟨rfl, _⟩ | ⟨g', cap, cur, rfl, _, hh', _⟩
  · simp [Value.ownBlock]
  · intro he
    simp [Value.ownBlock] at he
    subst he
    rw [hh] at hh'
    cases hh'
set_option maxRecDepth 100000 in
theorem Read_any (s : List UInt8) (hs : s.length ≤ 4294967280) (w : World) (hT : Tv w) : Calls Tryz.prog 24 #[strB s] w (ReadPost s w) := by
  obtain ⟨i3, h3i, h3z, h3s, h3b⟩ := info_parts infoNode
  have hmm := @run_makeMap Tryz.prog
  go_enter Tryz.func24, Tryz.ntmps24
  go_upto_region 3 with (refine (names_any _).mono ?_; rintro e w1 ⟨rfl, hb1⟩)
  have hZ := ((Blk.new w 24 #[.int .i64 0, .slice none 0 0]).alloc (.map #[] 0)).below hb1 (by simp; omega)
  have hM : OpsM (w.heap.size + 1) 0 w1 := by
    have h0 := World.ownsMap_made (H := Unit) (w.alloc (.cells #[.int .i64 0, .slice none 0 0] 24)) Tryz.prog 9 (plainElem Tryz.prog 3)
    rw [show (w.alloc (.cells #[.int .i64 0, .slice none 0 0] 24)).heap.size = w.heap.size + 1 by simp] at h0
    exact OpsM.below h0 hb1
  have hB : Below w.heap.size w w1 := (((Below.refl _ _).alloc (Nat.le_refl _) _).alloc (by simp) _).trans (hb1.mono (by simp; omega))
  clear hb1
  go_loopg [5, 6, 20] (13) (fun gk a5 a6 i wr => ∃ k : Nat, k ≤ 13 ∧ i = .int .i64 k ∧ gk = 13 - k ∧ OpsM (w.heap.size + 1) k wr ∧ Blk wr w.heap.size 24 #[.int .i64 0, .slice none 0 0] ∧ Below w.heap.size w wr)
  case atStart => exact ⟨0, by omega, rfl, by omega, hM, hZ, hB⟩
  case round =>
    obtain ⟨k, hk, rfl, hgk, hMk, hZk, hBk⟩ := hrel
    have Hgk := hide hgk
    clear hgk hM hZ hB
    by_cases hlt : k < 13
    · have hix := fun W => names_index k hlt W
      have k1 : (k : Int) < 13 := by omega
      have hol : (opW (k : Int)).length ≤ 4294967280 := by have := opW_len (k : Int); omega
      go_wp2_with (at_mapUpdate; refine wpList_mapUpdate_own _ rfl _ _ _ 117 rfl 9 3 lawStr Tryz.underlying117 _ (w.heap.size + 1) k _ rfl hMk (by unfold maxLen; omega) _ _ _ rfl rfl (keyStr hol) _ [] (plainElem_int Tryz.underlying3 (WalkArith.wf_i64 (by omega))) ?_; intro w3 hown3 hgrow3)
      go_roundg (13 - (k + 1))
      case measure => have := Hgk.out; omega
      case rel => exact ⟨k + 1, by omega, by go_num, rfl, hown3, hZk.grown hgrow3 (by simp), hBk.grown hgrow3 hBk.size (fun q hq => by cases hq; omega)⟩
    · obtain rfl : k = 13 := by omega
      have hT1 := hT.below hBk
      have HT0 := hide hT
      clear hT hlt hk
      have HC := hide (Cut_b s hs wr hT1)
      go_wp2_with fail
      refine Calls.mono HC.out ?_
      rintro e w4 ⟨head, rest, is, rfl, hb4, hC⟩
      have hT4 := hT1.below hb4
      have hM4 := hMk.below hb4
      have hZ4 := hZk.below hb4 hZk.lt
      have hB4 := hBk.trans (hb4.mono hBk.size)
      have hhl : head.length ≤ 4294967280 ∧ rest.length ≤ s.length := by
        rcases hC with ⟨_, h, _⟩ | ⟨_, _, h1, h2⟩
        · have := congrArg List.length h
          simp at this
          omega
        · rw [h1, h2]; simp; omega
      clear HC hT1 hMk hZk hBk hb4
      have HP := hide (Prefix_b head regsW w4)
      have HCc := hide hC
      clear hC
      go_wp2_with fail
      refine Calls.mono HP.out ?_
      rintro e w5 ⟨dg, fine, rfl, hw5, hPf⟩
      subst hw5
      have hdg : dg.length ≤ 4294967280 := by
        rcases hPf with ⟨_, h⟩ | ⟨_, h, _⟩
        · have := congrArg List.length h
          rw [List.length_append] at this
          omega
        · rw [h]; exact hhl.1
      have HPf := hide hPf
      have HA := hide (Atoi_b dg hdg _ hT4)
      clear hPf HP
      go_wp2_with fail
      refine Calls.mono HA.out ?_
      rintro e w6 ⟨v, er, rfl, hb6, hA⟩
      have hT6 := hT4.below hb6
      have hM6 := hM4.below hb6
      have hZ6 := hZ4.below hb6 hZ4.lt
      have hB6 := hB4.trans (hb6.mono hB4.size)
      clear HA hT4 hM4 hZ4 hB4 hb6
      have hA0 : (er = .nilIface ∨ ∃ t q, er = .iface t q) := by
        rcases hA with ⟨h, _⟩ | ⟨h, _⟩
        · exact .inl h
        · exact .inr h
      have HAa := hide hA
      clear hA
      go_upto_region 11 with fail
      have hP6 := Blk.new w6 24 #[.int .i64 v, .slice none 0 0]
      have hgp : w.heap.size + 1 < w6.heap.size := hM6.lt
      replace hT6 := hT6.below ((Below.refl _ _).alloc (Nat.le_refl _) (.cells #[.int .i64 v, .slice none 0 0] 24))
      replace hM6 := hM6.alloc (.cells #[.int .i64 v, .slice none 0 0] 24)
      replace hZ6 := hZ6.alloc (.cells #[.int .i64 v, .slice none 0 0] 24)
      replace hB6 := hB6.alloc hB6.size (.cells #[.int .i64 v, .slice none 0 0] 24)
      generalize w6.alloc (.cells #[.int .i64 v, .slice none 0 0] 24) = w7 at *
      generalize w6.heap.size = gp at *
      have hno : (∀ r, i64ok r → is = true → fine = true → dg = itoa r → False) → NoText s := by
        intro H
        refine no_head fun r y hr e => ?_
        rcases HCc.out with ⟨h1, h2, h3⟩ | ⟨h1, h2, _⟩
        · rw [e] at h2
          obtain ⟨e1, _⟩ := head_inj (head_clean r) h3 h2
          rcases HPf.out with ⟨h4, h5⟩ | ⟨h4, _, h5⟩
          · rw [h5] at e1
            exact H r hr h1 h4 (List.append_cancel_left e1).symm
          · exact h5 _ e1.symm
        · rw [e] at h2
          exact h2 (by simp)
      have Hno := hide hno
      clear hno
      go_cut [61] (fun s61 wx => ∃ bad : Bool, s61 = .bool bad ∧ (bad = false → is = true ∧ fine = true ∧ dg = itoa v ∧ i64ok v) ∧ (bad = true → NoText s) ∧ Tv wx ∧ OpsM (w.heap.size + 1) 13 wx ∧ Blk wx w.heap.size 24 #[.int .i64 0, .slice none 0 0] ∧ Blk wx gp 24 #[.int .i64 v, .slice none 0 0] ∧ Below w.heap.size w wx)
      case first =>
        cases is with
        | false =>
          go_wp2_with fail
          go_meet
          exact ⟨true, rfl, (fun h => by cases h), (fun _ => Hno.out fun r hr h1 _ _ => by cases h1), hT6, hM6, hZ6, hP6, hB6⟩
        | true =>
          cases fine with
          | false =>
            go_wp2_with fail
            go_meet
            exact ⟨true, rfl, (fun h => by cases h), (fun _ => Hno.out fun r hr _ h1 _ => by cases h1), hT6, hM6, hZ6, hP6, hB6⟩
          | true =>
            rcases HAa.out with ⟨rfl, hv, hvn⟩ | ⟨⟨t, q', rfl⟩, hvn⟩
            · have HI := hide (Itoa_b v hv w7 hT6)
              have Hvn := hide hvn
              clear hvn hA0
              go_wp2_with fail
              refine Calls.mono HI.out ?_
              rintro e w8 ⟨rfl, hb8⟩
              have hS8 := hide (And.intro (hT6.below hb8) (And.intro (hM6.below hb8) (And.intro (hZ6.below hb8 hZ6.lt) (And.intro (hP6.below hb8 hP6.lt) (hB6.trans (hb8.mono hB6.size))))))
              clear HI hT6 hM6 hZ6 hP6 hB6 hb8
              by_cases heq : itoa v = dg
              · have Heq := hide heq
                rw [heq]
                clear heq
                go_wp2_with fail
                go_meet
                exact ⟨false, rfl, (fun _ => ⟨(by first | rfl | trivial), (by first | rfl | trivial), Heq.out.symm, hv⟩), (fun h => by cases h), hS8.out⟩
              · have hne : (itoa v == dg) = false := by rw [beq_eq_false_iff_ne]; exact heq
                have Heq := hide heq
                clear heq
                generalize hiv : itoa v = iv at *
                have Hiv := hide hiv
                clear hiv
                go_wp2_with fail
                go_meet
                exact ⟨true, rfl, (fun h => by cases h), (fun _ => Hno.out fun r hr _ _ h1 => Heq.out (by rw [← Hiv.out, Hvn.out r hr h1, ← h1])), hS8.out⟩
            · have Hvn := hide hvn
              clear hvn hA0
              go_wp2_with fail
              go_meet
              exact ⟨true, rfl, (fun h => by cases h), (fun _ => Hno.out fun r hr _ _ h1 => Hvn.out r hr h1), hT6, hM6, hZ6, hP6, hB6⟩
      case rest =>
        obtain ⟨bad, rfl, hg, hb, hT, hM, hZ, hP, hB⟩ := hcut
        have Hg := hide hg
        have Hb := hide hb
        clear hg hb hT6 hM6 hZ6 hP6 hB6
        cases bad with
        | true =>
          have z0 := hZ.cell 0
          have z1 := hZ.cell 1
          have zf0 := hZ.frozen 0
          have zf1 := hZ.frozen 1
          have lZ := hZ.lt
          simp only [Yl] at z0 z1
          go_wp2_with fail
          refine bodyPost_ret (v := .tuple #[.agg #[.int .i64 0, .slice none 0 0], .int .i64 1]) (by simp [results, Tryz.results24, go_sem, z0, z1, zf0, zf1, World.cell?_setCell_same, World.cell?_setCell_other]; try rfl) rfl ⟨0, [], _, false, rfl, NRow.nil_ _ _ _, ?_, Or.inr ⟨rfl, rfl, rfl, ?_⟩⟩
          · exact (hB.setCell (Nat.le_refl _) _).setCell (Nat.le_refl _) _
          exact Hb.out (by first | rfl | trivial)
        | false =>
          have hgood := Hg.out (by first | rfl | trivial)
          obtain ⟨h1, h2, h3, hv⟩ := hgood
          subst h1 h2
          have hs0 : s = showL v [] ++ rest := by
            rcases HCc.out with ⟨_, h4, _⟩ | ⟨h4, _⟩
            · rcases HPf.out with ⟨_, h5⟩ | ⟨h5, _⟩
              · rw [h4, h5, h3, showL_eq]; simp [linesL]
              · cases h5
            · cases h4
          have Hs0 := hide hs0
          clear h3 hs0 Hg Hb
          go_wp2_with fail
          go_loopg [8, 9, 15, 16, 17] (257) (fun gk a8 a9 a15 a16 a17 wr => ∃ (l : List Nd) (V : Value) (rt : List UInt8), a8 = strB rt ∧ gk = 257 - l.length ∧ l.length ≤ 257 ∧ rt.length ≤ 4294967280 ∧ s = showL v l ++ rt ∧ (∀ m ∈ l, Shaped m) ∧ NRow wr w.heap.size 44 V l ∧ Blk wr gp 24 #[.int .i64 v, V] ∧ Tv wr ∧ OpsM (w.heap.size + 1) 13 wr ∧ Blk wr w.heap.size 24 #[.int .i64 0, .slice none 0 0] ∧ Below w.heap.size w wr)
          case atStart => exact ⟨[], .slice none 0 0, rest, rfl, rfl, by simp, by omega, Hs0.out, (fun m hm => by cases hm), NRow.nil_ _ _ _, hP, hT, hM, hZ, hB⟩
          case round =>
            clear hT hM hZ hP hB
            obtain ⟨l, V, rt, rfl, hgk, hl7, hrl, hs1, hsh, hN, hP, hT, hM, hZ, hB⟩ := hrel
            have Hgk := hide hgk
            have Hs := hide hs1
            have Hsh := hide hsh
            clear hgk hs1 hsh
            obtain ⟨An, cn, rfl, _, _⟩ := hN.shape
            have lP := hP.lt
            have p0 := hP.cell 0
            have p1 := hP.cell 1
            simp only [Yl] at p0 p1
            by_cases hrt : rt = []
            · subst hrt
              have HK := hide (Check_any v An l cn wr (by unfold maxLen; omega) hN.nodes)
              by_cases hc : chk v l = 0
              · rw [hc] at HK
                have Hc := hide hc
                clear hc
                go_wp2_with fail
                refine Calls.mono HK.out ?_
                rintro e w6 ⟨rfl, hb6⟩
                have hZ6 := hZ.below hb6 hZ.lt
                have hP6 := hP.below hb6 hP.lt
                have hB6 := hB.trans (hb6.mono hB.size)
                have z0 := hZ6.cell 0
                have z1 := hZ6.cell 1
                have zf0 := hZ6.frozen 0
                have zf1 := hZ6.frozen 1
                have p0 := hP6.cell 0
                have p1 := hP6.cell 1
                have lZ := hZ6.lt
                have hNz := hide (hN.ne_blk hZ (by decide))
                simp only [Yl] at z0 z1 p0 p1
                clear hZ
                go_wp2_with fail
                refine bodyPost_ret (v := .tuple #[.agg #[.int .i64 v, .slice An l.length cn], .int .i64 0]) (by simp [results, Tryz.results24, go_sem, z0, z1, zf0, zf1, World.cell?_setCell_same, World.cell?_setCell_other]; try rfl) rfl ⟨v, l, _, true, rfl, ?_, ?_, Or.inl ⟨rfl, Hc.out, (fun m hm i hi => (Hsh.out m hm).fit i hi), ?_⟩⟩
                · exact ((hN.below' hb6).far hNz.out _).far hNz.out _
                · exact (hB6.setCell (Nat.le_refl _) _).setCell (Nat.le_refl _) _
                · rw [Hs.out]; simp
              · have hn0 : (chk v l != 0) = true := by simp [hc]
                have Hc := hide hc
                clear hc
                generalize hgz : chk v l = cz at *
                have Hgz := hide hgz
                clear hgz
                go_wp2_with fail
                refine Calls.mono HK.out ?_
                rintro e w6 ⟨rfl, hb6⟩
                have hZ6 := hZ.below hb6 hZ.lt
                have hB6 := hB.trans (hb6.mono hB.size)
                clear hZ
                have z0 := hZ6.cell 0
                have z1 := hZ6.cell 1
                have zf0 := hZ6.frozen 0
                have zf1 := hZ6.frozen 1
                have lZ := hZ6.lt
                simp only [Yl] at z0 z1
                go_wp2_with fail
                refine bodyPost_ret (v := .tuple #[.agg #[.int .i64 0, .slice none 0 0], .int .i64 1]) (by simp [results, Tryz.results24, go_sem, z0, z1, zf0, zf1, World.cell?_setCell_same, World.cell?_setCell_other]; try rfl) rfl ⟨0, [], _, false, rfl, NRow.nil_ _ _ _, ?_, Or.inr ⟨rfl, rfl, rfl, ?_⟩⟩
                · exact (hB6.setCell (Nat.le_refl _) _).setCell (Nat.le_refl _) _
                exact no_chk Hs.out Hsh.out (Or.inl ⟨rfl, by rw [Hgz.out]; exact Hc.out⟩)
            · have he : rt.isEmpty = false := by simpa using hrt
              have Hrt := hide hrt
              clear hrt
              by_cases hl6 : l.length ≤ 256
              · have d1 : decide ((l.length : Int) ≤ 256) = true := decide_eq_true (by omega)
                have HC := hide (Cut_b rt hrl wr hT)
                go_wp2_with fail
                refine Calls.mono HC.out ?_
                rintro e w4 ⟨ln, rt', is, rfl, hb4, hC⟩
                have hll : ln.length ≤ 4294967280 ∧ rt'.length ≤ 4294967280 := by
                  rcases hC with ⟨_, h, _⟩ | ⟨_, _, h1, h2⟩
                  · have := congrArg List.length h
                    simp at this
                    omega
                  · rw [h1, h2]; simp; omega
                have HCc := hide hC
                have hS4 := hide (And.intro (hN.below' hb4) (And.intro (hP.below hb4 hP.lt) (And.intro (hT.below hb4) (And.intro (hM.below hb4) (And.intro (hZ.below hb4 hZ.lt) (hB.trans (hb4.mono hB.size)))))))
                clear HC hC hN hP hT hM hZ hB hb4 p0 p1 lP
                have HNd := hide (node_any ln hll.1 (w.heap.size + 1) w4 hS4.out.2.2.1 hS4.out.2.2.2.1)
                go_wp2_with fail
                refine Calls.mono HNd.out ?_
                rintro e w5 ⟨x, ok, rfl, hb5, hx⟩
                go_upto_region 17 with fail
                obtain ⟨hN4, hP4, hT4, hM4, hZ4, hB4⟩ := hS4.out
                have hb5 : Below w4.heap.size w4 (w5.alloc (.cells #[.int .i64 x.op, .int .i64 x.d, .int .i64 x.a, .int .i64 x.b, .int .i64 x.t, .int .i64 x.e] 44)) := hb5.alloc hb5.size _
                have hX5 := Blk.new w5 44 #[.int .i64 x.op, .int .i64 x.d, .int .i64 x.a, .int .i64 x.b, .int .i64 x.t, .int .i64 x.e]
                generalize w5.alloc (.cells #[.int .i64 x.op, .int .i64 x.d, .int .i64 x.a, .int .i64 x.b, .int .i64 x.t, .int .i64 x.e] 44) = w6 at *
                generalize w5.heap.size = gx at *
                have hN6 := hN4.below' hb5
                have hP6 := hP4.below hb5 hP4.lt
                have hT6 := hT4.below hb5
                have hM6 := hM4.below hb5
                have hZ6 := hZ4.below hb5 hZ4.lt
                have hB6 := hB4.trans (hb5.mono hB4.size)
                have Hx := hide hx
                clear hx hN4 hP4 hT4 hM4 hZ4 hB4 hb5 hS4 HNd
                cases is with
                | false =>
                  clear hT6 hM6 hN6
                  have z0 := hZ6.cell 0
                  have z1 := hZ6.cell 1
                  have zf0 := hZ6.frozen 0
                  have zf1 := hZ6.frozen 1
                  have lZ := hZ6.lt
                  simp only [Yl] at z0 z1
                  go_wp2_with fail
                  refine bodyPost_ret (v := .tuple #[.agg #[.int .i64 0, .slice none 0 0], .int .i64 1]) (by simp [results, Tryz.results24, go_sem, z0, z1, zf0, zf1, World.cell?_setCell_same, World.cell?_setCell_other]; try rfl) rfl ⟨0, [], _, false, rfl, NRow.nil_ _ _ _, ?_, Or.inr ⟨rfl, rfl, rfl, ?_⟩⟩
                  · exact (hB6.setCell (Nat.le_refl _) _).setCell (Nat.le_refl _) _
                  refine no_rest Hs.out Hsh.out Hrt.out fun m t hm e => ?_
                  rcases HCc.out with ⟨h1, _⟩ | ⟨_, h1, _⟩
                  · cases h1
                  · exact h1 (by rw [e]; simp)
                | true =>
                  have hCt : rt = ln ++ 10 :: rt' ∧ 10 ∉ ln := by
                    rcases HCc.out with ⟨_, h1⟩ | ⟨h1, _⟩
                    · exact h1
                    · cases h1
                  have HCt := hide hCt
                  clear hCt
                  cases ok with
                  | false =>
                    clear hT6 hM6 hN6
                    have z0 := hZ6.cell 0
                    have z1 := hZ6.cell 1
                    have zf0 := hZ6.frozen 0
                    have zf1 := hZ6.frozen 1
                    have lZ := hZ6.lt
                    simp only [Yl] at z0 z1
                    go_wp2_with fail
                    refine bodyPost_ret (v := .tuple #[.agg #[.int .i64 0, .slice none 0 0], .int .i64 1]) (by simp [results, Tryz.results24, go_sem, z0, z1, zf0, zf1, World.cell?_setCell_same, World.cell?_setCell_other]; try rfl) rfl ⟨0, [], _, false, rfl, NRow.nil_ _ _ _, ?_, Or.inr ⟨rfl, rfl, rfl, ?_⟩⟩
                    · exact (hB6.setCell (Nat.le_refl _) _).setCell (Nat.le_refl _) _
                    refine no_rest Hs.out Hsh.out Hrt.out fun m t hm e => ?_
                    rw [HCt.out.1] at e
                    obtain ⟨e1, _⟩ := head_inj HCt.out.2 (node_clean hm.op) e
                    rcases Hx.out with ⟨h1, _⟩ | ⟨_, h1⟩
                    · cases h1
                    · exact h1 m hm e1
                  | true =>
                    have hxs : Shaped x ∧ ln = nodeL x := by
                      rcases Hx.out with ⟨_, h1⟩ | ⟨h1, _⟩
                      · exact h1
                      · cases h1
                    have Hxs := hide hxs
                    clear hxs
                    have p1 := hP6.cell 1
                    have x0 := hX5.cell 0
                    have x1 := hX5.cell 1
                    have x2 := hX5.cell 2
                    have x3 := hX5.cell 3
                    have x4 := hX5.cell 4
                    have x5 := hX5.cell 5
                    simp only [Yl] at p1 x0 x1 x2 x3 x4 x5
                    go_wp2_with (at_builtin; refine wpList_append_nodes (v := .slice An l.length cn) (l := l) (base := w.heap.size) rfl _ _ _ rfl i3 _ 48 Tryz.underlying22 h3i h3z h3s h3b rfl rfl (hN6.alloc _) (some ⟨w6.heap.size, 0, none⟩) 1 1 [x] rfl rfl (nodes_one' rfl) (by simp [maxLen] <;> omega) (by simp <;> omega) (by have := hB6.size; simp <;> omega) ?_; intro v9 w9 hr9 hg9 hat9; obtain ⟨A9, c9, hv9, _, _⟩ := hr9.shape; subst hv9; simp only [List.length_append, List.length_singleton] at hr9 hat9 ⊢; have hP9 := Blk.grown (hP6.alloc (.cells #[.int .i64 x.op, .int .i64 x.d, .int .i64 x.a, .int .i64 x.b, .int .i64 x.t, .int .i64 x.e] 44)) hg9 (hN6.ne_blk hP6 (by decide)); have q0 := hP9.cell 0; have q1 := hP9.cell 1; have qf := hP9.frozen 1; simp only [Yl] at q0 q1)
                    have hZ9 := Blk.grown (hZ6.alloc (.cells #[.int .i64 x.op, .int .i64 x.d, .int .i64 x.a, .int .i64 x.b, .int .i64 x.t, .int .i64 x.e] 44)) hg9 (hN6.ne_blk hZ6 (by decide))
                    have hM9 := OpsM.grown (hM6.alloc (.cells #[.int .i64 x.op, .int .i64 x.d, .int .i64 x.a, .int .i64 x.b, .int .i64 x.t, .int .i64 x.e] 44)) hg9 (hM6.ne_row hN6)
                    have hB9 : Below w.heap.size w w9 := Below.grown (hB6.alloc hB6.size (.cells #[.int .i64 x.op, .int .i64 x.d, .int .i64 x.a, .int .i64 x.b, .int .i64 x.t, .int .i64 x.e] 44)) hg9 (by have := hB6.size; simp; omega) (fun q hq => (hN6.lt q hq).1)
                    have hB10 := hB9.setCell (p := ⟨gp, 1, none⟩) (by simp only; omega) (.slice A9 (l.length + 1) c9)
                    have e1 : (l ++ [x]).length = l.length + 1 := by simp
                    go_roundg (257 - (l.length + 1))
                    case measure => have := Hgk.out; omega
                    case rel => exact ⟨l ++ [x], _, rt', rfl, by rw [e1], by rw [e1]; omega, hll.2, by rw [Hs.out, HCt.out.1, Hxs.out.2, showL_next], (fun m hm => by rcases List.mem_append.1 hm with h1 | h1; exact Hsh.out m h1; rw [List.mem_singleton.1 h1]; exact Hxs.out.1), hr9.far (hr9.ne_blk hP9 (by decide)) _, hP9.set_ 1 _, HT0.out.below hB10, hM9.far (by simp only; omega) _, hZ9.far (by simp only; omega) _, hB10⟩
              · have d1 : decide ((l.length : Int) ≤ 256) = false := decide_eq_false (by omega)
                have hcn : chk v l ≠ 0 := fun e => by have := (chk_small e).2.1; omega
                have HK := hide (Check_any v An l cn wr (by unfold maxLen; omega) hN.nodes)
                have hc := hcn
                clear hcn
                · have hn0 : (chk v l != 0) = true := by simp [hc]
                  have Hc := hide hc
                  clear hc
                  generalize hgz : chk v l = cz at *
                  have Hgz := hide hgz
                  clear hgz
                  go_wp2_with fail
                  refine Calls.mono HK.out ?_
                  rintro e w6 ⟨rfl, hb6⟩
                  have hZ6 := hZ.below hb6 hZ.lt
                  have hB6 := hB.trans (hb6.mono hB.size)
                  clear hZ
                  have z0 := hZ6.cell 0
                  have z1 := hZ6.cell 1
                  have zf0 := hZ6.frozen 0
                  have zf1 := hZ6.frozen 1
                  have lZ := hZ6.lt
                  simp only [Yl] at z0 z1
                  go_wp2_with fail
                  refine bodyPost_ret (v := .tuple #[.agg #[.int .i64 0, .slice none 0 0], .int .i64 1]) (by simp [results, Tryz.results24, go_sem, z0, z1, zf0, zf1, World.cell?_setCell_same, World.cell?_setCell_other]; try rfl) rfl ⟨0, [], _, false, rfl, NRow.nil_ _ _ _, ?_, Or.inr ⟨rfl, rfl, rfl, ?_⟩⟩
                  · exact (hB6.setCell (Nat.le_refl _) _).setCell (Nat.le_refl _) _
                  exact no_chk Hs.out Hsh.out (Or.inr (by omega))
end
section
open Go.RowKit
set_option maxHeartbeats 16000000
def OptIs (s : List UInt8) (ns : List Int) (t : List UInt8) (code : Int) : Prop :=
  (NoText s ∧ code = 1 ∧ t = []) ∨ (∃ r l c r' l', chk r l = 0 ∧ Fit l ∧ s = showL r l ∧ PassesIs r l ns c r' l' ∧ ((c ≠ 0 ∧ code = c ∧ t = []) ∨ (c = 0 ∧ code = 0 ∧ t = showL r' l' ∧ chk r' l' = 0 ∧ Fit l')))
def OptPost (s : List UInt8) (ns : List Int) (w : World) (e : Ending) (w' : World) : Prop :=
  ∃ t code, e = .returned (.tuple #[strB t, .int .i64 code]) ∧ Below w.heap.size w w' ∧ OptIs s ns t code
theorem PassesIs.fine {r : Int} {l : List Nd} {ns : List Int} {r' : Int} {l' : List Nd} (h : PassesIs r l ns 0 r' l') (hf : Fit l) : Right r l ∧ (∀ n ∈ ns, 1 ≤ n ∧ n ≤ 4) ∧ Psq ns r l 0 r' l' ∧ Right r' l' ∧ Fit l' := by
  rcases h with ⟨a, b, _⟩ | ⟨_, _, b, _⟩ | ⟨_, _, _, b, _⟩ | ⟨a, _, b, c⟩
  · exact absurd b.symm a
  · cases b
  · cases b
  · have hR := right_of_chk a
    have hR' := c.right rfl hR
    exact ⟨hR, b, c, hR', fit_of hR' (c.ao rfl hR (fit_ao hf))⟩
set_option maxRecDepth 100000 in
theorem Optimise_any (s : List UInt8) (hs : s.length ≤ 4294967280) (S : Option Addr) (ns : List Int) (ci : Nat) (w : World) (hI : ValsAt w S (ints ns)) (hnl : ns.length ≤ maxLen) (hwf : ∀ n ∈ ns, (Lit.int .i64 n).wf = true) (hT : Tv w) :
    Calls Tryz.prog 23 #[strB s, .slice S ns.length ci] w (OptPost s ns w) := by
  have HR := hide (Read_any s hs w hT)
  go_enter Tryz.func23, Tryz.ntmps23
  go_wp2_with fail
  refine Calls.mono HR.out ?_
  rintro e w1 ⟨regs, l, v, ok, rfl, hN1, hb1, hg⟩
  obtain ⟨A1, c1, rfl, _, hc1⟩ := hN1.shape
  have Hg := hide hg
  clear HR hg
  cases ok with
  | false =>
    rw [if_neg (by simp)]
    have hno : NoText s := by
      rcases Hg.out with ⟨h, _⟩ | ⟨_, _, _, h⟩
      · cases h
      · exact h
    have Hno := hide hno
    clear hno
    go_wp2_with fail
    go_ret2
    exact ⟨[], 1, rfl, hb1.alloc hb1.size _, .inl ⟨Hno.out, rfl, rfl⟩⟩
  | true =>
    rw [if_pos rfl]
    obtain ⟨hc, hf, hsh⟩ : chk regs l = 0 ∧ Fit l ∧ s = showL regs l := by
      rcases Hg.out with ⟨_, h1, h2, h3⟩ | ⟨h, _⟩
      · exact ⟨h1, h2, h3⟩
      · cases h
    have hB2 : Below w.heap.size w (w1.alloc (.cells #[.int .i64 regs, .slice A1 l.length c1] 24)) := hb1.alloc hb1.size _
    have hQ2 := Blk.new w1 24 #[.int .i64 regs, .slice A1 l.length c1]
    have hN2 := hN1.alloc (.cells #[.int .i64 regs, .slice A1 l.length c1] 24)
    have HP := hide (Passes_any regs A1 l c1 S ns ci _ hN2.nodes (by unfold maxLen; have := (right_of_chk hc).hi; omega) (hI.below hB2) hnl hwf)
    have q0 := hQ2.cell 0
    have q1 := hQ2.cell 1
    simp only [Yl] at q0 q1
    have Hc := hide hc
    have Hf := hide hf
    have Hsh := hide hsh
    clear hc hf hsh hN1 hb1
    go_wp2_with fail
    refine Calls.mono HP.out ?_
    rintro e w3 ⟨c, r', l', v', rfl, hp, hN3, hb3⟩
    obtain ⟨A3, c3, rfl, _, hc3⟩ := hN3.shape
    have hB3 := hB2.trans (hb3.mono hB2.size)
    have Hp := hide hp
    clear HP hp hQ2 hN2 hb3 hB2 q0 q1
    by_cases hc0 : c = 0
    · subst hc0
      obtain ⟨hR, hin, hps, hR', hF'⟩ := Hp.out.fine Hf.out
      have hB4 : Below w.heap.size w (w3.alloc (.cells #[.int .i64 r', .slice A3 l'.length c3] 24)) := hB3.alloc hB3.size _
      have hQ4 := Blk.new w3 24 #[.int .i64 r', .slice A3 l'.length c3]
      have hN4 := hN3.alloc (.cells #[.int .i64 r', .slice A3 l'.length c3] 24)
      have HS := hide (Show_ok r' A3 l' c3 _ (by unfold maxLen; have := hR'.hi; omega) hN4.nodes hR'.chk (hT.below hB4) hF')
      have q0 := hQ4.cell 0
      have q1 := hQ4.cell 1
      simp only [Yl] at q0 q1
      have HF' := hide hF'
      have HR' := hide hR'
      clear hR hin hps hR' hF' hN3 hN4 hQ4
      go_wp2_with fail
      refine Calls.mono HS.out ?_
      rintro e w5 ⟨rfl, hb5⟩
      go_wp2_with fail
      go_ret2
      exact ⟨_, 0, rfl, hB4.trans (hb5.mono hB4.size), .inr ⟨regs, l, 0, r', l', Hc.out, Hf.out, Hsh.out, Hp.out, .inr ⟨rfl, rfl, rfl, HR'.out.chk, HF'.out⟩⟩⟩
    · have hne : (c != 0) = true := by simp [hc0]
      have Hc0 := hide hc0
      clear hc0
      go_wp2_with fail
      go_ret2
      exact ⟨[], c, rfl, hB3.alloc hB3.size _, .inr ⟨regs, l, c, r', l', Hc.out, Hf.out, Hsh.out, Hp.out, .inl ⟨Hc0.out, rfl, rfl⟩⟩⟩
end
section
open Go.RowKit
set_option maxHeartbeats 4000000
open Go.Lib
end
section
open Go.RowKit
set_option maxHeartbeats 8000000
open Go.Lib
end
section
open Go.RowKit
set_option maxHeartbeats 8000000
open Go.Lib
theorem small_chk : chk 3 smallL = 0 := by decide
theorem small_fit : Fit smallL := by
  have h : smallL.all (fun n => decide (-9223372036854775808 ≤ n.op ∧ n.op ≤ 9223372036854775807) && decide (-9223372036854775808 ≤ n.d ∧ n.d ≤ 9223372036854775807) && decide (-9223372036854775808 ≤ n.a ∧ n.a ≤ 9223372036854775807) && decide (-9223372036854775808 ≤ n.b ∧ n.b ≤ 9223372036854775807) && decide (-9223372036854775808 ≤ n.t ∧ n.t ≤ 9223372036854775807) && decide (-9223372036854775808 ≤ n.e ∧ n.e ≤ 9223372036854775807)) = true := by decide
  intro n hn i hi
  have := List.all_eq_true.1 h n hn
  simp only [Bool.and_eq_true, decide_eq_true_eq] at this
  rcases i with _ | _ | _ | _ | _ | _ | i <;> first | exact this.1.1.1.1.1 | exact this.1.1.1.1.2 | exact this.1.1.1.2 | exact this.1.1.2 | exact this.1.2 | exact this.2 | omega
theorem itoa_d {k : Nat} (h : k < 10) : itoa (k : Int) = [UInt8.ofNat (48 + k)] := by
  rw [itoa_split, if_neg (by omega), List.nil_append, Int.natAbs_natCast, dec_small h]
theorem small_text : showL 3 smallL = [114, 101, 103, 115, 32, 51, 10, 105, 110, 32, 48, 32, 116, 111, 32, 49, 10, 105, 110, 32, 49, 32, 116, 111, 32, 50, 10, 105, 102, 32, 48, 32, 116, 111, 32, 51, 32, 101, 108, 115, 101, 32, 53, 10, 97, 100, 100, 32, 50, 32, 48, 32, 49, 32, 116, 111, 32, 52, 10, 111, 117, 116, 32, 50, 32, 116, 111, 32, 53, 10, 97, 100, 100, 32, 50, 32, 48, 32, 49, 32, 116, 111, 32, 54, 10, 101, 110, 100, 32, 50, 10] := by
  have h0 : itoa 0 = [48] := itoa_d (k := 0) (by omega)
  have h1 : itoa 1 = [49] := itoa_d (k := 1) (by omega)
  have h2 : itoa 2 = [50] := itoa_d (k := 2) (by omega)
  have h3 : itoa 3 = [51] := itoa_d (k := 3) (by omega)
  have h4 : itoa 4 = [52] := itoa_d (k := 4) (by omega)
  have h5 : itoa 5 = [53] := itoa_d (k := 5) (by omega)
  have h6 : itoa 6 = [54] := itoa_d (k := 6) (by omega)
  simp [showL, linesL, smallL, lineL, nodeL, wordsL, partsL, partW, joinB, Nd.fld, regsW, toW, elseW, opW, opNames, h0, h1, h2, h3, h4, h5, h6]
theorem small_len : (showL 3 smallL).length ≤ 4294967280 := by
  rw [small_text]
  decide
end
section
open Go.RowKit
theorem Run_any (regs : Int) (A : Option Addr) (l : List Nd) (cap : Nat) (Ai : Option Addr) (inp : List Int) (ci : Nat) (fuel : Int) (w : World) (hl : l.length ≤ maxLen) (hA : NodesAt w A l) (hI : ValsAt w Ai (ints inp)) (hic : inp.length ≤ ci ∧ ci ≤ maxLen) :
 Calls Tryz.prog 8 #[.agg #[.int .i64 regs, .slice A l.length cap], .slice Ai inp.length ci, .int .i64 fuel] w (RunPost 3 66 regs l inp fuel w) := by (
 by_cases h0 : chk regs l = 0
 · (
 by_cases h1 : 256 < inp.length
 · exact Run_err2 regs A l cap Ai inp ci fuel w hl hA h0 h1
 · (
 by_cases h2 : fuel < 0
 · exact Run_err3a regs A l cap Ai inp ci fuel w hl hA h0 (by omega) h2
 · (
 by_cases h3 : 131072 < fuel
 · exact Run_err3b regs A l cap Ai inp ci fuel w hl hA h0 (by omega) h3
 · exact Run_ok regs A l cap Ai inp ci fuel w hl hA hI hic h0 (by omega) (by omega) (by omega))))
 · exact Run_err1 regs A l cap Ai inp ci fuel w hl hA h0)
end
section
open Go.RowKit
set_option maxHeartbeats 8000000
attribute [local irreducible] Row CRow madeCells
theorem vals_lit_ {w : World} {cs : Array Value} {t : TypeId} {g : Nat} {xs : List Value} (h : g = w.heap.size) (hc : cs = xs.toArray) : ValsAt (w.alloc (.cells cs t)) (some ⟨g, 0, none⟩) xs := by (
 subst hc
 have hb := Blk.new' (w := w) (t := t) (cs := xs.toArray) h
 refine ValsAt.mk hb.lt fun i v hi => ?_
 rw [Nat.zero_add, hb.cell]
 simpa using hi)
theorem sumL_any (w : World) : Calls Tryz.prog 27 #[] w fun e w' => e = .returned (.agg #[.int .i64 3, .int .i64 0, .int .i64 1]) ∧ Below w.heap.size w w' := by (
 go_enter Tryz.func27, Tryz.ntmps27
 go_wp2
 refine bodyPost_ret (v := .agg #[.int .i64 3, .int .i64 0, .int .i64 1]) (by simp [results, Tryz.results27, go_sem]) rfl ⟨rfl, (by (with_reducible repeat first | apply Qa | assumption | apply Qb | apply Qc | apply Qd | apply Qe | refine Qf ?_ (by assumption) ?_); all_goals (try simp only [Sz]); first | done | omega | (try simp only [Sz] at *); omega)⟩)
end
end Go.Proofs.YtmghkonmfbpjcaaGreatDoor
