/- The reference's names and line. -/
import Derived.Test.YtmghkonmfbpjcabDoorTxD
import Derived.Test.YtmghkonmfbpjcabDoorOps
import Derived.Test.YtmghkonmfbpjcabDoorTab
import Derived.Deep.DeepCutAuto
import Derived.Deep.RegionWith
import Derived.RegionTactic
namespace Go.Proofs.YtmghkonmfbpjcabDoor
set_option linter.unusedVariables false
set_option linter.unusedSimpArgs false
open Go.RowKit
set_option maxHeartbeats 4000000
open Go.Lib

/-- the names as cells -/
def namesV : Array Value := #[.string ⟨#[115, 107, 105, 112]⟩, .string ⟨#[115, 101, 116]⟩, .string ⟨#[99, 111, 112, 121]⟩, .string ⟨#[97, 100, 100]⟩, .string ⟨#[115, 117, 98]⟩, .string ⟨#[109, 117, 108]⟩, .string ⟨#[97, 110, 100]⟩, .string ⟨#[120, 111, 114]⟩, .string ⟨#[108, 101, 115, 115]⟩, .string ⟨#[105, 110]⟩, .string ⟨#[111, 117, 116]⟩, .string ⟨#[105, 102]⟩, .string ⟨#[101, 110, 100]⟩]
set_option maxRecDepth 100000 in
theorem Rnames_any (w : World) : Calls Tryd.prog 66 #[] w fun e w' => e = .returned (.slice (some ⟨w.heap.size, 0, none⟩) 13 13) ∧ w' = w.alloc (.cells namesV 9) := by
  go_enter Tryd.func66, Tryd.ntmps66
  go_wp2_with fail
  go_ret
  exact ⟨rfl, rfl⟩
theorem name_cell {w w' : World} (h : w' = w.alloc (.cells namesV 9)) (k : Nat) (ho : k < 13) : w'.cell? ⟨w.heap.size, k, none⟩ = some (strB (opW (k : Int))) := by
  subst h
  rw [(Blk.new w 9 namesV).cell]
  have key : ∀ i : Fin 13, namesV[i.val]? = some (strB (opNames.getD i.val [])) := by
    intro ⟨i, hi⟩
    rcases i with _ | _ | _ | _ | _ | _ | _ | _ | _ | _ | _ | _ | _ | i <;> first | rfl | omega
  exact key ⟨k, ho⟩
theorem opW_len (op : Int) : (opW op).length ≤ 4 := by
  unfold opW
  by_cases h : op.toNat < 13
  · have key : ∀ i : Fin 13, (opNames.getD i.val []).length ≤ 4 := by decide
    exact key ⟨op.toNat, h⟩
  · rw [List.getD_eq_getElem?_getD, List.getElem?_eq_none (by simp [opNames]; omega)]
    simp
set_option maxRecDepth 100000 in
theorem line_0 (k : Nat) (op d a b t e : Int) (w : World) (hk : (k : Int) = op) (ho : k < 13) (hd : hasD op = false) (ha : hasA op = false) (hb : hasB op = false) (ht : hasT op = true) (he : hasE op = false) (h1 : (op == 1) = false) (hp : partsL op = [(toW, 4)]) (fit : ∀ i, i < 6 → i64ok ((⟨op, d, a, b, t, e⟩ : Nd).fld i)) :
    Calls Tryd.prog 41 #[.agg #[.int .i64 op, .int .i64 d, .int .i64 a, .int .i64 b, .int .i64 t, .int .i64 e]] w fun x w' => x = .returned (strB (lineL ⟨op, d, a, b, t, e⟩)) ∧ Below w.heap.size w w' := by
  have D1 := fun W => hide (Digits_any _ d W (Nat.le_refl _) (fit 1 (by omega)))
  have D2 := fun W => hide (Digits_any _ a W (Nat.le_refl _) (fit 2 (by omega)))
  have D3 := fun W => hide (Digits_any _ b W (Nat.le_refl _) (fit 3 (by omega)))
  have D4 := fun W => hide (Digits_any _ t W (Nat.le_refl _) (fit 4 (by omega)))
  have D5 := fun W => hide (Digits_any _ e W (Nat.le_refl _) (fit 5 (by omega)))
  have L0 := opW_len op
  have L1 := itoa_length_le d (fit 1 (by omega)).1 (fit 1 (by omega)).2
  have L2 := itoa_length_le a (fit 2 (by omega)).1 (fit 2 (by omega)).2
  have L3 := itoa_length_le b (fit 3 (by omega)).1 (fit 3 (by omega)).2
  have L4 := itoa_length_le t (fit 4 (by omega)).1 (fit 4 (by omega)).2
  have L5 := itoa_length_le e (fit 5 (by omega)).1 (fit 5 (by omega)).2
  have hF := fields_any op
  rw [hd, ha, hb, ht, he] at hF
  have HF := fun W => hide (hF W)
  have EQ : (⟨(opW op).toArray⟩ : ByteArray)++ ⟨#[32, 116, 111, 32]⟩ ++ ⟨(itoa t).toArray⟩ ++ ⟨#[10]⟩ = ⟨(lineL ⟨op, d, a, b, t, e⟩).toArray⟩ := by
    apply ByteArray.ext
    simp [lineL, nodeL, wordsL, hp, partW, Nd.fld, joinB, toW, elseW]
  have EQ := hide EQ
  clear hF hd ha hb ht he hp fit
  subst hk
  go_enter Tryd.func41, Tryd.ntmps41
  go_upto_region 2 with (go_at_call 39; refine ((HF _).out).mono ?_; rintro e w' ⟨rfl, rfl⟩)
  go_cut [8] (fun s8 wx => s8 = strB (opW (k : Int)) ∧ Blk wx w.heap.size 55 #[.int .i64 (k : Int), .int .i64 d, .int .i64 a, .int .i64 b, .int .i64 t, .int .i64 e] ∧ Below w.heap.size w wx)
  case first =>
    clear EQ D1 D2 D3 D4 D5 HF
    go_region_with (go_at_call 66; refine (Rnames_any _).mono ?_; rintro e w3 ⟨rfl, hw3⟩; have hb3 : Below (w.heap.size + 1) (w.alloc (.cells #[.int .i64 (k : Int), .int .i64 d, .int .i64 a, .int .i64 b, .int .i64 t, .int .i64 e] 55)) w3 := (by rw [hw3]; exact ((Below.refl _ _).drew).alloc (by simp) _); have hN3 := Blk.below (Blk.new w 55 #[.int .i64 (k : Int), .int .i64 d, .int .i64 a, .int .i64 b, .int .i64 t, .int .i64 e]) hb3 (Nat.lt_succ_self _); have c0 := hN3.cell 0; have c1 := name_cell hw3 k ho; simp only [List.getElem?_toArray, List.getElem?_cons_zero, World.size_alloc, World.size_drew] at c0 c1; have l3 := hN3.lt; clear hw3)
    all_goals (go_wp2_with fail)
    all_goals go_meet
    all_goals exact ⟨rfl, hN3, ((Below.refl _ _).alloc (Nat.le_refl _) _).trans (hb3.mono (Nat.le_succ _))⟩
  case rest =>
    obtain ⟨rfl, hN, hB⟩ := hcut
    generalize hso : opW (k : Int) = so at L0 EQ ⊢
    generalize hsd : itoa d = sd at L1 EQ D1 ⊢
    generalize hsa : itoa a = sa at L2 EQ D2 ⊢
    generalize hsb : itoa b = sb at L3 EQ D3 ⊢
    generalize hst : itoa t = st at L4 EQ D4 ⊢
    generalize hse : itoa e = se at L5 EQ D5 ⊢
    clear hso hsd hsa hsb hst hse
    have c0 := hN.cell 0
    have c1 := hN.cell 1
    have c2 := hN.cell 2
    have c3 := hN.cell 3
    have c4 := hN.cell 4
    have c5 := hN.cell 5
    have l0 := hN.lt
    have lL := l0
    simp only [List.getElem?_toArray, List.getElem?_cons_zero, List.getElem?_cons_succ] at c0 c1 c2 c3 c4 c5
    go_wp2_with fail
    (refine ((D4 _).out).mono ?_; rintro x w4 ⟨rfl, hb4⟩; obtain ⟨hc4, hf4⟩ := bcell hb4; have hz4 := hb4.size; replace lL := Nat.lt_of_lt_of_le lL hz4; have l4 := lL; replace hB := hB.trans (hb4.mono hB.size); go_wp2_with fail)
    skip
    skip
    skip
    go_ret
    exact ⟨congrArg (fun z => Ending.returned (.string z)) EQ.out, hB⟩
set_option maxRecDepth 100000 in
theorem line_1 (k : Nat) (op d a b t e : Int) (w : World) (hk : (k : Int) = op) (ho : k < 13) (hd : hasD op = true) (ha : hasA op = false) (hb : hasB op = false) (ht : hasT op = true) (he : hasE op = false) (h1 : (op == 1) = true) (hp : partsL op = [([], 1), ([], 2), (toW, 4)]) (fit : ∀ i, i < 6 → i64ok ((⟨op, d, a, b, t, e⟩ : Nd).fld i)) :
    Calls Tryd.prog 41 #[.agg #[.int .i64 op, .int .i64 d, .int .i64 a, .int .i64 b, .int .i64 t, .int .i64 e]] w fun x w' => x = .returned (strB (lineL ⟨op, d, a, b, t, e⟩)) ∧ Below w.heap.size w w' := by
  have D1 := fun W => hide (Digits_any _ d W (Nat.le_refl _) (fit 1 (by omega)))
  have D2 := fun W => hide (Digits_any _ a W (Nat.le_refl _) (fit 2 (by omega)))
  have D3 := fun W => hide (Digits_any _ b W (Nat.le_refl _) (fit 3 (by omega)))
  have D4 := fun W => hide (Digits_any _ t W (Nat.le_refl _) (fit 4 (by omega)))
  have D5 := fun W => hide (Digits_any _ e W (Nat.le_refl _) (fit 5 (by omega)))
  have L0 := opW_len op
  have L1 := itoa_length_le d (fit 1 (by omega)).1 (fit 1 (by omega)).2
  have L2 := itoa_length_le a (fit 2 (by omega)).1 (fit 2 (by omega)).2
  have L3 := itoa_length_le b (fit 3 (by omega)).1 (fit 3 (by omega)).2
  have L4 := itoa_length_le t (fit 4 (by omega)).1 (fit 4 (by omega)).2
  have L5 := itoa_length_le e (fit 5 (by omega)).1 (fit 5 (by omega)).2
  have hF := fields_any op
  rw [hd, ha, hb, ht, he] at hF
  have HF := fun W => hide (hF W)
  have EQ : (⟨(opW op).toArray⟩ : ByteArray)++ ⟨#[32]⟩ ++ ⟨(itoa d).toArray⟩ ++ ⟨#[32]⟩ ++ ⟨(itoa a).toArray⟩ ++ ⟨#[32, 116, 111, 32]⟩ ++ ⟨(itoa t).toArray⟩ ++ ⟨#[10]⟩ = ⟨(lineL ⟨op, d, a, b, t, e⟩).toArray⟩ := by
    apply ByteArray.ext
    simp [lineL, nodeL, wordsL, hp, partW, Nd.fld, joinB, toW, elseW]
  have EQ := hide EQ
  clear hF hd ha hb ht he hp fit
  subst hk
  go_enter Tryd.func41, Tryd.ntmps41
  go_upto_region 2 with (go_at_call 39; refine ((HF _).out).mono ?_; rintro e w' ⟨rfl, rfl⟩)
  go_cut [8] (fun s8 wx => s8 = strB (opW (k : Int)) ∧ Blk wx w.heap.size 55 #[.int .i64 (k : Int), .int .i64 d, .int .i64 a, .int .i64 b, .int .i64 t, .int .i64 e] ∧ Below w.heap.size w wx)
  case first =>
    clear EQ D1 D2 D3 D4 D5 HF
    go_region_with (go_at_call 66; refine (Rnames_any _).mono ?_; rintro e w3 ⟨rfl, hw3⟩; have hb3 : Below (w.heap.size + 1) (w.alloc (.cells #[.int .i64 (k : Int), .int .i64 d, .int .i64 a, .int .i64 b, .int .i64 t, .int .i64 e] 55)) w3 := (by rw [hw3]; exact ((Below.refl _ _).drew).alloc (by simp) _); have hN3 := Blk.below (Blk.new w 55 #[.int .i64 (k : Int), .int .i64 d, .int .i64 a, .int .i64 b, .int .i64 t, .int .i64 e]) hb3 (Nat.lt_succ_self _); have c0 := hN3.cell 0; have c1 := name_cell hw3 k ho; simp only [List.getElem?_toArray, List.getElem?_cons_zero, World.size_alloc, World.size_drew] at c0 c1; have l3 := hN3.lt; clear hw3)
    all_goals (go_wp2_with fail)
    all_goals go_meet
    all_goals exact ⟨rfl, hN3, ((Below.refl _ _).alloc (Nat.le_refl _) _).trans (hb3.mono (Nat.le_succ _))⟩
  case rest =>
    obtain ⟨rfl, hN, hB⟩ := hcut
    generalize hso : opW (k : Int) = so at L0 EQ ⊢
    generalize hsd : itoa d = sd at L1 EQ D1 ⊢
    generalize hsa : itoa a = sa at L2 EQ D2 ⊢
    generalize hsb : itoa b = sb at L3 EQ D3 ⊢
    generalize hst : itoa t = st at L4 EQ D4 ⊢
    generalize hse : itoa e = se at L5 EQ D5 ⊢
    clear hso hsd hsa hsb hst hse
    have c0 := hN.cell 0
    have c1 := hN.cell 1
    have c2 := hN.cell 2
    have c3 := hN.cell 3
    have c4 := hN.cell 4
    have c5 := hN.cell 5
    have l0 := hN.lt
    have lL := l0
    simp only [List.getElem?_toArray, List.getElem?_cons_zero, List.getElem?_cons_succ] at c0 c1 c2 c3 c4 c5
    go_wp2_with fail
    (refine ((D1 _).out).mono ?_; rintro x w1 ⟨rfl, hb1⟩; obtain ⟨hc1, hf1⟩ := bcell hb1; have hz1 := hb1.size; replace lL := Nat.lt_of_lt_of_le lL hz1; have l1 := lL; replace hB := hB.trans (hb1.mono hB.size); go_wp2_with fail)
    (refine ((D2 _).out).mono ?_; rintro x w2 ⟨rfl, hb2⟩; obtain ⟨hc2, hf2⟩ := bcell hb2; have hz2 := hb2.size; replace lL := Nat.lt_of_lt_of_le lL hz2; have l2 := lL; replace hB := hB.trans (hb2.mono hB.size); go_wp2_with fail)
    (refine ((D4 _).out).mono ?_; rintro x w4 ⟨rfl, hb4⟩; obtain ⟨hc4, hf4⟩ := bcell hb4; have hz4 := hb4.size; replace lL := Nat.lt_of_lt_of_le lL hz4; have l4 := lL; replace hB := hB.trans (hb4.mono hB.size); go_wp2_with fail)
    skip
    go_ret
    exact ⟨congrArg (fun z => Ending.returned (.string z)) EQ.out, hB⟩
set_option maxRecDepth 100000 in
theorem line_2 (k : Nat) (op d a b t e : Int) (w : World) (hk : (k : Int) = op) (ho : k < 13) (hd : hasD op = true) (ha : hasA op = true) (hb : hasB op = false) (ht : hasT op = true) (he : hasE op = false) (h1 : (op == 1) = false) (hp : partsL op = [([], 1), ([], 2), (toW, 4)]) (fit : ∀ i, i < 6 → i64ok ((⟨op, d, a, b, t, e⟩ : Nd).fld i)) :
    Calls Tryd.prog 41 #[.agg #[.int .i64 op, .int .i64 d, .int .i64 a, .int .i64 b, .int .i64 t, .int .i64 e]] w fun x w' => x = .returned (strB (lineL ⟨op, d, a, b, t, e⟩)) ∧ Below w.heap.size w w' := by
  have D1 := fun W => hide (Digits_any _ d W (Nat.le_refl _) (fit 1 (by omega)))
  have D2 := fun W => hide (Digits_any _ a W (Nat.le_refl _) (fit 2 (by omega)))
  have D3 := fun W => hide (Digits_any _ b W (Nat.le_refl _) (fit 3 (by omega)))
  have D4 := fun W => hide (Digits_any _ t W (Nat.le_refl _) (fit 4 (by omega)))
  have D5 := fun W => hide (Digits_any _ e W (Nat.le_refl _) (fit 5 (by omega)))
  have L0 := opW_len op
  have L1 := itoa_length_le d (fit 1 (by omega)).1 (fit 1 (by omega)).2
  have L2 := itoa_length_le a (fit 2 (by omega)).1 (fit 2 (by omega)).2
  have L3 := itoa_length_le b (fit 3 (by omega)).1 (fit 3 (by omega)).2
  have L4 := itoa_length_le t (fit 4 (by omega)).1 (fit 4 (by omega)).2
  have L5 := itoa_length_le e (fit 5 (by omega)).1 (fit 5 (by omega)).2
  have hF := fields_any op
  rw [hd, ha, hb, ht, he] at hF
  have HF := fun W => hide (hF W)
  have EQ : (⟨(opW op).toArray⟩ : ByteArray)++ ⟨#[32]⟩ ++ ⟨(itoa d).toArray⟩ ++ ⟨#[32]⟩ ++ ⟨(itoa a).toArray⟩ ++ ⟨#[32, 116, 111, 32]⟩ ++ ⟨(itoa t).toArray⟩ ++ ⟨#[10]⟩ = ⟨(lineL ⟨op, d, a, b, t, e⟩).toArray⟩ := by
    apply ByteArray.ext
    simp [lineL, nodeL, wordsL, hp, partW, Nd.fld, joinB, toW, elseW]
  have EQ := hide EQ
  clear hF hd ha hb ht he hp fit
  subst hk
  go_enter Tryd.func41, Tryd.ntmps41
  go_upto_region 2 with (go_at_call 39; refine ((HF _).out).mono ?_; rintro e w' ⟨rfl, rfl⟩)
  go_cut [8] (fun s8 wx => s8 = strB (opW (k : Int)) ∧ Blk wx w.heap.size 55 #[.int .i64 (k : Int), .int .i64 d, .int .i64 a, .int .i64 b, .int .i64 t, .int .i64 e] ∧ Below w.heap.size w wx)
  case first =>
    clear EQ D1 D2 D3 D4 D5 HF
    go_region_with (go_at_call 66; refine (Rnames_any _).mono ?_; rintro e w3 ⟨rfl, hw3⟩; have hb3 : Below (w.heap.size + 1) (w.alloc (.cells #[.int .i64 (k : Int), .int .i64 d, .int .i64 a, .int .i64 b, .int .i64 t, .int .i64 e] 55)) w3 := (by rw [hw3]; exact ((Below.refl _ _).drew).alloc (by simp) _); have hN3 := Blk.below (Blk.new w 55 #[.int .i64 (k : Int), .int .i64 d, .int .i64 a, .int .i64 b, .int .i64 t, .int .i64 e]) hb3 (Nat.lt_succ_self _); have c0 := hN3.cell 0; have c1 := name_cell hw3 k ho; simp only [List.getElem?_toArray, List.getElem?_cons_zero, World.size_alloc, World.size_drew] at c0 c1; have l3 := hN3.lt; clear hw3)
    all_goals (go_wp2_with fail)
    all_goals go_meet
    all_goals exact ⟨rfl, hN3, ((Below.refl _ _).alloc (Nat.le_refl _) _).trans (hb3.mono (Nat.le_succ _))⟩
  case rest =>
    obtain ⟨rfl, hN, hB⟩ := hcut
    generalize hso : opW (k : Int) = so at L0 EQ ⊢
    generalize hsd : itoa d = sd at L1 EQ D1 ⊢
    generalize hsa : itoa a = sa at L2 EQ D2 ⊢
    generalize hsb : itoa b = sb at L3 EQ D3 ⊢
    generalize hst : itoa t = st at L4 EQ D4 ⊢
    generalize hse : itoa e = se at L5 EQ D5 ⊢
    clear hso hsd hsa hsb hst hse
    have c0 := hN.cell 0
    have c1 := hN.cell 1
    have c2 := hN.cell 2
    have c3 := hN.cell 3
    have c4 := hN.cell 4
    have c5 := hN.cell 5
    have l0 := hN.lt
    have lL := l0
    simp only [List.getElem?_toArray, List.getElem?_cons_zero, List.getElem?_cons_succ] at c0 c1 c2 c3 c4 c5
    go_wp2_with fail
    (refine ((D1 _).out).mono ?_; rintro x w1 ⟨rfl, hb1⟩; obtain ⟨hc1, hf1⟩ := bcell hb1; have hz1 := hb1.size; replace lL := Nat.lt_of_lt_of_le lL hz1; have l1 := lL; replace hB := hB.trans (hb1.mono hB.size); go_wp2_with fail)
    (refine ((D2 _).out).mono ?_; rintro x w2 ⟨rfl, hb2⟩; obtain ⟨hc2, hf2⟩ := bcell hb2; have hz2 := hb2.size; replace lL := Nat.lt_of_lt_of_le lL hz2; have l2 := lL; replace hB := hB.trans (hb2.mono hB.size); go_wp2_with fail)
    (refine ((D4 _).out).mono ?_; rintro x w4 ⟨rfl, hb4⟩; obtain ⟨hc4, hf4⟩ := bcell hb4; have hz4 := hb4.size; replace lL := Nat.lt_of_lt_of_le lL hz4; have l4 := lL; replace hB := hB.trans (hb4.mono hB.size); go_wp2_with fail)
    skip
    go_ret
    exact ⟨congrArg (fun z => Ending.returned (.string z)) EQ.out, hB⟩
set_option maxRecDepth 100000 in
theorem line_3 (k : Nat) (op d a b t e : Int) (w : World) (hk : (k : Int) = op) (ho : k < 13) (hd : hasD op = true) (ha : hasA op = true) (hb : hasB op = true) (ht : hasT op = true) (he : hasE op = false) (h1 : (op == 1) = false) (hp : partsL op = [([], 1), ([], 2), ([], 3), (toW, 4)]) (fit : ∀ i, i < 6 → i64ok ((⟨op, d, a, b, t, e⟩ : Nd).fld i)) :
    Calls Tryd.prog 41 #[.agg #[.int .i64 op, .int .i64 d, .int .i64 a, .int .i64 b, .int .i64 t, .int .i64 e]] w fun x w' => x = .returned (strB (lineL ⟨op, d, a, b, t, e⟩)) ∧ Below w.heap.size w w' := by
  have D1 := fun W => hide (Digits_any _ d W (Nat.le_refl _) (fit 1 (by omega)))
  have D2 := fun W => hide (Digits_any _ a W (Nat.le_refl _) (fit 2 (by omega)))
  have D3 := fun W => hide (Digits_any _ b W (Nat.le_refl _) (fit 3 (by omega)))
  have D4 := fun W => hide (Digits_any _ t W (Nat.le_refl _) (fit 4 (by omega)))
  have D5 := fun W => hide (Digits_any _ e W (Nat.le_refl _) (fit 5 (by omega)))
  have L0 := opW_len op
  have L1 := itoa_length_le d (fit 1 (by omega)).1 (fit 1 (by omega)).2
  have L2 := itoa_length_le a (fit 2 (by omega)).1 (fit 2 (by omega)).2
  have L3 := itoa_length_le b (fit 3 (by omega)).1 (fit 3 (by omega)).2
  have L4 := itoa_length_le t (fit 4 (by omega)).1 (fit 4 (by omega)).2
  have L5 := itoa_length_le e (fit 5 (by omega)).1 (fit 5 (by omega)).2
  have hF := fields_any op
  rw [hd, ha, hb, ht, he] at hF
  have HF := fun W => hide (hF W)
  have EQ : (⟨(opW op).toArray⟩ : ByteArray)++ ⟨#[32]⟩ ++ ⟨(itoa d).toArray⟩ ++ ⟨#[32]⟩ ++ ⟨(itoa a).toArray⟩ ++ ⟨#[32]⟩ ++ ⟨(itoa b).toArray⟩ ++ ⟨#[32, 116, 111, 32]⟩ ++ ⟨(itoa t).toArray⟩ ++ ⟨#[10]⟩ = ⟨(lineL ⟨op, d, a, b, t, e⟩).toArray⟩ := by
    apply ByteArray.ext
    simp [lineL, nodeL, wordsL, hp, partW, Nd.fld, joinB, toW, elseW]
  have EQ := hide EQ
  clear hF hd ha hb ht he hp fit
  subst hk
  go_enter Tryd.func41, Tryd.ntmps41
  go_upto_region 2 with (go_at_call 39; refine ((HF _).out).mono ?_; rintro e w' ⟨rfl, rfl⟩)
  go_cut [8] (fun s8 wx => s8 = strB (opW (k : Int)) ∧ Blk wx w.heap.size 55 #[.int .i64 (k : Int), .int .i64 d, .int .i64 a, .int .i64 b, .int .i64 t, .int .i64 e] ∧ Below w.heap.size w wx)
  case first =>
    clear EQ D1 D2 D3 D4 D5 HF
    go_region_with (go_at_call 66; refine (Rnames_any _).mono ?_; rintro e w3 ⟨rfl, hw3⟩; have hb3 : Below (w.heap.size + 1) (w.alloc (.cells #[.int .i64 (k : Int), .int .i64 d, .int .i64 a, .int .i64 b, .int .i64 t, .int .i64 e] 55)) w3 := (by rw [hw3]; exact ((Below.refl _ _).drew).alloc (by simp) _); have hN3 := Blk.below (Blk.new w 55 #[.int .i64 (k : Int), .int .i64 d, .int .i64 a, .int .i64 b, .int .i64 t, .int .i64 e]) hb3 (Nat.lt_succ_self _); have c0 := hN3.cell 0; have c1 := name_cell hw3 k ho; simp only [List.getElem?_toArray, List.getElem?_cons_zero, World.size_alloc, World.size_drew] at c0 c1; have l3 := hN3.lt; clear hw3)
    all_goals (go_wp2_with fail)
    all_goals go_meet
    all_goals exact ⟨rfl, hN3, ((Below.refl _ _).alloc (Nat.le_refl _) _).trans (hb3.mono (Nat.le_succ _))⟩
  case rest =>
    obtain ⟨rfl, hN, hB⟩ := hcut
    generalize hso : opW (k : Int) = so at L0 EQ ⊢
    generalize hsd : itoa d = sd at L1 EQ D1 ⊢
    generalize hsa : itoa a = sa at L2 EQ D2 ⊢
    generalize hsb : itoa b = sb at L3 EQ D3 ⊢
    generalize hst : itoa t = st at L4 EQ D4 ⊢
    generalize hse : itoa e = se at L5 EQ D5 ⊢
    clear hso hsd hsa hsb hst hse
    have c0 := hN.cell 0
    have c1 := hN.cell 1
    have c2 := hN.cell 2
    have c3 := hN.cell 3
    have c4 := hN.cell 4
    have c5 := hN.cell 5
    have l0 := hN.lt
    have lL := l0
    simp only [List.getElem?_toArray, List.getElem?_cons_zero, List.getElem?_cons_succ] at c0 c1 c2 c3 c4 c5
    go_wp2_with fail
    (refine ((D1 _).out).mono ?_; rintro x w1 ⟨rfl, hb1⟩; obtain ⟨hc1, hf1⟩ := bcell hb1; have hz1 := hb1.size; replace lL := Nat.lt_of_lt_of_le lL hz1; have l1 := lL; replace hB := hB.trans (hb1.mono hB.size); go_wp2_with fail)
    (refine ((D2 _).out).mono ?_; rintro x w2 ⟨rfl, hb2⟩; obtain ⟨hc2, hf2⟩ := bcell hb2; have hz2 := hb2.size; replace lL := Nat.lt_of_lt_of_le lL hz2; have l2 := lL; replace hB := hB.trans (hb2.mono hB.size); go_wp2_with fail)
    (refine ((D3 _).out).mono ?_; rintro x w3 ⟨rfl, hb3⟩; obtain ⟨hc3, hf3⟩ := bcell hb3; have hz3 := hb3.size; replace lL := Nat.lt_of_lt_of_le lL hz3; have l3 := lL; replace hB := hB.trans (hb3.mono hB.size); go_wp2_with fail)
    (refine ((D4 _).out).mono ?_; rintro x w4 ⟨rfl, hb4⟩; obtain ⟨hc4, hf4⟩ := bcell hb4; have hz4 := hb4.size; replace lL := Nat.lt_of_lt_of_le lL hz4; have l4 := lL; replace hB := hB.trans (hb4.mono hB.size); go_wp2_with fail)
    go_ret
    exact ⟨congrArg (fun z => Ending.returned (.string z)) EQ.out, hB⟩
set_option maxRecDepth 100000 in
theorem line_9 (k : Nat) (op d a b t e : Int) (w : World) (hk : (k : Int) = op) (ho : k < 13) (hd : hasD op = true) (ha : hasA op = false) (hb : hasB op = false) (ht : hasT op = true) (he : hasE op = false) (h1 : (op == 1) = false) (hp : partsL op = [([], 1), (toW, 4)]) (fit : ∀ i, i < 6 → i64ok ((⟨op, d, a, b, t, e⟩ : Nd).fld i)) :
    Calls Tryd.prog 41 #[.agg #[.int .i64 op, .int .i64 d, .int .i64 a, .int .i64 b, .int .i64 t, .int .i64 e]] w fun x w' => x = .returned (strB (lineL ⟨op, d, a, b, t, e⟩)) ∧ Below w.heap.size w w' := by
  have D1 := fun W => hide (Digits_any _ d W (Nat.le_refl _) (fit 1 (by omega)))
  have D2 := fun W => hide (Digits_any _ a W (Nat.le_refl _) (fit 2 (by omega)))
  have D3 := fun W => hide (Digits_any _ b W (Nat.le_refl _) (fit 3 (by omega)))
  have D4 := fun W => hide (Digits_any _ t W (Nat.le_refl _) (fit 4 (by omega)))
  have D5 := fun W => hide (Digits_any _ e W (Nat.le_refl _) (fit 5 (by omega)))
  have L0 := opW_len op
  have L1 := itoa_length_le d (fit 1 (by omega)).1 (fit 1 (by omega)).2
  have L2 := itoa_length_le a (fit 2 (by omega)).1 (fit 2 (by omega)).2
  have L3 := itoa_length_le b (fit 3 (by omega)).1 (fit 3 (by omega)).2
  have L4 := itoa_length_le t (fit 4 (by omega)).1 (fit 4 (by omega)).2
  have L5 := itoa_length_le e (fit 5 (by omega)).1 (fit 5 (by omega)).2
  have hF := fields_any op
  rw [hd, ha, hb, ht, he] at hF
  have HF := fun W => hide (hF W)
  have EQ : (⟨(opW op).toArray⟩ : ByteArray)++ ⟨#[32]⟩ ++ ⟨(itoa d).toArray⟩ ++ ⟨#[32, 116, 111, 32]⟩ ++ ⟨(itoa t).toArray⟩ ++ ⟨#[10]⟩ = ⟨(lineL ⟨op, d, a, b, t, e⟩).toArray⟩ := by
    apply ByteArray.ext
    simp [lineL, nodeL, wordsL, hp, partW, Nd.fld, joinB, toW, elseW]
  have EQ := hide EQ
  clear hF hd ha hb ht he hp fit
  subst hk
  go_enter Tryd.func41, Tryd.ntmps41
  go_upto_region 2 with (go_at_call 39; refine ((HF _).out).mono ?_; rintro e w' ⟨rfl, rfl⟩)
  go_cut [8] (fun s8 wx => s8 = strB (opW (k : Int)) ∧ Blk wx w.heap.size 55 #[.int .i64 (k : Int), .int .i64 d, .int .i64 a, .int .i64 b, .int .i64 t, .int .i64 e] ∧ Below w.heap.size w wx)
  case first =>
    clear EQ D1 D2 D3 D4 D5 HF
    go_region_with (go_at_call 66; refine (Rnames_any _).mono ?_; rintro e w3 ⟨rfl, hw3⟩; have hb3 : Below (w.heap.size + 1) (w.alloc (.cells #[.int .i64 (k : Int), .int .i64 d, .int .i64 a, .int .i64 b, .int .i64 t, .int .i64 e] 55)) w3 := (by rw [hw3]; exact ((Below.refl _ _).drew).alloc (by simp) _); have hN3 := Blk.below (Blk.new w 55 #[.int .i64 (k : Int), .int .i64 d, .int .i64 a, .int .i64 b, .int .i64 t, .int .i64 e]) hb3 (Nat.lt_succ_self _); have c0 := hN3.cell 0; have c1 := name_cell hw3 k ho; simp only [List.getElem?_toArray, List.getElem?_cons_zero, World.size_alloc, World.size_drew] at c0 c1; have l3 := hN3.lt; clear hw3)
    all_goals (go_wp2_with fail)
    all_goals go_meet
    all_goals exact ⟨rfl, hN3, ((Below.refl _ _).alloc (Nat.le_refl _) _).trans (hb3.mono (Nat.le_succ _))⟩
  case rest =>
    obtain ⟨rfl, hN, hB⟩ := hcut
    generalize hso : opW (k : Int) = so at L0 EQ ⊢
    generalize hsd : itoa d = sd at L1 EQ D1 ⊢
    generalize hsa : itoa a = sa at L2 EQ D2 ⊢
    generalize hsb : itoa b = sb at L3 EQ D3 ⊢
    generalize hst : itoa t = st at L4 EQ D4 ⊢
    generalize hse : itoa e = se at L5 EQ D5 ⊢
    clear hso hsd hsa hsb hst hse
    have c0 := hN.cell 0
    have c1 := hN.cell 1
    have c2 := hN.cell 2
    have c3 := hN.cell 3
    have c4 := hN.cell 4
    have c5 := hN.cell 5
    have l0 := hN.lt
    have lL := l0
    simp only [List.getElem?_toArray, List.getElem?_cons_zero, List.getElem?_cons_succ] at c0 c1 c2 c3 c4 c5
    go_wp2_with fail
    (refine ((D1 _).out).mono ?_; rintro x w1 ⟨rfl, hb1⟩; obtain ⟨hc1, hf1⟩ := bcell hb1; have hz1 := hb1.size; replace lL := Nat.lt_of_lt_of_le lL hz1; have l1 := lL; replace hB := hB.trans (hb1.mono hB.size); go_wp2_with fail)
    (refine ((D4 _).out).mono ?_; rintro x w4 ⟨rfl, hb4⟩; obtain ⟨hc4, hf4⟩ := bcell hb4; have hz4 := hb4.size; replace lL := Nat.lt_of_lt_of_le lL hz4; have l4 := lL; replace hB := hB.trans (hb4.mono hB.size); go_wp2_with fail)
    skip
    skip
    go_ret
    exact ⟨congrArg (fun z => Ending.returned (.string z)) EQ.out, hB⟩
set_option maxRecDepth 100000 in
theorem line_10 (k : Nat) (op d a b t e : Int) (w : World) (hk : (k : Int) = op) (ho : k < 13) (hd : hasD op = false) (ha : hasA op = true) (hb : hasB op = false) (ht : hasT op = true) (he : hasE op = false) (h1 : (op == 1) = false) (hp : partsL op = [([], 2), (toW, 4)]) (fit : ∀ i, i < 6 → i64ok ((⟨op, d, a, b, t, e⟩ : Nd).fld i)) :
    Calls Tryd.prog 41 #[.agg #[.int .i64 op, .int .i64 d, .int .i64 a, .int .i64 b, .int .i64 t, .int .i64 e]] w fun x w' => x = .returned (strB (lineL ⟨op, d, a, b, t, e⟩)) ∧ Below w.heap.size w w' := by
  have D1 := fun W => hide (Digits_any _ d W (Nat.le_refl _) (fit 1 (by omega)))
  have D2 := fun W => hide (Digits_any _ a W (Nat.le_refl _) (fit 2 (by omega)))
  have D3 := fun W => hide (Digits_any _ b W (Nat.le_refl _) (fit 3 (by omega)))
  have D4 := fun W => hide (Digits_any _ t W (Nat.le_refl _) (fit 4 (by omega)))
  have D5 := fun W => hide (Digits_any _ e W (Nat.le_refl _) (fit 5 (by omega)))
  have L0 := opW_len op
  have L1 := itoa_length_le d (fit 1 (by omega)).1 (fit 1 (by omega)).2
  have L2 := itoa_length_le a (fit 2 (by omega)).1 (fit 2 (by omega)).2
  have L3 := itoa_length_le b (fit 3 (by omega)).1 (fit 3 (by omega)).2
  have L4 := itoa_length_le t (fit 4 (by omega)).1 (fit 4 (by omega)).2
  have L5 := itoa_length_le e (fit 5 (by omega)).1 (fit 5 (by omega)).2
  have hF := fields_any op
  rw [hd, ha, hb, ht, he] at hF
  have HF := fun W => hide (hF W)
  have EQ : (⟨(opW op).toArray⟩ : ByteArray)++ ⟨#[32]⟩ ++ ⟨(itoa a).toArray⟩ ++ ⟨#[32, 116, 111, 32]⟩ ++ ⟨(itoa t).toArray⟩ ++ ⟨#[10]⟩ = ⟨(lineL ⟨op, d, a, b, t, e⟩).toArray⟩ := by
    apply ByteArray.ext
    simp [lineL, nodeL, wordsL, hp, partW, Nd.fld, joinB, toW, elseW]
  have EQ := hide EQ
  clear hF hd ha hb ht he hp fit
  subst hk
  go_enter Tryd.func41, Tryd.ntmps41
  go_upto_region 2 with (go_at_call 39; refine ((HF _).out).mono ?_; rintro e w' ⟨rfl, rfl⟩)
  go_cut [8] (fun s8 wx => s8 = strB (opW (k : Int)) ∧ Blk wx w.heap.size 55 #[.int .i64 (k : Int), .int .i64 d, .int .i64 a, .int .i64 b, .int .i64 t, .int .i64 e] ∧ Below w.heap.size w wx)
  case first =>
    clear EQ D1 D2 D3 D4 D5 HF
    go_region_with (go_at_call 66; refine (Rnames_any _).mono ?_; rintro e w3 ⟨rfl, hw3⟩; have hb3 : Below (w.heap.size + 1) (w.alloc (.cells #[.int .i64 (k : Int), .int .i64 d, .int .i64 a, .int .i64 b, .int .i64 t, .int .i64 e] 55)) w3 := (by rw [hw3]; exact ((Below.refl _ _).drew).alloc (by simp) _); have hN3 := Blk.below (Blk.new w 55 #[.int .i64 (k : Int), .int .i64 d, .int .i64 a, .int .i64 b, .int .i64 t, .int .i64 e]) hb3 (Nat.lt_succ_self _); have c0 := hN3.cell 0; have c1 := name_cell hw3 k ho; simp only [List.getElem?_toArray, List.getElem?_cons_zero, World.size_alloc, World.size_drew] at c0 c1; have l3 := hN3.lt; clear hw3)
    all_goals (go_wp2_with fail)
    all_goals go_meet
    all_goals exact ⟨rfl, hN3, ((Below.refl _ _).alloc (Nat.le_refl _) _).trans (hb3.mono (Nat.le_succ _))⟩
  case rest =>
    obtain ⟨rfl, hN, hB⟩ := hcut
    generalize hso : opW (k : Int) = so at L0 EQ ⊢
    generalize hsd : itoa d = sd at L1 EQ D1 ⊢
    generalize hsa : itoa a = sa at L2 EQ D2 ⊢
    generalize hsb : itoa b = sb at L3 EQ D3 ⊢
    generalize hst : itoa t = st at L4 EQ D4 ⊢
    generalize hse : itoa e = se at L5 EQ D5 ⊢
    clear hso hsd hsa hsb hst hse
    have c0 := hN.cell 0
    have c1 := hN.cell 1
    have c2 := hN.cell 2
    have c3 := hN.cell 3
    have c4 := hN.cell 4
    have c5 := hN.cell 5
    have l0 := hN.lt
    have lL := l0
    simp only [List.getElem?_toArray, List.getElem?_cons_zero, List.getElem?_cons_succ] at c0 c1 c2 c3 c4 c5
    go_wp2_with fail
    (refine ((D2 _).out).mono ?_; rintro x w2 ⟨rfl, hb2⟩; obtain ⟨hc2, hf2⟩ := bcell hb2; have hz2 := hb2.size; replace lL := Nat.lt_of_lt_of_le lL hz2; have l2 := lL; replace hB := hB.trans (hb2.mono hB.size); go_wp2_with fail)
    (refine ((D4 _).out).mono ?_; rintro x w4 ⟨rfl, hb4⟩; obtain ⟨hc4, hf4⟩ := bcell hb4; have hz4 := hb4.size; replace lL := Nat.lt_of_lt_of_le lL hz4; have l4 := lL; replace hB := hB.trans (hb4.mono hB.size); go_wp2_with fail)
    skip
    skip
    go_ret
    exact ⟨congrArg (fun z => Ending.returned (.string z)) EQ.out, hB⟩
set_option maxRecDepth 100000 in
theorem line_11 (k : Nat) (op d a b t e : Int) (w : World) (hk : (k : Int) = op) (ho : k < 13) (hd : hasD op = false) (ha : hasA op = true) (hb : hasB op = false) (ht : hasT op = true) (he : hasE op = true) (h1 : (op == 1) = false) (hp : partsL op = [([], 2), (toW, 4), (elseW, 5)]) (fit : ∀ i, i < 6 → i64ok ((⟨op, d, a, b, t, e⟩ : Nd).fld i)) :
    Calls Tryd.prog 41 #[.agg #[.int .i64 op, .int .i64 d, .int .i64 a, .int .i64 b, .int .i64 t, .int .i64 e]] w fun x w' => x = .returned (strB (lineL ⟨op, d, a, b, t, e⟩)) ∧ Below w.heap.size w w' := by
  have D1 := fun W => hide (Digits_any _ d W (Nat.le_refl _) (fit 1 (by omega)))
  have D2 := fun W => hide (Digits_any _ a W (Nat.le_refl _) (fit 2 (by omega)))
  have D3 := fun W => hide (Digits_any _ b W (Nat.le_refl _) (fit 3 (by omega)))
  have D4 := fun W => hide (Digits_any _ t W (Nat.le_refl _) (fit 4 (by omega)))
  have D5 := fun W => hide (Digits_any _ e W (Nat.le_refl _) (fit 5 (by omega)))
  have L0 := opW_len op
  have L1 := itoa_length_le d (fit 1 (by omega)).1 (fit 1 (by omega)).2
  have L2 := itoa_length_le a (fit 2 (by omega)).1 (fit 2 (by omega)).2
  have L3 := itoa_length_le b (fit 3 (by omega)).1 (fit 3 (by omega)).2
  have L4 := itoa_length_le t (fit 4 (by omega)).1 (fit 4 (by omega)).2
  have L5 := itoa_length_le e (fit 5 (by omega)).1 (fit 5 (by omega)).2
  have hF := fields_any op
  rw [hd, ha, hb, ht, he] at hF
  have HF := fun W => hide (hF W)
  have EQ : (⟨(opW op).toArray⟩ : ByteArray)++ ⟨#[32]⟩ ++ ⟨(itoa a).toArray⟩ ++ ⟨#[32, 116, 111, 32]⟩ ++ ⟨(itoa t).toArray⟩ ++ ⟨#[32, 101, 108, 115, 101, 32]⟩ ++ ⟨(itoa e).toArray⟩ ++ ⟨#[10]⟩ = ⟨(lineL ⟨op, d, a, b, t, e⟩).toArray⟩ := by
    apply ByteArray.ext
    simp [lineL, nodeL, wordsL, hp, partW, Nd.fld, joinB, toW, elseW]
  have EQ := hide EQ
  clear hF hd ha hb ht he hp fit
  subst hk
  go_enter Tryd.func41, Tryd.ntmps41
  go_upto_region 2 with (go_at_call 39; refine ((HF _).out).mono ?_; rintro e w' ⟨rfl, rfl⟩)
  go_cut [8] (fun s8 wx => s8 = strB (opW (k : Int)) ∧ Blk wx w.heap.size 55 #[.int .i64 (k : Int), .int .i64 d, .int .i64 a, .int .i64 b, .int .i64 t, .int .i64 e] ∧ Below w.heap.size w wx)
  case first =>
    clear EQ D1 D2 D3 D4 D5 HF
    go_region_with (go_at_call 66; refine (Rnames_any _).mono ?_; rintro e w3 ⟨rfl, hw3⟩; have hb3 : Below (w.heap.size + 1) (w.alloc (.cells #[.int .i64 (k : Int), .int .i64 d, .int .i64 a, .int .i64 b, .int .i64 t, .int .i64 e] 55)) w3 := (by rw [hw3]; exact ((Below.refl _ _).drew).alloc (by simp) _); have hN3 := Blk.below (Blk.new w 55 #[.int .i64 (k : Int), .int .i64 d, .int .i64 a, .int .i64 b, .int .i64 t, .int .i64 e]) hb3 (Nat.lt_succ_self _); have c0 := hN3.cell 0; have c1 := name_cell hw3 k ho; simp only [List.getElem?_toArray, List.getElem?_cons_zero, World.size_alloc, World.size_drew] at c0 c1; have l3 := hN3.lt; clear hw3)
    all_goals (go_wp2_with fail)
    all_goals go_meet
    all_goals exact ⟨rfl, hN3, ((Below.refl _ _).alloc (Nat.le_refl _) _).trans (hb3.mono (Nat.le_succ _))⟩
  case rest =>
    obtain ⟨rfl, hN, hB⟩ := hcut
    generalize hso : opW (k : Int) = so at L0 EQ ⊢
    generalize hsd : itoa d = sd at L1 EQ D1 ⊢
    generalize hsa : itoa a = sa at L2 EQ D2 ⊢
    generalize hsb : itoa b = sb at L3 EQ D3 ⊢
    generalize hst : itoa t = st at L4 EQ D4 ⊢
    generalize hse : itoa e = se at L5 EQ D5 ⊢
    clear hso hsd hsa hsb hst hse
    have c0 := hN.cell 0
    have c1 := hN.cell 1
    have c2 := hN.cell 2
    have c3 := hN.cell 3
    have c4 := hN.cell 4
    have c5 := hN.cell 5
    have l0 := hN.lt
    have lL := l0
    simp only [List.getElem?_toArray, List.getElem?_cons_zero, List.getElem?_cons_succ] at c0 c1 c2 c3 c4 c5
    go_wp2_with fail
    (refine ((D2 _).out).mono ?_; rintro x w2 ⟨rfl, hb2⟩; obtain ⟨hc2, hf2⟩ := bcell hb2; have hz2 := hb2.size; replace lL := Nat.lt_of_lt_of_le lL hz2; have l2 := lL; replace hB := hB.trans (hb2.mono hB.size); go_wp2_with fail)
    (refine ((D4 _).out).mono ?_; rintro x w4 ⟨rfl, hb4⟩; obtain ⟨hc4, hf4⟩ := bcell hb4; have hz4 := hb4.size; replace lL := Nat.lt_of_lt_of_le lL hz4; have l4 := lL; replace hB := hB.trans (hb4.mono hB.size); go_wp2_with fail)
    (refine ((D5 _).out).mono ?_; rintro x w5 ⟨rfl, hb5⟩; obtain ⟨hc5, hf5⟩ := bcell hb5; have hz5 := hb5.size; replace lL := Nat.lt_of_lt_of_le lL hz5; have l5 := lL; replace hB := hB.trans (hb5.mono hB.size); go_wp2_with fail)
    skip
    go_ret
    exact ⟨congrArg (fun z => Ending.returned (.string z)) EQ.out, hB⟩
set_option maxRecDepth 100000 in
theorem line_12 (k : Nat) (op d a b t e : Int) (w : World) (hk : (k : Int) = op) (ho : k < 13) (hd : hasD op = false) (ha : hasA op = true) (hb : hasB op = false) (ht : hasT op = false) (he : hasE op = false) (h1 : (op == 1) = false) (hp : partsL op = [([], 2)]) (fit : ∀ i, i < 6 → i64ok ((⟨op, d, a, b, t, e⟩ : Nd).fld i)) :
    Calls Tryd.prog 41 #[.agg #[.int .i64 op, .int .i64 d, .int .i64 a, .int .i64 b, .int .i64 t, .int .i64 e]] w fun x w' => x = .returned (strB (lineL ⟨op, d, a, b, t, e⟩)) ∧ Below w.heap.size w w' := by
  have D1 := fun W => hide (Digits_any _ d W (Nat.le_refl _) (fit 1 (by omega)))
  have D2 := fun W => hide (Digits_any _ a W (Nat.le_refl _) (fit 2 (by omega)))
  have D3 := fun W => hide (Digits_any _ b W (Nat.le_refl _) (fit 3 (by omega)))
  have D4 := fun W => hide (Digits_any _ t W (Nat.le_refl _) (fit 4 (by omega)))
  have D5 := fun W => hide (Digits_any _ e W (Nat.le_refl _) (fit 5 (by omega)))
  have L0 := opW_len op
  have L1 := itoa_length_le d (fit 1 (by omega)).1 (fit 1 (by omega)).2
  have L2 := itoa_length_le a (fit 2 (by omega)).1 (fit 2 (by omega)).2
  have L3 := itoa_length_le b (fit 3 (by omega)).1 (fit 3 (by omega)).2
  have L4 := itoa_length_le t (fit 4 (by omega)).1 (fit 4 (by omega)).2
  have L5 := itoa_length_le e (fit 5 (by omega)).1 (fit 5 (by omega)).2
  have hF := fields_any op
  rw [hd, ha, hb, ht, he] at hF
  have HF := fun W => hide (hF W)
  have EQ : (⟨(opW op).toArray⟩ : ByteArray)++ ⟨#[32]⟩ ++ ⟨(itoa a).toArray⟩ ++ ⟨#[10]⟩ = ⟨(lineL ⟨op, d, a, b, t, e⟩).toArray⟩ := by
    apply ByteArray.ext
    simp [lineL, nodeL, wordsL, hp, partW, Nd.fld, joinB, toW, elseW]
  have EQ := hide EQ
  clear hF hd ha hb ht he hp fit
  subst hk
  go_enter Tryd.func41, Tryd.ntmps41
  go_upto_region 2 with (go_at_call 39; refine ((HF _).out).mono ?_; rintro e w' ⟨rfl, rfl⟩)
  go_cut [8] (fun s8 wx => s8 = strB (opW (k : Int)) ∧ Blk wx w.heap.size 55 #[.int .i64 (k : Int), .int .i64 d, .int .i64 a, .int .i64 b, .int .i64 t, .int .i64 e] ∧ Below w.heap.size w wx)
  case first =>
    clear EQ D1 D2 D3 D4 D5 HF
    go_region_with (go_at_call 66; refine (Rnames_any _).mono ?_; rintro e w3 ⟨rfl, hw3⟩; have hb3 : Below (w.heap.size + 1) (w.alloc (.cells #[.int .i64 (k : Int), .int .i64 d, .int .i64 a, .int .i64 b, .int .i64 t, .int .i64 e] 55)) w3 := (by rw [hw3]; exact ((Below.refl _ _).drew).alloc (by simp) _); have hN3 := Blk.below (Blk.new w 55 #[.int .i64 (k : Int), .int .i64 d, .int .i64 a, .int .i64 b, .int .i64 t, .int .i64 e]) hb3 (Nat.lt_succ_self _); have c0 := hN3.cell 0; have c1 := name_cell hw3 k ho; simp only [List.getElem?_toArray, List.getElem?_cons_zero, World.size_alloc, World.size_drew] at c0 c1; have l3 := hN3.lt; clear hw3)
    all_goals (go_wp2_with fail)
    all_goals go_meet
    all_goals exact ⟨rfl, hN3, ((Below.refl _ _).alloc (Nat.le_refl _) _).trans (hb3.mono (Nat.le_succ _))⟩
  case rest =>
    obtain ⟨rfl, hN, hB⟩ := hcut
    generalize hso : opW (k : Int) = so at L0 EQ ⊢
    generalize hsd : itoa d = sd at L1 EQ D1 ⊢
    generalize hsa : itoa a = sa at L2 EQ D2 ⊢
    generalize hsb : itoa b = sb at L3 EQ D3 ⊢
    generalize hst : itoa t = st at L4 EQ D4 ⊢
    generalize hse : itoa e = se at L5 EQ D5 ⊢
    clear hso hsd hsa hsb hst hse
    have c0 := hN.cell 0
    have c1 := hN.cell 1
    have c2 := hN.cell 2
    have c3 := hN.cell 3
    have c4 := hN.cell 4
    have c5 := hN.cell 5
    have l0 := hN.lt
    have lL := l0
    simp only [List.getElem?_toArray, List.getElem?_cons_zero, List.getElem?_cons_succ] at c0 c1 c2 c3 c4 c5
    go_wp2_with fail
    (refine ((D2 _).out).mono ?_; rintro x w2 ⟨rfl, hb2⟩; obtain ⟨hc2, hf2⟩ := bcell hb2; have hz2 := hb2.size; replace lL := Nat.lt_of_lt_of_le lL hz2; have l2 := lL; replace hB := hB.trans (hb2.mono hB.size); go_wp2_with fail)
    skip
    skip
    skip
    go_ret
    exact ⟨congrArg (fun z => Ending.returned (.string z)) EQ.out, hB⟩
theorem line_any (n : Nd) (w : World) (ho : 0 ≤ n.op ∧ n.op ≤ 12) (fit : ∀ i, i < 6 → i64ok (n.fld i)) :
    Calls Tryd.prog 41 #[.agg #[.int .i64 n.op, .int .i64 n.d, .int .i64 n.a, .int .i64 n.b, .int .i64 n.t, .int .i64 n.e]] w fun x w' => x = .returned (strB (lineL n)) ∧ Below w.heap.size w w' := by
  obtain ⟨op, d, a, b, t, e⟩ := n
  obtain ⟨k, rfl⟩ : ∃ k : Nat, op = (k : Int) := ⟨op.toNat, by simp at ho; omega⟩
  have hk : k < 13 := by simp at ho; omega
  rcases k with _ | _ | _ | _ | _ | _ | _ | _ | _ | _ | _ | _ | _ | k
  · exact line_0 0 _ d a b t e w rfl (by omega) rfl rfl rfl rfl rfl rfl rfl fit
  · exact line_1 1 _ d a b t e w rfl (by omega) rfl rfl rfl rfl rfl rfl rfl fit
  · exact line_2 2 _ d a b t e w rfl (by omega) rfl rfl rfl rfl rfl rfl rfl fit
  · exact line_3 3 _ d a b t e w rfl (by omega) rfl rfl rfl rfl rfl rfl rfl fit
  · exact line_3 4 _ d a b t e w rfl (by omega) rfl rfl rfl rfl rfl rfl rfl fit
  · exact line_3 5 _ d a b t e w rfl (by omega) rfl rfl rfl rfl rfl rfl rfl fit
  · exact line_3 6 _ d a b t e w rfl (by omega) rfl rfl rfl rfl rfl rfl rfl fit
  · exact line_3 7 _ d a b t e w rfl (by omega) rfl rfl rfl rfl rfl rfl rfl fit
  · exact line_3 8 _ d a b t e w rfl (by omega) rfl rfl rfl rfl rfl rfl rfl fit
  · exact line_9 9 _ d a b t e w rfl (by omega) rfl rfl rfl rfl rfl rfl rfl fit
  · exact line_10 10 _ d a b t e w rfl (by omega) rfl rfl rfl rfl rfl rfl rfl fit
  · exact line_11 11 _ d a b t e w rfl (by omega) rfl rfl rfl rfl rfl rfl rfl fit
  · exact line_12 12 _ d a b t e w rfl (by omega) rfl rfl rfl rfl rfl rfl rfl fit
  · omega
end Go.Proofs.YtmghkonmfbpjcabDoor
