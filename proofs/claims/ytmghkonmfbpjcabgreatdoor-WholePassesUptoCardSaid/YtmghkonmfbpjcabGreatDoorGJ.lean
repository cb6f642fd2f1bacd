/- Parts. -/
import Derived.Test.YtmghkonmfbpjcabGreatDoorGI
import Derived.Lib.ItoaLen
import Derived.Shelf.Strings.BuilderK
import Derived.Shelf.Small.Wraps
import Derived.Shelf.Strconv.Itoa3
import Derived.Shelf.Strconv.ErrVarAll
import Derived.Shelf.Strings.Shaped
import Derived.Shelf.Strings.SplitShaped
import Derived.Shelf.Strings.Explode
import Derived.Shelf.Unicode.DecodeSlow
import Derived.Lib.AppendIntMem
set_option linter.unusedVariables false
set_option linter.unusedSimpArgs false
set_option maxRecDepth 100000
set_option maxHeartbeats 8000000
namespace Go.Proofs.YtmghkonmfbpjcabGreatDoor
open Go.Proofs.Tryz
section
open Go.RowKit
open Go.Lib
abbrev cE (l : List UInt8) : Value := .string ⟨l.toArray⟩
theorem bGQ {n : Int} (h0 : 0 ≤ n) (h1 : n < 10) : itoa n = [UInt8.ofNat (48 + n.toNat)] := by
 have : itoa n = decDigits n.toNat := if_neg Zb
 rw [this, iP Zb]
theorem sB (u : Nat) : itoa (u : Int) = decDigits u := by unfold itoa; rw [if_neg Zb, Int.toNat_natCast]
theorem bDE {u : Nat} (h : 1 ≤ u) : itoa (-(u : Int)) = 45 :: decDigits u := by
 unfold itoa
 rw [if_pos Zb]
 congr 2
 omega
theorem bNL {u : Nat} (h : 10 ≤ u) : itoa (u : Int) = itoa ((u / 10 : Nat) : Int) ++ itoa ((u % 10 : Nat) : Int) := by
 rw [sB, sB, sB, qG Zb, iP (u := u % 10) Zb]
theorem bKC {n : Int} (h0 : n < 0) (h1 : -10 < n) : itoa n = 45 :: itoa (-n) := by
 have e1 : itoa n = 45 :: decDigits n.natAbs := if_pos h0
 have e2 : itoa (-n) = decDigits (-n).toNat := if_neg Zb
 rw [e1, e2]
 congr 2
 omega
theorem bKB {u : Nat} (h : 10 ≤ u) : itoa (-(u : Int)) = itoa (-((u / 10 : Nat) : Int)) ++ itoa ((u % 10 : Nat) : Int) := by
 rw [bDE Zb, bDE Zb, sB, qG Zb, iP (u := u % 10) Zb]
 rfl
theorem uV (a b : List UInt8) : (⟨a.toArray⟩ : ByteArray) ++ ⟨b.toArray⟩ = ⟨(a ++ b).toArray⟩ := by
 apply ByteArray.ext
 simp
theorem bAF (w : World) (x : Int) (h0 : 0 ≤ x) (h1 : x < 256) : (convert 91 9 (.slice (some ⟨w.heap.size, 0, none⟩) 1 1)).run prog (w.alloc (.cells #[.int .u8 x] 5)) = .ok (.string ⟨#[UInt8.ofNat x.toNat]⟩) (w.alloc (.cells #[.int .u8 x] 5)) := by
 rw [run_convert_bytes_string _ _ _ 5 _ _ _ (by simp [underlying91]) (by simp [underlying5]) (by simp [underlying9])]
 rw [run_bytesToString _ _ _ _ [x] (by simp [go_sem]; try rfl)]
 rfl
theorem gO : ∀ (k : Nat) (n : Int) (w : World), 2 * n.natAbs + (if n < 0 then 1 else 0) ≤ k → cB n → Calls prog 58 #[.int .i64 n] w fun e w' => e = .returned (cE (itoa n)) ∧ Below w.heap.size w w' := by
 intro k
 induction k using Nat.strongRecOn with
 | _ k ih =>
  intro n w hk hn
  obtain ⟨hn1, hn2⟩ := hn
  have IH := fun (m : Int) (W : World) (hm : 2 * m.natAbs + (if m < 0 then 1 else 0) < 2 * n.natAbs + (if n < 0 then 1 else 0)) (h : cB m) => bA (ih (2 * m.natAbs + (if m < 0 then 1 else 0)) Zb m W (Nat.le_refl _) h)
  clear ih
  by_cases h0 : n < 0
  ·have d0 : decide (n < 0) = true := decide_eq_true h0
   by_cases h1 : -10 < n
   ·have d1 : decide (n > -10) = true := decide_eq_true h1
    have w1 : IntKind.i64.wrap (-n) = -n := by rw [IntKind.wrap_i64]; omega
    have I1 := fun W => IH (-n) W (by rw [if_pos h0, if_neg Zb]; omega) ⟨Zb, Zb⟩
    have e1 := bKC h0 h1
    have l1 : ¬ 9223372036854775807 < 1 + (itoa (-n)).length := by have := itoa_length_le (-n) Zb Zb; omega
    clear IH h0 h1 hk
    go_enter func58, ntmps58
    go_wp2_with fail
    refine ((I1 _).out).mono ?_
    rintro e w1 ⟨rfl, hb1⟩
    go_wp2_with fail
    go_ret
    refine ⟨?_, hb1⟩
    rw [e1]
    exact congrArg (fun z => Ending.returned (.string z)) (uV [45] _)
   ·obtain ⟨u, rfl⟩ : ∃ u : Nat, n = -(u : Int) := ⟨n.natAbs, Zb⟩
    have d1 : decide (-(u : Int) > -10) = false := decide_eq_false h1
    have c1 : ((u / 10 : Nat) : Int) = (u : Int) / 10 := Zb
    have c2 : ((u % 10 : Nat) : Int) = (u : Int) % 10 := Zb
    have e1 := bKB (u := u) Zb
    have I1 := fun W => IH (-((u : Int) / 10)) W (by rw [if_pos h0]; split <;> omega) ⟨Zb, Zb⟩
    have I2 := fun W => IH ((u : Int) % 10) W (by rw [if_pos h0, if_neg Zb]; omega) ⟨Zb, Zb⟩
    have l1 := itoa_length_le (-((u : Int) / 10)) Zb Zb
    have l2 := itoa_length_le ((u : Int) % 10) Zb Zb
    have l3 : ¬ 9223372036854775807 < (itoa (-((u : Int) / 10))).length + (itoa ((u : Int) % 10)).length := Zb
    rw [c1, c2] at e1
    clear IH hk c1 c2 l1 l2
    go_enter func58, ntmps58
    go_wp2_with fail
    refine ((I1 _).out).mono ?_
    rintro e w1 ⟨rfl, hb1⟩
    go_wp2_with fail
    refine ((I2 _).out).mono ?_
    rintro e w2 ⟨rfl, hb2⟩
    go_wp2_with fail
    go_ret
    refine ⟨?_, hb1.trans (hb2.mono hb1.size)⟩
    rw [e1]
    exact congrArg (fun z => Ending.returned (.string z)) (uV _ _)
  ·obtain ⟨u, rfl⟩ : ∃ u : Nat, n = (u : Int) := ⟨n.toNat, Zb⟩
   have d0 : decide ((u : Int) < 0) = false := decide_eq_false h0
   by_cases h1 : (u : Int) < 10
   ·have d1 : decide ((u : Int) < 10) = true := decide_eq_true h1
    have e1 := bGQ (n := (u : Int)) Zb h1
    have hcv := bAF w (48 + (u : Int)) Zb Zb
    have c3 : (48 + (u : Int)).toNat = 48 + u := Zb
    rw [c3] at hcv
    rw [Int.toNat_natCast] at e1
    clear IH hk
    go_enter func58, ntmps58
    go_wp2_with fail
    go_ret
    refine ⟨?_, (Bnq _ _)⟩
    rfl
   ·have d1 : decide ((u : Int) < 10) = false := decide_eq_false h1
    have c1 : ((u / 10 : Nat) : Int) = (u : Int) / 10 := Zb
    have c2 : ((u % 10 : Nat) : Int) = (u : Int) % 10 := Zb
    have e1 := bNL (u := u) Zb
    have I1 := fun W => IH ((u : Int) / 10) W (by rw [if_neg h0, if_neg Zb]; omega) ⟨Zb, Zb⟩
    have I2 := fun W => IH ((u : Int) % 10) W (by rw [if_neg h0, if_neg Zb]; omega) ⟨Zb, Zb⟩
    have l1 := itoa_length_le ((u : Int) / 10) Zb Zb
    have l2 := itoa_length_le ((u : Int) % 10) Zb Zb
    have l3 : ¬ 9223372036854775807 < (itoa ((u : Int) / 10)).length + (itoa ((u : Int) % 10)).length := Zb
    rw [c1, c2] at e1
    clear IH hk c1 c2 l1 l2
    go_enter func58, ntmps58
    go_wp2_with fail
    refine ((I1 _).out).mono ?_
    rintro e w1 ⟨rfl, hb1⟩
    go_wp2_with fail
    refine ((I2 _).out).mono ?_
    rintro e w2 ⟨rfl, hb2⟩
    go_wp2_with fail
    go_ret
    refine ⟨?_, hb1.trans (hb2.mono hb1.size)⟩
    rw [e1]
    exact congrArg (fun z => Ending.returned (.string z)) (uV _ _)
end
section
open Go.RowKit
open Go.Lib
def gI : Array Value := #[.string ⟨#[115, 107, 105, 112]⟩, .string ⟨#[115, 101, 116]⟩, .string ⟨#[99, 111, 112, 121]⟩, .string ⟨#[97, 100, 100]⟩, .string ⟨#[115, 117, 98]⟩, .string ⟨#[109, 117, 108]⟩, .string ⟨#[97, 110, 100]⟩, .string ⟨#[120, 111, 114]⟩, .string ⟨#[108, 101, 115, 115]⟩, .string ⟨#[105, 110]⟩, .string ⟨#[111, 117, 116]⟩, .string ⟨#[105, 102]⟩, .string ⟨#[101, 110, 100]⟩]
theorem oE (w : World) : Calls prog 88 #[] w fun e w' => e = .returned (.slice (some ⟨w.heap.size, 0, none⟩) 13 13) ∧ w' = w.alloc (.cells gI 9) := by
 go_enter func88, ntmps88
 go_wp2_with fail
 go_ret
 exact ⟨rfl, rfl⟩
theorem zF {w w' : World} (h : w' = w.alloc (.cells gI 9)) (k : Nat) (ho : k < 13) : w'.cell? ⟨w.heap.size, k, none⟩ = some (cE (opW (k : Int))) := by
 subst h
 rw [(Blk.new w 9 gI).cell]
 have key : ∀ i : Fin 13, gI[i.val]? = some (cE (jR.getD i.val [])) := by
  intro ⟨i, hi⟩
  rcases i with _ | _ | _ | _ | _ | _ | _ | _ | _ | _ | _ | _ | _ | i <;> first | rfl | omega
 exact key ⟨k, ho⟩
theorem uY (op : Int) : (opW op).length ≤ 4 := by
 unfold opW
 by_cases h : op.toNat < 13
 ·have key : ∀ i : Fin 13, (jR.getD i.val []).length ≤ 4 := Ze
  exact key ⟨op.toNat, h⟩
 ·rw [Vy, List.getElem?_eq_none (by simp [jR]; omega)]
  simp
def LnH (k : Nat) (op d a b t e : Int) (d' a' b' t' e' o' : Bool) (pl : List (List UInt8 × Nat)) : Prop :=
 (k : Int) = op ∧ k < 13 ∧ dE op = d' ∧ dC op = a' ∧ cG op = b' ∧ oS op = t' ∧ fL op = e' ∧ (op == 1) = o' ∧ cC op = pl ∧ ∀ i, i < 6 → cB ((⟨op, d, a, b, t, e⟩ : Nd).fld i)
def LnS (op d a b t e : Int) (w : World) : Prop :=
 Calls prog 59 #[.agg #[.int .i64 op, .int .i64 d, .int .i64 a, .int .i64 b, .int .i64 t, .int .i64 e]] w fun x w' => x = .returned (cE (fD ⟨op, d, a, b, t, e⟩)) ∧ Below w.heap.size w w'
theorem LnQ {P : Prop} (h : P := by apply ByteArray.ext; simp [fD, dS, dY, hp, dW, Nd.fld, dL, toW, elseW]) : P := h
theorem LnW {P : Prop} (h : P := by
 (have EQ := bA EQ
  have D1 := fun W => bA (gO _ d W (Nat.le_refl _) (fit 1 Zb))
  have D2 := fun W => bA (gO _ a W (Nat.le_refl _) (fit 2 Zb))
  have D3 := fun W => bA (gO _ b W (Nat.le_refl _) (fit 3 Zb))
  have D4 := fun W => bA (gO _ t W (Nat.le_refl _) (fit 4 Zb))
  have D5 := fun W => bA (gO _ e W (Nat.le_refl _) (fit 5 Zb))
  have L0 := uY op
  have L1 := itoa_length_le d (fit 1 Zb).1 (fit 1 Zb).2
  have L2 := itoa_length_le a (fit 2 Zb).1 (fit 2 Zb).2
  have L3 := itoa_length_le b (fit 3 Zb).1 (fit 3 Zb).2
  have L4 := itoa_length_le t (fit 4 Zb).1 (fit 4 Zb).2
  have L5 := itoa_length_le e (fit 5 Zb).1 (fit 5 Zb).2
  have hF := gL op
  rw [hd, ha, hb, ht, he] at hF
  have HF := fun W => bA (hF W)
  clear hF hd ha hb ht he hp fit
  subst hk
  unfold LnS
  go_enter func59, ntmps59
  go_upto_region 2 with (go_at_call 39; refine ((HF _).out).mono ?_; rintro e w' ⟨rfl, rfl⟩)
  go_cut [8] (fun s8 wx => s8 = cE (opW (k : Int)) ∧ Blk wx w.heap.size 39 #[.int .i64 (k : Int), .int .i64 d, .int .i64 a, .int .i64 b, .int .i64 t, .int .i64 e] ∧ Below w.heap.size w wx)
  case first => (
  clear EQ D1 D2 D3 D4 D5 HF
  go_region_with (go_at_call 88; refine (oE _).mono ?_; rintro e w3 ⟨rfl, hw3⟩; have hb3 : Below (w.heap.size + 1) (w.alloc (.cells #[.int .i64 (k : Int), .int .i64 d, .int .i64 a, .int .i64 b, .int .i64 t, .int .i64 e] 39)) w3 := (by rw [hw3]; exact ((Below.refl _ _).drew).alloc Zf _); have hN3 := Blk.below (Blk.new w 39 #[.int .i64 (k : Int), .int .i64 d, .int .i64 a, .int .i64 b, .int .i64 t, .int .i64 e]) hb3 (Nat.lt_succ_self _); have c0 := hN3.cell 0; have c1 := zF hw3 k ho; simp only [List.getElem?_toArray, List.getElem?_cons_zero, World.size_alloc, World.size_drew] at c0 c1; have l3 := hN3.lt; clear hw3)
  all_goals (go_wp2_with fail)
  all_goals go_meet
  all_goals exact ⟨rfl, hN3, ((Bnq _ _)).trans (hb3.mono (Nat.le_succ _))⟩)
  case rest => (
  obtain ⟨rfl, hN, hB⟩ := hcut
  generalize hso : opW (k : Int) = so at L0 EQ ⊢
  generalize hsd : itoa d = sd at L1 EQ D1 ⊢
  generalize hsa : itoa a = sa at L2 EQ D2 ⊢
  generalize hsb : itoa b = sb at L3 EQ D3 ⊢
  generalize hst : itoa t = st at L4 EQ D4 ⊢
  generalize hse : itoa e = se at L5 EQ D5 ⊢
  clear hso hsd hsa hsb hst hse
  have c0 := hN.cell 0
  have c1 := hN.cell 1
  have c2 := hN.cell 2
  have c3 := hN.cell 3
  have c4 := hN.cell 4
  have c5 := hN.cell 5
  have l0 := hN.lt
  have lL := l0
  simp only [Yl] at c0 c1 c2 c3 c4 c5
  go_wp2_with fail
  try ((with_reducible refine Calls.mono ((D1 _).out) ?_); rintro x w1 ⟨rfl, hb1⟩; obtain ⟨hc1, hf1⟩ := bB hb1; have hz1 := hb1.size; replace lL := V6 lL hz1; have l1 := lL; replace hB := hB.trans (hb1.mono hB.size); go_wp2_with fail)
  try ((with_reducible refine Calls.mono ((D2 _).out) ?_); rintro x w2 ⟨rfl, hb2⟩; obtain ⟨hc2, hf2⟩ := bB hb2; have hz2 := hb2.size; replace lL := V6 lL hz2; have l2 := lL; replace hB := hB.trans (hb2.mono hB.size); go_wp2_with fail)
  try ((with_reducible refine Calls.mono ((D3 _).out) ?_); rintro x w3 ⟨rfl, hb3⟩; obtain ⟨hc3, hf3⟩ := bB hb3; have hz3 := hb3.size; replace lL := V6 lL hz3; have l3 := lL; replace hB := hB.trans (hb3.mono hB.size); go_wp2_with fail)
  try ((with_reducible refine Calls.mono ((D4 _).out) ?_); rintro x w4 ⟨rfl, hb4⟩; obtain ⟨hc4, hf4⟩ := bB hb4; have hz4 := hb4.size; replace lL := V6 lL hz4; have l4 := lL; replace hB := hB.trans (hb4.mono hB.size); go_wp2_with fail)
  try ((with_reducible refine Calls.mono ((D5 _).out) ?_); rintro x w5 ⟨rfl, hb5⟩; obtain ⟨hc5, hf5⟩ := bB hb5; have hz5 := hb5.size; replace lL := V6 lL hz5; have l5 := lL; replace hB := hB.trans (hb5.mono hB.size); go_wp2_with fail)
  go_ret
  exact ⟨congrArg (fun z => Ending.returned (.string z)) EQ.out, hB⟩))) : P := h
theorem bRN (k : Nat) {op d a b t e : Int} {w : World} (H : LnH k op d a b t e false false false true false false [(toW, 4)]) : LnS op d a b t e w := by
 obtain ⟨hk, ho, hd, ha, hb, ht, he, h1, hp, fit⟩ := H
 have EQ : (⟨(opW op).toArray⟩ : ByteArray)++ ⟨#[32, 116, 111, 32]⟩ ++ ⟨(itoa t).toArray⟩ ++ ⟨#[10]⟩ = ⟨(fD ⟨op, d, a, b, t, e⟩).toArray⟩ := LnQ
 exact LnW
theorem bRM (k : Nat) {op d a b t e : Int} {w : World} (H : LnH k op d a b t e true false false true false true [([], 1), ([], 2), (toW, 4)]) : LnS op d a b t e w := by
 obtain ⟨hk, ho, hd, ha, hb, ht, he, h1, hp, fit⟩ := H
 have EQ : (⟨(opW op).toArray⟩ : ByteArray)++ ⟨#[32]⟩ ++ ⟨(itoa d).toArray⟩ ++ ⟨#[32]⟩ ++ ⟨(itoa a).toArray⟩ ++ ⟨#[32, 116, 111, 32]⟩ ++ ⟨(itoa t).toArray⟩ ++ ⟨#[10]⟩ = ⟨(fD ⟨op, d, a, b, t, e⟩).toArray⟩ := LnQ
 exact LnW
theorem bRL (k : Nat) {op d a b t e : Int} {w : World} (H : LnH k op d a b t e true true false true false false [([], 1), ([], 2), (toW, 4)]) : LnS op d a b t e w := by
 obtain ⟨hk, ho, hd, ha, hb, ht, he, h1, hp, fit⟩ := H
 have EQ : (⟨(opW op).toArray⟩ : ByteArray)++ ⟨#[32]⟩ ++ ⟨(itoa d).toArray⟩ ++ ⟨#[32]⟩ ++ ⟨(itoa a).toArray⟩ ++ ⟨#[32, 116, 111, 32]⟩ ++ ⟨(itoa t).toArray⟩ ++ ⟨#[10]⟩ = ⟨(fD ⟨op, d, a, b, t, e⟩).toArray⟩ := LnQ
 exact LnW
theorem tJ (k : Nat) {op d a b t e : Int} {w : World} (H : LnH k op d a b t e true true true true false false [([], 1), ([], 2), ([], 3), (toW, 4)]) : LnS op d a b t e w := by
 obtain ⟨hk, ho, hd, ha, hb, ht, he, h1, hp, fit⟩ := H
 have EQ : (⟨(opW op).toArray⟩ : ByteArray)++ ⟨#[32]⟩ ++ ⟨(itoa d).toArray⟩ ++ ⟨#[32]⟩ ++ ⟨(itoa a).toArray⟩ ++ ⟨#[32]⟩ ++ ⟨(itoa b).toArray⟩ ++ ⟨#[32, 116, 111, 32]⟩ ++ ⟨(itoa t).toArray⟩ ++ ⟨#[10]⟩ = ⟨(fD ⟨op, d, a, b, t, e⟩).toArray⟩ := LnQ
 exact LnW
theorem bRK (k : Nat) {op d a b t e : Int} {w : World} (H : LnH k op d a b t e true false false true false false [([], 1), (toW, 4)]) : LnS op d a b t e w := by
 obtain ⟨hk, ho, hd, ha, hb, ht, he, h1, hp, fit⟩ := H
 have EQ : (⟨(opW op).toArray⟩ : ByteArray)++ ⟨#[32]⟩ ++ ⟨(itoa d).toArray⟩ ++ ⟨#[32, 116, 111, 32]⟩ ++ ⟨(itoa t).toArray⟩ ++ ⟨#[10]⟩ = ⟨(fD ⟨op, d, a, b, t, e⟩).toArray⟩ := LnQ
 exact LnW
theorem bPP (k : Nat) {op d a b t e : Int} {w : World} (H : LnH k op d a b t e false true false true false false [([], 2), (toW, 4)]) : LnS op d a b t e w := by
 obtain ⟨hk, ho, hd, ha, hb, ht, he, h1, hp, fit⟩ := H
 have EQ : (⟨(opW op).toArray⟩ : ByteArray)++ ⟨#[32]⟩ ++ ⟨(itoa a).toArray⟩ ++ ⟨#[32, 116, 111, 32]⟩ ++ ⟨(itoa t).toArray⟩ ++ ⟨#[10]⟩ = ⟨(fD ⟨op, d, a, b, t, e⟩).toArray⟩ := LnQ
 exact LnW
theorem bPO (k : Nat) {op d a b t e : Int} {w : World} (H : LnH k op d a b t e false true false true true false [([], 2), (toW, 4), (elseW, 5)]) : LnS op d a b t e w := by
 obtain ⟨hk, ho, hd, ha, hb, ht, he, h1, hp, fit⟩ := H
 have EQ : (⟨(opW op).toArray⟩ : ByteArray)++ ⟨#[32]⟩ ++ ⟨(itoa a).toArray⟩ ++ ⟨#[32, 116, 111, 32]⟩ ++ ⟨(itoa t).toArray⟩ ++ ⟨#[32, 101, 108, 115, 101, 32]⟩ ++ ⟨(itoa e).toArray⟩ ++ ⟨#[10]⟩ = ⟨(fD ⟨op, d, a, b, t, e⟩).toArray⟩ := LnQ
 exact LnW
theorem bPN (k : Nat) {op d a b t e : Int} {w : World} (H : LnH k op d a b t e false true false false false false [([], 2)]) : LnS op d a b t e w := by
 obtain ⟨hk, ho, hd, ha, hb, ht, he, h1, hp, fit⟩ := H
 have EQ : (⟨(opW op).toArray⟩ : ByteArray)++ ⟨#[32]⟩ ++ ⟨(itoa a).toArray⟩ ++ ⟨#[10]⟩ = ⟨(fD ⟨op, d, a, b, t, e⟩).toArray⟩ := LnQ
 exact LnW
theorem bND (n : Nd) (w : World) (ho : 0 ≤ n.op ∧ n.op ≤ 12) (fit : ∀ i, i < 6 → cB (n.fld i)) :
  Calls prog 59 #[.agg #[.int .i64 n.op, .int .i64 n.d, .int .i64 n.a, .int .i64 n.b, .int .i64 n.t, .int .i64 n.e]] w fun x w' => x = .returned (cE (fD n)) ∧ Below w.heap.size w w' := by
 obtain ⟨op, d, a, b, t, e⟩ := n
 obtain ⟨k, rfl⟩ : ∃ k : Nat, op = (k : Int) := ⟨op.toNat, by simp at ho; omega⟩
 have hk : k < 13 := by simp at ho; omega
 rcases k with _ | _ | _ | _ | _ | _ | _ | _ | _ | _ | _ | _ | _ | k
 ·exact bRN 0 ⟨rfl, Zb, rfl, rfl, rfl, rfl, rfl, rfl, rfl, fit⟩
 ·exact bRM 1 ⟨rfl, Zb, rfl, rfl, rfl, rfl, rfl, rfl, rfl, fit⟩
 ·exact bRL 2 ⟨rfl, Zb, rfl, rfl, rfl, rfl, rfl, rfl, rfl, fit⟩
 ·exact tJ 3 ⟨rfl, Zb, rfl, rfl, rfl, rfl, rfl, rfl, rfl, fit⟩
 ·exact tJ 4 ⟨rfl, Zb, rfl, rfl, rfl, rfl, rfl, rfl, rfl, fit⟩
 ·exact tJ 5 ⟨rfl, Zb, rfl, rfl, rfl, rfl, rfl, rfl, rfl, fit⟩
 ·exact tJ 6 ⟨rfl, Zb, rfl, rfl, rfl, rfl, rfl, rfl, rfl, fit⟩
 ·exact tJ 7 ⟨rfl, Zb, rfl, rfl, rfl, rfl, rfl, rfl, rfl, fit⟩
 ·exact tJ 8 ⟨rfl, Zb, rfl, rfl, rfl, rfl, rfl, rfl, rfl, fit⟩
 ·exact bRK 9 ⟨rfl, Zb, rfl, rfl, rfl, rfl, rfl, rfl, rfl, fit⟩
 ·exact bPP 10 ⟨rfl, Zb, rfl, rfl, rfl, rfl, rfl, rfl, rfl, fit⟩
 ·exact bPO 11 ⟨rfl, Zb, rfl, rfl, rfl, rfl, rfl, rfl, rfl, fit⟩
 ·exact bPN 12 ⟨rfl, Zb, rfl, rfl, rfl, rfl, rfl, rfl, rfl, fit⟩
 ·omega
end
section
open Go.RowKit
open Go.Lib
def nZ (c : UInt8) : List UInt8 → List UInt8 → List (List UInt8)
 | cur, [] => [cur]
 | cur, x :: r => if x = c then cur :: nZ c [] r else nZ c (cur ++ [x]) r
def eM (c : UInt8) (s : List UInt8) : List (List UInt8) := nZ c [] s
theorem qI (c : UInt8) : ∀ (r cur : List UInt8), nZ c cur r ≠ []
 | [], cur => by simp [nZ]
 | x :: r, cur => by
  unfold nZ
  split
  ·simp
  ·exact qI c r _
theorem iL (c : UInt8) : ∀ (r cur : List UInt8), dL c (nZ c cur r) = cur ++ r
 | [], cur => by simp [nZ, dL]
 | x :: r, cur => by
  unfold nZ
  split
  ·rename_i h
   obtain ⟨y, ys, e⟩ : ∃ y ys, nZ c [] r = y :: ys := by
    cases e : nZ c [] r with
    | nil => exact absurd e (qI c r [])
    | cons y ys => exact ⟨y, ys, rfl⟩
   have := iL c r []
   rw [e] at this ⊢
   show cur ++ c :: dL c (y :: ys) = _
   rw [this, h]
   rfl
  ·rw [iL c r]
   simp
theorem nY (c : UInt8) : ∀ (r cur : List UInt8), c ∉ cur → ∀ x ∈ nZ c cur r, c ∉ x
 | [], cur, h, x, hx => by
  have : x = cur := by simpa [nZ] using hx
  rw [this]; exact h
 | y :: r, cur, h, x, hx => by
  unfold nZ at hx
  split at hx
  ·rcases List.mem_cons.1 hx with e | e
   ·rw [e]; exact h
   ·exact nY c r [] Zf x e
  ·rename_i hy
   exact nY c r _ (by simp [h]; exact fun e => hy e.symm) x hx
theorem jG {c : UInt8} {p : List (List UInt8)} (hp : p ≠ []) (h : ∀ x ∈ p, c ∉ x) : eM c (dL c p) = p := by
 have h1 := iL c (dL c p) []
 exact tK (qI c _ _) hp (fun x hx => nY c _ _ Zf x hx) h (by rw [List.nil_append] at h1; exact h1)
theorem bDP (s : List UInt8) {f k : Nat} (h : f ≤ k) : (⟨s.toArray⟩ : ByteArray).extract f k = ⟨((s.take k).drop f).toArray⟩ := by
 apply ByteArray.ext
 simp
 exact List.drop_take.symm
theorem bPV : (prog.info? 9).map (fun i => (i.zero, i.size, i.bytes)) = some (some (.string ⟨#[]⟩), 1, 16) := Zc
theorem bAW (c : UInt8) (m : Nat) (hm : m ≤ 1000) (s : List UInt8) (hs : s.length ≤ 4294967280) (w : World) :
  Calls prog 55 #[cE s, .int .u8 c.toNat, .int .i64 m] w fun e w' => ∃ v, e = .returned v ∧ Row w' w.heap.size 9 v (((eM c s).take m).map cE) ∧ Below w.heap.size w w' := by
 obtain ⟨i3, h3i, h3z, h3s, h3b⟩ := info_parts bPV
 go_enter func55, ntmps55
 go_wp2_with fail
 go_loopg [7, 8, 9] (s.length + 1) (fun gk v fr i wr => ∃ (k from_ : Nat) (ps : List (List UInt8)), k ≤ s.length + 1 ∧ i = .int .i64 k ∧ fr = .int .i64 from_ ∧ gk = s.length + 1 - k ∧ ps.length ≤ m ∧ Row wr w.heap.size 9 v (ps.map cE) ∧ Below w.heap.size w wr
  ∧ ((k ≤ s.length ∧ from_ ≤ k ∧ eM c s = ps ++ nZ c ((s.take k).drop from_) (s.drop k)) ∨ (k = s.length + 1 ∧ eM c s = ps)))
 case atStart => exact ⟨0, 0, [], Zb, rfl, rfl, Zb, Nat.zero_le _, Row.nil_ _ _ _, Below.refl _ _, .inl ⟨Zb, Zb, by simp [eM]⟩⟩
 case round =>
  obtain ⟨k, fr, ps, hk, rfl, rfl, hgk, hpm, hR, hB, hst⟩ := hrel
  obtain ⟨A0, cp, rfl, _, _⟩ := hR.shape
  rw [Uj] at *
  have Hgk := bA hgk
  have hz := hB.size
  clear hgk
  rcases hst with ⟨h1, h2, h3⟩ | ⟨rfl, h3⟩
  ·by_cases hfull : ps.length < m
   ·by_cases hend : k = s.length
    ·have d1 : decide ((k : Int) ≤ (s.length : Int)) = true := decide_eq_true Zb
     have d2 : decide ((ps.length : Int) < (m : Int)) = true := decide_eq_true Zb
     subst hend
     have hex := bDP s h2
     rw [List.take_length] at hex
     have hfin : eM c s = ps ++ [s.drop fr] := by rw [h3, List.take_length, List.drop_length]; rfl
     generalize s.drop fr = pc at *
     go_wp2_with (at_builtin; refine bV (v := .slice A0 ps.length cp) rfl (.tmp 33) (.tmp 38) _ rfl i3 _ 16 underlying102 h3i h3z h3s h3b rfl rfl (hR.alloc _) (some ⟨wr.heap.size, 0, none⟩) 1 1 [cE pc] rfl rfl (dK _ _ _) Zk Zr Zd Zd ?_; intro v2 w2 hr2 hg2 hat2)
     have hB2 : Below w.heap.size w w2 := ((hB.alloc hz _).grown hg2 Zd (fun q hq => (hR.lt q hq).1))
     go_roundg (s.length + 1 - (s.length + 1))
     case measure => exact Jg
     case rel => exact ⟨s.length + 1, s.length + 1, ps ++ [pc], Zb, by go_num, by go_num, rfl, by simp <;> omega, by simpa using hr2, hB2, .inr ⟨rfl, hfin⟩⟩
    ·have d1 : decide ((k : Int) ≤ (s.length : Int)) = true := decide_eq_true Zb
     have d2 : decide ((ps.length : Int) < (m : Int)) = true := decide_eq_true Zb
     have d3 : ((k : Int) == (s.length : Int)) = false := by simp; omega
     obtain ⟨b, hb⟩ : ∃ b, s[k]? = some b := ⟨_, Vx Zb⟩
     have hks : k < (⟨s.toArray⟩ : ByteArray).size := by show k < s.length; omega
     have hbk : (⟨s.toArray⟩ : ByteArray)[k] = b := by
      have := (List.getElem?_eq_some_iff.1 hb).2
      exact this
     have hdrop : s.drop k = b :: s.drop (k + 1) := by rw [List.drop_eq_getElem_cons Zb]; congr 1
     have htake : (s.take (k + 1)).drop fr = (s.take k).drop fr ++ [b] := by
      rw [List.take_add_one, hb, List.drop_append_of_le_length (by rw [List.length_take]; omega)]
      rfl
     by_cases hbc : b = c
     ·subst hbc
      have hex := bDP s h2
      have hfin : eM b s = (ps ++ [(s.take k).drop fr]) ++ nZ b [] (s.drop (k + 1)) := by
       rw [h3, hdrop]
       conv => lhs; rw [nZ]
       rw [if_pos rfl]
       simp
      generalize (s.take k).drop fr = pc at *
      go_wp2_with (at_builtin; refine bV (v := .slice A0 ps.length cp) rfl (.tmp 33) (.tmp 38) _ rfl i3 _ 16 underlying102 h3i h3z h3s h3b rfl rfl (hR.alloc _) (some ⟨wr.heap.size, 0, none⟩) 1 1 [cE pc] rfl rfl (dK _ _ _) Zk Zr Zd Zd ?_; intro v2 w2 hr2 hg2 hat2)
      have hB2 : Below w.heap.size w w2 := ((hB.alloc hz _).grown hg2 Zd (fun q hq => (hR.lt q hq).1))
      go_roundg (s.length + 1 - (k + 1))
      case measure => exact Jg
      case rel => exact ⟨k + 1, k + 1, ps ++ [pc], Zb, by go_num, by go_num, rfl, by simp <;> omega, by simpa using hr2, hB2, .inl ⟨Zb, Zb, by rw [hfin]; simp⟩⟩
     ·have hcmp : ((b.toNat : Int) == (c.toNat : Int)) = false := by
       rw [beq_eq_false_iff_ne]
       intro h
       exact hbc (UInt8.toNat_inj.1 Zb)
      have hfin : eM c s = ps ++ nZ c ((s.take (k + 1)).drop fr) (s.drop (k + 1)) := by
       rw [h3, hdrop, htake]
       conv => lhs; rw [nZ]
       rw [if_neg hbc]
      go_wp2_with fail
      go_roundg (s.length + 1 - (k + 1))
      case measure => exact Jg
      case rel => exact ⟨k + 1, fr, ps, Zb, by go_num, rfl, rfl, hpm, hR, hB, .inl ⟨Zb, Zb, hfin⟩⟩
   ·have d1 : decide ((k : Int) ≤ (s.length : Int)) = true := decide_eq_true Zb
    have d2 : decide ((ps.length : Int) < (m : Int)) = false := decide_eq_false Zb
    go_wp2_with fail
    go_ret
    refine ⟨_, rfl, ?_, hB⟩
    rw [h3, List.take_append_of_le_length Zb, List.take_of_length_le Zb]
    exact hR
  ·have d1 : decide (((s.length + 1 : Nat) : Int) ≤ (s.length : Int)) = false := decide_eq_false Zb
   go_wp2_with fail
   go_ret
   refine ⟨_, rfl, ?_, hB⟩
   rw [List.take_of_length_le (by simpa using hpm)]
   exact hR
end
section
open Go.RowKit
open Go.Lib
theorem bIQ : ∀ (k u : Nat), u < 10 ^ k → 1 ≤ k → (decDigits u).length ≤ k
 | 0, _, _, h => by omega
 | k + 1, u, hu, _ => by
  by_cases h : u < 10
  ·rw [iP h]; simp
  ·rw [qG h, Vz]
   rcases k with _ | k
   ·omega
   ·have := bIQ (k + 1) (u / 10) (by rw [Nat.pow_succ] at hu; omega) Zb
    simp
    omega
theorem lR (n : Int) : itoa n = (if n < 0 then [45] else []) ++ decDigits n.natAbs := by
 unfold itoa
 split
 ·rfl
 ·rw [show n.toNat = n.natAbs by omega]; rfl
theorem bGR {n : Int} (h : cB n) : (itoa n).length ≤ 20 := by
 obtain ⟨h1, h2⟩ := h
 have := bIQ 19 n.natAbs Zb Zb
 rw [lR, Vz]
 split <;> simp <;> omega
theorem bIL {n : Int} {k : Nat} {c : UInt8} (h : (itoa n)[k]? = some c) : (k = 0 ∧ c = 45) ∨ (48 ≤ c.toNat ∧ c.toNat ≤ 57) := by
 rw [lR] at h
 split at h
 ·rcases k with _ | k
  ·exact .inl ⟨rfl, by simpa using h.symm⟩
  ·exact .inr (gU _ c (V4 (by simpa using h)))
 ·exact .inr (gU _ c (V4 (by simpa using h)))
def kN (s : List UInt8) (k : Nat) : Nat := kH 0 ((s.take k).filter (· != 45))
theorem bHD (a b : List UInt8) : ∀ acc, kH acc (a ++ b) = kH (kH acc a) b := by
 induction a with
 | nil => intro acc; rfl
 | cons x a ih => intro acc; exact ih _
theorem bFW (s : List UInt8) (k : Nat) : kN s k ≤ kN s s.length := by
 unfold kN
 conv => rhs; rw [List.take_length, ← List.take_append_drop k s, List.filter_append, bHD]
 exact zO _ _
theorem bFV {s : List UInt8} {k : Nat} (h : s[k]? = some 45) : kN s (k + 1) = kN s k := by
 unfold kN
 rw [List.take_add_one, h]
 simp
theorem bCF {s : List UInt8} {k : Nat} {c : UInt8} (h : s[k]? = some c) (hc : c ≠ 45) : kN s (k + 1) = kN s k * 10 + (c.toNat - 48) := by
 unfold kN
 rw [List.take_add_one, h]
 have : (([c] : List UInt8).filter (· != 45)) = [c] := by simp [hc]
 rw [List.filter_append, show (some c).toList = [c] from rfl, this, uJ]
theorem yU (n : Int) : kN (itoa n) (itoa n).length = n.natAbs := by
 unfold kN
 rw [List.take_length, lR, List.filter_append]
 have h1 : ((if n < 0 then [45] else [] : List UInt8).filter (· != 45)) = [] := by split <;> rfl
 have h2 : (decDigits n.natAbs).filter (· != 45) = decDigits n.natAbs := by
  rw [List.filter_eq_self]
  intro a ha
  have := gU _ a ha
  rw [bne_iff_ne]
  rintro rfl
  simp at this
 rw [h1, h2, List.nil_append, lY]
theorem rI {n : Int} : (itoa n ≠ []) ∧ ((itoa n)[0]? = some 45 ↔ n < 0) := by
 rw [lR]
 split
 ·rename_i h; simp [h]
 ·rename_i h
  refine ⟨by simpa using bAV _, ?_⟩
  simp only [List.nil_append, h, iff_false]
  intro e
  have := gU _ 45 (V4 e)
  simp at this
theorem mZ (x : Int) : cB (RowKit.wrap64 x) := by unfold RowKit.wrap64; constructor <;> omega
theorem sP {x : Int} (h : cB x) : RowKit.wrap64 x = x := by obtain ⟨h1, h2⟩ := h; unfold RowKit.wrap64; omega
theorem yT {s : List UInt8} {k : Nat} {c : UInt8} {a : Int} (hb : s[k]? = some c) (h1 : 48 ≤ c.toNat ∧ c.toNat ≤ 57) (hP : ∀ n, cB n → s = itoa n → a = -(kN s k : Int)) :
  ∀ n, cB n → s = itoa n → RowKit.wrap64 (RowKit.wrap64 (10 * a) - ((c.toNat : Int) - 48)) = -(kN s (k + 1) : Int) := by
 intro n hn e
 have ha := hP n hn e
 have hd := bCF hb (by rintro rfl; simp at h1)
 have hm := bFW s (k + 1)
 have ht : kN s s.length = n.natAbs := by rw [e]; exact yU n
 obtain ⟨n1, n2⟩ := hn
 rw [sP (x := 10 * a) ⟨Zb, Zb⟩, sP ⟨Zb, Zb⟩]
 omega
theorem bEY (s : List UInt8) (hs : s.length ≤ 4294967280) (w : World) : Calls prog 56 #[cE s] w fun e w' =>
  ∃ v ok, e = .returned (.tuple #[.int .i64 v, .bool ok]) ∧ cB v ∧ (∀ n, cB n → s = itoa n → v = n) ∧ Below w.heap.size w w' := by
 by_cases h20 : 20 < s.length
 ·have d0 : decide ((s.length : Int) > 20) = true := decide_eq_true Zb
  go_enter func56, ntmps56
  go_wp2_with fail
  go_ret2
  refine ⟨_, _, rfl, ⟨Zb, Zb⟩, fun n hn e => ?_, Below.refl _ _⟩
  have := bGR hn
  rw [← e] at this
  omega
 ·have d0 : decide ((s.length : Int) > 20) = false := decide_eq_false Zb
  go_enter func56, ntmps56
  go_wp2_with fail
  go_loopg [4, 5] (s.length) (fun gk v i wr => ∃ (k : Nat) (a : Int), k ≤ s.length ∧ i = .int .i64 k ∧ v = .int .i64 a ∧ gk = s.length - k ∧ cB a ∧ (∀ n, cB n → s = itoa n → a = -(kN s k : Int)) ∧ wr = w)
  case atStart => exact ⟨0, 0, Zb, rfl, rfl, Zb, ⟨Zb, Zb⟩, fun n _ _ => rfl, rfl⟩
  case round =>
   obtain ⟨k, a, hk, rfl, rfl, hgk, ha, hP, rfl⟩ := hrel
   have Hgk := bA hgk
   have HP := bA hP
   clear hgk hP
   by_cases hlt : k < s.length
   ·by_cases hk0 : k = 0
    ·subst hk0
     obtain ⟨b, hb⟩ : ∃ b, s[0]? = some b := ⟨_, Vx hlt⟩
     have hks : 0 < (⟨s.toArray⟩ : ByteArray).size := hlt
     have hbk : (⟨s.toArray⟩ : ByteArray)[0] = b := (List.getElem?_eq_some_iff.1 hb).2
     by_cases hm : b = 45
     ·subst hm
      go_wp2_with fail
      go_roundg (s.length - (0 + 1))
      case measure => exact Jg
      case rel => exact ⟨1, a, Zb, rfl, rfl, Zb, ha, fun n h1 h2 => by rw [bFV hb]; exact HP.o n h1 h2, rfl⟩
     ·have hmi : ((b.toNat : Int) == 45) = false := by
       rw [beq_eq_false_iff_ne]
       intro h
       exact hm (UInt8.toNat_inj.1 Zh)
      by_cases hdg : 48 ≤ b.toNat ∧ b.toNat ≤ 57
      ·have d48 : decide ((b.toNat : Int) < 48) = false := decide_eq_false Zb
       have d57 : decide (57 < (b.toNat : Int)) = false := decide_eq_false Zb
       have d57' : decide ((b.toNat : Int) > 57) = false := decide_eq_false Zb
       have e48 : (48 : Int) ≤ b.toNat := Zb
       go_wp2_with fail
       go_roundg (s.length - (0 + 1))
       case measure => exact Jg
       case rel => exact ⟨0 + 1, _, Zb, by go_num, rfl, Zb, mZ _, yT hb hdg HP.o, rfl⟩
      ·have hno : ∀ n, cB n → s = itoa n → (0 : Int) = n := by
        intro n hn e
        rw [e] at hb
        rcases bIL hb with h | h
        ·first | exact absurd h hm | exact absurd h.2 hm
        ·exact absurd h hdg
       by_cases hlo : b.toNat < 48
       ·have d48 : decide ((b.toNat : Int) < 48) = true := decide_eq_true Zb
        go_wp2_with fail
        go_ret2
        exact ⟨_, _, rfl, ⟨Zb, Zb⟩, hno, Below.refl _ _⟩
       ·have d48 : decide ((b.toNat : Int) < 48) = false := decide_eq_false Zb
        have d57 : decide (57 < (b.toNat : Int)) = true := decide_eq_true Zb
        have d57' : decide ((b.toNat : Int) > 57) = true := decide_eq_true Zb
        go_wp2_with fail
        go_ret2
        exact ⟨_, _, rfl, ⟨Zb, Zb⟩, hno, Below.refl _ _⟩
    ·obtain ⟨b, hb⟩ : ∃ b, s[k]? = some b := ⟨_, Vx hlt⟩
     have hks : k < (⟨s.toArray⟩ : ByteArray).size := hlt
     have hbk : (⟨s.toArray⟩ : ByteArray)[k] = b := (List.getElem?_eq_some_iff.1 hb).2
     have hki : ((k : Int) == 0) = false := by simp; omega
     have hm : ¬ (k = 0 ∧ b = 45) := fun h => hk0 h.1
     by_cases hdg : 48 ≤ b.toNat ∧ b.toNat ≤ 57
     ·have d48 : decide ((b.toNat : Int) < 48) = false := decide_eq_false Zb
      have d57 : decide (57 < (b.toNat : Int)) = false := decide_eq_false Zb
      have d57' : decide ((b.toNat : Int) > 57) = false := decide_eq_false Zb
      have e48 : (48 : Int) ≤ b.toNat := Zb
      go_wp2_with fail
      go_roundg (s.length - (k + 1))
      case measure => exact Jg
      case rel => exact ⟨k + 1, _, Zb, by go_num, rfl, Zb, mZ _, yT hb hdg HP.o, rfl⟩
     ·have hno : ∀ n, cB n → s = itoa n → (0 : Int) = n := by
       intro n hn e
       rw [e] at hb
       rcases bIL hb with h | h
       ·first | exact absurd h hm | exact absurd h.2 hm
       ·exact absurd h hdg
      by_cases hlo : b.toNat < 48
      ·have d48 : decide ((b.toNat : Int) < 48) = true := decide_eq_true Zb
       go_wp2_with fail
       go_ret2
       exact ⟨_, _, rfl, ⟨Zb, Zb⟩, hno, Below.refl _ _⟩
      ·have d48 : decide ((b.toNat : Int) < 48) = false := decide_eq_false Zb
       have d57 : decide (57 < (b.toNat : Int)) = true := decide_eq_true Zb
       have d57' : decide ((b.toNat : Int) > 57) = true := decide_eq_true Zb
       go_wp2_with fail
       go_ret2
       exact ⟨_, _, rfl, ⟨Zb, Zb⟩, hno, Below.refl _ _⟩
   ·obtain rfl : k = s.length := Zb
    have hall : ∀ n, cB n → s = itoa n → a = -(n.natAbs : Int) := fun n hn e => by
     rw [HP.o n hn e]
     have ht : kN s s.length = n.natAbs := by rw [e]; exact yU n
     rw [ht]
    have D1 := fun W => bA (gO _ (RowKit.wrap64 (-a)) W (Nat.le_refl _) (mZ _))
    have D2 := fun W => bA (gO _ a W (Nat.le_refl _) ha)
    have hpos : ∀ n, cB n → s = itoa n → 0 ≤ n → RowKit.wrap64 (-a) = n := fun n hn e h0 => by
     have := hall n hn e
     obtain ⟨n1, n2⟩ := hn
     rw [sP ⟨Zb, Zb⟩]
     omega
    by_cases hnil : s = []
    ·subst hnil
     go_wp2_with (refine ((D1 _).out).mono ?_; rintro e w3 ⟨rfl, hb3⟩)
     go_ret2
     exact ⟨_, _, rfl, mZ _, fun n hn e => absurd e.symm rI.1, hb3⟩
    ·have hlen : 0 < s.length := List.length_pos_iff.2 hnil
     have hl0 : ((s.length : Int) == 0) = false := by rw [beq_eq_false_iff_ne]; omega
     obtain ⟨b, hb⟩ : ∃ b, s[0]? = some b := ⟨_, Vx hlen⟩
     have hks : 0 < (⟨s.toArray⟩ : ByteArray).size := hlen
     have hbk : (⟨s.toArray⟩ : ByteArray)[0] = b := (List.getElem?_eq_some_iff.1 hb).2
     by_cases hm : b = 45
     ·subst hm
      go_wp2_with (refine ((D2 _).out).mono ?_; rintro e w3 ⟨rfl, hb3⟩)
      go_ret2
      refine ⟨_, _, rfl, ha, fun n hn e => ?_, hb3⟩
      have h0 : n < 0 := rI.2.1 (by rw [← e]; exact hb)
      have := hall n hn e
      omega
     ·have hmi : ((b.toNat : Int) == 45) = false := by
       rw [beq_eq_false_iff_ne]
       intro h
       exact hm (UInt8.toNat_inj.1 Zh)
      have hmi2 : ((b.toNat : Int) != 45) = true := by rw [bne, hmi]; rfl
      go_wp2_with (refine ((D1 _).out).mono ?_; rintro e w3 ⟨rfl, hb3⟩)
      go_ret2
      refine ⟨_, _, rfl, mZ _, fun n hn e => hpos n hn e ?_, hb3⟩
      rcases Int.lt_or_le n 0 with h0 | h0
      ·have := rI.2.2 h0
       rw [← e, hb] at this
       exact absurd (Option.some.inj this) hm
      ·exact h0
end
section
open Go.Shelf Go.RowKit
def bRen : Go.Shelf.Ren := ⟨fun | 240 => 87 | 276 => 117 | 166 => 51 | 167 => 53 | n => n, fun | 0 => 0 | 3 => 3 | 4 => 4 | 5 => 5 | 9 => 9 | 20 => 20 | 37 => 91 | 70 => 90 | 72 => 93 | 75 => 84 | 80 => 101 | 164 => 175 | n => n, fun n => n⟩
theorem bPS : Lays.n166 prog bRen where
 mixed := Zc
 f166 := func51.trans (congrArg some Zc)
 f240 := func87.trans (congrArg some Zc)
 f276 := func117.trans (congrArg some Zc)
 t0 := underlying0
 a0 := isAgg0
 z0 := sizeOf0
 v0 := zeroValue0
 t3 := underlying3
 a3 := isAgg3
 z3 := sizeOf3
 v3 := zeroValue3
 t4 := underlying4
 a4 := isAgg4
 z4 := sizeOf4
 v4 := zeroValue4
 t9 := underlying9
 a9 := isAgg9
 z9 := sizeOf9
 v9 := zeroValue9
 t20 := underlying20
 a20 := isAgg20
 z20 := sizeOf20
 v20 := zeroValue20
 t37 := underlying91
 a37 := isAgg91
 z37 := sizeOf91
 v37 := zeroValue91
 t70 := underlying90
 a70 := isAgg90
 z70 := sizeOf90
 v70 := zeroValue90
 t72 := underlying93
 a72 := isAgg93
 z72 := sizeOf93
 v72 := zeroValue93
 t75 := underlying84
 a75 := isAgg84
 z75 := sizeOf84
 v75 := zeroValue84
 t164 := underlying175
 a164 := isAgg175
 z164 := sizeOf175
 v164 := zeroValue175
theorem bPR : Lays.n167 prog bRen where
 mixed := Zc
 f167 := func53.trans (congrArg some Zc)
 f240 := func87.trans (congrArg some Zc)
 f276 := func117.trans (congrArg some Zc)
 t0 := underlying0
 a0 := isAgg0
 z0 := sizeOf0
 v0 := zeroValue0
 t4 := underlying4
 a4 := isAgg4
 z4 := sizeOf4
 v4 := zeroValue4
 t5 := underlying5
 a5 := isAgg5
 z5 := sizeOf5
 v5 := zeroValue5
 t9 := underlying9
 a9 := isAgg9
 z9 := sizeOf9
 v9 := zeroValue9
 t20 := underlying20
 a20 := isAgg20
 z20 := sizeOf20
 v20 := zeroValue20
 t37 := underlying91
 a37 := isAgg91
 z37 := sizeOf91
 v37 := zeroValue91
 t70 := underlying90
 a70 := isAgg90
 z70 := sizeOf90
 v70 := zeroValue90
 t72 := underlying93
 a72 := isAgg93
 z72 := sizeOf93
 v72 := zeroValue93
 t75 := underlying84
 a75 := isAgg84
 z75 := sizeOf84
 v75 := zeroValue84
 t164 := underlying175
 a164 := isAgg175
 z164 := sizeOf175
 v164 := zeroValue175
theorem bOA : Builder.Extra prog bRen where
 sizeBuilder := Zc
 liesBuilder := Zc
 t5 := underlying5
 a5 := isAgg5
 z5 := sizeOf5
 v5 := zeroValue5
 infoByte := Zc
 cellsByte := Zc
 sizeByte := Zc
 neB5 := Ze
theorem bET (B b : Nat) (bs : List Value) (c : Int) (w : World) (h : Lib.IsBuilderF 93 5 B b bs w) (hlen : bs.length + 1 ≤ 140737488355328) (hBw : B ≤ w.heap.size) :
  Calls prog 53 #[.pointer (some ⟨b, 0, none⟩), .int .u8 c] w fun e w' => e = .returned .nilIface ∧ (Lib.BuilderAtF 93 5 B b (.pointer (some ⟨b, 0, none⟩)) (bs ++ [.int .u8 c]) w' ∧ Below B w w' ∧ Lib.OthersKept 5 (some b) w w') := Any.Builder_WriteByte_k bPR bOA B b bs c w h hlen hBw
theorem yC (B b : Nat) (bs : List Value) (s : ByteArray) (w : World) (h : Lib.IsBuilderF 93 5 B b bs w) (hlen : bs.length + s.size ≤ 140737488355328) (hBw : B ≤ w.heap.size) :
  Calls prog 51 #[.pointer (some ⟨b, 0, none⟩), .string s] w fun e w' => e = .returned (.tuple #[.int .i64 s.size, .nilIface]) ∧ (Lib.BuilderAtF 93 5 B b (.pointer (some ⟨b, 0, none⟩)) (bs ++ Lib.strCells s) w' ∧ Below B w w' ∧ Lib.OthersKept 5 (some b) w w') := Any.Builder_WriteString_k bPS bOA B b bs s w h hlen hBw
end
section
open Go.RowKit
open Go.Lib
theorem zJ (c : UInt8) (m : Nat) : ∀ (p : List (List UInt8)), (∀ x ∈ p, x.length ≤ m) → (dL c p).length ≤ p.length * (m + 1)
 | [], _ => by simp [dL]
 | [x], h => by
  have := h x Zf
  show x.length ≤ _
  simp
  omega
 | x :: y :: r, h => by
  have h0 := h x Zf
  have ih := zJ c m (y :: r) fun z hz => h z (by simp [hz])
  show (x ++ c :: dL c (y :: r)).length ≤ _
  simp only [Vz, List.length_cons] at ih ⊢
  have : (r.length + 1 + 1) * (m + 1) = (r.length + 1) * (m + 1) + (m + 1) := Nat.succ_mul _ _
  omega
theorem rC (op : Int) : (cC op).length ≤ 4 := by
 unfold cC
 repeat' split
 all_goals simp
theorem wS {α β : Type} (f : α → List β) (m : Nat) : ∀ (l : List α), (∀ x ∈ l, (f x).length ≤ m) → (l.flatMap f).length ≤ l.length * m
 | [], _ => by simp
 | x :: l, h => by
  have h0 := h x Zf
  have ih := wS f m l fun z hz => h z (by simp [hz])
  rw [List.flatMap_cons, Vz, List.length_cons, Nat.succ_mul]
  omega
theorem bFL (n : Nd) : (dY n).length ≤ 9 := by
 have := wS (dW n) 2 (cC n.op) fun p _ => by unfold dW; split <;> simp
 have := rC n.op
 simp only [dY, List.length_cons]
 omega
theorem bLD {n : Nd} (fit : ∀ i, i < 6 → cB (n.fld i)) : ∀ x ∈ dY n, x.length ≤ 21 := by
 intro x hx
 rcases List.mem_cons.1 hx with e | e
 ·rw [e]
  have := uY n.op
  omega
 ·obtain ⟨p, hp, hx⟩ := List.mem_flatMap.1 e
  have hw := gQ n.op p hp
  unfold dW at hx
  rcases List.mem_append.1 hx with e | e
  ·rcases hw.1 with h | h | h
   ·rw [if_pos h] at e; cases e
   ·rw [h] at e
    have : x = toW := by simpa [toW] using e
    rw [this]; decide
   ·rw [h] at e
    have : x = elseW := by simpa [elseW] using e
    rw [this]; decide
  ·have : x = itoa (n.fld p.2) := by simpa using e
   rw [this]
   exact itoa_length_le _ (fit p.2 hw.2.2).1 (fit p.2 hw.2.2).2
theorem zD {n : Nd} (fit : ∀ i, i < 6 → cB (n.fld i)) : (dS n).length ≤ 198 := by
 have := zJ 32 21 (dY n) (bLD fit)
 have := bFL n
 unfold dS
 omega
theorem zH {n : Nd} (fit : ∀ i, i < 6 → cB (n.fld i)) : (fD n).length ≤ 199 := by
 have := zD fit
 simp only [fD, Vz, V8]
 omega
theorem bGK {l : List Nd} (fit : ∀ n ∈ l, ∀ i, i < 6 → cB (n.fld i)) : (cS l).length ≤ l.length * 199 := wS fD 199 l fun n hn => zH (fit n hn)
theorem bDB {l : List Nd} {k : Nat} {n : Nd} (h : l[k]? = some n) : cS (l.take (k + 1)) = cS (l.take k) ++ fD n := by
 rw [List.take_add_one, h]
 simp [cS]
theorem bCB (regs : Int) (l : List Nd) : cD regs (l.take 0) = kO ++ itoa regs ++ [10] := by simp [cD, cS]
theorem vQ {regs : Int} {l : List Nd} {k : Nat} {n : Nd} (h : l[k]? = some n) : cD regs (l.take (k + 1)) = cD regs (l.take k) ++ fD n := by
 unfold cD
 rw [bDB h]
 simp
theorem pX {regs : Int} {l : List Nd} (hr : cB regs) (fit : ∀ n ∈ l, ∀ i, i < 6 → cB (n.fld i)) : (cD regs l).length ≤ 27 + l.length * 199 := by
 have := itoa_length_le regs hr.1 hr.2
 have := bGK fit
 simp only [cD, kO, Vz, List.length_cons, List.length_nil]
 omega
theorem sH (regs : Int) (A : Option Addr) (l : List Nd) (cap : Nat) (w : World) (hA : bH w A l) (hl : l.length ≤ 256) (hr : cB regs) (ho : ∀ n ∈ l, 0 ≤ n.op ∧ n.op ≤ 12) (fit : ∀ n ∈ l, ∀ i, i < 6 → cB (n.fld i)) :
  Calls prog 23 #[.agg #[.int .i64 regs, .slice A l.length cap]] w fun e w' => e = .returned (cE (cD regs l)) ∧ Below w.heap.size w w' := by
 have D1 := fun W => bA (gO _ regs W (Nat.le_refl _) hr)
 have L1 := itoa_length_le regs hr.1 hr.2
 have EQ : (⟨#[114, 101, 103, 115, 32]⟩ : ByteArray) ++ ⟨(itoa regs).toArray⟩ ++ ⟨#[10]⟩ = ⟨(cD regs (l.take 0)).toArray⟩ := by
  apply ByteArray.ext
  rw [bCB]
  simp [kO]
 have Ho := bA ho
 have Fit := bA fit
 have Hr := bA hr
 clear ho fit hr
 go_enter func23, ntmps23
 go_wp2_with (go_at_call 58; refine ((D1 _).out).mono ?_; rintro e w1 ⟨rfl, hbw1⟩; obtain ⟨hcw1, hfw1⟩ := bB hbw1; have hzw1 := hbw1.size; simp only [Sz] at hzw1 hcw1 hfw1; (try have hyw1 := Nat.lt_of_succ_le hzw1); (try have hxw1 := Nat.lt_of_succ_lt hyw1))
 go_loopg [3, 4] (l.length) (fun gk s i wr => ∃ k : Nat, k ≤ l.length ∧ i = .int .i64 k ∧ gk = l.length - k ∧ s = cE (cD regs (l.take k)) ∧ Blk wr w.heap.size 24 #[.int .i64 regs, .slice A l.length cap] ∧ Below w.heap.size w wr)
 case atStart => exact ⟨0, Nat.zero_le _, rfl, Zb, congrArg Value.string EQ, Blk.below (Blk.new w _ _) hbw1 Zf, Yc⟩
 case round =>
  obtain ⟨k, hk, rfl, hgk, rfl, hP, hBl⟩ := hrel
  have Hgk := bA hgk
  clear hgk EQ D1 hbw1 hcw1 hfw1 hzw1
  have hz := hBl.size
  refine Wl fun p0 p1 => ?_
  have LS : (cD regs (l.take k)).length ≤ 27 + k * 199 := by
   have := pX (l := l.take k) Hr.o fun n hn => Fit.out n (List.mem_of_mem_take hn)
   rw [List.length_take, Nat.min_eq_left hk] at this
   exact this
  by_cases hlt : k < l.length
  ·obtain ⟨ab, ao, x, rfl, hab, hx, hxl⟩ := (hA.below hBl).get hlt
   have hmem := V4 hx
   have HL := fun W => bA (bND x W (Ho.o x hmem) (Fit.out x hmem))
   have LL := zH (Fit.out x hmem)
   have ES := vQ (regs := regs) hx
   generalize hsa : cD regs (l.take k) = sa at *
   generalize hsl : fD x = sl at *
   have ES := bA ES
   clear hsa hsl hx
   obtain ⟨k0, k1⟩ := Ikq (k := k) (n := l.length) (by omega)
   obtain ⟨c0, c1, c2, c3, c4, c5⟩ := hxl
   have HP := bA hP
   clear hP
   go_wp2_with (refine ((HL _).out).mono ?_; rintro e w3 ⟨rfl, hbw3⟩)
   go_roundg (l.length - (k + 1))
   case measure => exact Jg
   case rel => exact ⟨k + 1, Zb, by go_num, rfl, (by rw [ES.out]; exact congrArg Value.string (uV _ _)), HP.o.below hbw3 HP.o.lt, hBl.trans (hbw3.mono hz)⟩
  ·obtain rfl : k = l.length := Zb
   go_wp2_with fail
   go_ret
   rw [List.take_length]
   exact ⟨rfl, hBl⟩
end
section
open Go.RowKit
open Go.Lib
theorem zE (w : World) : Calls prog 45 #[] w fun e w' => e = .returned (.agg gI) ∧ Below w.heap.size w w' := by
 go_enter func45, ntmps45
 go_wp2_with fail
 exact bodyPost_ret (v := .agg gI) (by simp [results, results45, go_sem, gI]) rfl ⟨rfl, Yc⟩
def sY (g : Nat) (op : Int) : List Value := (cC op).flatMap fun p => [cE p.1, .pointer (some ⟨g, p.2, none⟩)]
def tU (B g : Nat) (op : Int) (w : World) (e : Ending) (w' : World) : Prop :=
 ∃ q : Nat, e = .returned (.slice (some ⟨q, 0, none⟩) (cC op).length (cC op).length) ∧ B ≤ q ∧ Blk w' q 99 (sY g op).toArray ∧ Below B w w'
theorem yX (g k : Nat) (d a b t e : Int) (w : World) (hP : Blk w g 39 #[.int .i64 (k : Int), .int .i64 d, .int .i64 a, .int .i64 b, .int .i64 t, .int .i64 e]) (hk : k < 13) :
  Calls prog 52 #[.pointer (some ⟨g, 0, none⟩)] w (tU w.heap.size g (k : Int) w) := by
 have lg := hP.lt
 go_enter func52, ntmps52
 go_wp2_with fail
 go_upto_region 1 with fail
 go_cut [3, 4, 5, 6] (fun s3 s4 s5 s6 wx => ∃ g3 g4 g5 g6 : Nat, s3 = .pointer (some ⟨g3, 0, none⟩) ∧ s4 = .pointer (some ⟨g4, 0, none⟩) ∧ s5 = .pointer (some ⟨g5, 0, none⟩) ∧ s6 = .pointer (some ⟨g6, 0, none⟩)
  ∧ Blk wx g3 99 #[.string ⟨#[]⟩, .pointer (some ⟨g, 1, none⟩)] ∧ Blk wx g4 99 #[.string ⟨#[]⟩, .pointer (some ⟨g, 2, none⟩)] ∧ Blk wx g5 99 #[.string ⟨#[]⟩, .pointer (some ⟨g, 3, none⟩)] ∧ Blk wx g6 99 #[.string ⟨#[116, 111]⟩, .pointer (some ⟨g, 4, none⟩)] ∧ Below w.heap.size w wx)
 case first =>
  clear hP hk
  go_region
  all_goals (go_wp2_with fail)
  all_goals go_meet
  all_goals exact ⟨_, _, _, _, rfl, rfl, rfl, rfl, Yd, Yd, Yd, Yd, Yc⟩
 case rest =>
  obtain ⟨g3, g4, g5, g6, rfl, rfl, rfl, rfl, h3, h4, h5, h6, hB⟩ := hcut
  have hN := hP.below hB lg
  clear hP
  have c0 := hN.cell 0
  have a0 := h3.cell 0
  have a1 := h3.cell 1
  have b0 := h4.cell 0
  have b1 := h4.cell 1
  have d0 := h5.cell 0
  have d1 := h5.cell 1
  have e0 := h6.cell 0
  have e1 := h6.cell 1
  have hz := hB.size
  simp only [Yl] at c0 a0 a1 b0 b1 d0 d1 e0 e1
  clear hN h3 h4 h5 h6
  have hkk : k = 0 ∨ k = 1 ∨ k = 2 ∨ k = 3 ∨ k = 4 ∨ k = 5 ∨ k = 6 ∨ k = 7 ∨ k = 8 ∨ k = 9 ∨ k = 10 ∨ k = 11 ∨ k = 12 := Zb
  clear hk
  rcases hkk with rfl | rfl | rfl | rfl | rfl | rfl | rfl | rfl | rfl | rfl | rfl | rfl | rfl
  all_goals (go_wp2_with fail)
  all_goals (try (go_region; go_wp2_with fail))
  all_goals go_ret
  all_goals exact ⟨wc.heap.size, rfl, hz, (by first | exact Blk.new _ _ _ | exact (Blk.new wc _ _).drew | exact Blk.new wc.drew _ _), (by first | exact hB.alloc hz _ | exact Yc)⟩
end
section
open Go.Shelf
def Tryz.lays169_ren : Go.Shelf.Ren := ⟨fun | 169 => 54 | n => n, fun | 70 => 90 | 9 => 9 | 0 => 0 | 72 => 93 | 37 => 91 | 127 => 141 | 3 => 3 | 5 => 5 | n => n, fun | n => n⟩
theorem Tryz.lays169 : Go.Proofs.Lays.n169 prog Tryz.lays169_ren := {
 mixed := Zc
 f169 := func54.trans (congrArg some Zc)
 t0 := underlying0
 a0 := isAgg0
 z0 := sizeOf0
 v0 := zeroValue0
 t3 := underlying3
 a3 := isAgg3
 z3 := sizeOf3
 v3 := zeroValue3
 t9 := underlying9
 a9 := isAgg9
 z9 := sizeOf9
 v9 := zeroValue9
 t37 := underlying91
 a37 := isAgg91
 z37 := sizeOf91
 v37 := zeroValue91
 t70 := underlying90
 a70 := isAgg90
 z70 := sizeOf90
 v70 := zeroValue90
 t72 := underlying93
 a72 := isAgg93
 z72 := sizeOf93
 v72 := zeroValue93
 t127 := underlying141
 a127 := isAgg141
 z127 := sizeOf141
 v127 := zeroValue141 }
theorem Tryz.Builder_Extra_169 : Builder.Extra prog Tryz.lays169_ren := {
 sizeBuilder := Zc
 liesBuilder := Zc
 t5 := underlying5
 a5 := isAgg5
 z5 := sizeOf5
 v5 := zeroValue5
 infoByte := Zc
 cellsByte := Zc
 sizeByte := Zc
 neB5 := by decide }
def Tryz.lays103_ren : Go.Shelf.Ren := ⟨fun | 103 => 47 | 210 => 81 | 206 => 109 | n => n, fun | 9 => 9 | 4 => 4 | 24 => 81 | 3 => 3 | n => n, fun | n => n⟩
theorem Tryz.lays103 : Go.Proofs.Lays.n103 prog Tryz.lays103_ren := {
 mixed := Zc
 f103 := func47.trans (congrArg some Zc)
 f206 := func109.trans (congrArg some Zc)
 f210 := func81.trans (congrArg some Zc)
 t3 := underlying3
 a3 := isAgg3
 z3 := sizeOf3
 v3 := zeroValue3
 t4 := underlying4
 a4 := isAgg4
 z4 := sizeOf4
 v4 := zeroValue4
 t9 := underlying9
 a9 := isAgg9
 z9 := sizeOf9
 v9 := zeroValue9
 t24 := underlying81
 a24 := isAgg81
 z24 := sizeOf81
 v24 := zeroValue81 }
open Go.RowKit in
theorem Tryz.strings_CutPrefix (s p : ByteArray) (w : World) :
  Calls prog 47 #[.string s, .string p] w fun e w' => e = .returned (.tuple #[.string ⟨(Lib.trimPrefix s.data.toList p.data.toList).toArray⟩, .bool (Lib.hasPrefix s.data.toList p.data.toList)]) ∧ w' = w := Any.strings_CutPrefix Tryz.lays103 s p w
open Go.RowKit in
theorem Tryz.Builder_String_any_k (B b : Nat) (l : List UInt8) (w : World) (h : Lib.IsBuilderF 93 5 B b (Lib.byteCells l) w) (hBw : B ≤ w.heap.size) :
  Calls prog 54 #[.pointer (some ⟨b, 0, none⟩)] w fun e w' => e = .returned (.string ⟨l.toArray⟩) ∧ (Lib.IsBuilderF 93 5 B b (Lib.byteCells l) w' ∧ Below B w w' ∧ Lib.OthersKept 5 (some b) w w') := Any.Builder_String_any_k Tryz.lays169 Tryz.Builder_Extra_169 B b l w h hBw
def Tryz.laysM171_ren : Go.Shelf.Ren := ⟨fun | 171 => 49 | 243 => 84 | 246 => 115 | 283 => 158 | 284 => 159 | 285 => 160 | 286 => 161 | 129 => 127 | 317 => 178 | 318 => 179 | 319 => 180 | 320 => 181 | 337 => 191 | 338 => 192 | n => n, fun | 3 => 3 | 9 => 9 | 2 => 2 | 4 => 4 | 171 => 206 | 0 => 0 | 53 => 125 | 37 => 91 | 5 => 5 | 173 => 208 | 212 => 229 | 51 => 185 | 20 => 20 | 213 => 230 | 46 => 147 | 232 => 240 | 233 => 241 | n => n, fun | 17 => 3 | 18 => 4 | 19 => 5 | n => n⟩
theorem Tryz.laysM171 : Go.Proofs.LaysM.n171 prog Tryz.laysM171_ren := {
 mixed := Zc
 f129 := func127.trans (congrArg some Zc)
 f171 := func49.trans (congrArg some Zc)
 f243 := func84.trans (congrArg some Zc)
 f246 := func115.trans (congrArg some Zc)
 f283 := func158.trans (congrArg some Zc)
 f284 := func159.trans (congrArg some Zc)
 f285 := func160.trans (congrArg some Zc)
 f286 := func161.trans (congrArg some Zc)
 f317 := func178.trans (congrArg some Zc)
 f318 := func179.trans (congrArg some Zc)
 f319 := func180.trans (congrArg some Zc)
 f320 := func181.trans (congrArg some Zc)
 f337 := func191.trans (congrArg some Zc)
 f338 := func192.trans (congrArg some Zc)
 t0 := underlying0
 a0 := isAgg0
 z0 := sizeOf0
 v0 := zeroValue0
 t2 := underlying2
 a2 := isAgg2
 z2 := sizeOf2
 v2 := zeroValue2
 t3 := underlying3
 a3 := isAgg3
 z3 := sizeOf3
 v3 := zeroValue3
 t4 := underlying4
 a4 := isAgg4
 z4 := sizeOf4
 v4 := zeroValue4
 t5 := underlying5
 a5 := isAgg5
 z5 := sizeOf5
 v5 := zeroValue5
 t9 := underlying9
 a9 := isAgg9
 z9 := sizeOf9
 v9 := zeroValue9
 t20 := underlying20
 a20 := isAgg20
 z20 := sizeOf20
 v20 := zeroValue20
 t37 := underlying91
 a37 := isAgg91
 z37 := sizeOf91
 v37 := zeroValue91
 t46 := underlying147
 a46 := isAgg147
 z46 := sizeOf147
 v46 := zeroValue147
 t51 := underlying185
 a51 := isAgg185
 z51 := sizeOf185
 v51 := zeroValue185
 t53 := underlying125
 a53 := isAgg125
 z53 := sizeOf125
 v53 := zeroValue125
 t171 := underlying206
 a171 := isAgg206
 z171 := sizeOf206
 v171 := zeroValue206
 t173 := underlying208
 a173 := isAgg208
 z173 := sizeOf208
 v173 := zeroValue208
 t212 := underlying229
 a212 := isAgg229
 z212 := sizeOf229
 v212 := zeroValue229
 t213 := underlying230
 a213 := isAgg230
 z213 := sizeOf230
 t232 := underlying240
 a232 := isAgg240
 z232 := sizeOf240
 v232 := zeroValue240
 t233 := underlying241
 a233 := isAgg241
 z233 := sizeOf241
 v233 := zeroValue241
 g17 := Zc
 g18 := Zc
 g19 := Zc
 i0 := Zc
 i2 := Zc
 i3 := Zc
 i4 := Zc
 i5 := Zc
 i9 := Zc
 i20 := Zc
 i37 := Zc
 i46 := Zc
 i51 := Zc
 i53 := Zc
 i171 := Zc
 i173 := Zc
 i212 := Zc
 i232 := Zc
 i233 := Zc
 m17 := Zc
 m18 := Zc
 m19 := by kernel_rfl }
open Go.RowKit Go.Sort Go.Lib in
theorem Tryz.strconv_Itoa (n : Int) (h0 : -9223372036854775808 ≤ n) (h1 : n ≤ 9223372036854775807) (w : World) (htab : Lib.TabIs prog w "internal/strconv.uint64pow10" .u64 Lib.pow10Tab) :
  Calls prog 49 #[.int .i64 n] w fun e w' => e = .returned (.string ⟨(Lib.itoa n).toArray⟩) ∧ ∃ k os, w' = grow (w.drewN k) os := Any.strconv_Itoa Tryz.laysM171 n h0 h1 w htab
def Tryz.laysC172_ren : Go.Shelf.Ren := ⟨fun | 172 => 48 | 244 => 82 | 245 => 83 | 247 => 110 | 279 => 111 | 280 => 112 | 281 => 113 | 282 => 114 | 287 => 155 | 316 => 156 | 171 => 49 | 205 => 157 | 321 => 176 | 322 => 177 | 243 => 84 | 246 => 115 | 283 => 158 | 284 => 159 | 285 => 160 | 286 => 161 | 129 => 127 | 317 => 178 | 318 => 179 | 319 => 180 | 320 => 181 | 337 => 191 | 338 => 192 | n => n, fun | 9 => 9 | 3 => 3 | 75 => 84 | 76 => 85 | 4 => 4 | 5 => 5 | 167 => 167 | 37 => 91 | 0 => 0 | 85 => 168 | 2 => 2 | 168 => 170 | 53 => 125 | 175 => 200 | 46 => 147 | 210 => 204 | 127 => 141 | 145 => 227 | 143 => 225 | 21 => 21 | 171 => 206 | 173 => 208 | 212 => 229 | 51 => 185 | 20 => 20 | 213 => 230 | 232 => 240 | 233 => 241 | 80 => 101 | n => n, fun | 15 => 1 | 16 => 2 | 17 => 3 | 18 => 4 | 19 => 5 | n => n⟩
theorem Tryz.laysC172 : Go.Proofs.LaysC.n172 prog Tryz.laysC172_ren := {
 mixed := Zc
 f129 := func127.trans (congrArg some Zc)
 f171 := func49.trans (congrArg some Zc)
 f172 := func48.trans (congrArg some Zc)
 f205 := func157.trans (congrArg some Zc)
 f243 := func84.trans (congrArg some Zc)
 f244 := func82.trans (congrArg some Zc)
 f245 := func83.trans (congrArg some Zc)
 f246 := func115.trans (congrArg some Zc)
 f247 := func110.trans (congrArg some Zc)
 f279 := func111.trans (congrArg some Zc)
 f280 := func112.trans (congrArg some Zc)
 f281 := func113.trans (congrArg some Zc)
 f282 := func114.trans (congrArg some Zc)
 f283 := func158.trans (congrArg some Zc)
 f284 := func159.trans (congrArg some Zc)
 f285 := func160.trans (congrArg some Zc)
 f286 := func161.trans (congrArg some Zc)
 f287 := func155.trans (congrArg some Zc)
 f316 := func156.trans (congrArg some Zc)
 f317 := func178.trans (congrArg some Zc)
 f318 := func179.trans (congrArg some Zc)
 f319 := func180.trans (congrArg some Zc)
 f320 := func181.trans (congrArg some Zc)
 f321 := func176.trans (congrArg some Zc)
 f322 := func177.trans (congrArg some Zc)
 f337 := func191.trans (congrArg some Zc)
 f338 := func192.trans (congrArg some Zc)
 t0 := underlying0
 a0 := isAgg0
 z0 := sizeOf0
 v0 := zeroValue0
 t2 := underlying2
 a2 := isAgg2
 z2 := sizeOf2
 v2 := zeroValue2
 t3 := underlying3
 a3 := isAgg3
 z3 := sizeOf3
 v3 := zeroValue3
 t4 := underlying4
 a4 := isAgg4
 z4 := sizeOf4
 v4 := zeroValue4
 t5 := underlying5
 a5 := isAgg5
 z5 := sizeOf5
 v5 := zeroValue5
 t9 := underlying9
 a9 := isAgg9
 z9 := sizeOf9
 v9 := zeroValue9
 t20 := underlying20
 a20 := isAgg20
 z20 := sizeOf20
 v20 := zeroValue20
 t21 := underlying21
 a21 := isAgg21
 z21 := sizeOf21
 v21 := zeroValue21
 t37 := underlying91
 a37 := isAgg91
 z37 := sizeOf91
 v37 := zeroValue91
 t46 := underlying147
 a46 := isAgg147
 z46 := sizeOf147
 v46 := zeroValue147
 t51 := underlying185
 a51 := isAgg185
 z51 := sizeOf185
 v51 := zeroValue185
 t53 := underlying125
 a53 := isAgg125
 z53 := sizeOf125
 v53 := zeroValue125
 t75 := underlying84
 a75 := isAgg84
 z75 := sizeOf84
 v75 := zeroValue84
 t76 := underlying85
 a76 := isAgg85
 z76 := sizeOf85
 v76 := zeroValue85
 t85 := underlying168
 a85 := isAgg168
 z85 := sizeOf168
 v85 := zeroValue168
 t127 := underlying141
 a127 := isAgg141
 z127 := sizeOf141
 v127 := zeroValue141
 t143 := underlying225
 a143 := isAgg225
 z143 := sizeOf225
 v143 := zeroValue225
 t145 := underlying227
 a145 := isAgg227
 z145 := sizeOf227
 v145 := zeroValue227
 t167 := underlying167
 a167 := isAgg167
 z167 := sizeOf167
 v167 := zeroValue167
 t168 := underlying170
 a168 := isAgg170
 z168 := sizeOf170
 v168 := zeroValue170
 t171 := underlying206
 a171 := isAgg206
 z171 := sizeOf206
 v171 := zeroValue206
 t173 := underlying208
 a173 := isAgg208
 z173 := sizeOf208
 v173 := zeroValue208
 t175 := underlying200
 a175 := isAgg200
 z175 := sizeOf200
 v175 := zeroValue200
 t210 := underlying204
 a210 := isAgg204
 z210 := sizeOf204
 v210 := zeroValue204
 t212 := underlying229
 a212 := isAgg229
 z212 := sizeOf229
 v212 := zeroValue229
 t213 := underlying230
 a213 := isAgg230
 z213 := sizeOf230
 t232 := underlying240
 a232 := isAgg240
 z232 := sizeOf240
 v232 := zeroValue240
 t233 := underlying241
 a233 := isAgg241
 z233 := sizeOf241
 v233 := zeroValue241
 g15 := Zc
 g16 := Zc
 g17 := Zc
 g18 := Zc
 g19 := Zc
 t80 := underlying101
 a80 := isAgg101
 z80 := sizeOf101
 v80 := zeroValue101
 i0 := Zc
 i2 := Zc
 i3 := Zc
 i4 := Zc
 i5 := Zc
 i9 := Zc
 i20 := Zc
 i21 := Zc
 i37 := Zc
 i46 := Zc
 i51 := Zc
 i53 := Zc
 i75 := Zc
 i76 := Zc
 i80 := Zc
 i85 := Zc
 i127 := Zc
 i143 := Zc
 i145 := Zc
 i167 := Zc
 i168 := Zc
 i171 := Zc
 i173 := Zc
 i175 := Zc
 i210 := Zc
 i212 := Zc
 i232 := Zc
 i233 := Zc
 m15 := Zc
 m16 := Zc
 m17 := Zc
 m18 := Zc
 m19 := Zc
 c0 := Zc
 c2 := Zc
 c3 := Zc
 c4 := Zc
 c5 := Zc
 c9 := Zc
 c20 := Zc
 c21 := Zc
 c37 := Zc
 c46 := Zc
 c51 := Zc
 c53 := Zc
 c75 := Zc
 c76 := Zc
 c80 := Zc
 c85 := Zc
 c127 := Zc
 c143 := Zc
 c145 := Zc
 c167 := Zc
 c168 := Zc
 c171 := Zc
 c173 := Zc
 c175 := Zc
 c210 := Zc
 c212 := Zc
 c213 := Zc
 c232 := Zc
 c233 := by kernel_rfl }
open Go.RowKit in
theorem Tryz.strconv_Atoi_ok (s : ByteArray) (hmax : s.size ≤ 9223372036854775806) (v : Int) (h : Lib.atoiAll s.data.toList = .ok v) (w : World) :
  Calls prog 48 #[.string s] w fun e w' => e = .returned (.tuple #[.int .i64 v, .nilIface]) ∧ (w' = w ∨ ∃ t, w' = Lib.bytesWorld w 5 t) := Any.strconv_Atoi_ok Tryz.laysC172 s hmax v h w
open Go.RowKit in
theorem Tryz.strconv_Atoi_range_var (s : ByteArray) (hlim : s.size ≤ 281474976710656) (h : Lib.atoiAll s.data.toList = .range) (tp : TypeId) (p : Value) (w : World) (hvar : w.var? prog "strconv.ErrRange" = some #[.iface tp p]) :
  Calls prog 48 #[.string s] w fun e w' => ∃ N, e = .returned (.tuple #[.int .i64 (Lib.atoiSat s.data.toList), .iface 170 (.pointer (some ⟨N, 0, none⟩))]) ∧ w.heap.size ≤ N ∧ w'.heap[N]? = some (.cells #[.string ⟨#[65, 116, 111, 105]⟩, .string s, .iface tp p] 204 (0, 0)) ∧ Below w.heap.size w w' := Any.strconv_Atoi_range_var Tryz.laysC172 s hlim h tp p w hvar
def Tryz.lays145_ren : Go.Shelf.Ren := ⟨fun | 145 => 46 | 220 => 80 | 219 => 108 | 217 => 151 | 225 => 152 | 224 => 153 | 267 => 154 | 266 => 174 | 314 => 175 | n => n, fun | 9 => 9 | 4 => 4 | 59 => 79 | 3 => 3 | 5 => 5 | 46 => 147 | 146 => 221 | 51 => 185 | n => n, fun | 1 => 0 | n => n⟩
theorem Tryz.lays145 : Go.Proofs.Lays.n145 prog Tryz.lays145_ren := {
 mixed := Zc
 f145 := func46.trans (congrArg some Zc)
 f217 := func151.trans (congrArg some Zc)
 f219 := func108.trans (congrArg some Zc)
 f220 := func80.trans (congrArg some Zc)
 f224 := func153.trans (congrArg some Zc)
 f225 := func152.trans (congrArg some Zc)
 f266 := func174.trans (congrArg some Zc)
 f267 := func154.trans (congrArg some Zc)
 f314 := func175.trans (congrArg some Zc)
 t3 := underlying3
 a3 := isAgg3
 z3 := sizeOf3
 v3 := zeroValue3
 t4 := underlying4
 a4 := isAgg4
 z4 := sizeOf4
 v4 := zeroValue4
 t5 := underlying5
 a5 := isAgg5
 z5 := sizeOf5
 v5 := zeroValue5
 t9 := underlying9
 a9 := isAgg9
 z9 := sizeOf9
 v9 := zeroValue9
 t46 := underlying147
 a46 := isAgg147
 z46 := sizeOf147
 v46 := zeroValue147
 t51 := underlying185
 a51 := isAgg185
 z51 := sizeOf185
 v51 := zeroValue185
 t59 := underlying79
 a59 := isAgg79
 z59 := sizeOf79
 v59 := zeroValue79
 t146 := underlying221
 a146 := isAgg221
 z146 := sizeOf221
 v146 := zeroValue221
 g1 := by kernel_rfl }
open Go.RowKit Go.Lib in
theorem Tryz.strings_Cut (s sep : ByteArray) (m : Int) (w : World) (hs : s.size < 4294967281) (hm : w.cell? ⟨0, 0, none⟩ = some (.int .i64 m)) :
  Calls prog 46 #[.string s, .string sep] w fun e w' => e = .returned (.tuple #[.string ⟨(Lib.cut s.data.toList sep.data.toList).1.toArray⟩, .string ⟨(Lib.cut s.data.toList sep.data.toList).2.1.toArray⟩, .bool (Lib.cut s.data.toList sep.data.toList).2.2]) ∧ ∃ n, w' = w.drewN n := Any.strings_Cut Tryz.lays145 s sep m w hs hm
def Tryz.lays146_ren : Go.Shelf.Ren := ⟨fun | 146 => 85 | 221 => 116 | 268 => 162 | 138 => 163 | 143 => 164 | 195 => 182 | 197 => 183 | 218 => 184 | 219 => 108 | 260 => 193 | 217 => 151 | 225 => 152 | 224 => 153 | 267 => 154 | 266 => 174 | 314 => 175 | n => n, fun | 9 => 9 | 31 => 102 | 3 => 3 | 4 => 4 | 0 => 0 | 105 => 232 | 21 => 21 | 5 => 5 | 46 => 147 | 119 => 242 | 139 => 245 | 138 => 244 | 146 => 221 | 51 => 185 | n => n, fun | 1 => 0 | 3 => 6 | 4 => 7 | n => n⟩
theorem Tryz.lays146 : Go.Proofs.Lays.n146 prog Tryz.lays146_ren := {
 mixed := Zc
 f138 := func163.trans (congrArg some Zc)
 f143 := func164.trans (congrArg some Zc)
 f146 := func85.trans (congrArg some Zc)
 f195 := func182.trans (congrArg some Zc)
 f197 := func183.trans (congrArg some Zc)
 f217 := func151.trans (congrArg some Zc)
 f218 := func184.trans (congrArg some Zc)
 f219 := func108.trans (congrArg some Zc)
 f221 := func116.trans (congrArg some Zc)
 f224 := func153.trans (congrArg some Zc)
 f225 := func152.trans (congrArg some Zc)
 f260 := func193.trans (congrArg some Zc)
 f266 := func174.trans (congrArg some Zc)
 f267 := func154.trans (congrArg some Zc)
 f268 := func162.trans (congrArg some Zc)
 f314 := func175.trans (congrArg some Zc)
 t0 := underlying0
 a0 := isAgg0
 z0 := sizeOf0
 v0 := zeroValue0
 t3 := underlying3
 a3 := isAgg3
 z3 := sizeOf3
 v3 := zeroValue3
 t4 := underlying4
 a4 := isAgg4
 z4 := sizeOf4
 v4 := zeroValue4
 t5 := underlying5
 a5 := isAgg5
 z5 := sizeOf5
 v5 := zeroValue5
 t9 := underlying9
 a9 := isAgg9
 z9 := sizeOf9
 v9 := zeroValue9
 t21 := underlying21
 a21 := isAgg21
 z21 := sizeOf21
 v21 := zeroValue21
 t31 := underlying102
 a31 := isAgg102
 z31 := sizeOf102
 v31 := zeroValue102
 t46 := underlying147
 a46 := isAgg147
 z46 := sizeOf147
 v46 := zeroValue147
 t51 := underlying185
 a51 := isAgg185
 z51 := sizeOf185
 v51 := zeroValue185
 t105 := underlying232
 a105 := isAgg232
 z105 := sizeOf232
 v105 := zeroValue232
 t119 := underlying242
 a119 := isAgg242
 z119 := sizeOf242
 t138 := underlying244
 a138 := isAgg244
 z138 := sizeOf244
 v138 := zeroValue244
 t139 := underlying245
 a139 := isAgg245
 z139 := sizeOf245
 v139 := zeroValue245
 t146 := underlying221
 a146 := isAgg221
 z146 := sizeOf221
 v146 := zeroValue221
 g1 := Zc
 g3 := Zc
 g4 := by kernel_rfl }
open Go.RowKit Go.Lib in
theorem Tryz.strings_Split (s sep : ByteArray) (m : Int) (w : World) (hs : s.size < 4294967281) (hm : w.cell? ⟨0, 0, none⟩ = some (.int .i64 m)) (h1 : 1 ≤ sep.size) :
  Calls prog 85 #[.string s, .string sep] w fun e w' =>
   e = .returned (.slice (some ⟨w.heap.size, 0, none⟩) (Lib.countB s sep + 1) (Lib.countB s sep + 1)) ∧ w' = w.alloc (.cells ((Lib.splitB sep 0 (Lib.countB s sep) s).map Value.string).toArray 9) := Any.strings_Split Tryz.lays146 Zc s sep m w hs hm h1
end
section
open Go.RowKit
open Go.Lib
theorem sS {n : String} {cs : Array Value} {w w' : World} (h : w.var? prog n = some cs) (hb : Below w.heap.size w w') : w'.var? prog n = some cs := by
 unfold World.var? at h ⊢
 cases hg : prog.globalNamed n with
 | none => rw [hg] at h; cases h
 | some g =>
  rw [hg] at h
  simp only [Option.bind_some] at h ⊢
  have hlt : g < w.heap.size := by
   rcases Nat.lt_or_ge g w.heap.size with h' | h'
   ·exact h'
   ·rw [Array.getElem?_eq_none h'] at h; cases h
  rw [hb.block g hlt]
  exact h
structure Tv (w : World) : Prop where
 tab : Lib.TabIs prog w "internal/strconv.uint64pow10" .u64 Lib.pow10Tab
 syn : ∃ tp p, w.var? prog "strconv.ErrSyntax" = some #[.iface tp p]
 rng : ∃ tp p, w.var? prog "strconv.ErrRange" = some #[.iface tp p]
 mx : ∃ m : Int, w.cell? ⟨0, 0, none⟩ = some (.int .i64 m)
theorem Tv.below {w w' : World} (h : Tv w) (hb : Below w.heap.size w w') : Tv w' := by
 obtain ⟨h1, ⟨t2, p2, h2⟩, ⟨t3, p3, h3⟩, ⟨m, h4⟩⟩ := h
 exact ⟨sS h1 hb, ⟨t2, p2, sS h2 hb⟩, ⟨t3, p3, sS h3 hb⟩, ⟨m, (hb.cell (World.block_lt_of_cell? w _ h4)).trans h4⟩⟩
theorem bBJ (n : Int) (hn : cB n) (w : World) (hT : Tv w) : Calls prog 49 #[.int .i64 n] w fun e w' => e = .returned (cE (itoa n)) ∧ Below w.heap.size w w' := by
 refine (Tryz.strconv_Itoa n hn.1 hn.2 w hT.tab).mono ?_
 rintro e w' ⟨rfl, k, os, rfl⟩
 exact ⟨rfl, below_grow _ _ (Nat.le_refl _) _ _⟩
def Bd (B b : Nat) (l : List UInt8) (w : World) : Prop := Lib.IsBuilderF 93 5 B b (Lib.byteCells l) w
theorem oP {B b : Nat} {p : Value} {bs : List Value} {w w' : World} (h : Lib.BuilderAtF 93 5 B b p bs w) (hb : Below w.heap.size w w') : Lib.BuilderAtF 93 5 B b p bs w' := by
 have hlt := h.lt
 obtain ⟨hB, v, hk, hown, hne⟩ := h
 refine ⟨hB, v, (hb.block b hlt).trans hk, hown.kept (row := none) ⟨hb.os, hb.tape, hb.output, hb.size, fun k hk _ => hb.block k hk⟩ ?_, hne⟩
 cases h0 : v.ownBlock
 ·exact Jc
 ·exact .inr Zf
theorem Bd.below {B b : Nat} {l : List UInt8} {w w' : World} (h : Bd B b l w) (hb : Below w.heap.size w w') : Bd B b l w' :=
 h.elim (fun x => .inl (oP x hb)) (fun x => .inr (oP x hb))
theorem Bd.lt {B b : Nat} {l : List UInt8} {w : World} (h : Bd B b l w) : b < w.heap.size := h.elim (fun x => x.lt) (fun x => x.lt)
theorem Bd.alloc {B b : Nat} {l : List UInt8} {w : World} (h : Bd B b l w) (o : Obj) : Bd B b l (w.alloc o) := Lib.IsBuilderF.alloc h o
theorem Bd.drew {B b : Nat} {l : List UInt8} {w : World} (h : Bd B b l w) : Bd B b l w.drew := h.elim (fun x => .inl x.drew) (fun x => .inr x.drew)
theorem Bd.fresh (w : World) : Bd w.heap.size w.heap.size [] (w.alloc (.cells #[.pointer none, .slice none 0 0] 93)) := by
 refine .inl ⟨Nat.le_refl _, .slice none 0 0, (by have := Blk.new w 93 #[.pointer none, .slice none 0 0]; unfold Blk at this; exact this), World.ownsRowF_nil _ _ _ _, by simp [Value.ownBlock]⟩
theorem WrS (B b : Nat) (l s : List UInt8) (w : World) (h : Bd B b l w) (hlen : l.length + s.length ≤ 1000000) (hBw : B ≤ w.heap.size) :
  Calls prog 51 #[.pointer (some ⟨b, 0, none⟩), cE s] w fun e w' => e = .returned (.tuple #[.int .i64 s.length, .nilIface]) ∧ Bd B b (l ++ s) w' ∧ Below B w w' ∧ Lib.OthersKept 5 (some b) w w' := by
 refine (yC B b (Lib.byteCells l) ⟨s.toArray⟩ w h (by rw [Lib.byteCells_length]; show _ + s.length ≤ _; omega) hBw).mono ?_
 rintro e w' ⟨rfl, h1, h2, h3⟩
 exact ⟨rfl, .inr (by rw [Lib.byteCells_append]; exact h1), h2, h3⟩
theorem WrB (B b : Nat) (l : List UInt8) (c : UInt8) (w : World) (h : Bd B b l w) (hlen : l.length + 1 ≤ 1000000) (hBw : B ≤ w.heap.size) :
  Calls prog 53 #[.pointer (some ⟨b, 0, none⟩), .int .u8 c.toNat] w fun e w' => e = .returned .nilIface ∧ Bd B b (l ++ [c]) w' ∧ Below B w w' ∧ Lib.OthersKept 5 (some b) w w' := by
 refine (bET B b (Lib.byteCells l) c.toNat w h (by rw [Lib.byteCells_length]; omega) hBw).mono ?_
 rintro e w' ⟨rfl, h1, h2, h3⟩
 exact ⟨rfl, .inr (by rw [Lib.byteCells_append]; exact h1), h2, h3⟩
theorem BdStr (B b : Nat) (l : List UInt8) (w : World) (h : Bd B b l w) (hBw : B ≤ w.heap.size) :
  Calls prog 54 #[.pointer (some ⟨b, 0, none⟩)] w fun e w' => e = .returned (cE l) ∧ Below B w w' := by
 refine (Tryz.Builder_String_any_k B b l w h hBw).mono ?_
 rintro e w' ⟨rfl, _, h2, _⟩
 exact ⟨rfl, h2⟩
theorem Blk.others {g b : Nat} {t : TypeId} {cs : Array Value} {w w' : World} (h : Blk w g t cs) (hk : Lib.OthersKept 5 (some b) w w') (hne : g ≠ b) (ht : t ≠ 5) : Blk w' g t cs :=
 by
 unfold Blk at h ⊢
 exact hk g _ h (fun e => hne (Option.some.inj e)) (fun c fz e => ht (by injection e))
end
section
open Go.RowKit
open Go.Lib
theorem wE (c : UInt8) (x : List UInt8) : ∀ (ws : List (List UInt8)), dL c (x :: ws) = x ++ ws.flatMap fun y => c :: y
 | [] => by simp [dL]
 | y :: r => by
  show x ++ c :: dL c (y :: r) = _
  rw [wE c y r]
  simp
def qS (n : Nd) (p : List UInt8 × Nat) : List UInt8 := (if p.1 = [] then [] else 32 :: p.1) ++ 32 :: itoa (n.fld p.2)
theorem bCT (n : Nd) : dS n = opW n.op ++ (cC n.op).flatMap (qS n) := by
 unfold dS dY
 rw [wE, List.flatMap_assoc]
 congr 1
 congr 1
 funext p
 unfold dW qS
 split <;> simp
theorem xY {α : Type} (f : α → List UInt8) (l : List α) (j : Nat) : ((l.take j).flatMap f).length ≤ (l.flatMap f).length := by
 conv => rhs; rw [← List.take_append_drop j l]
 rw [List.flatMap_append, Vz]
 omega
theorem wR {α : Type} (f : α → List UInt8) {l : List α} {j : Nat} {p : α} (h : l[j]? = some p) : (l.take (j + 1)).flatMap f = (l.take j).flatMap f ++ f p := by
 rw [List.take_add_one, h]
 simp
theorem sZ {α : Type} (f g : α → Value) : ∀ (l : List α) (j : Nat) (p : α), l[j]? = some p → (l.flatMap fun p => [f p, g p])[j * 2]? = some (f p) ∧ (l.flatMap fun p => [f p, g p])[j * 2 + 1]? = some (g p)
 | [], j, p, h => by simp at h
 | x :: l, 0, p, h => by
  have : x = p := by simpa using h
  subst this
  simp
 | x :: l, j + 1, p, h => by
  have ih := sZ f g l j p (by simpa using h)
  rw [show (j + 1) * 2 = j * 2 + 2 by omega]
  simpa using ih
theorem jL {regs : Int} {l : List Nd} (h : chk regs l = 0) : 1 ≤ l.length ∧ l.length ≤ 256 ∧ 1 ≤ regs ∧ regs ≤ 64 ∧ ∀ n ∈ l, 0 ≤ n.op ∧ n.op ≤ 12 := by
 unfold chk at h
 split at h
 ·omega
 ·rename_i h1
  split at h
  ·omega
  ·rename_i h2
   refine ⟨Zb, Zb, Zb, Zb, fun n hn => ?_⟩
   have : gG n.op = true := by
    cases ho : gG n.op
    ·exact absurd (List.any_eq_true.2 ⟨n, hn, by simp [ho]⟩) h2
    ·rfl
   simpa [gG, inB] using this
end
section
open Go.Lib
def Fit (l : List Nd) : Prop := ∀ n ∈ l, ∀ i, i < 6 → cB (n.fld i)
def oH (s : List UInt8) : Prop := ∀ regs l, chk regs l = 0 → Fit l → s ≠ cD regs l
def zT (s : List UInt8) (regs : Int) (l : List Nd) (ok : Bool) : Prop := (ok = true ∧ chk regs l = 0 ∧ Fit l ∧ s = cD regs l) ∨ (ok = false ∧ regs = 0 ∧ l = [] ∧ oH s)
theorem gP {regs : Int} {l : List Nd} (h : chk regs l = 0) (hf : Fit l) : ∀ n ∈ l, dH n := fun n hn => bAD (bS h) n hn (hf n hn)
theorem zT.same {s : List UInt8} {r1 r2 : Int} {l1 l2 : List Nd} {k1 k2 : Bool} (h1 : zT s r1 l1 k1) (h2 : zT s r2 l2 k2) : k1 = k2 ∧ r1 = r2 ∧ l1 = l2 := by
 rcases h1 with ⟨a1, b1, c1, d1⟩ | ⟨a1, b1, c1, d1⟩ <;> rcases h2 with ⟨a2, b2, c2, d2⟩ | ⟨a2, b2, c2, d2⟩
 ·obtain ⟨e1, e2⟩ := vP (gP b1 c1) (gP b2 c2) (d1.symm.trans d2)
  exact ⟨a1.trans a2.symm, e1, e2⟩
 ·exact absurd d1 (d2 _ _ b1 c1)
 ·exact absurd d2 (d1 _ _ b2 c2)
 ·exact ⟨a1.trans a2.symm, b1.trans b2.symm, c1.trans c2.symm⟩
theorem bDD (x : List UInt8) : ∀ l : List Nd, dL 10 (x :: (l.map dS ++ [[]])) = x ++ 10 :: cS l := by
 intro l
 induction l generalizing x with
 | nil => rfl
 | cons n r ih =>
  show x ++ 10 :: dL 10 (dS n :: (r.map dS ++ [[]])) = _
  rw [ih]
  simp [cS, fD]
theorem bFS {regs : Int} {l : List Nd} (h : ∀ n ∈ l, 0 ≤ n.op ∧ n.op ≤ 12) : eM 10 (cD regs l) = (kO ++ itoa regs) :: (l.map dS ++ [[]]) := by
 have e : cD regs l = dL 10 ((kO ++ itoa regs) :: (l.map dS ++ [[]])) := by rw [bDD]; rfl
 rw [e]
 refine jG Zf fun x hx => ?_
 rcases List.mem_cons.1 hx with e | e
 ·rw [e]
  intro hm
  rcases List.mem_append.1 hm with h1 | h1
  ·revert h1; decide
  ·exact iM regs 10 Ze h1
 ·rcases List.mem_append.1 e with e | e
  ·obtain ⟨n, hn, rfl⟩ := List.mem_map.1 e
   exact jH (h n hn)
  ·rw [List.mem_singleton.1 e]; simp
theorem wN (regs : Int) : eM 32 (kO ++ itoa regs) = [[114, 101, 103, 115], itoa regs] := by
 have e : kO ++ itoa regs = dL 32 [[114, 101, 103, 115], itoa regs] := by simp [dL, kO]
 rw [e]
 refine jG Zf fun x hx => ?_
 rcases List.mem_cons.1 hx with e | e
 ·rw [e]; decide
 ·rw [List.mem_singleton.1 e]; exact iM regs 32 Ze
theorem kZ {s : List UInt8} {L : List (List UInt8)} (hL : (eM 10 s).take 259 = L) {regs : Int} {l : List Nd} (hc : chk regs l = 0) (hs : s = cD regs l) :
  L = (kO ++ itoa regs) :: (l.map dS ++ [[]]) ∧ cB regs := by
 obtain ⟨h1, h256, hr1, hr64, ho⟩ := jL hc
 refine ⟨?_, by constructor <;> omega⟩
 rw [← hL, hs, bFS ho, List.take_of_length_le]
 simp
 omega
end
section
def Ao (l : List Nd) : Prop := ∀ n ∈ l, n.op = 1 → cB n.a
section
variable {l m : List Nd}
theorem Ao.getD (h : Ao l) (k : Nat) : (l.getD k default).op = 1 → cB (l.getD k default).a := by
 rw [Vy]
 rcases hk : l[k]? with _ | n
 ·intro e; exact absurd e Ze
 ·exact h n (V4 hk)
theorem Ao.nd (h : Ao l) (k : Nat) : (nd l k).op = 1 → cB (nd l k).a := h.getD k
theorem Ao.app (h : Ao l) (h' : Ao m) : Ao (l ++ m) := fun n hn => (List.mem_append.1 hn).elim (h n) (h' n)
theorem Ao.one_ {x : Nd} (hx : x.op = 1 → cB x.a) : Ao [x] := fun n hn => by rw [List.mem_singleton.1 hn]; exact hx
theorem Ao.nil_ : Ao [] := fun n hn => by cases hn
theorem Ao.set_ (h : Ao l) (k : Nat) {x : Nd} (hx : x.op = 1 → cB x.a) : Ao (l.set k x) := fun n hn => (List.mem_or_eq_of_mem_set hn).elim (h n) fun e => by rw [e]; exact hx
theorem Ao.trimTo (h : Ao l) (x : List Bool) : ∀ k, Ao (eA x l k)
 | 0 => Ao.nil_
 | k + 1 => by
  unfold Proofs.YtmghkonmfbpjcabGreatDoor.eA
  refine (Ao.trimTo h x k).app ?_
  split
  ·exact Ao.one_ (h.getD k)
  ·exact Ao.nil_
theorem Ao.trim (h : Ao l) : Ao (iS l) := h.trimTo _ _
theorem Ao.skips1 (n : Nd) : Ao (dM l n) := by
 unfold Proofs.YtmghkonmfbpjcabGreatDoor.dM
 split
 ·exact Ao.one_ (fun e => absurd e (by simp [cM]))
 ·exact Ao.nil_
theorem Ao.skips2 (n : Nd) : Ao (fU l n) := by
 unfold Proofs.YtmghkonmfbpjcabGreatDoor.fU
 split
 ·exact Ao.one_ (fun e => absurd e (by simp [cM]))
 ·exact Ao.nil_
theorem bBX {n : Nd} {N : Nat} (h : n.op = 1 → cB n.a) : (bY l n N).op = 1 → cB (bY l n N).a := by
 unfold bY
 split
 ·exact h
 ·exact h
theorem bMA {n x : Nd} {N : Nat} (h : x.op = 1 → cB x.a) : (dB l n x N).op = 1 → cB (dB l n x N).a := by
 unfold dB
 split
 ·exact h
 ·exact h
theorem Ao.splitTo (h : Ao l) : ∀ k, Ao (cK l k)
 | 0 => h
 | k + 1 => by
  have ih := Ao.splitTo h k
  show Ao (cY l k (l.getD k default) (Proofs.YtmghkonmfbpjcabGreatDoor.cK l k))
  unfold cY
  split
  ·exact ih
  ·have h1 : Ao (fV l k (l.getD k default) (Proofs.YtmghkonmfbpjcabGreatDoor.cK l k)) := (ih.set_ k (bBX (h.getD k))).app (Ao.skips1 _)
   exact (h1.set_ k (bMA (bBX (h.getD k)))).app (Ao.skips2 _)
theorem Ao.split (h : Ao l) : Ao (gA l) := h.splitTo _
theorem Ao.takeL (h : Ao l) (r : Int) (tk : List Bool) : Ao (lC r tk l) := fun n hn => by
 obtain ⟨k, _, rfl⟩ := List.mem_map.1 hn
 unfold jA
 split
 ·intro e; exact absurd e Zf
 ·exact h.nd k
theorem Ao.putTo {t : Tm} (ht : t.op ≠ 1) (r : Int) (pt : List Bool) (h : Ao l) : ∀ k, Ao (jD r t pt l k)
 | 0 => h
 | k + 1 => by
  have ih := Ao.putTo ht r pt h k
  unfold Proofs.YtmghkonmfbpjcabGreatDoor.jD
  split
  ·exact (ih.app (Ao.one_ (ih.nd k))).set_ k (fun e => absurd e ht)
  ·exact ih
theorem Ao.apply {t : Tm} (ht : t.op ≠ 1) (h : Ao l) (r : Int) (pt tk : List Bool) : Ao (dF r t pt tk l) := Ao.putTo ht r pt (h.takeL r tk) _
theorem Ao.hushAt (h : Ao l) (i : Nat) : Ao (eP l i) := h.set_ i (fun e => absurd e (by simp [xX]))
theorem Ao.hushes (hh : eQ l m) : Ao l → Ao m := by
 induction hh with
 | nil => exact id
 | one l l' i hd h ih => exact fun ha => ih (ha.hushAt i)
theorem Ao.one {regs : Int} {t : Tm} (ht : t.op ≠ 1) (h : Ao l) : Ao (pH regs l t) := by
 unfold pH
 split
 ·exact Ao.apply ht h.trim.split _ _ _
 ·exact h
theorem bPG {regs : Int} {t : Tm} (h : gH regs l t = 0) : t.op ≠ 1 := by
 have := bAS (wA h).1
 omega
theorem Ao.all : ∀ (ts : List Tm) {r : Int} {l : List Nd}, Ao l → (gM ts r l).1 = 0 → Ao (gM ts r l).2.2
 | [], r, l, h, _ => h
 | t :: ts, r, l, h, h1 => by
  unfold gM at h1 ⊢
  by_cases h0 : gH r l t = 0
  ·rw [if_neg (by simp [h0])] at h1 ⊢
   exact Ao.all ts (Ao.one (bPG h0) h) h1
  ·rw [if_pos h0] at h1
   exact absurd h1 h0
end
theorem iN.ao {n r : Int} {l : List Nd} {r' : Int} {l' : List Nd} (h : iN n r l 0 r' l') (hR : bM r l) (ha : Ao l) : Ao l' := by
 rcases h with ⟨_, ⟨_, h, _⟩ | ⟨h1, _, rfl, rfl⟩⟩ | ⟨_, ⟨h1, h2, _⟩ | ⟨h1, _, rfl, rfl⟩⟩ | ⟨_, _, rfl, h⟩ | ⟨_, _, rfl, rfl⟩
 ·cases h
 ·exact ha.split
 ·exact absurd h2.symm h1
 ·refine Ao.all _ ha ?_
  unfold mW at h1
  rw [if_neg (by rw [hR.chk]; simp)] at h1
  exact h1
 ·exact Ao.hushes h.1 ha
 ·exact ha.trim
theorem Psq.ao {ns : List Int} {r : Int} {l : List Nd} {c r' : Int} {l' : List Nd} (h : Psq ns r l c r' l') : c = 0 → bM r l → Ao l → Ao l' := by
 induction h with
 | nil => exact fun _ _ h => h
 | bad h hc => exact fun e _ _ => absurd e hc
 | next h h2 ih => exact fun e hR ha => ih e (h.right hR) (h.ao hR ha)
theorem bRT {l : List Nd} (h : Fit l) : Ao l := fun n hn _ => h n hn 2 Zb
theorem bRS {r : Int} {l : List Nd} (hR : bM r l) (ha : Ao l) : Fit l := by
 intro n hn i hi
 have ho := hR.ok n hn
 have hb := hR.rng n hn
 have hf := hR.frm n hn
 have haa := ha n hn
 have h64 := hR.rhi
 have h256 := hR.hi
 have hop : 0 ≤ n.op ∧ n.op ≤ 12 := by simpa [gG, inB] using ho
 simp only [badF, Uf, Bool.not_eq_false', okF, Bool.or_eq_true, beq_iff_eq] at hf
 obtain ⟨⟨⟨⟨b1, b2⟩, b3⟩, b4⟩, b5⟩ := hf
 have hcase : n.op = 0 ∨ n.op = 1 ∨ n.op = 2 ∨ n.op = 3 ∨ n.op = 4 ∨ n.op = 5 ∨ n.op = 6 ∨ n.op = 7 ∨ n.op = 8 ∨ n.op = 9 ∨ n.op = 10 ∨ n.op = 11 ∨ n.op = 12 := Zb
 rcases hcase with e | e | e | e | e | e | e | e | e | e | e | e | e <;>
  simp [e, kI, okR, okN, dE, dC, cG, fL, shT, gG, oL, inB] at b1 b2 b3 b4 b5 hb haa <;>
  (rcases i with _ | _ | _ | _ | _ | _ | i <;> simp only [Nd.fld] <;> first | exact haa | (refine ⟨?_, ?_⟩ <;> omega) | omega)
end
end Go.Proofs.YtmghkonmfbpjcabGreatDoor
