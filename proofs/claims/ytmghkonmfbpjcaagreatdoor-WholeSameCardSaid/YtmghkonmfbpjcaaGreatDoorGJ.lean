/- WpK Tx1 Tx2 TxD TxE TxC TxN TxB TxP TxR TxA TxV TxW TxH WpQ TxK TxO. -/
import Derived.Test.YtmghkonmfbpjcaaGreatDoorGI
import Derived.Test.YtmghkonmfbpjcaaGreatDoorGA
import Derived.Lib.ItoaNum
import Derived.Lib.AtoiAll
import Derived.Test.YtmghkonmfbpjcaaGreatDoorGC
import Derived.Test.YtmghkonmfbpjcaaGreatDoorProg
import Derived.Lib.ItoaLen
import Derived.Laws.BytesString
import Derived.Test.YtmghkonmfbpjcaaGreatDoorGB
import Derived.Deep.DeepCutAuto
import Derived.Deep.RegionWith
import Derived.RegionTactic
import Derived.Shelf.Strings.BuilderK
import Derived.BigRegion
import Derived.Shelf.Strings.Builder1
import Derived.Shelf.Small.Wraps
import Derived.Shelf.Strings.BuilderF
import Derived.Shelf.Strconv.Atoi
import Derived.Shelf.Strconv.Itoa0
import Derived.Shelf.Strconv.Itoa1
import Derived.Shelf.LaysM
import Derived.Shelf.Strconv.Itoa2
import Derived.Shelf.Strconv.Itoa3
import Derived.Shelf.Strconv.AtoiErrFast
import Derived.Shelf.Strconv.ParseIntEmpty
import Derived.Shelf.Strconv.AtoiFail
import Derived.Shelf.Strconv.Clone
import Derived.Shelf.Strconv.SyntaxError
import Derived.Shelf.LaysC
import Derived.Shelf.Strconv.ToError
import Derived.Shelf.Strconv.Lower
import Derived.Shelf.Strconv.ParseUint10
import Derived.Shelf.Strconv.ParseUint10Empty
import Derived.Shelf.Strconv.ParseUint10Any
import Derived.Shelf.Strconv.ParseInt10
import Derived.Shelf.Strconv.AtoiLong
import Derived.Shelf.Strconv.AtoiInnerAll
import Derived.Shelf.Strconv.RangeError
import Derived.Shelf.Strconv.ToErrorRange
import Derived.Shelf.Strconv.AtoiAll
import Derived.Shelf.Strconv.ErrVarAll
import Derived.Shelf.Strings.Search1
import Derived.Shelf.Strings.Search2
import Derived.Shelf.Strings.Search3
import Derived.Shelf.Strings.Cut
import Derived.Shelf.Strings.Count
import Derived.Shelf.Strings.Shaped
import Derived.Shelf.Strings.Prefix
import Derived.Shelf.Strings.Split
import Derived.Shelf.Strings.SplitShaped
import Derived.Shelf.Unicode.Decode
import Derived.Shelf.Strings.RuneCount
import Derived.Shelf.Strings.Explode
import Derived.Shelf.Unicode.DecodeSlow
import Derived.Lib.AppendIntMem
import Derived.Test.YtmghkonmfbpjcaaGreatDoorGG
import Derived.Lib.SplitLaws
import Derived.Lib.AtoiAllCases
import Derived.Lib.AtoiErrMem
import Derived.Maps.OwnSet
import Derived.StringKeys
set_option linter.unusedVariables false
set_option linter.unusedSimpArgs false
namespace Go.Proofs.YtmghkonmfbpjcaaGreatDoor
section
open Go.RowKit
set_option maxHeartbeats 8000000
theorem totalL_take {cs : List (Tm × Int)} {k : Nat} {x : Tm × Int} (h : cs[k]? = some x) : totalL (cs.take (k + 1)) = totalL (cs.take k) + x.2 := by
  rw [List.take_add_one, h]
  unfold totalL
  rw [List.map_append, List.sum_append]
  simp
set_option maxRecDepth 100000 in
theorem reckoned_any (O : Option Addr) (on oc : Nat) (rt : Int) (en : Bool) (st : Int) (C : Option Addr) (cc : Nat) (cs : List Ct) (w : World) (hC : CtsAt w C cs) (hl : cs.length ≤ maxLen) (hs : ∀ k, k ≤ cs.length → i64ok (totalL (cs.take k))) :
    Calls Tryz.prog 10 #[.agg #[.slice O on oc, .int .i64 rt, .bool en, .int .i64 st, .slice C cs.length cc]] w fun e w' => e = .returned (.int .i64 (totalL cs)) ∧ Below w.heap.size w w' := by
  unfold maxLen at hl
  have Hs := hide hs
  clear hs
  go_enter Tryz.func10, Tryz.ntmps10
  go_wp2_with fail
  go_loopg [3, 4] (cs.length) (fun gk n i wr => ∃ k : Nat, k ≤ cs.length ∧ i = .int .i64 k ∧ n = .int .i64 (totalL (cs.take k)) ∧ gk = cs.length - k ∧ Blk wr w.heap.size 33 #[.slice O on oc, .int .i64 rt, .bool en, .int .i64 st, .slice C cs.length cc] ∧ Below w.heap.size w wr)
  case atStart => exact ⟨0, Nat.zero_le _, rfl, rfl, by omega, (by repeat (first | ((with_reducible refine Blk.new' ?_); exact (by (try simp only [Sz]); first | done | omega | (try simp only [Sz] at *); omega)) | (with_reducible refine Blk.drew ?_) | (with_reducible refine Blk.drewN ?_ _) | (with_reducible refine Blk.alloc ?_ _) | with_reducible assumption)), (by (with_reducible repeat first | apply Qa | assumption | apply Qb | apply Qc | apply Qd | apply Qe | refine Qf ?_ (by assumption) ?_); all_goals (try simp only [Sz]); first | done | omega | (try simp only [Sz] at *); omega)⟩
  case round =>
    obtain ⟨k, hk, rfl, rfl, hgk, hR, hBl⟩ := hrel
    have Hgk := hide hgk
    clear hgk
    have r4 := hR.cell 4
    have lR := hR.lt
    simp only [Yl] at r4
    by_cases hlt : k < cs.length
    · obtain ⟨b, o, x, rfl, hab, hx, hxl⟩ := (hC.below hBl).get hlt
      have k0 : (0 : Int) ≤ (k : Int) := by omega
      have k1 : (k : Int) < (cs.length : Int) := by omega
      obtain ⟨c0, c1, c2, c3⟩ := hxl
      have hst := totalL_take hx
      have hb := Hs.out (k + 1) (by omega)
      rw [hst] at hb
      have Hst := hide hst
      have HR := hide hR
      generalize totalL (cs.take k) = tk at *
      obtain ⟨hb1, hb2⟩ := hb
      clear hC hx hst hR
      go_wp2_with fail
      go_roundg (cs.length - (k + 1))
      case measure => have := Hgk.out; omega
      case rel => exact ⟨k + 1, by omega, by go_num, by rw [Hst.out], rfl, HR.out, hBl⟩
    · obtain rfl : k = cs.length := by omega
      rw [List.take_length]
      clear hC
      go_wp2_with fail
      go_ret
      exact ⟨rfl, hBl⟩
end
section
open Go.Lib
/-! numbers -/
theorem digit_nat {i : Nat} (h : i < 10) : (UInt8.ofNat (48 + i)).toNat = 48 + i := by
  rw [UInt8.toNat_ofNat']
  omega
theorem dec_small {u : Nat} (h : u < 10) : decDigits u = [UInt8.ofNat (48 + u)] := by rw [decDigits, dif_pos h]
theorem dec_big {u : Nat} (h : ¬ u < 10) : decDigits u = decDigits (u / 10) ++ [UInt8.ofNat (48 + u % 10)] := by
  conv => lhs; rw [decDigits]
  rw [dif_neg h]
theorem dec_bytes (u : Nat) : ∀ b ∈ decDigits u, 48 ≤ b.toNat ∧ b.toNat ≤ 57 := by
  induction u using Nat.strongRecOn with
  | _ u ih =>
    intro b hb
    by_cases h : u < 10
    · rw [dec_small h] at hb
      have : b = UInt8.ofNat (48 + u) := by simpa using hb
      rw [this, digit_nat h]; omega
    · rw [dec_big h] at hb
      rcases List.mem_append.1 hb with e | e
      · exact ih (u / 10) (by omega) b e
      · have : b = UInt8.ofNat (48 + u % 10) := by simpa using e
        rw [this, digit_nat (by omega)]; omega
theorem dec_ne (u : Nat) : decDigits u ≠ [] := by
  by_cases h : u < 10
  · rw [dec_small h]; simp
  · rw [dec_big h]; simp
def decVal : Nat → List UInt8 → Nat
  | acc, [] => acc
  | acc, b :: r => decVal (acc * 10 + (b.toNat - 48)) r
theorem decVal_snoc (l : List UInt8) (b : UInt8) : ∀ acc, decVal acc (l ++ [b]) = decVal acc l * 10 + (b.toNat - 48) := by
  induction l with
  | nil => intro acc; rfl
  | cons a l ih => intro acc; exact ih _
theorem decVal_dec (u : Nat) : decVal 0 (decDigits u) = u := by
  induction u using Nat.strongRecOn with
  | _ u ih =>
    by_cases h : u < 10
    · rw [dec_small h]
      show 0 * 10 + ((UInt8.ofNat (48 + u)).toNat - 48) = u
      rw [digit_nat h]; omega
    · rw [dec_big h, decVal_snoc, ih (u / 10) (by omega), digit_nat (by omega)]
      omega
theorem decVal_ge (l : List UInt8) : ∀ acc, acc ≤ decVal acc l := by
  induction l with
  | nil => intro acc; exact Nat.le_refl _
  | cons b l ih => intro acc; exact Nat.le_trans (by omega) (ih (acc * 10 + (b.toNat - 48)))
theorem parse_dec (l : List UInt8) : ∀ acc, (∀ b ∈ l, 48 ≤ b.toNat ∧ b.toNat ≤ 57) → decVal acc l < 18446744073709551616 → parseUint10 acc l = .ok (decVal acc l) := by
  induction l with
  | nil => intro acc _ _; rfl
  | cons b l ih =>
    intro acc hb hv
    have h1 := hb b (by simp)
    have h2 := decVal_ge l (acc * 10 + (b.toNat - 48))
    have hv' : decVal (acc * 10 + (b.toNat - 48)) l < 18446744073709551616 := hv
    rw [parseUint10, if_pos h1, if_neg (by omega), if_neg (by omega)]
    exact ih _ (fun c hc => hb c (by simp [hc])) hv
theorem itoa_bytes (n : Int) : ∀ b ∈ itoa n, b.toNat = 45 ∨ 48 ≤ b.toNat ∧ b.toNat ≤ 57 := by
  intro b hb
  unfold itoa at hb
  split at hb
  · rcases List.mem_cons.1 hb with e | e
    · left; rw [e]; decide
    · exact .inr (dec_bytes _ b e)
  · exact .inr (dec_bytes _ b hb)
theorem itoa_ne (n : Int) : itoa n ≠ [] := by
  unfold itoa
  split
  · simp
  · exact dec_ne _
theorem dec_inj {u v : Nat} (h : decDigits u = decDigits v) : u = v := by rw [← decVal_dec u, ← decVal_dec v, h]
theorem itoa_inj {a b : Int} (h : itoa a = itoa b) : a = b := by
  have hd : ∀ (u v : Nat), decDigits u ≠ 45 :: decDigits v := fun u v e => by
    have := dec_bytes u 45 (by rw [e]; simp)
    simp at this
  unfold itoa at h
  split at h
  · split at h
    · injection h with _ h
      have := dec_inj h
      omega
    · exact absurd h.symm (hd _ _)
  · split at h
    · exact absurd h (hd _ _)
    · have := dec_inj h
      omega
theorem atoi_itoa {n : Int} (h0 : -9223372036854775808 ≤ n) (h1 : n ≤ 9223372036854775807) : atoiAll (itoa n) = .ok n := by
  have key : ∀ u : Nat, u < 18446744073709551616 → parseMag (decDigits u) = .ok u := fun u hu => by
    unfold parseMag
    rw [if_neg (dec_ne u), parse_dec _ 0 (dec_bytes u) (by rw [decVal_dec]; exact hu), decVal_dec]
  by_cases h : n < 0
  · have e : itoa n = 45 :: decDigits n.natAbs := if_pos h
    rw [e]
    unfold atoiAll
    have h45 : (45 : UInt8).toNat = 45 := by decide
    simp only [h45]
    rw [if_pos (by simp), key n.natAbs (by omega)]
    have a : ¬ (9223372036854775808 < n.natAbs) := by omega
    have e2 : -(n.natAbs : Int) = n := by omega
    simp [a, e2]
  · have e : itoa n = decDigits n.toNat := if_neg h
    rw [e]
    have hb := dec_bytes n.toNat
    have hk := key n.toNat (by omega)
    rcases hD : decDigits n.toNat with _ | ⟨c, r⟩
    · exact absurd hD (dec_ne _)
    · rw [hD] at hb hk
      have hc := hb c (by simp)
      unfold atoiAll
      simp only
      rw [if_neg (by omega), hk]
      simp only
      rw [if_neg (by omega), if_neg (by omega), if_neg (by omega)]
      congr 1
      omega
/-! words -/
def joinB (c : UInt8) : List (List UInt8) → List UInt8
  | [] => []
  | [x] => x
  | x :: y :: r => x ++ c :: joinB c (y :: r)
theorem joinB_cons (c : UInt8) (x : List UInt8) {r : List (List UInt8)} (h : r ≠ []) : joinB c (x :: r) = x ++ c :: joinB c r := by
  cases r with
  | nil => exact absurd rfl h
  | cons y r => rfl
theorem head_inj {c : UInt8} : ∀ {x y s u : List UInt8}, c ∉ x → c ∉ y → x ++ c :: s = y ++ c :: u → x = y ∧ s = u
  | [], [], s, u, _, _, h => by simpa using h
  | [], b :: y, s, u, _, hy, h => by
    injection h with h1 _
    exact absurd (by rw [h1]; simp) hy
  | a :: x, [], s, u, hx, _, h => by
    injection h with h1 _
    exact absurd (by rw [← h1]; simp) hx
  | a :: x, b :: y, s, u, hx, hy, h => by
    injection h with h1 h2
    obtain ⟨e1, e2⟩ := head_inj (fun e => hx (by simp [e])) (fun e => hy (by simp [e])) h2
    exact ⟨by rw [h1, e1], e2⟩
theorem joinB_inj {c : UInt8} : ∀ {p q : List (List UInt8)}, p ≠ [] → q ≠ [] → (∀ x ∈ p, c ∉ x) → (∀ x ∈ q, c ∉ x) → joinB c p = joinB c q → p = q
  | [], _, h, _, _, _, _ => absurd rfl h
  | _, [], _, h, _, _, _ => absurd rfl h
  | [x], [y], _, _, _, _, h => by rw [show x = y from h]
  | [x], y :: z :: r, _, _, hp, _, h => by
    have h : x = y ++ c :: joinB c (z :: r) := h
    exact absurd (by rw [h]; simp) (hp x (by simp))
  | x :: z :: r, [y], _, _, _, hq, h => by
    have h : x ++ c :: joinB c (z :: r) = y := h
    exact absurd (by rw [← h]; simp) (hq y (by simp))
  | x :: x2 :: r, y :: y2 :: q, _, _, hp, hq, h => by
    obtain ⟨e1, e2⟩ := head_inj (hp x (by simp)) (hq y (by simp)) (show x ++ c :: joinB c (x2 :: r) = y ++ c :: joinB c (y2 :: q) from h)
    rw [e1, joinB_inj (by simp) (by simp) (fun z hz => hp z (by simp [hz])) (fun z hz => hq z (by simp [hz])) e2]
end
section
open Go.Lib
def opNames : List (List UInt8) := [[115, 107, 105, 112], [115, 101, 116], [99, 111, 112, 121], [97, 100, 100], [115, 117, 98], [109, 117, 108], [97, 110, 100], [120, 111, 114], [108, 101, 115, 115], [105, 110], [111, 117, 116], [105, 102], [101, 110, 100]]
def opW (op : Int) : List UInt8 := opNames.getD op.toNat []
def toW : List UInt8 := [116, 111]
def elseW : List UInt8 := [101, 108, 115, 101]
def regsW : List UInt8 := [114, 101, 103, 115, 32]
def partsL (op : Int) : List (List UInt8 × Nat) :=
  if op = 0 then [(toW, 4)] else if op = 1 ∨ op = 2 then [([], 1), ([], 2), (toW, 4)] else if op = 9 then [([], 1), (toW, 4)] else if op = 10 then [([], 2), (toW, 4)]
  else if op = 11 then [([], 2), (toW, 4), (elseW, 5)] else if op = 12 then [([], 2)] else [([], 1), ([], 2), ([], 3), (toW, 4)]
def Nd.fld (n : Nd) : Nat → Int
  | 0 => n.op
  | 1 => n.d
  | 2 => n.a
  | 3 => n.b
  | 4 => n.t
  | _ => n.e
theorem Nd.fld_cell (n : Nd) {i : Nat} (h : i < 6) : n.cells[i]? = some (.int .i64 (n.fld i)) := by
  rcases i with _ | _ | _ | _ | _ | _ | i <;> first | rfl | omega
theorem Nd.fld_put (n : Nd) {i : Nat} (k : Nat) (x : Int) (hi : i < 6) (hk : k < 6) : (n.put k x).fld i = if i = k then x else n.fld i := by
  rcases k with _ | _ | _ | _ | _ | _ | k <;> (try omega) <;> rcases i with _ | _ | _ | _ | _ | _ | i <;> first | rfl | omega
theorem Nd.ext_fld {n m : Nd} (h : ∀ i, i < 6 → n.fld i = m.fld i) : n = m := by
  have h0 := h 0 (by omega)
  have h1 := h 1 (by omega)
  have h2 := h 2 (by omega)
  have h3 := h 3 (by omega)
  have h4 := h 4 (by omega)
  have h5 := h 5 (by omega)
  cases n
  cases m
  simp only [Nd.fld] at *
  subst h0 h1 h2 h3 h4 h5
  rfl
def partW (n : Nd) (p : List UInt8 × Nat) : List (List UInt8) := (if p.1 = [] then [] else [p.1]) ++ [itoa (n.fld p.2)]
def wordsL (n : Nd) : List (List UInt8) := opW n.op :: (partsL n.op).flatMap (partW n)
def nodeL (n : Nd) : List UInt8 := joinB 32 (wordsL n)
def lineL (n : Nd) : List UInt8 := nodeL n ++ [10]
def linesL (l : List Nd) : List UInt8 := l.flatMap lineL
def showL (regs : Int) (l : List Nd) : List UInt8 := regsW ++ itoa regs ++ 10 :: linesL l
structure Shaped (n : Nd) : Prop where
  op : 0 ≤ n.op ∧ n.op ≤ 12
  rest : ∀ i, 1 ≤ i → i < 6 → i ∉ (partsL n.op).map Prod.snd → n.fld i = 0
  fit : ∀ i, i < 6 → -9223372036854775808 ≤ n.fld i ∧ n.fld i ≤ 9223372036854775807
theorem opW_inj {a b : Int} (ha : 0 ≤ a ∧ a ≤ 12) (hb : 0 ≤ b ∧ b ≤ 12) (h : opW a = opW b) : a = b := by
  have key : ∀ i : Fin 13, ∀ j : Fin 13, opNames.getD i.val [] = opNames.getD j.val [] → i = j := by decide
  have := key ⟨a.toNat, by omega⟩ ⟨b.toNat, by omega⟩ h
  have := congrArg Fin.val this
  simp only at this
  omega
theorem opW_clean {a : Int} (ha : 0 ≤ a ∧ a ≤ 12) : (32 : UInt8) ∉ opW a ∧ (10 : UInt8) ∉ opW a ∧ opW a ≠ [] := by
  have key : ∀ i : Fin 13, (32 : UInt8) ∉ opNames.getD i.val [] ∧ (10 : UInt8) ∉ opNames.getD i.val [] ∧ opNames.getD i.val [] ≠ [] := by decide
  exact key ⟨a.toNat, by omega⟩
theorem partsL_words (op : Int) : ∀ p ∈ partsL op, (p.1 = [] ∨ p.1 = toW ∨ p.1 = elseW) ∧ 1 ≤ p.2 ∧ p.2 < 6 := by
  intro p hp
  unfold partsL at hp
  repeat' (split at hp)
  all_goals
    simp only [List.mem_cons, List.not_mem_nil, or_false] at hp
  all_goals
    rcases hp with rfl | rfl | rfl | rfl <;> simp
theorem itoa_clean (n : Int) (c : UInt8) (hc : c.toNat < 45) : c ∉ itoa n := fun h => by
  have := itoa_bytes n c h
  omega
theorem partW_clean {op : Int} {p : List UInt8 × Nat} (hp : p ∈ partsL op) (n : Nd) : ∀ x ∈ partW n p, (32 : UInt8) ∉ x ∧ (10 : UInt8) ∉ x := by
  intro x hx
  unfold partW at hx
  rcases List.mem_append.1 hx with e | e
  · rcases (partsL_words op p hp).1 with h | h | h
    · rw [if_pos h] at e; cases e
    · rw [h] at e
      have : x = toW := by simpa [toW] using e
      rw [this]; decide
    · rw [h] at e
      have : x = elseW := by simpa [elseW] using e
      rw [this]; decide
  · have : x = itoa (n.fld p.2) := by simpa using e
    rw [this]
    exact ⟨itoa_clean _ _ (by decide), itoa_clean _ _ (by decide)⟩
theorem words_clean {n : Nd} (hn : 0 ≤ n.op ∧ n.op ≤ 12) : ∀ x ∈ wordsL n, (32 : UInt8) ∉ x ∧ (10 : UInt8) ∉ x := by
  intro x hx
  rcases List.mem_cons.1 hx with e | e
  · rw [e]; exact ⟨(opW_clean hn).1, (opW_clean hn).2.1⟩
  · obtain ⟨p, hp, hx⟩ := List.mem_flatMap.1 e
    exact partW_clean hp n x hx
theorem joinB_clean {c : UInt8} (hc : c ≠ 32) : ∀ {p : List (List UInt8)}, (∀ x ∈ p, c ∉ x) → c ∉ joinB 32 p
  | [], _ => by simp [joinB]
  | [x], h => h x (by simp)
  | x :: y :: r, h => by
    have ih := joinB_clean hc (p := y :: r) fun z hz => h z (by simp [hz])
    show c ∉ x ++ 32 :: joinB 32 (y :: r)
    simp only [List.mem_append, List.mem_cons, not_or]
    exact ⟨h x (by simp), hc, ih⟩
theorem node_clean {n : Nd} (hn : 0 ≤ n.op ∧ n.op ≤ 12) : (10 : UInt8) ∉ nodeL n := joinB_clean (by decide) fun x hx => (words_clean hn x hx).2
theorem parts_inj {n m : Nd} : ∀ {ps : List (List UInt8 × Nat)}, ps.flatMap (partW n) = ps.flatMap (partW m) → ∀ p ∈ ps, n.fld p.2 = m.fld p.2
  | [], _, p, hp => by cases hp
  | q :: ps, h, p, hp => by
    rw [List.flatMap_cons, List.flatMap_cons] at h
    have hl : (partW n q).length = (partW m q).length := by unfold partW; simp
    obtain ⟨h1, h2⟩ := List.append_inj h hl
    rcases List.mem_cons.1 hp with e | e
    · subst e
      unfold partW at h1
      have := List.append_inj_right h1 rfl
      simp at this
      exact itoa_inj this
    · exact parts_inj h2 p e
theorem node_inj {n m : Nd} (hn : Shaped n) (hm : Shaped m) (h : nodeL n = nodeL m) : n = m := by
  have hw := joinB_inj (by simp [wordsL]) (by simp [wordsL]) (fun x hx => (words_clean hn.op x hx).1) (fun x hx => (words_clean hm.op x hx).1) h
  unfold wordsL at hw
  injection hw with h1 h2
  have ho := opW_inj hn.op hm.op h1
  rw [← ho] at h2
  refine Nd.ext_fld fun i hi => ?_
  by_cases h0 : i = 0
  · subst h0; exact ho
  · by_cases hp : i ∈ (partsL n.op).map Prod.snd
    · obtain ⟨p, hp1, rfl⟩ := List.mem_map.1 hp
      exact parts_inj h2 p hp1
    · rw [hn.rest i (by omega) hi hp, hm.rest i (by omega) hi (by rw [← ho]; exact hp)]
theorem lines_inj : ∀ {l m : List Nd}, (∀ n ∈ l, Shaped n) → (∀ n ∈ m, Shaped n) → linesL l = linesL m → l = m
  | [], [], _, _, _ => rfl
  | [], m :: ms, _, _, h => by
    have : (linesL (m :: ms)) ≠ [] := by simp [linesL, lineL]
    exact absurd h.symm this
  | n :: ns, [], _, _, h => by
    have : (linesL (n :: ns)) ≠ [] := by simp [linesL, lineL]
    exact absurd h this
  | n :: ns, m :: ms, hl, hm, h => by
    have hn := hl n (by simp)
    have hm' := hm m (by simp)
    have h : nodeL n ++ 10 :: linesL ns = nodeL m ++ 10 :: linesL ms := by simpa [linesL, lineL] using h
    obtain ⟨e1, e2⟩ := head_inj (node_clean hn.op) (node_clean hm'.op) h
    rw [node_inj hn hm' e1, lines_inj (fun k hk => hl k (by simp [hk])) (fun k hk => hm k (by simp [hk])) e2]
theorem right_shaped {regs : Int} {l : List Nd} (hR : Right regs l) : ∀ n ∈ l, (∀ i, i < 6 → -9223372036854775808 ≤ n.fld i ∧ n.fld i ≤ 9223372036854775807) → Shaped n := fun n hn hf => by
  have ho := hR.ok n hn
  have hb := hR.frm n hn
  have hop : 0 ≤ n.op ∧ n.op ≤ 12 := by simpa [opOk, inB] using ho
  refine ⟨hop, fun i h1 h6 hi => ?_, hf⟩
  simp only [badF, Bool.or_eq_false_iff, Bool.not_eq_false', okF, Bool.or_eq_true, beq_iff_eq] at hb
  obtain ⟨⟨⟨⟨b1, b2⟩, b3⟩, b4⟩, b5⟩ := hb
  have hcase : n.op = 0 ∨ n.op = 1 ∨ n.op = 2 ∨ n.op = 3 ∨ n.op = 4 ∨ n.op = 5 ∨ n.op = 6 ∨ n.op = 7 ∨ n.op = 8 ∨ n.op = 9 ∨ n.op = 10 ∨ n.op = 11 ∨ n.op = 12 := by omega
  have hi' : i = 1 ∨ i = 2 ∨ i = 3 ∨ i = 4 ∨ i = 5 := by omega
  rcases hcase with e | e | e | e | e | e | e | e | e | e | e | e | e <;> rcases hi' with rfl | rfl | rfl | rfl | rfl <;>
    simp [e, partsL, hasD, hasA, hasB, hasE, shT, opOk, isSet, inB] at b1 b2 b3 b4 b5 hi <;> simp [Nd.fld, *]
theorem show_inj {r1 r2 : Int} {l m : List Nd} (hl : ∀ n ∈ l, Shaped n) (hm : ∀ n ∈ m, Shaped n) (h : showL r1 l = showL r2 m) : r1 = r2 ∧ l = m := by
  unfold showL at h
  rw [List.append_assoc, List.append_assoc] at h
  have h1 := List.append_cancel_left h
  obtain ⟨e1, e2⟩ := head_inj (itoa_clean r1 10 (by decide)) (itoa_clean r2 10 (by decide)) h1
  exact ⟨itoa_inj e1, lines_inj hl hm e2⟩
end
section
open Go.RowKit
set_option maxHeartbeats 4000000
open Go.Lib
abbrev strB (l : List UInt8) : Value := .string ⟨l.toArray⟩
end
section
open Go.RowKit
set_option maxHeartbeats 4000000
open Go.Lib
def namesV : Array Value := #[.string ⟨#[115, 107, 105, 112]⟩, .string ⟨#[115, 101, 116]⟩, .string ⟨#[99, 111, 112, 121]⟩, .string ⟨#[97, 100, 100]⟩, .string ⟨#[115, 117, 98]⟩, .string ⟨#[109, 117, 108]⟩, .string ⟨#[97, 110, 100]⟩, .string ⟨#[120, 111, 114]⟩, .string ⟨#[108, 101, 115, 115]⟩, .string ⟨#[105, 110]⟩, .string ⟨#[111, 117, 116]⟩, .string ⟨#[105, 102]⟩, .string ⟨#[101, 110, 100]⟩]
theorem opW_len (op : Int) : (opW op).length ≤ 4 := by
  unfold opW
  by_cases h : op.toNat < 13
  · have key : ∀ i : Fin 13, (opNames.getD i.val []).length ≤ 4 := by decide
    exact key ⟨op.toNat, h⟩
  · rw [List.getD_eq_getElem?_getD, List.getElem?_eq_none (by simp [opNames]; omega)]
    simp
end
section
open Go.RowKit
set_option maxHeartbeats 4000000
open Go.Lib
def cutL (c : UInt8) : List UInt8 → List UInt8 → List (List UInt8)
  | cur, [] => [cur]
  | cur, x :: r => if x = c then cur :: cutL c [] r else cutL c (cur ++ [x]) r
def splB (c : UInt8) (s : List UInt8) : List (List UInt8) := cutL c [] s
theorem cutL_ne (c : UInt8) : ∀ (r cur : List UInt8), cutL c cur r ≠ []
  | [], cur => by simp [cutL]
  | x :: r, cur => by
    unfold cutL
    split
    · simp
    · exact cutL_ne c r _
theorem joinB_cutL (c : UInt8) : ∀ (r cur : List UInt8), joinB c (cutL c cur r) = cur ++ r
  | [], cur => by simp [cutL, joinB]
  | x :: r, cur => by
    unfold cutL
    split
    · rename_i h
      obtain ⟨y, ys, e⟩ : ∃ y ys, cutL c [] r = y :: ys := by
        cases e : cutL c [] r with
        | nil => exact absurd e (cutL_ne c r [])
        | cons y ys => exact ⟨y, ys, rfl⟩
      have := joinB_cutL c r []
      rw [e] at this ⊢
      show cur ++ c :: joinB c (y :: ys) = _
      rw [this, h]
      rfl
    · rw [joinB_cutL c r]
      simp
theorem cutL_clean (c : UInt8) : ∀ (r cur : List UInt8), c ∉ cur → ∀ x ∈ cutL c cur r, c ∉ x
  | [], cur, h, x, hx => by
    have : x = cur := by simpa [cutL] using hx
    rw [this]; exact h
  | y :: r, cur, h, x, hx => by
    unfold cutL at hx
    split at hx
    · rcases List.mem_cons.1 hx with e | e
      · rw [e]; exact h
      · exact cutL_clean c r [] (by simp) x e
    · rename_i hy
      exact cutL_clean c r _ (by simp [h]; exact fun e => hy e.symm) x hx
theorem splB_joinB {c : UInt8} {p : List (List UInt8)} (hp : p ≠ []) (h : ∀ x ∈ p, c ∉ x) : splB c (joinB c p) = p := by
  have h1 := joinB_cutL c (joinB c p) []
  exact joinB_inj (cutL_ne c _ _) hp (fun x hx => cutL_clean c _ _ (by simp) x hx) h (by rw [List.nil_append] at h1; exact h1)
end
section
open Go.RowKit
set_option maxHeartbeats 4000000
open Go.Lib
theorem itoa_split (n : Int) : itoa n = (if n < 0 then [45] else []) ++ decDigits n.natAbs := by
  unfold itoa
  split
  · rfl
  · rw [show n.toNat = n.natAbs by omega]; rfl
def saidV (s : List UInt8) (k : Nat) : Nat := decVal 0 ((s.take k).filter (· != 45))
end
section
open Go.Shelf Go.RowKit
def bRen : Go.Shelf.Ren := ⟨fun | 240 => 108 | 276 => 139 | 166 => 59 | 167 => 63 | n => n, fun | 0 => 0 | 3 => 3 | 4 => 4 | 5 => 5 | 9 => 9 | 20 => 20 | 37 => 101 | 70 => 100 | 72 => 103 | 75 => 105 | 80 => 116 | 164 => 186 | n => n, fun n => n⟩
theorem lays166 : Lays.n166 Tryz.prog bRen where
  mixed := by kernel_rfl
  f166 := Tryz.func59.trans (congrArg some (by kernel_rfl))
  f240 := Tryz.func108.trans (congrArg some (by kernel_rfl))
  f276 := Tryz.func139.trans (congrArg some (by kernel_rfl))
  t0 := Tryz.underlying0
  a0 := Tryz.isAgg0
  z0 := Tryz.sizeOf0
  v0 := Tryz.zeroValue0
  t3 := Tryz.underlying3
  a3 := Tryz.isAgg3
  z3 := Tryz.sizeOf3
  v3 := Tryz.zeroValue3
  t4 := Tryz.underlying4
  a4 := Tryz.isAgg4
  z4 := Tryz.sizeOf4
  v4 := Tryz.zeroValue4
  t9 := Tryz.underlying9
  a9 := Tryz.isAgg9
  z9 := Tryz.sizeOf9
  v9 := Tryz.zeroValue9
  t20 := Tryz.underlying20
  a20 := Tryz.isAgg20
  z20 := Tryz.sizeOf20
  v20 := Tryz.zeroValue20
  t37 := Tryz.underlying101
  a37 := Tryz.isAgg101
  z37 := Tryz.sizeOf101
  v37 := Tryz.zeroValue101
  t70 := Tryz.underlying100
  a70 := Tryz.isAgg100
  z70 := Tryz.sizeOf100
  v70 := Tryz.zeroValue100
  t72 := Tryz.underlying103
  a72 := Tryz.isAgg103
  z72 := Tryz.sizeOf103
  v72 := Tryz.zeroValue103
  t75 := Tryz.underlying105
  a75 := Tryz.isAgg105
  z75 := Tryz.sizeOf105
  v75 := Tryz.zeroValue105
  t164 := Tryz.underlying186
  a164 := Tryz.isAgg186
  z164 := Tryz.sizeOf186
  v164 := Tryz.zeroValue186
theorem lays167 : Lays.n167 Tryz.prog bRen where
  mixed := by kernel_rfl
  f167 := Tryz.func63.trans (congrArg some (by kernel_rfl))
  f240 := Tryz.func108.trans (congrArg some (by kernel_rfl))
  f276 := Tryz.func139.trans (congrArg some (by kernel_rfl))
  t0 := Tryz.underlying0
  a0 := Tryz.isAgg0
  z0 := Tryz.sizeOf0
  v0 := Tryz.zeroValue0
  t4 := Tryz.underlying4
  a4 := Tryz.isAgg4
  z4 := Tryz.sizeOf4
  v4 := Tryz.zeroValue4
  t5 := Tryz.underlying5
  a5 := Tryz.isAgg5
  z5 := Tryz.sizeOf5
  v5 := Tryz.zeroValue5
  t9 := Tryz.underlying9
  a9 := Tryz.isAgg9
  z9 := Tryz.sizeOf9
  v9 := Tryz.zeroValue9
  t20 := Tryz.underlying20
  a20 := Tryz.isAgg20
  z20 := Tryz.sizeOf20
  v20 := Tryz.zeroValue20
  t37 := Tryz.underlying101
  a37 := Tryz.isAgg101
  z37 := Tryz.sizeOf101
  v37 := Tryz.zeroValue101
  t70 := Tryz.underlying100
  a70 := Tryz.isAgg100
  z70 := Tryz.sizeOf100
  v70 := Tryz.zeroValue100
  t72 := Tryz.underlying103
  a72 := Tryz.isAgg103
  z72 := Tryz.sizeOf103
  v72 := Tryz.zeroValue103
  t75 := Tryz.underlying105
  a75 := Tryz.isAgg105
  z75 := Tryz.sizeOf105
  v75 := Tryz.zeroValue105
  t164 := Tryz.underlying186
  a164 := Tryz.isAgg186
  z164 := Tryz.sizeOf186
  v164 := Tryz.zeroValue186
theorem bExtra : Builder.Extra Tryz.prog bRen where
  sizeBuilder := by kernel_rfl
  liesBuilder := by kernel_rfl
  t5 := Tryz.underlying5
  a5 := Tryz.isAgg5
  z5 := Tryz.sizeOf5
  v5 := Tryz.zeroValue5
  infoByte := by kernel_rfl
  cellsByte := by kernel_rfl
  sizeByte := by kernel_rfl
  neB5 := by decide
theorem WriteByte_k (B b : Nat) (bs : List Value) (c : Int) (w : World) (h : Lib.IsBuilderF 103 5 B b bs w) (hlen : bs.length + 1 ≤ 140737488355328) (hBw : B ≤ w.heap.size) :
    Calls Tryz.prog 63 #[.pointer (some ⟨b, 0, none⟩), .int .u8 c] w fun e w' => e = .returned .nilIface ∧ (Lib.BuilderAtF 103 5 B b (.pointer (some ⟨b, 0, none⟩)) (bs ++ [.int .u8 c]) w' ∧ Below B w w' ∧ Lib.OthersKept 5 (some b) w w') := Any.Builder_WriteByte_k lays167 bExtra B b bs c w h hlen hBw
theorem WriteString_k (B b : Nat) (bs : List Value) (s : ByteArray) (w : World) (h : Lib.IsBuilderF 103 5 B b bs w) (hlen : bs.length + s.size ≤ 140737488355328) (hBw : B ≤ w.heap.size) :
    Calls Tryz.prog 59 #[.pointer (some ⟨b, 0, none⟩), .string s] w fun e w' => e = .returned (.tuple #[.int .i64 s.size, .nilIface]) ∧ (Lib.BuilderAtF 103 5 B b (.pointer (some ⟨b, 0, none⟩)) (bs ++ Lib.strCells s) w' ∧ Below B w w' ∧ Lib.OthersKept 5 (some b) w w') := Any.Builder_WriteString_k lays166 bExtra B b bs s w h hlen hBw
end
section
open Go.RowKit
set_option maxHeartbeats 4000000
open Go.Lib
theorem joinB_len (c : UInt8) (m : Nat) : ∀ (p : List (List UInt8)), (∀ x ∈ p, x.length ≤ m) → (joinB c p).length ≤ p.length * (m + 1)
  | [], _ => by simp [joinB]
  | [x], h => by
    have := h x (by simp)
    show x.length ≤ _
    simp
    omega
  | x :: y :: r, h => by
    have h0 := h x (by simp)
    have ih := joinB_len c m (y :: r) fun z hz => h z (by simp [hz])
    show (x ++ c :: joinB c (y :: r)).length ≤ _
    simp only [List.length_append, List.length_cons] at ih ⊢
    have : (r.length + 1 + 1) * (m + 1) = (r.length + 1) * (m + 1) + (m + 1) := Nat.succ_mul _ _
    omega
theorem partsL_len (op : Int) : (partsL op).length ≤ 4 := by
  unfold partsL
  repeat' split
  all_goals simp
theorem flat_len {α β : Type} (f : α → List β) (m : Nat) : ∀ (l : List α), (∀ x ∈ l, (f x).length ≤ m) → (l.flatMap f).length ≤ l.length * m
  | [], _ => by simp
  | x :: l, h => by
    have h0 := h x (by simp)
    have ih := flat_len f m l fun z hz => h z (by simp [hz])
    rw [List.flatMap_cons, List.length_append, List.length_cons, Nat.succ_mul]
    omega
theorem wordsL_len (n : Nd) : (wordsL n).length ≤ 9 := by
  have := flat_len (partW n) 2 (partsL n.op) fun p _ => by unfold partW; split <;> simp
  have := partsL_len n.op
  simp only [wordsL, List.length_cons]
  omega
theorem word_len {n : Nd} (fit : ∀ i, i < 6 → i64ok (n.fld i)) : ∀ x ∈ wordsL n, x.length ≤ 21 := by
  intro x hx
  rcases List.mem_cons.1 hx with e | e
  · rw [e]
    have := opW_len n.op
    omega
  · obtain ⟨p, hp, hx⟩ := List.mem_flatMap.1 e
    have hw := partsL_words n.op p hp
    unfold partW at hx
    rcases List.mem_append.1 hx with e | e
    · rcases hw.1 with h | h | h
      · rw [if_pos h] at e; cases e
      · rw [h] at e
        have : x = toW := by simpa [toW] using e
        rw [this]; decide
      · rw [h] at e
        have : x = elseW := by simpa [elseW] using e
        rw [this]; decide
    · have : x = itoa (n.fld p.2) := by simpa using e
      rw [this]
      exact itoa_length_le _ (fit p.2 hw.2.2).1 (fit p.2 hw.2.2).2
theorem nodeL_len {n : Nd} (fit : ∀ i, i < 6 → i64ok (n.fld i)) : (nodeL n).length ≤ 198 := by
  have := joinB_len 32 21 (wordsL n) (word_len fit)
  have := wordsL_len n
  unfold nodeL
  omega
theorem lineL_len {n : Nd} (fit : ∀ i, i < 6 → i64ok (n.fld i)) : (lineL n).length ≤ 199 := by
  have := nodeL_len fit
  simp only [lineL, List.length_append, List.length_singleton]
  omega
theorem linesL_len {l : List Nd} (fit : ∀ n ∈ l, ∀ i, i < 6 → i64ok (n.fld i)) : (linesL l).length ≤ l.length * 199 := flat_len lineL 199 l fun n hn => lineL_len (fit n hn)
theorem linesL_take {l : List Nd} {k : Nat} {n : Nd} (h : l[k]? = some n) : linesL (l.take (k + 1)) = linesL (l.take k) ++ lineL n := by
  rw [List.take_add_one, h]
  simp [linesL]
theorem showL_step {regs : Int} {l : List Nd} {k : Nat} {n : Nd} (h : l[k]? = some n) : showL regs (l.take (k + 1)) = showL regs (l.take k) ++ lineL n := by
  unfold showL
  rw [linesL_take h]
  simp
theorem showL_len {regs : Int} {l : List Nd} (hr : i64ok regs) (fit : ∀ n ∈ l, ∀ i, i < 6 → i64ok (n.fld i)) : (showL regs l).length ≤ 27 + l.length * 199 := by
  have := itoa_length_le regs hr.1 hr.2
  have := linesL_len fit
  simp only [showL, regsW, List.length_append, List.length_cons, List.length_nil]
  omega
end
section
open Go.RowKit
set_option maxHeartbeats 8000000
open Go.Lib
set_option maxRecDepth 100000 in
theorem names_any (w : World) : Calls Tryz.prog 61 #[] w fun e w' => e = .returned (.agg namesV) ∧ Below w.heap.size w w' := by
  go_enter Tryz.func61, Tryz.ntmps61
  go_wp2_with fail
  exact bodyPost_ret (v := .agg namesV) (by simp [results, Tryz.results61, go_sem, namesV]) rfl ⟨rfl, (by (with_reducible repeat first | apply Qa | assumption | apply Qb | apply Qc | apply Qd | apply Qe | refine Qf ?_ (by assumption) ?_); all_goals (try simp only [Sz]); first | done | omega | (try simp only [Sz] at *); omega)⟩
def partCells (g : Nat) (op : Int) : List Value := (partsL op).flatMap fun p => [strB p.1, .pointer (some ⟨g, p.2, none⟩)]
def PartsPost (B g : Nat) (op : Int) (w : World) (e : Ending) (w' : World) : Prop :=
  ∃ q : Nat, e = .returned (.slice (some ⟨q, 0, none⟩) (partsL op).length (partsL op).length) ∧ B ≤ q ∧ Blk w' q 114 (partCells g op).toArray ∧ Below B w w'
set_option maxRecDepth 100000 in
theorem parts_any (g k : Nat) (d a b t e : Int) (w : World) (hP : Blk w g 44 #[.int .i64 (k : Int), .int .i64 d, .int .i64 a, .int .i64 b, .int .i64 t, .int .i64 e]) (hk : k < 13) :
    Calls Tryz.prog 62 #[.pointer (some ⟨g, 0, none⟩)] w (PartsPost w.heap.size g (k : Int) w) := by
  have lg := hP.lt
  go_enter Tryz.func62, Tryz.ntmps62
  go_wp2_with fail
  go_upto_region 1 with fail
  go_cut [3, 4, 5, 6] (fun s3 s4 s5 s6 wx => ∃ g3 g4 g5 g6 : Nat, s3 = .pointer (some ⟨g3, 0, none⟩) ∧ s4 = .pointer (some ⟨g4, 0, none⟩) ∧ s5 = .pointer (some ⟨g5, 0, none⟩) ∧ s6 = .pointer (some ⟨g6, 0, none⟩)
    ∧ Blk wx g3 114 #[.string ⟨#[]⟩, .pointer (some ⟨g, 1, none⟩)] ∧ Blk wx g4 114 #[.string ⟨#[]⟩, .pointer (some ⟨g, 2, none⟩)] ∧ Blk wx g5 114 #[.string ⟨#[]⟩, .pointer (some ⟨g, 3, none⟩)] ∧ Blk wx g6 114 #[.string ⟨#[116, 111]⟩, .pointer (some ⟨g, 4, none⟩)] ∧ Below w.heap.size w wx)
  case first =>
    clear hP hk
    go_region
    all_goals (go_wp2_with fail)
    all_goals go_meet
    all_goals exact ⟨_, _, _, _, rfl, rfl, rfl, rfl, (by repeat (first | ((with_reducible refine Blk.new' ?_); exact (by (try simp only [Sz]); first | done | omega | (try simp only [Sz] at *); omega)) | (with_reducible refine Blk.drew ?_) | (with_reducible refine Blk.drewN ?_ _) | (with_reducible refine Blk.alloc ?_ _) | with_reducible assumption)), (by repeat (first | ((with_reducible refine Blk.new' ?_); exact (by (try simp only [Sz]); first | done | omega | (try simp only [Sz] at *); omega)) | (with_reducible refine Blk.drew ?_) | (with_reducible refine Blk.drewN ?_ _) | (with_reducible refine Blk.alloc ?_ _) | with_reducible assumption)), (by repeat (first | ((with_reducible refine Blk.new' ?_); exact (by (try simp only [Sz]); first | done | omega | (try simp only [Sz] at *); omega)) | (with_reducible refine Blk.drew ?_) | (with_reducible refine Blk.drewN ?_ _) | (with_reducible refine Blk.alloc ?_ _) | with_reducible assumption)), (by repeat (first | ((with_reducible refine Blk.new' ?_); exact (by (try simp only [Sz]); first | done | omega | (try simp only [Sz] at *); omega)) | (with_reducible refine Blk.drew ?_) | (with_reducible refine Blk.drewN ?_ _) | (with_reducible refine Blk.alloc ?_ _) | with_reducible assumption)), (by (with_reducible repeat first | apply Qa | assumption | apply Qb | apply Qc | apply Qd | apply Qe | refine Qf ?_ (by assumption) ?_); all_goals (try simp only [Sz]); first | done | omega | (try simp only [Sz] at *); omega)⟩
  case rest =>
    obtain ⟨g3, g4, g5, g6, rfl, rfl, rfl, rfl, h3, h4, h5, h6, hB⟩ := hcut
    have hN := hP.below hB lg
    clear hP
    have c0 := hN.cell 0
    have a0 := h3.cell 0
    have a1 := h3.cell 1
    have b0 := h4.cell 0
    have b1 := h4.cell 1
    have d0 := h5.cell 0
    have d1 := h5.cell 1
    have e0 := h6.cell 0
    have e1 := h6.cell 1
    have hz := hB.size
    simp only [Yl] at c0 a0 a1 b0 b1 d0 d1 e0 e1
    clear hN h3 h4 h5 h6
    have hkk : k = 0 ∨ k = 1 ∨ k = 2 ∨ k = 3 ∨ k = 4 ∨ k = 5 ∨ k = 6 ∨ k = 7 ∨ k = 8 ∨ k = 9 ∨ k = 10 ∨ k = 11 ∨ k = 12 := by omega
    clear hk
    rcases hkk with rfl | rfl | rfl | rfl | rfl | rfl | rfl | rfl | rfl | rfl | rfl | rfl | rfl
    all_goals (go_wp2_with fail)
    all_goals (try (go_region; go_wp2_with fail))
    all_goals go_ret
    all_goals exact ⟨wc.heap.size, rfl, hz, (by first | exact Blk.new _ _ _ | exact (Blk.new wc _ _).drew | exact Blk.new wc.drew _ _), (by first | exact hB.alloc hz _ | exact (by (with_reducible repeat first | apply Qa | assumption | apply Qb | apply Qc | apply Qd | apply Qe | refine Qf ?_ (by assumption) ?_); all_goals (try simp only [Sz]); first | done | omega | (try simp only [Sz] at *); omega))⟩
end
section
open Go.Shelf
def Tryz.lays169_ren : Go.Shelf.Ren := ⟨fun | 169 => 64 | n => n, fun | 70 => 100 | 9 => 9 | 0 => 0 | 72 => 103 | 37 => 101 | 127 => 161 | 3 => 3 | 5 => 5 | n => n, fun | n => n⟩
theorem Tryz.lays169 : Go.Proofs.Lays.n169 Tryz.prog Tryz.lays169_ren := {
  mixed := by kernel_rfl
  f169 := Tryz.func64.trans (congrArg some (by kernel_rfl))
  t0 := Tryz.underlying0
  a0 := Tryz.isAgg0
  z0 := Tryz.sizeOf0
  v0 := Tryz.zeroValue0
  t3 := Tryz.underlying3
  a3 := Tryz.isAgg3
  z3 := Tryz.sizeOf3
  v3 := Tryz.zeroValue3
  t9 := Tryz.underlying9
  a9 := Tryz.isAgg9
  z9 := Tryz.sizeOf9
  v9 := Tryz.zeroValue9
  t37 := Tryz.underlying101
  a37 := Tryz.isAgg101
  z37 := Tryz.sizeOf101
  v37 := Tryz.zeroValue101
  t70 := Tryz.underlying100
  a70 := Tryz.isAgg100
  z70 := Tryz.sizeOf100
  v70 := Tryz.zeroValue100
  t72 := Tryz.underlying103
  a72 := Tryz.isAgg103
  z72 := Tryz.sizeOf103
  v72 := Tryz.zeroValue103
  t127 := Tryz.underlying161
  a127 := Tryz.isAgg161
  z127 := Tryz.sizeOf161
  v127 := Tryz.zeroValue161 }
theorem Tryz.Builder_Extra_169 : Builder.Extra Tryz.prog Tryz.lays169_ren := {
  sizeBuilder := by kernel_rfl
  liesBuilder := by kernel_rfl
  t5 := Tryz.underlying5
  a5 := Tryz.isAgg5
  z5 := Tryz.sizeOf5
  v5 := Tryz.zeroValue5
  infoByte := by kernel_rfl
  cellsByte := by kernel_rfl
  sizeByte := by kernel_rfl
  neB5 := by decide }
def Tryz.lays103_ren : Go.Shelf.Ren := ⟨fun | 103 => 66 | 210 => 111 | 206 => 142 | n => n, fun | 9 => 9 | 4 => 4 | 24 => 120 | 3 => 3 | n => n, fun | n => n⟩
theorem Tryz.lays103 : Go.Proofs.Lays.n103 Tryz.prog Tryz.lays103_ren := {
  mixed := by kernel_rfl
  f103 := Tryz.func66.trans (congrArg some (by kernel_rfl))
  f206 := Tryz.func142.trans (congrArg some (by kernel_rfl))
  f210 := Tryz.func111.trans (congrArg some (by kernel_rfl))
  t3 := Tryz.underlying3
  a3 := Tryz.isAgg3
  z3 := Tryz.sizeOf3
  v3 := Tryz.zeroValue3
  t4 := Tryz.underlying4
  a4 := Tryz.isAgg4
  z4 := Tryz.sizeOf4
  v4 := Tryz.zeroValue4
  t9 := Tryz.underlying9
  a9 := Tryz.isAgg9
  z9 := Tryz.sizeOf9
  v9 := Tryz.zeroValue9
  t24 := Tryz.underlying120
  a24 := Tryz.isAgg120
  z24 := Tryz.sizeOf120
  v24 := Tryz.zeroValue120 }
open Go.RowKit in
theorem Tryz.strings_CutPrefix (s p : ByteArray) (w : World) :
    Calls Tryz.prog 66 #[.string s, .string p] w fun e w' => e = .returned (.tuple #[.string ⟨(Lib.trimPrefix s.data.toList p.data.toList).toArray⟩, .bool (Lib.hasPrefix s.data.toList p.data.toList)]) ∧ w' = w := Any.strings_CutPrefix Tryz.lays103 s p w
open Go.RowKit in
theorem Tryz.Builder_String_any_k (B b : Nat) (l : List UInt8) (w : World) (h : Lib.IsBuilderF 103 5 B b (Lib.byteCells l) w) (hBw : B ≤ w.heap.size) :
    Calls Tryz.prog 64 #[.pointer (some ⟨b, 0, none⟩)] w fun e w' => e = .returned (.string ⟨l.toArray⟩) ∧ (Lib.IsBuilderF 103 5 B b (Lib.byteCells l) w' ∧ Below B w w' ∧ Lib.OthersKept 5 (some b) w w') := Any.Builder_String_any_k Tryz.lays169 Tryz.Builder_Extra_169 B b l w h hBw
def Tryz.laysM171_ren : Go.Shelf.Ren := ⟨fun | 171 => 60 | 243 => 109 | 246 => 140 | 283 => 161 | 284 => 162 | 285 => 163 | 286 => 164 | 129 => 125 | 317 => 177 | 318 => 178 | 319 => 179 | 320 => 180 | 337 => 188 | 338 => 189 | n => n, fun | 3 => 3 | 9 => 9 | 2 => 2 | 4 => 4 | 171 => 206 | 0 => 0 | 53 => 158 | 37 => 101 | 5 => 5 | 173 => 208 | 212 => 223 | 51 => 174 | 20 => 20 | 213 => 224 | 46 => 127 | 232 => 235 | 233 => 236 | n => n, fun | 17 => 3 | 18 => 4 | 19 => 5 | n => n⟩
theorem Tryz.laysM171 : Go.Proofs.LaysM.n171 Tryz.prog Tryz.laysM171_ren := {
  mixed := by kernel_rfl
  f129 := Tryz.func125.trans (congrArg some (by kernel_rfl))
  f171 := Tryz.func60.trans (congrArg some (by kernel_rfl))
  f243 := Tryz.func109.trans (congrArg some (by kernel_rfl))
  f246 := Tryz.func140.trans (congrArg some (by kernel_rfl))
  f283 := Tryz.func161.trans (congrArg some (by kernel_rfl))
  f284 := Tryz.func162.trans (congrArg some (by kernel_rfl))
  f285 := Tryz.func163.trans (congrArg some (by kernel_rfl))
  f286 := Tryz.func164.trans (congrArg some (by kernel_rfl))
  f317 := Tryz.func177.trans (congrArg some (by kernel_rfl))
  f318 := Tryz.func178.trans (congrArg some (by kernel_rfl))
  f319 := Tryz.func179.trans (congrArg some (by kernel_rfl))
  f320 := Tryz.func180.trans (congrArg some (by kernel_rfl))
  f337 := Tryz.func188.trans (congrArg some (by kernel_rfl))
  f338 := Tryz.func189.trans (congrArg some (by kernel_rfl))
  t0 := Tryz.underlying0
  a0 := Tryz.isAgg0
  z0 := Tryz.sizeOf0
  v0 := Tryz.zeroValue0
  t2 := Tryz.underlying2
  a2 := Tryz.isAgg2
  z2 := Tryz.sizeOf2
  v2 := Tryz.zeroValue2
  t3 := Tryz.underlying3
  a3 := Tryz.isAgg3
  z3 := Tryz.sizeOf3
  v3 := Tryz.zeroValue3
  t4 := Tryz.underlying4
  a4 := Tryz.isAgg4
  z4 := Tryz.sizeOf4
  v4 := Tryz.zeroValue4
  t5 := Tryz.underlying5
  a5 := Tryz.isAgg5
  z5 := Tryz.sizeOf5
  v5 := Tryz.zeroValue5
  t9 := Tryz.underlying9
  a9 := Tryz.isAgg9
  z9 := Tryz.sizeOf9
  v9 := Tryz.zeroValue9
  t20 := Tryz.underlying20
  a20 := Tryz.isAgg20
  z20 := Tryz.sizeOf20
  v20 := Tryz.zeroValue20
  t37 := Tryz.underlying101
  a37 := Tryz.isAgg101
  z37 := Tryz.sizeOf101
  v37 := Tryz.zeroValue101
  t46 := Tryz.underlying127
  a46 := Tryz.isAgg127
  z46 := Tryz.sizeOf127
  v46 := Tryz.zeroValue127
  t51 := Tryz.underlying174
  a51 := Tryz.isAgg174
  z51 := Tryz.sizeOf174
  v51 := Tryz.zeroValue174
  t53 := Tryz.underlying158
  a53 := Tryz.isAgg158
  z53 := Tryz.sizeOf158
  v53 := Tryz.zeroValue158
  t171 := Tryz.underlying206
  a171 := Tryz.isAgg206
  z171 := Tryz.sizeOf206
  v171 := Tryz.zeroValue206
  t173 := Tryz.underlying208
  a173 := Tryz.isAgg208
  z173 := Tryz.sizeOf208
  v173 := Tryz.zeroValue208
  t212 := Tryz.underlying223
  a212 := Tryz.isAgg223
  z212 := Tryz.sizeOf223
  v212 := Tryz.zeroValue223
  t213 := Tryz.underlying224
  a213 := Tryz.isAgg224
  z213 := Tryz.sizeOf224
  t232 := Tryz.underlying235
  a232 := Tryz.isAgg235
  z232 := Tryz.sizeOf235
  v232 := Tryz.zeroValue235
  t233 := Tryz.underlying236
  a233 := Tryz.isAgg236
  z233 := Tryz.sizeOf236
  v233 := Tryz.zeroValue236
  g17 := by kernel_rfl
  g18 := by kernel_rfl
  g19 := by kernel_rfl
  i0 := by kernel_rfl
  i2 := by kernel_rfl
  i3 := by kernel_rfl
  i4 := by kernel_rfl
  i5 := by kernel_rfl
  i9 := by kernel_rfl
  i20 := by kernel_rfl
  i37 := by kernel_rfl
  i46 := by kernel_rfl
  i51 := by kernel_rfl
  i53 := by kernel_rfl
  i171 := by kernel_rfl
  i173 := by kernel_rfl
  i212 := by kernel_rfl
  i232 := by kernel_rfl
  i233 := by kernel_rfl
  m17 := by kernel_rfl
  m18 := by kernel_rfl
  m19 := by kernel_rfl }
open Go.RowKit Go.Sort Go.Lib in
theorem Tryz.strconv_Itoa (n : Int) (h0 : -9223372036854775808 ≤ n) (h1 : n ≤ 9223372036854775807) (w : World) (htab : Lib.TabIs Tryz.prog w "internal/strconv.uint64pow10" .u64 Lib.pow10Tab) :
    Calls Tryz.prog 60 #[.int .i64 n] w fun e w' => e = .returned (.string ⟨(Lib.itoa n).toArray⟩) ∧ ∃ k os, w' = grow (w.drewN k) os := Any.strconv_Itoa Tryz.laysM171 n h0 h1 w htab
def Tryz.laysC172_ren : Go.Shelf.Ren := ⟨fun | 172 => 67 | 244 => 112 | 245 => 113 | 247 => 143 | 279 => 144 | 280 => 145 | 281 => 146 | 282 => 147 | 287 => 169 | 316 => 170 | 171 => 60 | 205 => 171 | 321 => 183 | 322 => 184 | 243 => 109 | 246 => 140 | 283 => 161 | 284 => 162 | 285 => 163 | 286 => 164 | 129 => 125 | 317 => 177 | 318 => 178 | 319 => 179 | 320 => 180 | 337 => 188 | 338 => 189 | n => n, fun | 9 => 9 | 3 => 3 | 75 => 105 | 76 => 106 | 4 => 4 | 5 => 5 | 167 => 191 | 37 => 101 | 0 => 0 | 85 => 192 | 2 => 2 | 168 => 194 | 53 => 158 | 175 => 211 | 46 => 127 | 210 => 215 | 127 => 161 | 145 => 231 | 143 => 229 | 21 => 21 | 171 => 206 | 173 => 208 | 212 => 223 | 51 => 174 | 20 => 20 | 213 => 224 | 232 => 235 | 233 => 236 | 80 => 116 | n => n, fun | 15 => 1 | 16 => 2 | 17 => 3 | 18 => 4 | 19 => 5 | n => n⟩
theorem Tryz.laysC172 : Go.Proofs.LaysC.n172 Tryz.prog Tryz.laysC172_ren := {
  mixed := by kernel_rfl
  f129 := Tryz.func125.trans (congrArg some (by kernel_rfl))
  f171 := Tryz.func60.trans (congrArg some (by kernel_rfl))
  f172 := Tryz.func67.trans (congrArg some (by kernel_rfl))
  f205 := Tryz.func171.trans (congrArg some (by kernel_rfl))
  f243 := Tryz.func109.trans (congrArg some (by kernel_rfl))
  f244 := Tryz.func112.trans (congrArg some (by kernel_rfl))
  f245 := Tryz.func113.trans (congrArg some (by kernel_rfl))
  f246 := Tryz.func140.trans (congrArg some (by kernel_rfl))
  f247 := Tryz.func143.trans (congrArg some (by kernel_rfl))
  f279 := Tryz.func144.trans (congrArg some (by kernel_rfl))
  f280 := Tryz.func145.trans (congrArg some (by kernel_rfl))
  f281 := Tryz.func146.trans (congrArg some (by kernel_rfl))
  f282 := Tryz.func147.trans (congrArg some (by kernel_rfl))
  f283 := Tryz.func161.trans (congrArg some (by kernel_rfl))
  f284 := Tryz.func162.trans (congrArg some (by kernel_rfl))
  f285 := Tryz.func163.trans (congrArg some (by kernel_rfl))
  f286 := Tryz.func164.trans (congrArg some (by kernel_rfl))
  f287 := Tryz.func169.trans (congrArg some (by kernel_rfl))
  f316 := Tryz.func170.trans (congrArg some (by kernel_rfl))
  f317 := Tryz.func177.trans (congrArg some (by kernel_rfl))
  f318 := Tryz.func178.trans (congrArg some (by kernel_rfl))
  f319 := Tryz.func179.trans (congrArg some (by kernel_rfl))
  f320 := Tryz.func180.trans (congrArg some (by kernel_rfl))
  f321 := Tryz.func183.trans (congrArg some (by kernel_rfl))
  f322 := Tryz.func184.trans (congrArg some (by kernel_rfl))
  f337 := Tryz.func188.trans (congrArg some (by kernel_rfl))
  f338 := Tryz.func189.trans (congrArg some (by kernel_rfl))
  t0 := Tryz.underlying0
  a0 := Tryz.isAgg0
  z0 := Tryz.sizeOf0
  v0 := Tryz.zeroValue0
  t2 := Tryz.underlying2
  a2 := Tryz.isAgg2
  z2 := Tryz.sizeOf2
  v2 := Tryz.zeroValue2
  t3 := Tryz.underlying3
  a3 := Tryz.isAgg3
  z3 := Tryz.sizeOf3
  v3 := Tryz.zeroValue3
  t4 := Tryz.underlying4
  a4 := Tryz.isAgg4
  z4 := Tryz.sizeOf4
  v4 := Tryz.zeroValue4
  t5 := Tryz.underlying5
  a5 := Tryz.isAgg5
  z5 := Tryz.sizeOf5
  v5 := Tryz.zeroValue5
  t9 := Tryz.underlying9
  a9 := Tryz.isAgg9
  z9 := Tryz.sizeOf9
  v9 := Tryz.zeroValue9
  t20 := Tryz.underlying20
  a20 := Tryz.isAgg20
  z20 := Tryz.sizeOf20
  v20 := Tryz.zeroValue20
  t21 := Tryz.underlying21
  a21 := Tryz.isAgg21
  z21 := Tryz.sizeOf21
  v21 := Tryz.zeroValue21
  t37 := Tryz.underlying101
  a37 := Tryz.isAgg101
  z37 := Tryz.sizeOf101
  v37 := Tryz.zeroValue101
  t46 := Tryz.underlying127
  a46 := Tryz.isAgg127
  z46 := Tryz.sizeOf127
  v46 := Tryz.zeroValue127
  t51 := Tryz.underlying174
  a51 := Tryz.isAgg174
  z51 := Tryz.sizeOf174
  v51 := Tryz.zeroValue174
  t53 := Tryz.underlying158
  a53 := Tryz.isAgg158
  z53 := Tryz.sizeOf158
  v53 := Tryz.zeroValue158
  t75 := Tryz.underlying105
  a75 := Tryz.isAgg105
  z75 := Tryz.sizeOf105
  v75 := Tryz.zeroValue105
  t76 := Tryz.underlying106
  a76 := Tryz.isAgg106
  z76 := Tryz.sizeOf106
  v76 := Tryz.zeroValue106
  t85 := Tryz.underlying192
  a85 := Tryz.isAgg192
  z85 := Tryz.sizeOf192
  v85 := Tryz.zeroValue192
  t127 := Tryz.underlying161
  a127 := Tryz.isAgg161
  z127 := Tryz.sizeOf161
  v127 := Tryz.zeroValue161
  t143 := Tryz.underlying229
  a143 := Tryz.isAgg229
  z143 := Tryz.sizeOf229
  v143 := Tryz.zeroValue229
  t145 := Tryz.underlying231
  a145 := Tryz.isAgg231
  z145 := Tryz.sizeOf231
  v145 := Tryz.zeroValue231
  t167 := Tryz.underlying191
  a167 := Tryz.isAgg191
  z167 := Tryz.sizeOf191
  v167 := Tryz.zeroValue191
  t168 := Tryz.underlying194
  a168 := Tryz.isAgg194
  z168 := Tryz.sizeOf194
  v168 := Tryz.zeroValue194
  t171 := Tryz.underlying206
  a171 := Tryz.isAgg206
  z171 := Tryz.sizeOf206
  v171 := Tryz.zeroValue206
  t173 := Tryz.underlying208
  a173 := Tryz.isAgg208
  z173 := Tryz.sizeOf208
  v173 := Tryz.zeroValue208
  t175 := Tryz.underlying211
  a175 := Tryz.isAgg211
  z175 := Tryz.sizeOf211
  v175 := Tryz.zeroValue211
  t210 := Tryz.underlying215
  a210 := Tryz.isAgg215
  z210 := Tryz.sizeOf215
  v210 := Tryz.zeroValue215
  t212 := Tryz.underlying223
  a212 := Tryz.isAgg223
  z212 := Tryz.sizeOf223
  v212 := Tryz.zeroValue223
  t213 := Tryz.underlying224
  a213 := Tryz.isAgg224
  z213 := Tryz.sizeOf224
  t232 := Tryz.underlying235
  a232 := Tryz.isAgg235
  z232 := Tryz.sizeOf235
  v232 := Tryz.zeroValue235
  t233 := Tryz.underlying236
  a233 := Tryz.isAgg236
  z233 := Tryz.sizeOf236
  v233 := Tryz.zeroValue236
  g15 := by kernel_rfl
  g16 := by kernel_rfl
  g17 := by kernel_rfl
  g18 := by kernel_rfl
  g19 := by kernel_rfl
  t80 := Tryz.underlying116
  a80 := Tryz.isAgg116
  z80 := Tryz.sizeOf116
  v80 := Tryz.zeroValue116
  i0 := by kernel_rfl
  i2 := by kernel_rfl
  i3 := by kernel_rfl
  i4 := by kernel_rfl
  i5 := by kernel_rfl
  i9 := by kernel_rfl
  i20 := by kernel_rfl
  i21 := by kernel_rfl
  i37 := by kernel_rfl
  i46 := by kernel_rfl
  i51 := by kernel_rfl
  i53 := by kernel_rfl
  i75 := by kernel_rfl
  i76 := by kernel_rfl
  i80 := by kernel_rfl
  i85 := by kernel_rfl
  i127 := by kernel_rfl
  i143 := by kernel_rfl
  i145 := by kernel_rfl
  i167 := by kernel_rfl
  i168 := by kernel_rfl
  i171 := by kernel_rfl
  i173 := by kernel_rfl
  i175 := by kernel_rfl
  i210 := by kernel_rfl
  i212 := by kernel_rfl
  i232 := by kernel_rfl
  i233 := by kernel_rfl
  m15 := by kernel_rfl
  m16 := by kernel_rfl
  m17 := by kernel_rfl
  m18 := by kernel_rfl
  m19 := by kernel_rfl
  c0 := by kernel_rfl
  c2 := by kernel_rfl
  c3 := by kernel_rfl
  c4 := by kernel_rfl
  c5 := by kernel_rfl
  c9 := by kernel_rfl
  c20 := by kernel_rfl
  c21 := by kernel_rfl
  c37 := by kernel_rfl
  c46 := by kernel_rfl
  c51 := by kernel_rfl
  c53 := by kernel_rfl
  c75 := by kernel_rfl
  c76 := by kernel_rfl
  c80 := by kernel_rfl
  c85 := by kernel_rfl
  c127 := by kernel_rfl
  c143 := by kernel_rfl
  c145 := by kernel_rfl
  c167 := by kernel_rfl
  c168 := by kernel_rfl
  c171 := by kernel_rfl
  c173 := by kernel_rfl
  c175 := by kernel_rfl
  c210 := by kernel_rfl
  c212 := by kernel_rfl
  c213 := by kernel_rfl
  c232 := by kernel_rfl
  c233 := by kernel_rfl }
open Go.RowKit in
theorem Tryz.strconv_Atoi_ok (s : ByteArray) (hmax : s.size ≤ 9223372036854775806) (v : Int) (h : Lib.atoiAll s.data.toList = .ok v) (w : World) :
    Calls Tryz.prog 67 #[.string s] w fun e w' => e = .returned (.tuple #[.int .i64 v, .nilIface]) ∧ (w' = w ∨ ∃ t, w' = Lib.bytesWorld w 5 t) := Any.strconv_Atoi_ok Tryz.laysC172 s hmax v h w
open Go.RowKit in
theorem Tryz.strconv_Atoi_range_var (s : ByteArray) (hlim : s.size ≤ 281474976710656) (h : Lib.atoiAll s.data.toList = .range) (tp : TypeId) (p : Value) (w : World) (hvar : w.var? Tryz.prog "strconv.ErrRange" = some #[.iface tp p]) :
    Calls Tryz.prog 67 #[.string s] w fun e w' => ∃ N, e = .returned (.tuple #[.int .i64 (Lib.atoiSat s.data.toList), .iface 194 (.pointer (some ⟨N, 0, none⟩))]) ∧ w.heap.size ≤ N ∧ w'.heap[N]? = some (.cells #[.string ⟨#[65, 116, 111, 105]⟩, .string s, .iface tp p] 215 (0, 0)) ∧ Below w.heap.size w w' := Any.strconv_Atoi_range_var Tryz.laysC172 s hlim h tp p w hvar
def Tryz.lays145_ren : Go.Shelf.Ren := ⟨fun | 145 => 65 | 220 => 110 | 219 => 141 | 217 => 165 | 225 => 166 | 224 => 167 | 267 => 168 | 266 => 181 | 314 => 182 | n => n, fun | 9 => 9 | 4 => 4 | 59 => 118 | 3 => 3 | 5 => 5 | 46 => 127 | 146 => 225 | 51 => 174 | n => n, fun | 1 => 0 | n => n⟩
theorem Tryz.lays145 : Go.Proofs.Lays.n145 Tryz.prog Tryz.lays145_ren := {
  mixed := by kernel_rfl
  f145 := Tryz.func65.trans (congrArg some (by kernel_rfl))
  f217 := Tryz.func165.trans (congrArg some (by kernel_rfl))
  f219 := Tryz.func141.trans (congrArg some (by kernel_rfl))
  f220 := Tryz.func110.trans (congrArg some (by kernel_rfl))
  f224 := Tryz.func167.trans (congrArg some (by kernel_rfl))
  f225 := Tryz.func166.trans (congrArg some (by kernel_rfl))
  f266 := Tryz.func181.trans (congrArg some (by kernel_rfl))
  f267 := Tryz.func168.trans (congrArg some (by kernel_rfl))
  f314 := Tryz.func182.trans (congrArg some (by kernel_rfl))
  t3 := Tryz.underlying3
  a3 := Tryz.isAgg3
  z3 := Tryz.sizeOf3
  v3 := Tryz.zeroValue3
  t4 := Tryz.underlying4
  a4 := Tryz.isAgg4
  z4 := Tryz.sizeOf4
  v4 := Tryz.zeroValue4
  t5 := Tryz.underlying5
  a5 := Tryz.isAgg5
  z5 := Tryz.sizeOf5
  v5 := Tryz.zeroValue5
  t9 := Tryz.underlying9
  a9 := Tryz.isAgg9
  z9 := Tryz.sizeOf9
  v9 := Tryz.zeroValue9
  t46 := Tryz.underlying127
  a46 := Tryz.isAgg127
  z46 := Tryz.sizeOf127
  v46 := Tryz.zeroValue127
  t51 := Tryz.underlying174
  a51 := Tryz.isAgg174
  z51 := Tryz.sizeOf174
  v51 := Tryz.zeroValue174
  t59 := Tryz.underlying118
  a59 := Tryz.isAgg118
  z59 := Tryz.sizeOf118
  v59 := Tryz.zeroValue118
  t146 := Tryz.underlying225
  a146 := Tryz.isAgg225
  z146 := Tryz.sizeOf225
  v146 := Tryz.zeroValue225
  g1 := by kernel_rfl }
open Go.RowKit Go.Lib in
theorem Tryz.strings_Cut (s sep : ByteArray) (m : Int) (w : World) (hs : s.size < 4294967281) (hm : w.cell? ⟨0, 0, none⟩ = some (.int .i64 m)) :
    Calls Tryz.prog 65 #[.string s, .string sep] w fun e w' => e = .returned (.tuple #[.string ⟨(Lib.cut s.data.toList sep.data.toList).1.toArray⟩, .string ⟨(Lib.cut s.data.toList sep.data.toList).2.1.toArray⟩, .bool (Lib.cut s.data.toList sep.data.toList).2.2]) ∧ ∃ n, w' = w.drewN n := Any.strings_Cut Tryz.lays145 s sep m w hs hm
def Tryz.lays146_ren : Go.Shelf.Ren := ⟨fun | 146 => 114 | 221 => 148 | 268 => 172 | 138 => 173 | 143 => 174 | 195 => 185 | 197 => 186 | 218 => 187 | 219 => 141 | 260 => 190 | 217 => 165 | 225 => 166 | 224 => 167 | 267 => 168 | 266 => 181 | 314 => 182 | n => n, fun | 9 => 9 | 31 => 163 | 3 => 3 | 4 => 4 | 0 => 0 | 105 => 233 | 21 => 21 | 5 => 5 | 46 => 127 | 119 => 237 | 139 => 240 | 138 => 239 | 146 => 225 | 51 => 174 | n => n, fun | 1 => 0 | 3 => 6 | 4 => 7 | n => n⟩
theorem Tryz.lays146 : Go.Proofs.Lays.n146 Tryz.prog Tryz.lays146_ren := {
  mixed := by kernel_rfl
  f138 := Tryz.func173.trans (congrArg some (by kernel_rfl))
  f143 := Tryz.func174.trans (congrArg some (by kernel_rfl))
  f146 := Tryz.func114.trans (congrArg some (by kernel_rfl))
  f195 := Tryz.func185.trans (congrArg some (by kernel_rfl))
  f197 := Tryz.func186.trans (congrArg some (by kernel_rfl))
  f217 := Tryz.func165.trans (congrArg some (by kernel_rfl))
  f218 := Tryz.func187.trans (congrArg some (by kernel_rfl))
  f219 := Tryz.func141.trans (congrArg some (by kernel_rfl))
  f221 := Tryz.func148.trans (congrArg some (by kernel_rfl))
  f224 := Tryz.func167.trans (congrArg some (by kernel_rfl))
  f225 := Tryz.func166.trans (congrArg some (by kernel_rfl))
  f260 := Tryz.func190.trans (congrArg some (by kernel_rfl))
  f266 := Tryz.func181.trans (congrArg some (by kernel_rfl))
  f267 := Tryz.func168.trans (congrArg some (by kernel_rfl))
  f268 := Tryz.func172.trans (congrArg some (by kernel_rfl))
  f314 := Tryz.func182.trans (congrArg some (by kernel_rfl))
  t0 := Tryz.underlying0
  a0 := Tryz.isAgg0
  z0 := Tryz.sizeOf0
  v0 := Tryz.zeroValue0
  t3 := Tryz.underlying3
  a3 := Tryz.isAgg3
  z3 := Tryz.sizeOf3
  v3 := Tryz.zeroValue3
  t4 := Tryz.underlying4
  a4 := Tryz.isAgg4
  z4 := Tryz.sizeOf4
  v4 := Tryz.zeroValue4
  t5 := Tryz.underlying5
  a5 := Tryz.isAgg5
  z5 := Tryz.sizeOf5
  v5 := Tryz.zeroValue5
  t9 := Tryz.underlying9
  a9 := Tryz.isAgg9
  z9 := Tryz.sizeOf9
  v9 := Tryz.zeroValue9
  t21 := Tryz.underlying21
  a21 := Tryz.isAgg21
  z21 := Tryz.sizeOf21
  v21 := Tryz.zeroValue21
  t31 := Tryz.underlying163
  a31 := Tryz.isAgg163
  z31 := Tryz.sizeOf163
  v31 := Tryz.zeroValue163
  t46 := Tryz.underlying127
  a46 := Tryz.isAgg127
  z46 := Tryz.sizeOf127
  v46 := Tryz.zeroValue127
  t51 := Tryz.underlying174
  a51 := Tryz.isAgg174
  z51 := Tryz.sizeOf174
  v51 := Tryz.zeroValue174
  t105 := Tryz.underlying233
  a105 := Tryz.isAgg233
  z105 := Tryz.sizeOf233
  v105 := Tryz.zeroValue233
  t119 := Tryz.underlying237
  a119 := Tryz.isAgg237
  z119 := Tryz.sizeOf237
  t138 := Tryz.underlying239
  a138 := Tryz.isAgg239
  z138 := Tryz.sizeOf239
  v138 := Tryz.zeroValue239
  t139 := Tryz.underlying240
  a139 := Tryz.isAgg240
  z139 := Tryz.sizeOf240
  v139 := Tryz.zeroValue240
  t146 := Tryz.underlying225
  a146 := Tryz.isAgg225
  z146 := Tryz.sizeOf225
  v146 := Tryz.zeroValue225
  g1 := by kernel_rfl
  g3 := by kernel_rfl
  g4 := by kernel_rfl }
open Go.RowKit Go.Lib in
theorem Tryz.strings_Split (s sep : ByteArray) (m : Int) (w : World) (hs : s.size < 4294967281) (hm : w.cell? ⟨0, 0, none⟩ = some (.int .i64 m)) (h1 : 1 ≤ sep.size) :
    Calls Tryz.prog 114 #[.string s, .string sep] w fun e w' =>
      e = .returned (.slice (some ⟨w.heap.size, 0, none⟩) (Lib.countB s sep + 1) (Lib.countB s sep + 1)) ∧ w' = w.alloc (.cells ((Lib.splitB sep 0 (Lib.countB s sep) s).map Value.string).toArray 9) := Any.strings_Split Tryz.lays146 (by kernel_rfl) s sep m w hs hm h1
end
section
open Go.RowKit
open Go.Lib
theorem var_below {n : String} {cs : Array Value} {w w' : World} (h : w.var? Tryz.prog n = some cs) (hb : Below w.heap.size w w') : w'.var? Tryz.prog n = some cs := by
  unfold World.var? at h ⊢
  cases hg : Tryz.prog.globalNamed n with
  | none => rw [hg] at h; cases h
  | some g =>
    rw [hg] at h
    simp only [Option.bind_some] at h ⊢
    have hlt : g < w.heap.size := by
      rcases Nat.lt_or_ge g w.heap.size with h' | h'
      · exact h'
      · rw [Array.getElem?_eq_none h'] at h; cases h
    rw [hb.block g hlt]
    exact h
structure Tv (w : World) : Prop where
  tab : Lib.TabIs Tryz.prog w "internal/strconv.uint64pow10" .u64 Lib.pow10Tab
  syn : ∃ tp p, w.var? Tryz.prog "strconv.ErrSyntax" = some #[.iface tp p]
  rng : ∃ tp p, w.var? Tryz.prog "strconv.ErrRange" = some #[.iface tp p]
  mx : ∃ m : Int, w.cell? ⟨0, 0, none⟩ = some (.int .i64 m)
theorem Tv.below {w w' : World} (h : Tv w) (hb : Below w.heap.size w w') : Tv w' := by
  obtain ⟨h1, ⟨t2, p2, h2⟩, ⟨t3, p3, h3⟩, ⟨m, h4⟩⟩ := h
  exact ⟨var_below h1 hb, ⟨t2, p2, var_below h2 hb⟩, ⟨t3, p3, var_below h3 hb⟩, ⟨m, (hb.cell (World.block_lt_of_cell? w _ h4)).trans h4⟩⟩
theorem Itoa_b (n : Int) (hn : i64ok n) (w : World) (hT : Tv w) : Calls Tryz.prog 60 #[.int .i64 n] w fun e w' => e = .returned (strB (itoa n)) ∧ Below w.heap.size w w' := by
  refine (Tryz.strconv_Itoa n hn.1 hn.2 w hT.tab).mono ?_
  rintro e w' ⟨rfl, k, os, rfl⟩
  exact ⟨rfl, below_grow _ _ (Nat.le_refl _) _ _⟩
def Bd (B b : Nat) (l : List UInt8) (w : World) : Prop := Lib.IsBuilderF 103 5 B b (Lib.byteCells l) w
theorem builderAt_below {B b : Nat} {p : Value} {bs : List Value} {w w' : World} (h : Lib.BuilderAtF 103 5 B b p bs w) (hb : Below w.heap.size w w') : Lib.BuilderAtF 103 5 B b p bs w' := by
  have hlt := h.lt
  obtain ⟨hB, v, hk, hown, hne⟩ := h
  refine ⟨hB, v, (hb.block b hlt).trans hk, hown.kept (row := none) ⟨hb.os, hb.tape, hb.output, hb.size, fun k hk _ => hb.block k hk⟩ ?_, hne⟩
  cases h0 : v.ownBlock
  · exact .inl rfl
  · exact .inr (by simp)
theorem Bd.below {B b : Nat} {l : List UInt8} {w w' : World} (h : Bd B b l w) (hb : Below w.heap.size w w') : Bd B b l w' :=
  h.elim (fun x => .inl (builderAt_below x hb)) (fun x => .inr (builderAt_below x hb))
theorem Bd.lt {B b : Nat} {l : List UInt8} {w : World} (h : Bd B b l w) : b < w.heap.size := h.elim (fun x => x.lt) (fun x => x.lt)
theorem Bd.alloc {B b : Nat} {l : List UInt8} {w : World} (h : Bd B b l w) (o : Obj) : Bd B b l (w.alloc o) := Lib.IsBuilderF.alloc h o
theorem Bd.drew {B b : Nat} {l : List UInt8} {w : World} (h : Bd B b l w) : Bd B b l w.drew := h.elim (fun x => .inl x.drew) (fun x => .inr x.drew)
theorem Bd.fresh (w : World) : Bd w.heap.size w.heap.size [] (w.alloc (.cells #[.pointer none, .slice none 0 0] 103)) := by
  refine .inl ⟨Nat.le_refl _, .slice none 0 0, (by have := Blk.new w 103 #[.pointer none, .slice none 0 0]; unfold Blk at this; exact this), World.ownsRowF_nil _ _ _ _, by simp [Value.ownBlock]⟩
theorem WrS (B b : Nat) (l s : List UInt8) (w : World) (h : Bd B b l w) (hlen : l.length + s.length ≤ 1000000) (hBw : B ≤ w.heap.size) :
    Calls Tryz.prog 59 #[.pointer (some ⟨b, 0, none⟩), strB s] w fun e w' => e = .returned (.tuple #[.int .i64 s.length, .nilIface]) ∧ Bd B b (l ++ s) w' ∧ Below B w w' ∧ Lib.OthersKept 5 (some b) w w' := by
  refine (WriteString_k B b (Lib.byteCells l) ⟨s.toArray⟩ w h (by rw [Lib.byteCells_length]; show _ + s.length ≤ _; omega) hBw).mono ?_
  rintro e w' ⟨rfl, h1, h2, h3⟩
  exact ⟨rfl, .inr (by rw [Lib.byteCells_append]; exact h1), h2, h3⟩
theorem WrB (B b : Nat) (l : List UInt8) (c : UInt8) (w : World) (h : Bd B b l w) (hlen : l.length + 1 ≤ 1000000) (hBw : B ≤ w.heap.size) :
    Calls Tryz.prog 63 #[.pointer (some ⟨b, 0, none⟩), .int .u8 c.toNat] w fun e w' => e = .returned .nilIface ∧ Bd B b (l ++ [c]) w' ∧ Below B w w' ∧ Lib.OthersKept 5 (some b) w w' := by
  refine (WriteByte_k B b (Lib.byteCells l) c.toNat w h (by rw [Lib.byteCells_length]; omega) hBw).mono ?_
  rintro e w' ⟨rfl, h1, h2, h3⟩
  exact ⟨rfl, .inr (by rw [Lib.byteCells_append]; exact h1), h2, h3⟩
theorem BdStr (B b : Nat) (l : List UInt8) (w : World) (h : Bd B b l w) (hBw : B ≤ w.heap.size) :
    Calls Tryz.prog 64 #[.pointer (some ⟨b, 0, none⟩)] w fun e w' => e = .returned (strB l) ∧ Below B w w' := by
  refine (Tryz.Builder_String_any_k B b l w h hBw).mono ?_
  rintro e w' ⟨rfl, _, h2, _⟩
  exact ⟨rfl, h2⟩
theorem Blk.others {g b : Nat} {t : TypeId} {cs : Array Value} {w w' : World} (h : Blk w g t cs) (hk : Lib.OthersKept 5 (some b) w w') (hne : g ≠ b) (ht : t ≠ 5) : Blk w' g t cs :=
  by
  unfold Blk at h ⊢
  exact hk g _ h (fun e => hne (Option.some.inj e)) (fun c fz e => ht (by injection e))
end
section
open Go.RowKit
open Go.Lib
theorem joinB_flat (c : UInt8) (x : List UInt8) : ∀ (ws : List (List UInt8)), joinB c (x :: ws) = x ++ ws.flatMap fun y => c :: y
  | [] => by simp [joinB]
  | y :: r => by
    show x ++ c :: joinB c (y :: r) = _
    rw [joinB_flat c y r]
    simp
def partT (n : Nd) (p : List UInt8 × Nat) : List UInt8 := (if p.1 = [] then [] else 32 :: p.1) ++ 32 :: itoa (n.fld p.2)
theorem nodeL_parts (n : Nd) : nodeL n = opW n.op ++ (partsL n.op).flatMap (partT n) := by
  unfold nodeL wordsL
  rw [joinB_flat, List.flatMap_assoc]
  congr 1
  congr 1
  funext p
  unfold partW partT
  split <;> simp
theorem flat_take_len {α : Type} (f : α → List UInt8) (l : List α) (j : Nat) : ((l.take j).flatMap f).length ≤ (l.flatMap f).length := by
  conv => rhs; rw [← List.take_append_drop j l]
  rw [List.flatMap_append, List.length_append]
  omega
theorem flat_take_succ {α : Type} (f : α → List UInt8) {l : List α} {j : Nat} {p : α} (h : l[j]? = some p) : (l.take (j + 1)).flatMap f = (l.take j).flatMap f ++ f p := by
  rw [List.take_add_one, h]
  simp
theorem pairs_get {α : Type} (f g : α → Value) : ∀ (l : List α) (j : Nat) (p : α), l[j]? = some p → (l.flatMap fun p => [f p, g p])[j * 2]? = some (f p) ∧ (l.flatMap fun p => [f p, g p])[j * 2 + 1]? = some (g p)
  | [], j, p, h => by simp at h
  | x :: l, 0, p, h => by
    have : x = p := by simpa using h
    subst this
    simp
  | x :: l, j + 1, p, h => by
    have ih := pairs_get f g l j p (by simpa using h)
    rw [show (j + 1) * 2 = j * 2 + 2 by omega]
    simpa using ih
theorem chk_small {regs : Int} {l : List Nd} (h : chk regs l = 0) : 1 ≤ l.length ∧ l.length ≤ 256 ∧ 1 ≤ regs ∧ regs ≤ 64 ∧ ∀ n ∈ l, 0 ≤ n.op ∧ n.op ≤ 12 := by
  unfold chk at h
  split at h
  · omega
  · rename_i h1
    split at h
    · omega
    · rename_i h2
      refine ⟨by omega, by omega, by omega, by omega, fun n hn => ?_⟩
      have : opOk n.op = true := by
        cases ho : opOk n.op
        · exact absurd (List.any_eq_true.2 ⟨n, hn, by simp [ho]⟩) h2
        · rfl
      simpa [opOk, inB] using this
end
section
open Go.Lib
def Fit (l : List Nd) : Prop := ∀ n ∈ l, ∀ i, i < 6 → i64ok (n.fld i)
def NoText (s : List UInt8) : Prop := ∀ regs l, chk regs l = 0 → Fit l → s ≠ showL regs l
def TxGot (s : List UInt8) (regs : Int) (l : List Nd) (ok : Bool) : Prop := (ok = true ∧ chk regs l = 0 ∧ Fit l ∧ s = showL regs l) ∨ (ok = false ∧ regs = 0 ∧ l = [] ∧ NoText s)
theorem right_fit {regs : Int} {l : List Nd} (h : chk regs l = 0) (hf : Fit l) : ∀ n ∈ l, Shaped n := fun n hn => right_shaped (right_of_chk h) n hn (hf n hn)
theorem TxGot.same {s : List UInt8} {r1 r2 : Int} {l1 l2 : List Nd} {k1 k2 : Bool} (h1 : TxGot s r1 l1 k1) (h2 : TxGot s r2 l2 k2) : k1 = k2 ∧ r1 = r2 ∧ l1 = l2 := by
  rcases h1 with ⟨a1, b1, c1, d1⟩ | ⟨a1, b1, c1, d1⟩ <;> rcases h2 with ⟨a2, b2, c2, d2⟩ | ⟨a2, b2, c2, d2⟩
  · obtain ⟨e1, e2⟩ := show_inj (right_fit b1 c1) (right_fit b2 c2) (d1.symm.trans d2)
    exact ⟨a1.trans a2.symm, e1, e2⟩
  · exact absurd d1 (d2 _ _ b1 c1)
  · exact absurd d2 (d1 _ _ b2 c2)
  · exact ⟨a1.trans a2.symm, b1.trans b2.symm, c1.trans c2.symm⟩
end
section
def Ao (l : List Nd) : Prop := ∀ n ∈ l, n.op = 1 → i64ok n.a
section
variable {l m : List Nd}
theorem Ao.getD (h : Ao l) (k : Nat) : (l.getD k default).op = 1 → i64ok (l.getD k default).a := by
  rw [List.getD_eq_getElem?_getD]
  rcases hk : l[k]? with _ | n
  · intro e; exact absurd e (by decide)
  · exact h n (List.mem_of_getElem? hk)
theorem Ao.nd (h : Ao l) (k : Nat) : (nd l k).op = 1 → i64ok (nd l k).a := h.getD k
theorem Ao.app (h : Ao l) (h' : Ao m) : Ao (l ++ m) := fun n hn => (List.mem_append.1 hn).elim (h n) (h' n)
theorem Ao.one_ {x : Nd} (hx : x.op = 1 → i64ok x.a) : Ao [x] := fun n hn => by rw [List.mem_singleton.1 hn]; exact hx
theorem Ao.nil_ : Ao [] := fun n hn => by cases hn
theorem Ao.set_ (h : Ao l) (k : Nat) {x : Nd} (hx : x.op = 1 → i64ok x.a) : Ao (l.set k x) := fun n hn => (List.mem_or_eq_of_mem_set hn).elim (h n) fun e => by rw [e]; exact hx
theorem Ao.trimTo (h : Ao l) (x : List Bool) : ∀ k, Ao (trimTo x l k)
  | 0 => Ao.nil_
  | k + 1 => by
    unfold Proofs.YtmghkonmfbpjcaaGreatDoor.trimTo
    refine (Ao.trimTo h x k).app ?_
    split
    · exact Ao.one_ (h.getD k)
    · exact Ao.nil_
theorem Ao.trim (h : Ao l) : Ao (trimL l) := h.trimTo _ _
theorem Ao.skips1 (n : Nd) : Ao (skips1 l n) := by
  unfold Proofs.YtmghkonmfbpjcaaGreatDoor.skips1
  split
  · exact Ao.one_ (fun e => absurd e (by simp [skipN]))
  · exact Ao.nil_
theorem Ao.skips2 (n : Nd) : Ao (skips2 l n) := by
  unfold Proofs.YtmghkonmfbpjcaaGreatDoor.skips2
  split
  · exact Ao.one_ (fun e => absurd e (by simp [skipN]))
  · exact Ao.nil_
theorem split1_a {n : Nd} {N : Nat} (h : n.op = 1 → i64ok n.a) : (split1 l n N).op = 1 → i64ok (split1 l n N).a := by
  unfold split1
  split
  · exact h
  · exact h
theorem split2_a {n x : Nd} {N : Nat} (h : x.op = 1 → i64ok x.a) : (split2 l n x N).op = 1 → i64ok (split2 l n x N).a := by
  unfold split2
  split
  · exact h
  · exact h
theorem Ao.splitTo (h : Ao l) : ∀ k, Ao (splitTo l k)
  | 0 => h
  | k + 1 => by
    have ih := Ao.splitTo h k
    show Ao (splitStep l k (l.getD k default) (Proofs.YtmghkonmfbpjcaaGreatDoor.splitTo l k))
    unfold splitStep
    split
    · exact ih
    · have h1 : Ao (step1 l k (l.getD k default) (Proofs.YtmghkonmfbpjcaaGreatDoor.splitTo l k)) := (ih.set_ k (split1_a (h.getD k))).app (Ao.skips1 _)
      exact (h1.set_ k (split2_a (split1_a (h.getD k)))).app (Ao.skips2 _)
theorem Ao.split (h : Ao l) : Ao (splitL l) := h.splitTo _
theorem Ao.takeL (h : Ao l) (r : Int) (tk : List Bool) : Ao (takeL r tk l) := fun n hn => by
  obtain ⟨k, _, rfl⟩ := List.mem_map.1 hn
  unfold takeN
  split
  · intro e; exact absurd e (by simp)
  · exact h.nd k
theorem Ao.putTo {t : Tm} (ht : t.op ≠ 1) (r : Int) (pt : List Bool) (h : Ao l) : ∀ k, Ao (putTo r t pt l k)
  | 0 => h
  | k + 1 => by
    have ih := Ao.putTo ht r pt h k
    unfold Proofs.YtmghkonmfbpjcaaGreatDoor.putTo
    split
    · exact (ih.app (Ao.one_ (ih.nd k))).set_ k (fun e => absurd e ht)
    · exact ih
theorem Ao.apply {t : Tm} (ht : t.op ≠ 1) (h : Ao l) (r : Int) (pt tk : List Bool) : Ao (applyL r t pt tk l) := Ao.putTo ht r pt (h.takeL r tk) _
theorem Ao.hushAt (h : Ao l) (i : Nat) : Ao (hushAt l i) := h.set_ i (fun e => absurd e (by simp [hush]))
theorem Ao.hushes (hh : Hushes l m) : Ao l → Ao m := by
  induction hh with
  | nil => exact id
  | one l l' i hd h ih => exact fun ha => ih (ha.hushAt i)
theorem Ao.one {regs : Int} {t : Tm} (ht : t.op ≠ 1) (h : Ao l) : Ao (oneL regs l t) := by
  unfold oneL
  split
  · exact Ao.apply ht h.trim.split _ _ _
  · exact h
theorem oneE_op {regs : Int} {t : Tm} (h : oneE regs l t = 0) : t.op ≠ 1 := by
  have := fxE_op (oneE_parts h).1
  omega
theorem Ao.all : ∀ (ts : List Tm) {r : Int} {l : List Nd}, Ao l → (allGo ts r l).1 = 0 → Ao (allGo ts r l).2.2
  | [], r, l, h, _ => h
  | t :: ts, r, l, h, h1 => by
    unfold allGo at h1 ⊢
    by_cases h0 : oneE r l t = 0
    · rw [if_neg (by simp [h0])] at h1 ⊢
      exact Ao.all ts (Ao.one (oneE_op h0) h) h1
    · rw [if_pos h0] at h1
      exact absurd h1 h0
end
theorem PassIs.ao {n r : Int} {l : List Nd} {r' : Int} {l' : List Nd} (h : PassIs n r l 0 r' l') (hR : Right r l) (ha : Ao l) : Ao l' := by
  rcases h with ⟨_, ⟨_, h, _⟩ | ⟨h1, _, rfl, rfl⟩⟩ | ⟨_, ⟨h1, h2, _⟩ | ⟨h1, _, rfl, rfl⟩⟩ | ⟨_, _, rfl, h⟩ | ⟨_, _, rfl, rfl⟩
  · cases h
  · exact ha.split
  · exact absurd h2.symm h1
  · refine Ao.all _ ha ?_
    unfold allE at h1
    rw [if_neg (by rw [hR.chk]; simp)] at h1
    exact h1
  · exact Ao.hushes h.1 ha
  · exact ha.trim
theorem Psq.ao {ns : List Int} {r : Int} {l : List Nd} {c r' : Int} {l' : List Nd} (h : Psq ns r l c r' l') : c = 0 → Right r l → Ao l → Ao l' := by
  induction h with
  | nil => exact fun _ _ h => h
  | bad h hc => exact fun e _ _ => absurd e hc
  | next h h2 ih => exact fun e hR ha => ih e (h.right hR) (h.ao hR ha)
theorem fit_ao {l : List Nd} (h : Fit l) : Ao l := fun n hn _ => h n hn 2 (by omega)
theorem fit_of {r : Int} {l : List Nd} (hR : Right r l) (ha : Ao l) : Fit l := by
  intro n hn i hi
  have ho := hR.ok n hn
  have hb := hR.rng n hn
  have hf := hR.frm n hn
  have haa := ha n hn
  have h64 := hR.rhi
  have h256 := hR.hi
  have hop : 0 ≤ n.op ∧ n.op ≤ 12 := by simpa [opOk, inB] using ho
  simp only [badF, Bool.or_eq_false_iff, Bool.not_eq_false', okF, Bool.or_eq_true, beq_iff_eq] at hf
  obtain ⟨⟨⟨⟨b1, b2⟩, b3⟩, b4⟩, b5⟩ := hf
  have hcase : n.op = 0 ∨ n.op = 1 ∨ n.op = 2 ∨ n.op = 3 ∨ n.op = 4 ∨ n.op = 5 ∨ n.op = 6 ∨ n.op = 7 ∨ n.op = 8 ∨ n.op = 9 ∨ n.op = 10 ∨ n.op = 11 ∨ n.op = 12 := by omega
  rcases hcase with e | e | e | e | e | e | e | e | e | e | e | e | e <;>
    simp [e, badR, okR, okN, hasD, hasA, hasB, hasE, shT, opOk, isSet, inB] at b1 b2 b3 b4 b5 hb haa <;>
    (rcases i with _ | _ | _ | _ | _ | _ | i <;> simp only [Nd.fld] <;> first | exact haa | (refine ⟨?_, ?_⟩ <;> omega) | omega)
end
section
open Go.RowKit
open Go.Lib
theorem idx_none {c : UInt8} : ∀ {s : List UInt8}, c ∉ s → Lib.index s [c] = -1
  | [], _ => by simp [Lib.index]
  | b :: l, h => by
    have hb : c ≠ b := fun e => h (by rw [e]; simp)
    have ih := idx_none (s := l) (c := c) fun e => h (by simp [e])
    rw [Lib.index]
    simp [List.isPrefixOf, hb, ih]
theorem idx_at {c : UInt8} {r : List UInt8} : ∀ {x : List UInt8}, c ∉ x → Lib.index (x ++ c :: r) [c] = x.length
  | [], _ => by rw [List.nil_append, Lib.index]; simp [List.isPrefixOf]
  | b :: l, h => by
    have hb : c ≠ b := fun e => h (by rw [e]; simp)
    have ih := idx_at (x := l) (c := c) (r := r) fun e => h (by simp [e])
    rw [List.cons_append, Lib.index]
    simp only [List.isPrefixOf, ih]
    simp [hb]
theorem at_first (c : UInt8) : ∀ (s : List UInt8), c ∈ s → ∃ x r, s = x ++ c :: r ∧ c ∉ x
  | [], h => by cases h
  | b :: l, h => by
    by_cases hb : b = c
    · exact ⟨[], l, by rw [hb]; rfl, by simp⟩
    · obtain ⟨x, r, h1, h2⟩ := at_first c l ((List.mem_cons.1 h).resolve_left fun e => hb e.symm)
      exact ⟨b :: x, r, by rw [h1]; rfl, by simp [h2]; exact fun e => hb e.symm⟩
theorem splB_cons {c : UInt8} {x r : List UInt8} (h : c ∉ x) : splB c (x ++ c :: r) = x :: splB c r := by
  have hj : joinB c (x :: splB c r) = x ++ c :: r := by
    unfold splB
    rw [joinB_cons c x (cutL_ne c r []), joinB_cutL]
    rfl
  rw [← hj]
  refine splB_joinB (by simp) fun y hy => ?_
  rcases List.mem_cons.1 hy with e | e
  · rw [e]; exact h
  · exact cutL_clean c r [] (by simp) y e
theorem splB_one {c : UInt8} {s : List UInt8} (h : c ∉ s) : splB c s = [s] := by
  have := splB_joinB (c := c) (p := [s]) (by simp) (fun x hx => by rw [List.mem_singleton.1 hx]; exact h)
  exact this
theorem splitK_splB (c : UInt8) : ∀ (k : Nat) (s : List UInt8), s.count c = k → Lib.splitK [c] 0 k s = splB c s
  | 0, s, h => by
    rw [splB_one (List.count_eq_zero.1 h)]
    rfl
  | k + 1, s, h => by
    obtain ⟨x, r, rfl, hx⟩ := at_first c s (List.count_pos_iff.1 (by omega))
    have hr : r.count c = k := by
      rw [List.count_append, List.count_eq_zero.2 hx, List.count_cons_self] at h
      omega
    rw [Lib.splitK, idx_at hx, splB_cons hx, ← splitK_splB c k r hr]
    rw [if_neg (by simp)]
    simp
theorem cut_none {c : UInt8} {s : List UInt8} (h : c ∉ s) : Lib.cut s [c] = (s, [], false) := by
  unfold Lib.cut
  rw [idx_none h]
  rfl
theorem cut_at {c : UInt8} {x r : List UInt8} (h : c ∉ x) : Lib.cut (x ++ c :: r) [c] = (x, r, true) := by
  unfold Lib.cut
  rw [idx_at h, if_pos (by omega)]
  simp
theorem splitB_splB (c : UInt8) (s : List UInt8) : Lib.splitB ⟨#[c]⟩ 0 (Lib.countB ⟨s.toArray⟩ ⟨#[c]⟩) ⟨s.toArray⟩ = (splB c s).map fun x => (⟨x.toArray⟩ : ByteArray) := by
  have h1 := Lib.splitB_data ⟨#[c]⟩ 0 (Lib.countB ⟨s.toArray⟩ ⟨#[c]⟩) ⟨s.toArray⟩
  have h2 : Lib.countB ⟨s.toArray⟩ ⟨#[c]⟩ = s.count c := Lib.count_one c s
  have h3 : Lib.splitK [c] 0 (Lib.countB ⟨s.toArray⟩ ⟨#[c]⟩) s = splB c s := splitK_splB c _ s h2.symm
  have h4 : (Lib.splitB ⟨#[c]⟩ 0 (Lib.countB ⟨s.toArray⟩ ⟨#[c]⟩) ⟨s.toArray⟩).map (fun b => b.data.toList) = splB c s := h1.trans h3
  rw [← h4, List.map_map]
  conv => lhs; rw [← List.map_id (Lib.splitB ⟨#[c]⟩ 0 (Lib.countB ⟨s.toArray⟩ ⟨#[c]⟩) ⟨s.toArray⟩)]
  refine List.map_congr_left fun b _ => ?_
  simp
theorem Split_b (s : List UInt8) (hs : s.length ≤ 4294967280) (w : World) (hT : Tv w) : Calls Tryz.prog 114 #[strB s, .string ⟨#[32]⟩] w fun e w' =>
    ∃ v, e = .returned v ∧ Row w' w.heap.size 9 v ((splB 32 s).map strB) ∧ Below w.heap.size w w' := by
  obtain ⟨m, hm⟩ := hT.mx
  refine (Tryz.strings_Split ⟨s.toArray⟩ ⟨#[32]⟩ m w (by show s.length < _; omega) hm (Nat.le_refl _)).mono ?_
  rintro e w' ⟨rfl, rfl⟩
  rw [splitB_splB]
  have hc : Lib.countB ⟨s.toArray⟩ ⟨#[32]⟩ + 1 = (splB 32 s).length := by
    have h1 := congrArg List.length (splitB_splB 32 s)
    rw [Lib.splitB_all ⟨#[32]⟩ (Nat.le_refl _) 0 _ ⟨s.toArray⟩ rfl, List.length_map] at h1
    exact h1
  have hcount : s.count 32 ≤ s.length := List.count_le_length
  have hc2 : Lib.countB ⟨s.toArray⟩ ⟨#[32]⟩ = s.count 32 := Lib.count_one 32 s
  rw [hc]
  refine ⟨_, rfl, ?_, (Below.refl _ _).alloc (Nat.le_refl _) _⟩
  have := Row.made (w := w) (base := w.heap.size) (e := 9) (cs := (((splB 32 s).map fun x => (⟨x.toArray⟩ : ByteArray)).map Value.string).toArray) (n := (splB 32 s).length) (Nat.le_refl _) (by simp) (by unfold maxLen; omega)
  rw [List.map_map] at this ⊢
  exact this
theorem Cut_b (s : List UInt8) (hs : s.length ≤ 4294967280) (w : World) (hT : Tv w) : Calls Tryz.prog 65 #[strB s, .string ⟨#[10]⟩] w fun e w' =>
    ∃ x r b, e = .returned (.tuple #[strB x, strB r, .bool b]) ∧ Below w.heap.size w w' ∧ ((b = true ∧ s = x ++ 10 :: r ∧ 10 ∉ x) ∨ (b = false ∧ 10 ∉ s ∧ x = s ∧ r = [])) := by
  obtain ⟨m, hm⟩ := hT.mx
  refine (Tryz.strings_Cut ⟨s.toArray⟩ ⟨#[10]⟩ m w (by show s.length < _; omega) hm).mono ?_
  rintro e w' ⟨rfl, n, rfl⟩
  show ∃ x r b, Ending.returned (.tuple #[.string ⟨(Lib.cut s [10]).1.toArray⟩, .string ⟨(Lib.cut s [10]).2.1.toArray⟩, .bool (Lib.cut s [10]).2.2]) = _ ∧ _
  by_cases h : (10 : UInt8) ∈ s
  · obtain ⟨x, r, rfl, hx⟩ := at_first 10 s h
    rw [cut_at hx]
    exact ⟨x, r, true, rfl, below_drewN (Below.refl _ _) n, .inl ⟨rfl, rfl, hx⟩⟩
  · rw [cut_none h]
    exact ⟨s, [], false, rfl, below_drewN (Below.refl _ _) n, .inr ⟨rfl, h, rfl, rfl⟩⟩
theorem Prefix_b (s p : List UInt8) (w : World) : Calls Tryz.prog 66 #[strB s, strB p] w fun e w' =>
    ∃ x b, e = .returned (.tuple #[strB x, .bool b]) ∧ w' = w ∧ ((b = true ∧ s = p ++ x) ∨ (b = false ∧ x = s ∧ ∀ y, s ≠ p ++ y)) := by
  refine (Tryz.strings_CutPrefix ⟨s.toArray⟩ ⟨p.toArray⟩ w).mono ?_
  rintro e w' ⟨rfl, rfl⟩
  show ∃ x b, Ending.returned (.tuple #[.string ⟨(Lib.trimPrefix s p).toArray⟩, .bool (Lib.hasPrefix s p)]) = _ ∧ _
  unfold Lib.trimPrefix
  cases h : Lib.hasPrefix s p with
  | true =>
    unfold Lib.hasPrefix at h
    obtain ⟨y, rfl⟩ := List.isPrefixOf_iff_prefix.1 h
    exact ⟨y, true, by simp, rfl, .inl ⟨rfl, rfl⟩⟩
  | false =>
    refine ⟨s, false, by simp, rfl, .inr ⟨rfl, rfl, fun y hy => ?_⟩⟩
    unfold Lib.hasPrefix at h
    have : p.isPrefixOf s = true := List.isPrefixOf_iff_prefix.2 ⟨y, hy.symm⟩
    rw [this] at h
    cases h
theorem Atoi_b (s : List UInt8) (hs : s.length ≤ 4294967280) (w : World) (hT : Tv w) : Calls Tryz.prog 67 #[strB s] w fun e w' =>
    ∃ v er, e = .returned (.tuple #[.int .i64 v, er]) ∧ Below w.heap.size w w' ∧ ((er = .nilIface ∧ i64ok v ∧ ∀ n, i64ok n → s = itoa n → v = n) ∨ ((∃ t q, er = .iface t q) ∧ ∀ n, i64ok n → s ≠ itoa n)) := by
  have key : ∀ n, i64ok n → s = itoa n → Lib.atoiAll s = .ok n := fun n hn e => by rw [e]; exact atoi_itoa hn.1 hn.2
  cases h : Lib.atoiAll s
  · rename_i v
    refine (Tryz.strconv_Atoi_ok ⟨s.toArray⟩ (by show s.length ≤ _; omega) v h w).mono ?_
    rintro e w' ⟨rfl, hw⟩
    refine ⟨v, _, rfl, ?_, .inl ⟨rfl, ?_, fun n hn e => ?_⟩⟩
    · rcases hw with rfl | ⟨t, rfl⟩
      · exact Below.refl _ _
      · exact Lib.bytesWorld_below _ _ _
    · exact Lib.atoiAll_bounds h
    · have := key n hn e
      rw [h] at this
      injection this
  · obtain ⟨tp, p, hv⟩ := hT.syn
    refine (Any.strconv_Atoi_syntax_var Tryz.laysC172 ⟨s.toArray⟩ (by show s.length ≤ _; omega) h tp p w hv).mono ?_
    rintro e w' ⟨N, rfl, _, _, hb⟩
    exact ⟨0, _, rfl, hb, .inr ⟨⟨_, _, rfl⟩, fun n hn e => by have := key n hn e; rw [h] at this; cases this⟩⟩
  · obtain ⟨tp, p, hv⟩ := hT.rng
    refine (Tryz.strconv_Atoi_range_var ⟨s.toArray⟩ (by show s.length ≤ _; omega) h tp p w hv).mono ?_
    rintro e w' ⟨N, rfl, _, _, hb⟩
    exact ⟨_, _, rfl, hb, .inr ⟨⟨_, _, rfl⟩, fun n hn e => by have := key n hn e; rw [h] at this; cases this⟩⟩
open Go.Maps
theorem lawStr : Keyed Tryz.prog 9 := string_keyed Tryz.underlying9
theorem zeroOp (w : World) : (zeroValue 3).run Tryz.prog w = .ok (.int .i64 0) w := by kernel_rfl
def opsD : Nat → DataW Unit
  | 0 => .map []
  | k + 1 => (opsD k).put (.string (opW k)) (.lit (.int .i64 k))
theorem opsD_map : ∀ k, IsMap (opsD k)
  | 0 => ⟨[], rfl⟩
  | k + 1 => (opsD_map k).put _ _
theorem opsD_has : ∀ (k : Nat) (p : List UInt8), k ≤ 13 → (Maps.has (opsD k) (.string p) = true ↔ ∃ j : Nat, j < k ∧ opW (j : Int) = p)
  | 0, p, _ => by
    constructor
    · intro h; cases h
    · rintro ⟨j, hj, _⟩; omega
  | k + 1, p, hk => by
    by_cases h : p = opW (k : Int)
    · rw [h]
      show Maps.has ((opsD k).put (.string (opW k)) _) _ = true ↔ _
      rw [has_put_same (opsD_map k) (by trivial)]
      exact ⟨fun _ => ⟨k, by omega, rfl⟩, fun _ => rfl⟩
    · show Maps.has ((opsD k).put (.string (opW k)) _) _ = true ↔ _
      rw [has_put_other (by intro e; injection e with e; exact h e), opsD_has k p (by omega)]
      constructor
      · rintro ⟨j, h1, h2⟩; exact ⟨j, by omega, h2⟩
      · rintro ⟨j, h1, h2⟩
        rcases Nat.lt_or_eq_of_le (Nat.lt_succ_iff.1 h1) with h3 | h3
        · exact ⟨j, h3, h2⟩
        · exact absurd (by rw [← h2, h3]) h
theorem opsD_at : ∀ (k : Nat) (j : Nat) (z : DataW Unit), k ≤ 13 → j < k → (opsD k).atKey (.string (opW j)) z = .lit (.int .i64 j)
  | 0, j, z, _, hj => by omega
  | k + 1, j, z, hk, hj => by
    show ((opsD k).put (.string (opW k)) _).atKey _ z = _
    by_cases h : j = k
    · rw [h, atKey_put_same (opsD_map k) (by trivial)]
    · rw [atKey_put_other (by intro e; injection e with e; have := opW_inj ⟨by omega, by omega⟩ ⟨by omega, by omega⟩ e; omega), opsD_at k j z (by omega) (by omega)]
theorem opsD_no (k : Nat) (p : List UInt8) (z : DataW Unit) (h : Maps.has (opsD k) (.string p) = false) : (opsD k).atKey (.string p) z = z := atKey_of_not_has h z
def OpsM (g k : Nat) (w : World) : Prop := w.ownsMap Tryz.prog 9 (plainElem Tryz.prog 3) g k (opsD k)
theorem OpsM.lt {g k : Nat} {w : World} (h : OpsM g k w) : g < w.heap.size := World.ownsMap.lt h
theorem OpsM.below {g k : Nat} {w w' : World} (h : OpsM g k w) (hb : Below w.heap.size w w') : OpsM g k w' := by
  obtain ⟨es, clock, hh, F, r⟩ := h
  exact ⟨es, clock, (hb.block g (lt_of_heap hh)).trans hh, F, r⟩
theorem OpsM.far {g k : Nat} {w : World} (h : OpsM g k w) {p : Addr} (hp : g ≠ p.block) (u : Value) : OpsM g k (w.setCell p u) := by
  obtain ⟨es, clock, hh, F, r⟩ := h
  exact ⟨es, clock, (Below.heap_setCell w p u g hp).trans hh, F, r⟩
theorem OpsM.alloc {g k : Nat} {w : World} (h : OpsM g k w) (o : Obj) : OpsM g k (w.alloc o) := by
  obtain ⟨es, clock, hh, F, r⟩ := h
  exact ⟨es, clock, (Below.heap_alloc w o g (lt_of_heap hh)).trans hh, F, r⟩
theorem keyStr {p : List UInt8} (h : p.length ≤ 4294967280) : keyOf Tryz.prog 9 (strB p) = some (.string p) := Go.WideMaps.keyOf_string_mk Tryz.underlying9 (by show p.length ≤ _; unfold maxLen; omega)
end
section
open Go.RowKit
set_option maxHeartbeats 8000000
open Go.Lib Go.Maps
def TakePost (gw gi base : Nat) (r : List (List UInt8)) (w : World) (e : Ending) (w' : World) : Prop :=
  (r = [] ∧ e = .returned (strB []) ∧ w' = w.setCell ⟨gi, 0, none⟩ (.bool false)) ∨
  ∃ x r' A' c', r = x :: r' ∧ e = .returned (strB x) ∧ w' = w.setCell ⟨gw, 0, none⟩ (.slice A' r'.length c') ∧ Row w base 9 (.slice A' r'.length c') (r'.map strB)
set_option maxRecDepth 100000 in
theorem nodeTake_any (gw gi base : Nat) (A : Option Addr) (c : Nat) (r : List (List UInt8)) (b : Bool) (w : World) (h1 : Blk w gw 163 #[.slice A r.length c]) (h2 : Blk w gi 4 #[.bool b])
    (hR : Row w base 9 (.slice A r.length c) (r.map strB)) :
    Calls Tryz.prog 115 #[.pointer (some ⟨gw, 0, none⟩), .pointer (some ⟨gi, 0, none⟩)] w (TakePost gw gi base r w) := by
  have a0 := h1.cell 0
  have af := h1.frozen 0
  have b0 := h2.cell 0
  have bf := h2.frozen 0
  simp only [List.getElem?_toArray, List.getElem?_cons_zero] at a0 b0
  cases r with
  | nil =>
    go_enter Tryz.func115, Tryz.ntmps115
    go_wp2_with fail
    go_ret
    exact .inl ⟨rfl, rfl, rfl⟩
  | cons x r' =>
    obtain ⟨bk, off, rfl, hbk, hv⟩ := hR.vals (by simp)
    have hc : w.cell? ⟨bk, off, none⟩ = some (strB x) := by have := hv 0 (strB x) rfl; simpa using this
    have hsh := hR.shape
    rw [List.length_map] at hsh
    obtain ⟨A0, c0, hsv, hcl, hcm⟩ := hsh
    injection hsv with hA0 hn0 hcc
    subst hcc
    clear hA0 hn0
    have hT := hide (Row.tail (x := strB x) (xs := r'.map strB) hR)
    clear hv hR
    rw [List.length_cons] at *
    have l0 : ((r'.length + 1 : Nat) : Int) = (r'.length : Int) + 1 := by omega
    have l1 : ((r'.length : Int) + 1 == 0) = false := by rw [beq_eq_false_iff_ne]; omega
    have l2 : (0 : Int) < (r'.length : Int) + 1 := by omega
    have l3 : (1 : Int) ≤ (r'.length : Int) + 1 := by omega
    go_enter Tryz.func115, Tryz.ntmps115
    go_wp2_with fail
    all_goals go_ret
    all_goals refine .inr ⟨x, r', _, _, rfl, rfl, rfl, ?_⟩
    all_goals have hT2 := hT.out
    all_goals clear hT
    all_goals split at hT2
    all_goals first | exact hT2 | (exfalso; omega) | (subst_vars; exact hT2)
end
end Go.Proofs.YtmghkonmfbpjcaaGreatDoor
