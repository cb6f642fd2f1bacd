/- The reference's ProgText; how long texts are. -/
import Derived.Test.YtmghkonmfbpjcabDoorTxE
namespace Go.Proofs.YtmghkonmfbpjcabDoor
set_option linter.unusedVariables false
set_option linter.unusedSimpArgs false
open Go.RowKit
set_option maxHeartbeats 4000000
open Go.Lib

theorem joinB_len (c : UInt8) (m : Nat) : ∀ (p : List (List UInt8)), (∀ x ∈ p, x.length ≤ m) → (joinB c p).length ≤ p.length * (m + 1)
  | [], _ => by simp [joinB]
  | [x], h => by
    have := h x (by simp)
    show x.length ≤ _
    simp
    omega
  | x :: y :: r, h => by
    have h0 := h x (by simp)
    have ih := joinB_len c m (y :: r) fun z hz => h z (by simp [hz])
    show (x ++ c :: joinB c (y :: r)).length ≤ _
    simp only [List.length_append, List.length_cons] at ih ⊢
    have : (r.length + 1 + 1) * (m + 1) = (r.length + 1) * (m + 1) + (m + 1) := Nat.succ_mul _ _
    omega
theorem partsL_len (op : Int) : (partsL op).length ≤ 4 := by
  unfold partsL
  repeat' split
  all_goals simp
theorem flat_len {α β : Type} (f : α → List β) (m : Nat) : ∀ (l : List α), (∀ x ∈ l, (f x).length ≤ m) → (l.flatMap f).length ≤ l.length * m
  | [], _ => by simp
  | x :: l, h => by
    have h0 := h x (by simp)
    have ih := flat_len f m l fun z hz => h z (by simp [hz])
    rw [List.flatMap_cons, List.length_append, List.length_cons, Nat.succ_mul]
    omega
theorem wordsL_len (n : Nd) : (wordsL n).length ≤ 9 := by
  have := flat_len (partW n) 2 (partsL n.op) fun p _ => by unfold partW; split <;> simp
  have := partsL_len n.op
  simp only [wordsL, List.length_cons]
  omega
theorem word_len {n : Nd} (fit : ∀ i, i < 6 → i64ok (n.fld i)) : ∀ x ∈ wordsL n, x.length ≤ 21 := by
  intro x hx
  rcases List.mem_cons.1 hx with e | e
  · rw [e]
    have := opW_len n.op
    omega
  · obtain ⟨p, hp, hx⟩ := List.mem_flatMap.1 e
    have hw := partsL_words n.op p hp
    unfold partW at hx
    rcases List.mem_append.1 hx with e | e
    · rcases hw.1 with h | h | h
      · rw [if_pos h] at e; cases e
      · rw [h] at e
        have : x = toW := by simpa [toW] using e
        rw [this]; decide
      · rw [h] at e
        have : x = elseW := by simpa [elseW] using e
        rw [this]; decide
    · have : x = itoa (n.fld p.2) := by simpa using e
      rw [this]
      exact itoa_length_le _ (fit p.2 hw.2.2).1 (fit p.2 hw.2.2).2
theorem nodeL_len {n : Nd} (fit : ∀ i, i < 6 → i64ok (n.fld i)) : (nodeL n).length ≤ 198 := by
  have := joinB_len 32 21 (wordsL n) (word_len fit)
  have := wordsL_len n
  unfold nodeL
  omega
theorem lineL_len {n : Nd} (fit : ∀ i, i < 6 → i64ok (n.fld i)) : (lineL n).length ≤ 199 := by
  have := nodeL_len fit
  simp only [lineL, List.length_append, List.length_singleton]
  omega
theorem linesL_len {l : List Nd} (fit : ∀ n ∈ l, ∀ i, i < 6 → i64ok (n.fld i)) : (linesL l).length ≤ l.length * 199 := flat_len lineL 199 l fun n hn => lineL_len (fit n hn)
theorem linesL_take {l : List Nd} {k : Nat} {n : Nd} (h : l[k]? = some n) : linesL (l.take (k + 1)) = linesL (l.take k) ++ lineL n := by
  rw [List.take_add_one, h]
  simp [linesL]
theorem showL_take0 (regs : Int) (l : List Nd) : showL regs (l.take 0) = regsW ++ itoa regs ++ [10] := by simp [showL, linesL]
theorem showL_step {regs : Int} {l : List Nd} {k : Nat} {n : Nd} (h : l[k]? = some n) : showL regs (l.take (k + 1)) = showL regs (l.take k) ++ lineL n := by
  unfold showL
  rw [linesL_take h]
  simp
theorem showL_len {regs : Int} {l : List Nd} (hr : i64ok regs) (fit : ∀ n ∈ l, ∀ i, i < 6 → i64ok (n.fld i)) : (showL regs l).length ≤ 27 + l.length * 199 := by
  have := itoa_length_le regs hr.1 hr.2
  have := linesL_len fit
  simp only [showL, regsW, List.length_append, List.length_cons, List.length_nil]
  omega

set_option maxRecDepth 100000 in
theorem ProgText_any (regs : Int) (A : Option Addr) (l : List Nd) (cap : Nat) (w : World) (hA : NodesAt w A l) (hl : l.length ≤ 256) (hr : i64ok regs) (ho : ∀ n ∈ l, 0 ≤ n.op ∧ n.op ≤ 12) (fit : ∀ n ∈ l, ∀ i, i < 6 → i64ok (n.fld i)) :
    Calls Tryd.prog 16 #[.agg #[.int .i64 regs, .slice A l.length cap]] w fun e w' => e = .returned (strB (showL regs l)) ∧ Below w.heap.size w w' := by
  have D1 := fun W => hide (Digits_any _ regs W (Nat.le_refl _) hr)
  have L1 := itoa_length_le regs hr.1 hr.2
  have EQ : (⟨#[114, 101, 103, 115, 32]⟩ : ByteArray) ++ ⟨(itoa regs).toArray⟩ ++ ⟨#[10]⟩ = ⟨(showL regs (l.take 0)).toArray⟩ := by
    apply ByteArray.ext
    rw [showL_take0]
    simp [regsW]
  have Ho := hide ho
  have Fit := hide fit
  have Hr := hide hr
  clear ho fit hr
  go_enter Tryd.func16, Tryd.ntmps16
  go_wp2_with (go_at_call 40; refine ((D1 _).out).mono ?_; rintro e w1 ⟨rfl, hbw1⟩; obtain ⟨hcw1, hfw1⟩ := bcell hbw1; have hzw1 := hbw1.size; simp only [World.size_alloc, World.size_setCell, World.size_drew, World.heap_drewN] at hzw1 hcw1 hfw1; (try have hyw1 := Nat.lt_of_succ_le hzw1); (try have hxw1 := Nat.lt_of_succ_lt hyw1))
  go_loopg [3, 4] (l.length) (fun gk s i wr => ∃ k : Nat, k ≤ l.length ∧ i = .int .i64 k ∧ gk = l.length - k ∧ s = strB (showL regs (l.take k)) ∧ Blk wr w.heap.size 24 #[.int .i64 regs, .slice A l.length cap] ∧ Below w.heap.size w wr)
  case atStart => exact ⟨0, Nat.zero_le _, rfl, by omega, congrArg Value.string EQ, Blk.below (Blk.new w _ _) hbw1 (by simp), (by repeat (first | (with_reducible exact Below.refl _ _) | (with_reducible assumption) | (with_reducible refine Below.drew ?_) | (with_reducible refine below_drewN ?_ _) | (with_reducible refine Below.alloc ?_ (by (try simp only [World.size_alloc, World.size_setCell, World.size_drew, World.heap_drewN]); (first | done | omega | ((try simp only [World.size_alloc, World.size_setCell, World.size_drew, World.heap_drewN] at *); omega))) _) | (with_reducible refine Below.setCell ?_ (by (try simp only [World.size_alloc, World.size_setCell, World.size_drew, World.heap_drewN]); (first | done | omega | ((try simp only [World.size_alloc, World.size_setCell, World.size_drew, World.heap_drewN] at *); omega))) _) | (with_reducible refine Below.trans ?_ (Below.mono (by assumption) (by (try simp only [World.size_alloc, World.size_setCell, World.size_drew, World.heap_drewN]); (first | done | omega | ((try simp only [World.size_alloc, World.size_setCell, World.size_drew, World.heap_drewN] at *); omega)))))))⟩
  case round =>
    obtain ⟨k, hk, rfl, hgk, rfl, hP, hBl⟩ := hrel
    have Hgk := hide hgk
    clear hgk EQ D1 hbw1 hcw1 hfw1 hzw1
    have hz := hBl.size
    have p0 := hP.cell 0
    have p1 := hP.cell 1
    simp only [List.getElem?_toArray, List.getElem?_cons_zero, List.getElem?_cons_succ] at p0 p1
    have LS : (showL regs (l.take k)).length ≤ 27 + k * 199 := by
      have := showL_len (l := l.take k) Hr.out fun n hn => Fit.out n (List.mem_of_mem_take hn)
      rw [List.length_take, Nat.min_eq_left hk] at this
      exact this
    by_cases hlt : k < l.length
    · obtain ⟨ab, ao, x, rfl, hab, hx, hxl⟩ := (hA.below hBl).get hlt
      have hmem := List.mem_of_getElem? hx
      have HL := fun W => hide (line_any x W (Ho.out x hmem) (Fit.out x hmem))
      have LL := lineL_len (Fit.out x hmem)
      have ES := showL_step (regs := regs) hx
      generalize hsa : showL regs (l.take k) = sa at *
      generalize hsl : lineL x = sl at *
      have ES := hide ES
      clear hsa hsl hx
      have k0 : (0 : Int) ≤ (k : Int) := by omega
      have k1 : (k : Int) < (l.length : Int) := by omega
      obtain ⟨c0, c1, c2, c3, c4, c5⟩ := hxl
      have HP := hide hP
      clear hP
      go_wp2_with (refine ((HL _).out).mono ?_; rintro e w3 ⟨rfl, hbw3⟩)
      go_roundg (l.length - (k + 1))
      case measure => have := Hgk.out; omega
      case rel => exact ⟨k + 1, by omega, by go_num, rfl, (by rw [ES.out]; exact congrArg Value.string (str_app _ _)), HP.out.below hbw3 HP.out.lt, hBl.trans (hbw3.mono hz)⟩
    · obtain rfl : k = l.length := by omega
      go_wp2_with fail
      go_ret
      rw [List.take_length]
      exact ⟨rfl, hBl⟩
end Go.Proofs.YtmghkonmfbpjcabDoor
