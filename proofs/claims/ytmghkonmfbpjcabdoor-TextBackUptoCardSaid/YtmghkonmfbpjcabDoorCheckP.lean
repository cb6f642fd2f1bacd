/- The reference's CheckProg: what it answers; it is the program's own answer. -/
import Derived.Test.YtmghkonmfbpjcabDoorCheck2
namespace Go.Proofs.YtmghkonmfbpjcabDoor
set_option linter.unusedVariables false
set_option linter.unusedSimpArgs false
open Go.RowKit
set_option maxHeartbeats 1000000

def badRr (regs len : Int) (n : Nd) : Bool := hasD n.op && !inB n.d 0 (regs - 1) || hasA n.op && !inB n.a 0 (regs - 1) || hasB n.op && !inB n.b 0 (regs - 1) || hasT n.op && !inB n.t 1 (len - 1) || hasE n.op && !inB n.e 1 (len - 1)
def badFr (n : Nd) : Bool := !hasD n.op && n.d != 0 || !hasA n.op && n.op != 1 && n.a != 0 || !hasB n.op && n.b != 0 || !hasT n.op && n.t != 0 || !hasE n.op && n.e != 0
def chkr (regs : Int) (l : List Nd) : Int :=
  if inB (l.length : Int) 1 256 = false ∨ inB regs 1 64 = false then 2
  else if (l.any fun n => !inB n.op 0 12) = true then 4
  else if (l.any (badRr regs l.length)) = true then 3
  else if (l.any badFr) = true then 1
  else 0

theorem inB_pred (n hi : Int) : inB n 0 (hi - 1) = (decide (0 ≤ n) && decide (n < hi)) := by
  unfold inB
  have : decide (n ≤ hi - 1) = decide (n < hi) := by
    rw [decide_eq_decide]
    omega
  rw [this]
theorem inB_pred1 (n hi : Int) : inB n 1 (hi - 1) = (decide (1 ≤ n) && decide (n < hi)) := by
  unfold inB
  have : decide (n ≤ hi - 1) = decide (n < hi) := by
    rw [decide_eq_decide]
    omega
  rw [this]
theorem any_congr_mem {α : Type} {p q : α → Bool} : ∀ (l : List α), (∀ x ∈ l, p x = q x) → l.any p = l.any q
  | [], _ => rfl
  | x :: l, h => by
    simp only [List.any_cons]
    rw [h x (List.mem_cons_self ..), any_congr_mem l fun y hy => h y (List.mem_cons_of_mem _ hy)]
theorem chkr_eq (regs : Int) (l : List Nd) : chkr regs l = chk regs l := by
  have e0 : (inB (l.length : Int) 1 256 = false ∨ inB regs 1 64 = false) ↔ ((l.length : Int) < 1 ∨ 256 < (l.length : Int) ∨ regs < 1 ∨ 64 < regs) := by
    unfold inB
    simp only [Bool.and_eq_false_iff, decide_eq_false_iff_not]
    omega
  have e1 : (l.any fun n => !inB n.op 0 12) = (l.any fun n => !opOk n.op) := rfl
  unfold chkr chk
  by_cases h : inB (l.length : Int) 1 256 = false ∨ inB regs 1 64 = false
  · simp only [if_pos h, if_pos (e0.1 h)]
  · have h' := mt e0.2 h
    simp only [if_neg h, if_neg h', e1]
    cases hk : (l.any fun n => !opOk n.op)
    · have hall : ∀ x ∈ l, opOk x.op = true := fun x hx => by
        have := List.any_eq_false.1 hk x hx
        simpa using this
      have e1 : l.any (badRr regs l.length) = l.any (badR regs l.length) := any_congr_mem l fun x hx => by
        have hs : shT x.op = hasT x.op := by simp [shT, hasT, hall x hx]
        simp only [badRr, badR, okR, okN, inB_pred, inB_pred1, hs, Bool.not_or, Bool.not_not]
      have e2 : l.any badFr = l.any badF := any_congr_mem l fun x hx => by
        have hs : shT x.op = hasT x.op := by simp [shT, hasT, hall x hx]
        simp only [badFr, badF, okF, hs, isSet]
        simp
        rfl
      rw [e1, e2]
    · rfl

/-- the shapes of operations -/
theorem shapes (op : Int) (h : inB op 0 12 = true) :
    (hasD op = false ∧ hasA op = false ∧ hasB op = false ∧ hasT op = true ∧ hasE op = false ∧ (op == 1) = false) ∨
    (hasD op = true ∧ hasA op = false ∧ hasB op = false ∧ hasT op = true ∧ hasE op = false ∧ (op == 1) = true) ∨
    (hasD op = true ∧ hasA op = false ∧ hasB op = false ∧ hasT op = true ∧ hasE op = false ∧ (op == 1) = false) ∨
    (hasD op = true ∧ hasA op = true ∧ hasB op = false ∧ hasT op = true ∧ hasE op = false ∧ (op == 1) = false) ∨
    (hasD op = true ∧ hasA op = true ∧ hasB op = true ∧ hasT op = true ∧ hasE op = false ∧ (op == 1) = false) ∨
    (hasD op = false ∧ hasA op = true ∧ hasB op = false ∧ hasT op = true ∧ hasE op = false ∧ (op == 1) = false) ∨
    (hasD op = false ∧ hasA op = true ∧ hasB op = false ∧ hasT op = true ∧ hasE op = true ∧ (op == 1) = false) ∨
    (hasD op = false ∧ hasA op = true ∧ hasB op = false ∧ hasT op = false ∧ hasE op = false ∧ (op == 1) = false) := by
  have h' : 0 ≤ op ∧ op ≤ 12 := by simpa [inB] using h
  have : op = 0 ∨ op = 1 ∨ op = 2 ∨ op = 3 ∨ op = 4 ∨ op = 5 ∨ op = 6 ∨ op = 7 ∨ op = 8 ∨ op = 9 ∨ op = 10 ∨ op = 11 ∨ op = 12 := by omega
  rcases this with rfl | rfl | rfl | rfl | rfl | rfl | rfl | rfl | rfl | rfl | rfl | rfl | rfl <;> decide

set_option maxRecDepth 100000 in
theorem CheckProg_bad (regs : Int) (A : Option Addr) (l : List Nd) (cap : Nat) (w : World) (h2 : inB (l.length : Int) 1 256 = false ∨ inB regs 1 64 = false) :
    Calls Tryd.prog 15 #[.agg #[.int .i64 regs, .slice A l.length cap]] w
      fun e w' => e = .returned (.int .i64 2) ∧ Below w.heap.size w w' := by
  have H2 := hide h2
  clear h2
  go_enter Tryd.func15, Tryd.ntmps15
  go_wp2_with (go_at_call 38; refine (within_any _ _ _ _).mono ?_; rintro e w' ⟨rfl, rfl⟩)
  all_goals go_tidy
  all_goals first
    | (exfalso
       have := H2.out
       simp_all
       done)
    | (go_ret
       exact ⟨rfl, (by repeat (first | (with_reducible exact Below.refl _ _) | (with_reducible assumption) | (with_reducible refine Below.drew ?_) | (with_reducible refine below_drewN ?_ _) | (with_reducible refine Below.alloc ?_ (by (try simp only [World.size_alloc, World.size_setCell, World.size_drew, World.heap_drewN]); (first | done | omega | ((try simp only [World.size_alloc, World.size_setCell, World.size_drew, World.heap_drewN] at *); omega))) _) | (with_reducible refine Below.setCell ?_ (by (try simp only [World.size_alloc, World.size_setCell, World.size_drew, World.heap_drewN]); (first | done | omega | ((try simp only [World.size_alloc, World.size_setCell, World.size_drew, World.heap_drewN] at *); omega))) _) | (with_reducible refine Below.trans ?_ (Below.mono (by assumption) (by (try simp only [World.size_alloc, World.size_setCell, World.size_drew, World.heap_drewN]); (first | done | omega | ((try simp only [World.size_alloc, World.size_setCell, World.size_drew, World.heap_drewN] at *); omega)))))))⟩)

set_option maxRecDepth 100000 in
set_option maxHeartbeats 8000000 in
theorem CheckProg_good (regs : Int) (A : Option Addr) (l : List Nd) (cap : Nat) (w : World) (hA : NodesAt w A l) (h1 : inB (l.length : Int) 1 256 = true) (h2 : inB regs 1 64 = true) :
    Calls Tryd.prog 15 #[.agg #[.int .i64 regs, .slice A l.length cap]] w
      fun e w' => e = .returned (.int .i64 (chkr regs l)) ∧ Below w.heap.size w w' := by
  have k1 : 1 ≤ (l.length : Int) ∧ (l.length : Int) ≤ 256 := by simpa [inB] using h1
  have k3 : 1 ≤ regs ∧ regs ≤ 64 := by simpa [inB] using h2
  obtain ⟨k1, k2⟩ := k1
  obtain ⟨k3, k4⟩ := k3
  have hf : chkr regs l = if (l.any fun n => !inB n.op 0 12) = true then 4 else if (l.any (badRr regs l.length)) = true then 3 else if (l.any badFr) = true then 1 else 0 := by
    unfold chkr
    rw [if_neg]
    simp [h1, h2]
  have Hf := hide hf
  clear hf
  go_enter Tryd.func15, Tryd.ntmps15
  go_wp2_with (go_at_call 38; refine (within_any _ _ _ _).mono ?_; rintro e w' ⟨rfl, rfl⟩)
  clear h1 h2
  go_loopw [3] (fun i wr => ∃ k : Nat, k ≤ l.length ∧ i = .int .i64 k ∧ (l.take k).any (fun n => !inB n.op 0 12) = false ∧ Below (w.heap.size + 1) (w.alloc (.cells #[.int .i64 regs, .slice A l.length cap] 24)) wr) (fun i _ => l.length - (intOf i).toNat)
  case atStart => exact ⟨0, Nat.zero_le _, rfl, by simp, Below.refl _ _⟩
  case round =>
    obtain ⟨k, hk, rfl, hno, hbr⟩ := hrel
    have hzr := hbr.size
    simp only [World.size_alloc] at hzr
    have Hno := hide hno
    clear hno
    obtain ⟨hcr, hfr⟩ := bcell hbr
    have hbA : Below w.heap.size w wr := (by repeat (first | (with_reducible exact Below.refl _ _) | (with_reducible assumption) | (with_reducible refine Below.drew ?_) | (with_reducible refine below_drewN ?_ _) | (with_reducible refine Below.alloc ?_ (by (try simp only [World.size_alloc, World.size_setCell, World.size_drew, World.heap_drewN]); (first | done | omega | ((try simp only [World.size_alloc, World.size_setCell, World.size_drew, World.heap_drewN] at *); omega))) _) | (with_reducible refine Below.setCell ?_ (by (try simp only [World.size_alloc, World.size_setCell, World.size_drew, World.heap_drewN]); (first | done | omega | ((try simp only [World.size_alloc, World.size_setCell, World.size_drew, World.heap_drewN] at *); omega))) _) | (with_reducible refine Below.trans ?_ (Below.mono (by assumption) (by (try simp only [World.size_alloc, World.size_setCell, World.size_drew, World.heap_drewN]); (first | done | omega | ((try simp only [World.size_alloc, World.size_setCell, World.size_drew, World.heap_drewN] at *); omega)))))))
    have g0 : wr.cell? ⟨w.heap.size, 0, none⟩ = some (.int .i64 regs) := by rw [hcr _ _ (by omega)]; simp
    have g1 : wr.cell? ⟨w.heap.size, 1, none⟩ = some (.slice A l.length cap) := by rw [hcr _ _ (by omega)]; simp
    have gl : w.heap.size < wr.heap.size := by omega
    clear hcr hfr
    by_cases hlt : k < l.length
    · obtain ⟨b, off, n, rfl, hbl, hkn, hn⟩ := hA.get hlt
      have Hkn := hide hkn
      clear hkn
      obtain ⟨c0, c1, c2, c3, c4, c5⟩ := hn.below hbA hbl
      have hbw : b < wr.heap.size := by omega
      go_wp2_with (go_at_call 38; refine (within_any _ _ _ _).mono ?_; rintro e w' ⟨rfl, rfl⟩)
      all_goals go_tidy
      all_goals try simp only [Bool.not_eq_true] at *
      all_goals first
        | (go_ret
           exact ⟨by rw [Hf.out, if_pos (any_of_take _ l k n Hkn.out (by simp [*]))]; rfl, (by repeat (first | (with_reducible exact Below.refl _ _) | (with_reducible assumption) | (with_reducible refine Below.drew ?_) | (with_reducible refine below_drewN ?_ _) | (with_reducible refine Below.alloc ?_ (by (try simp only [World.size_alloc, World.size_setCell, World.size_drew, World.heap_drewN]); (first | done | omega | ((try simp only [World.size_alloc, World.size_setCell, World.size_drew, World.heap_drewN] at *); omega))) _) | (with_reducible refine Below.setCell ?_ (by (try simp only [World.size_alloc, World.size_setCell, World.size_drew, World.heap_drewN]); (first | done | omega | ((try simp only [World.size_alloc, World.size_setCell, World.size_drew, World.heap_drewN] at *); omega))) _) | (with_reducible refine Below.trans ?_ (Below.mono (by assumption) (by (try simp only [World.size_alloc, World.size_setCell, World.size_drew, World.heap_drewN]); (first | done | omega | ((try simp only [World.size_alloc, World.size_setCell, World.size_drew, World.heap_drewN] at *); omega)))))))⟩)
        | (go_roundw
           case rel => exact ⟨k + 1, by omega, by go_num, by rw [any_take_succ _ l k n Hkn.out, Hno.out]; simp [*], hbr⟩
           case measure => simp [intOf]; omega)
    · have hR : (l.any fun n => !inB n.op 0 12) = false := by rw [← any_take_all _ l k hlt, Hno.out]
      have Hok : Hid (∀ (i : Nat) (n : Nd), l[i]? = some n → inB n.op 0 12 = true) := hide fun i n hi => by
        have := List.any_eq_false.1 hR n (List.mem_of_getElem? hi)
        simpa using this
      have Hf2 := hide (Hf.out.trans (if_neg (by simp [hR])))
      clear hR Hno Hf hbr hzr
      obtain ⟨wo, rfl⟩ : ∃ wo : World, wo = wr := ⟨_, rfl⟩
      go_wp2_with fail
      go_loopw [4] (fun i w2 => ∃ k : Nat, k ≤ l.length ∧ i = .int .i64 k ∧ (l.take k).any (badRr regs l.length) = false ∧ Below wo.heap.size wo w2) (fun i _ => l.length - (intOf i).toNat)
      case atStart => exact ⟨0, Nat.zero_le _, rfl, by simp, Below.refl _ _⟩
      case round =>
        clear hlt hk
        obtain ⟨k, hk, rfl, hno, hbr⟩ := hrel
        have hzr := hbr.size
        have Hno := hide hno
        clear hno
        obtain ⟨hcr, hfr⟩ := bcell hbr
        have hbB : Below w.heap.size w wr := (by repeat (first | (with_reducible exact Below.refl _ _) | (with_reducible assumption) | (with_reducible refine Below.drew ?_) | (with_reducible refine below_drewN ?_ _) | (with_reducible refine Below.alloc ?_ (by (try simp only [World.size_alloc, World.size_setCell, World.size_drew, World.heap_drewN]); (first | done | omega | ((try simp only [World.size_alloc, World.size_setCell, World.size_drew, World.heap_drewN] at *); omega))) _) | (with_reducible refine Below.setCell ?_ (by (try simp only [World.size_alloc, World.size_setCell, World.size_drew, World.heap_drewN]); (first | done | omega | ((try simp only [World.size_alloc, World.size_setCell, World.size_drew, World.heap_drewN] at *); omega))) _) | (with_reducible refine Below.trans ?_ (Below.mono (by assumption) (by (try simp only [World.size_alloc, World.size_setCell, World.size_drew, World.heap_drewN]); (first | done | omega | ((try simp only [World.size_alloc, World.size_setCell, World.size_drew, World.heap_drewN] at *); omega)))))))
        have j0 : wr.cell? ⟨w.heap.size, 0, none⟩ = some (.int .i64 regs) := by rw [hcr _ _ (by omega)]; exact g0
        have j1 : wr.cell? ⟨w.heap.size, 1, none⟩ = some (.slice A l.length cap) := by rw [hcr _ _ (by omega)]; exact g1
        have jl : w.heap.size < wr.heap.size := by omega
        clear hcr hfr g0 g1
        by_cases hlt : k < l.length
        · obtain ⟨b, off, n, rfl, hbl, hkn, hn⟩ := hA.get hlt
          have Hkn := hide hkn
          clear hkn
          obtain ⟨c0, c1, c2, c3, c4, c5⟩ := hn.below hbB hbl
          have hbw : b < wr.heap.size := by omega
          rcases shapes n.op (Hok.out _ _ Hkn.out) with hh | hh | hh | hh | hh | hh | hh | hh
          all_goals as_aux_lemma =>
            obtain ⟨s1, s2, s3, s4, s5, s6⟩ := hh
            go_wp2_with (first | (go_at_call 38; refine (within_any _ _ _ _).mono ?_; rintro e w' ⟨rfl, rfl⟩) | (go_at_call 39; refine (fields_any _ _).mono ?_; rintro e w' ⟨rfl, rfl⟩))
            all_goals go_tidy
            all_goals try simp only [Bool.not_eq_true] at *
            all_goals first
              | (go_ret
                 exact ⟨by rw [Hf2.out, if_pos (any_of_take _ l k n Hkn.out (by simp [badRr, *]))]; rfl, (by repeat (first | (with_reducible exact Below.refl _ _) | (with_reducible assumption) | (with_reducible refine Below.drew ?_) | (with_reducible refine below_drewN ?_ _) | (with_reducible refine Below.alloc ?_ (by (try simp only [World.size_alloc, World.size_setCell, World.size_drew, World.heap_drewN]); (first | done | omega | ((try simp only [World.size_alloc, World.size_setCell, World.size_drew, World.heap_drewN] at *); omega))) _) | (with_reducible refine Below.setCell ?_ (by (try simp only [World.size_alloc, World.size_setCell, World.size_drew, World.heap_drewN]); (first | done | omega | ((try simp only [World.size_alloc, World.size_setCell, World.size_drew, World.heap_drewN] at *); omega))) _) | (with_reducible refine Below.trans ?_ (Below.mono (by assumption) (by (try simp only [World.size_alloc, World.size_setCell, World.size_drew, World.heap_drewN]); (first | done | omega | ((try simp only [World.size_alloc, World.size_setCell, World.size_drew, World.heap_drewN] at *); omega)))))))⟩)
              | (go_roundw
                 case rel => exact ⟨k + 1, by omega, by go_num, by rw [any_take_succ _ l k n Hkn.out, Hno.out]; simp [badRr, *], (by repeat (first | (with_reducible exact Below.refl _ _) | (with_reducible assumption) | (with_reducible refine Below.drew ?_) | (with_reducible refine below_drewN ?_ _) | (with_reducible refine Below.alloc ?_ (by (try simp only [World.size_alloc, World.size_setCell, World.size_drew, World.heap_drewN]); (first | done | omega | ((try simp only [World.size_alloc, World.size_setCell, World.size_drew, World.heap_drewN] at *); omega))) _) | (with_reducible refine Below.setCell ?_ (by (try simp only [World.size_alloc, World.size_setCell, World.size_drew, World.heap_drewN]); (first | done | omega | ((try simp only [World.size_alloc, World.size_setCell, World.size_drew, World.heap_drewN] at *); omega))) _) | (with_reducible refine Below.trans ?_ (Below.mono (by assumption) (by (try simp only [World.size_alloc, World.size_setCell, World.size_drew, World.heap_drewN]); (first | done | omega | ((try simp only [World.size_alloc, World.size_setCell, World.size_drew, World.heap_drewN] at *); omega)))))))⟩
                 case measure => simp [intOf]; omega)
        · have hR : l.any (badRr regs l.length) = false := by rw [← any_take_all _ l k hlt, Hno.out]
          have Hf3 := hide (Hf2.out.trans (if_neg (by simp [hR])))
          clear hR Hno Hf2 hbr hzr hbA gl
          obtain ⟨wp, rfl⟩ : ∃ wp : World, wp = wr := ⟨_, rfl⟩
          go_wp2_with fail
          go_loopw [11] (fun i w2 => ∃ k : Nat, k ≤ l.length ∧ i = .int .i64 k ∧ (l.take k).any badFr = false ∧ Below wp.heap.size wp w2) (fun i _ => l.length - (intOf i).toNat)
          case atStart => exact ⟨0, Nat.zero_le _, rfl, by simp, Below.refl _ _⟩
          case round =>
            clear hlt hk
            obtain ⟨k, hk, rfl, hno, hbr⟩ := hrel
            have hzr := hbr.size
            have Hno := hide hno
            clear hno
            obtain ⟨hcr, hfr⟩ := bcell hbr
            have hbC : Below w.heap.size w wr := (by repeat (first | (with_reducible exact Below.refl _ _) | (with_reducible assumption) | (with_reducible refine Below.drew ?_) | (with_reducible refine below_drewN ?_ _) | (with_reducible refine Below.alloc ?_ (by (try simp only [World.size_alloc, World.size_setCell, World.size_drew, World.heap_drewN]); (first | done | omega | ((try simp only [World.size_alloc, World.size_setCell, World.size_drew, World.heap_drewN] at *); omega))) _) | (with_reducible refine Below.setCell ?_ (by (try simp only [World.size_alloc, World.size_setCell, World.size_drew, World.heap_drewN]); (first | done | omega | ((try simp only [World.size_alloc, World.size_setCell, World.size_drew, World.heap_drewN] at *); omega))) _) | (with_reducible refine Below.trans ?_ (Below.mono (by assumption) (by (try simp only [World.size_alloc, World.size_setCell, World.size_drew, World.heap_drewN]); (first | done | omega | ((try simp only [World.size_alloc, World.size_setCell, World.size_drew, World.heap_drewN] at *); omega)))))))
            have g0 : wr.cell? ⟨w.heap.size, 0, none⟩ = some (.int .i64 regs) := by rw [hcr _ _ (by omega)]; exact j0
            have g1 : wr.cell? ⟨w.heap.size, 1, none⟩ = some (.slice A l.length cap) := by rw [hcr _ _ (by omega)]; exact j1
            have gl : w.heap.size < wr.heap.size := by omega
            clear hcr hfr j0 j1
            by_cases hlt : k < l.length
            · obtain ⟨b, off, n, rfl, hbl, hkn, hn⟩ := hA.get hlt
              have Hkn := hide hkn
              clear hkn
              obtain ⟨c0, c1, c2, c3, c4, c5⟩ := hn.below hbC hbl
              have hbw : b < wr.heap.size := by omega
              rcases shapes n.op (Hok.out _ _ Hkn.out) with hh | hh | hh | hh | hh | hh | hh | hh
              all_goals as_aux_lemma =>
                obtain ⟨s1, s2, s3, s4, s5, s6⟩ := hh
                have s7 : (n.op != 1) = !(n.op == 1) := rfl
                rw [s6] at s7
                go_wp2_with (go_at_call 39; refine (fields_any _ _).mono ?_; rintro e w' ⟨rfl, rfl⟩)
                all_goals go_tidy
                all_goals try simp only [Bool.not_eq_true] at *
                all_goals first
                  | (go_ret
                     exact ⟨by rw [Hf3.out, if_pos (any_of_take _ l k n Hkn.out (by simp [badFr, *]))]; rfl, (by repeat (first | (with_reducible exact Below.refl _ _) | (with_reducible assumption) | (with_reducible refine Below.drew ?_) | (with_reducible refine below_drewN ?_ _) | (with_reducible refine Below.alloc ?_ (by (try simp only [World.size_alloc, World.size_setCell, World.size_drew, World.heap_drewN]); (first | done | omega | ((try simp only [World.size_alloc, World.size_setCell, World.size_drew, World.heap_drewN] at *); omega))) _) | (with_reducible refine Below.setCell ?_ (by (try simp only [World.size_alloc, World.size_setCell, World.size_drew, World.heap_drewN]); (first | done | omega | ((try simp only [World.size_alloc, World.size_setCell, World.size_drew, World.heap_drewN] at *); omega))) _) | (with_reducible refine Below.trans ?_ (Below.mono (by assumption) (by (try simp only [World.size_alloc, World.size_setCell, World.size_drew, World.heap_drewN]); (first | done | omega | ((try simp only [World.size_alloc, World.size_setCell, World.size_drew, World.heap_drewN] at *); omega)))))))⟩)
                  | (go_roundw
                     case rel => exact ⟨k + 1, by omega, by go_num, by rw [any_take_succ _ l k n Hkn.out, Hno.out]; simp [badFr, *], (by repeat (first | (with_reducible exact Below.refl _ _) | (with_reducible assumption) | (with_reducible refine Below.drew ?_) | (with_reducible refine below_drewN ?_ _) | (with_reducible refine Below.alloc ?_ (by (try simp only [World.size_alloc, World.size_setCell, World.size_drew, World.heap_drewN]); (first | done | omega | ((try simp only [World.size_alloc, World.size_setCell, World.size_drew, World.heap_drewN] at *); omega))) _) | (with_reducible refine Below.setCell ?_ (by (try simp only [World.size_alloc, World.size_setCell, World.size_drew, World.heap_drewN]); (first | done | omega | ((try simp only [World.size_alloc, World.size_setCell, World.size_drew, World.heap_drewN] at *); omega))) _) | (with_reducible refine Below.trans ?_ (Below.mono (by assumption) (by (try simp only [World.size_alloc, World.size_setCell, World.size_drew, World.heap_drewN]); (first | done | omega | ((try simp only [World.size_alloc, World.size_setCell, World.size_drew, World.heap_drewN] at *); omega)))))))⟩
                     case measure => simp [intOf]; omega)
            · have hR : l.any badFr = false := by rw [← any_take_all _ l k hlt, Hno.out]
              have Hf4 := hide (Hf3.out.trans (if_neg (by simp [hR])))
              clear hR Hno Hf3
              go_wp2_with fail
              go_ret
              exact ⟨by rw [Hf4.out]; rfl, hbC⟩

theorem CheckProg_any (regs : Int) (A : Option Addr) (l : List Nd) (cap : Nat) (w : World) (hA : NodesAt w A l) :
    Calls Tryd.prog 15 #[.agg #[.int .i64 regs, .slice A l.length cap]] w
      fun e w' => e = .returned (.int .i64 (chk regs l)) ∧ Below w.heap.size w w' := by
  rw [← chkr_eq]
  by_cases h : inB (l.length : Int) 1 256 = false ∨ inB regs 1 64 = false
  · have hf : chkr regs l = 2 := by unfold chkr; rw [if_pos h]
    rw [hf]
    exact CheckProg_bad regs A l cap w h
  · simp only [not_or, Bool.not_eq_false] at h
    exact CheckProg_good regs A l cap w hA h.1 h.2
end Go.Proofs.YtmghkonmfbpjcabDoor
