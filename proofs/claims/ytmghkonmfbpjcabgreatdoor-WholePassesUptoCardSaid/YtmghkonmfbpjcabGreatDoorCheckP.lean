/- Parts. -/
import Derived.Test.YtmghkonmfbpjcabGreatDoorGC
set_option linter.unusedVariables false
set_option linter.unusedSimpArgs false
set_option maxRecDepth 100000
set_option maxHeartbeats 1000000
namespace Go.Proofs.YtmghkonmfbpjcabGreatDoor
open Go.RowKit
open Go.Proofs.Tryz
section
def uK (regs len : Int) (n : Nd) : Bool := dE n.op && !inB n.d 0 (regs - 1) || dC n.op && !inB n.a 0 (regs - 1) || cG n.op && !inB n.b 0 (regs - 1) || oS n.op && !inB n.t 1 (len - 1) || fL n.op && !inB n.e 1 (len - 1)
def uL (n : Nd) : Bool := !dE n.op && n.d != 0 || !dC n.op && n.op != 1 && n.a != 0 || !cG n.op && n.b != 0 || !oS n.op && n.t != 0 || !fL n.op && n.e != 0
def bHE (regs : Int) (l : List Nd) : Int :=
  if inB (l.length : Int) 1 256 = false ∨ inB regs 1 64 = false then 2
  else if (l.any fun n => !inB n.op 0 12) = true then 4
  else if (l.any (uK regs l.length)) = true then 3
  else if (l.any uL) = true then 1
  else 0
theorem bNP (n hi : Int) : inB n 0 (hi - 1) = (decide (0 ≤ n) && decide (n < hi)) := by
  unfold inB
  have : decide (n ≤ hi - 1) = decide (n < hi) := by
    rw [decide_eq_decide]
    omega
  rw [this]
theorem bKG (n hi : Int) : inB n 1 (hi - 1) = (decide (1 ≤ n) && decide (n < hi)) := by
  unfold inB
  have : decide (n ≤ hi - 1) = decide (n < hi) := by
    rw [decide_eq_decide]
    omega
  rw [this]
theorem mV {α : Type} {p q : α → Bool} : ∀ (l : List α), (∀ x ∈ l, p x = q x) → l.any p = l.any q
  | [], _ => rfl
  | x :: l, h => by
    simp only [List.any_cons]
    rw [h x (List.mem_cons_self ..), mV l fun y hy => h y (List.mem_cons_of_mem _ hy)]
theorem bQE (regs : Int) (l : List Nd) : bHE regs l = chk regs l := by
  have e0 : (inB (l.length : Int) 1 256 = false ∨ inB regs 1 64 = false) ↔ ((l.length : Int) < 1 ∨ 256 < (l.length : Int) ∨ regs < 1 ∨ 64 < regs) := by
    unfold inB
    simp only [Bool.and_eq_false_iff, decide_eq_false_iff_not]
    omega
  have e1 : (l.any fun n => !inB n.op 0 12) = (l.any fun n => !gG n.op) := rfl
  unfold bHE chk
  by_cases h : inB (l.length : Int) 1 256 = false ∨ inB regs 1 64 = false
  · simp only [if_pos h, if_pos (e0.1 h)]
  · have h' := mt e0.2 h
    simp only [if_neg h, if_neg h', e1]
    cases hk : (l.any fun n => !gG n.op)
    · have hall : ∀ x ∈ l, gG x.op = true := fun x hx => by
        have := List.any_eq_false.1 hk x hx
        simpa using this
      have e1 : l.any (uK regs l.length) = l.any (kI regs l.length) := mV l fun x hx => by
        have hs : shT x.op = oS x.op := by simp [shT, oS, hall x hx]
        simp only [uK, kI, okR, okN, bNP, bKG, hs, Bool.not_or, Bool.not_not]
      have e2 : l.any uL = l.any badF := mV l fun x hx => by
        have hs : shT x.op = oS x.op := by simp [shT, oS, hall x hx]
        simp only [uL, badF, okF, hs, oL]
        simp
        rfl
      rw [e1, e2]
    · rfl
theorem bMD (op : Int) (h : inB op 0 12 = true) :
    (dE op = false ∧ dC op = false ∧ cG op = false ∧ oS op = true ∧ fL op = false ∧ (op == 1) = false) ∨
    (dE op = true ∧ dC op = false ∧ cG op = false ∧ oS op = true ∧ fL op = false ∧ (op == 1) = true) ∨
    (dE op = true ∧ dC op = false ∧ cG op = false ∧ oS op = true ∧ fL op = false ∧ (op == 1) = false) ∨
    (dE op = true ∧ dC op = true ∧ cG op = false ∧ oS op = true ∧ fL op = false ∧ (op == 1) = false) ∨
    (dE op = true ∧ dC op = true ∧ cG op = true ∧ oS op = true ∧ fL op = false ∧ (op == 1) = false) ∨
    (dE op = false ∧ dC op = true ∧ cG op = false ∧ oS op = true ∧ fL op = false ∧ (op == 1) = false) ∨
    (dE op = false ∧ dC op = true ∧ cG op = false ∧ oS op = true ∧ fL op = true ∧ (op == 1) = false) ∨
    (dE op = false ∧ dC op = true ∧ cG op = false ∧ oS op = false ∧ fL op = false ∧ (op == 1) = false) := by
  have h' : 0 ≤ op ∧ op ≤ 12 := by simpa [inB] using h
  have : op = 0 ∨ op = 1 ∨ op = 2 ∨ op = 3 ∨ op = 4 ∨ op = 5 ∨ op = 6 ∨ op = 7 ∨ op = 8 ∨ op = 9 ∨ op = 10 ∨ op = 11 ∨ op = 12 := Zb
  rcases this with rfl | rfl | rfl | rfl | rfl | rfl | rfl | rfl | rfl | rfl | rfl | rfl | rfl <;> decide
theorem yI (regs : Int) (A : Option Addr) (l : List Nd) (cap : Nat) (w : World) (h2 : inB (l.length : Int) 1 256 = false ∨ inB regs 1 64 = false) :
    Calls prog 13 #[.agg #[.int .i64 regs, .slice A l.length cap]] w
      fun e w' => e = .returned (.int .i64 2) ∧ Below w.heap.size w w' := by
  have H2 := bA h2
  clear h2
  go_enter func13, ntmps13
  go_wp2_with (go_at_call 14; refine (dZ _ _ _ _).mono ?_; rintro e w' ⟨rfl, rfl⟩)
  all_goals go_tidy
  all_goals first
    | (exfalso
       have := H2.o
       simp_all
       done)
    | (go_ret
       exact ⟨rfl, Yc⟩)
set_option maxHeartbeats 8000000 in
theorem xM (regs : Int) (A : Option Addr) (l : List Nd) (cap : Nat) (w : World) (hA : bH w A l) (h1 : inB (l.length : Int) 1 256 = true) (h2 : inB regs 1 64 = true) :
    Calls prog 13 #[.agg #[.int .i64 regs, .slice A l.length cap]] w
      fun e w' => e = .returned (.int .i64 (bHE regs l)) ∧ Below w.heap.size w w' := by
  have k1 : 1 ≤ (l.length : Int) ∧ (l.length : Int) ≤ 256 := by simpa [inB] using h1
  have k3 : 1 ≤ regs ∧ regs ≤ 64 := by simpa [inB] using h2
  obtain ⟨k1, k2⟩ := k1
  obtain ⟨k3, k4⟩ := k3
  have hf : bHE regs l = if (l.any fun n => !inB n.op 0 12) = true then 4 else if (l.any (uK regs l.length)) = true then 3 else if (l.any uL) = true then 1 else 0 := by
    unfold bHE
    rw [if_neg]
    simp [h1, h2]
  have Hf := bA hf
  clear hf
  go_enter func13, ntmps13
  go_wp2_with (go_at_call 14; refine (dZ _ _ _ _).mono ?_; rintro e w' ⟨rfl, rfl⟩)
  clear h1 h2
  go_loopw [3] (fun i wr => ∃ k : Nat, k ≤ l.length ∧ i = .int .i64 k ∧ (l.take k).any (fun n => !inB n.op 0 12) = false ∧ Below (w.heap.size + 1) (w.alloc (.cells #[.int .i64 regs, .slice A l.length cap] 24)) wr) (fun i _ => l.length - (intOf i).toNat)
  case atStart => exact Jd
  case round =>
    obtain ⟨k, hk, rfl, hno, hbr⟩ := hrel
    have hzr := hbr.size
    simp only [World.size_alloc] at hzr
    have Hno := bA hno
    clear hno
    obtain ⟨hcr, hfr⟩ := bB hbr
    have hbA : Below w.heap.size w wr := Yc
    have g0 : wr.cell? ⟨w.heap.size, 0, none⟩ = some (.int .i64 regs) := by rw [hcr _ _ Zb]; simp
    have g1 : wr.cell? ⟨w.heap.size, 1, none⟩ = some (.slice A l.length cap) := by rw [hcr _ _ Zb]; simp
    have gl : w.heap.size < wr.heap.size := Zb
    clear hcr hfr
    by_cases hlt : k < l.length
    · obtain ⟨b, off, n, rfl, hbl, hkn, hn⟩ := hA.get hlt
      have Hkn := bA hkn
      clear hkn
      obtain ⟨c0, c1, c2, c3, c4, c5⟩ := hn.below hbA hbl
      have hbw : b < wr.heap.size := Zb
      go_wp2_with (go_at_call 14; refine (dZ _ _ _ _).mono ?_; rintro e w' ⟨rfl, rfl⟩)
      all_goals go_tidy
      all_goals try simp only [Bool.not_eq_true] at *
      all_goals first
        | (go_ret
           exact ⟨by rw [Hf.o, if_pos (fQ _ l k n Hkn.o (by simp [*]))]; rfl, Yc⟩)
        | (go_roundw
           case rel => exact ⟨k + 1, Zb, by go_num, by rw [dQ _ l k n Hkn.o, Hno.o]; simp [*], hbr⟩
           case measure => simp [intOf]; omega)
    · have hR : (l.any fun n => !inB n.op 0 12) = false := by rw [← eF _ l k hlt, Hno.o]
      have Hok : Hid (∀ (i : Nat) (n : Nd), l[i]? = some n → inB n.op 0 12 = true) := bA fun i n hi => by
        have := List.any_eq_false.1 hR n (V4 hi)
        simpa using this
      have Hf2 := bA (Hf.o.trans (if_neg (by simp [hR])))
      clear hR Hno Hf hbr hzr
      obtain ⟨wo, rfl⟩ := Exq wr
      go_wp2_with fail
      go_loopw [4] (fun i w2 => ∃ k : Nat, k ≤ l.length ∧ i = .int .i64 k ∧ (l.take k).any (uK regs l.length) = false ∧ Below wo.heap.size wo w2) (fun i _ => l.length - (intOf i).toNat)
      case atStart => exact Jd
      case round =>
        clear hlt hk
        obtain ⟨k, hk, rfl, hno, hbr⟩ := hrel
        have hzr := hbr.size
        have Hno := bA hno
        clear hno
        obtain ⟨hcr, hfr⟩ := bB hbr
        have hbB : Below w.heap.size w wr := Yc
        have j0 : wr.cell? ⟨w.heap.size, 0, none⟩ = some (.int .i64 regs) := by rw [hcr _ _ Zb]; exact g0
        have j1 : wr.cell? ⟨w.heap.size, 1, none⟩ = some (.slice A l.length cap) := by rw [hcr _ _ Zb]; exact g1
        have jl : w.heap.size < wr.heap.size := Zb
        clear hcr hfr g0 g1
        by_cases hlt : k < l.length
        · obtain ⟨b, off, n, rfl, hbl, hkn, hn⟩ := hA.get hlt
          have Hkn := bA hkn
          clear hkn
          obtain ⟨c0, c1, c2, c3, c4, c5⟩ := hn.below hbB hbl
          have hbw : b < wr.heap.size := Zb
          rcases bMD n.op (Hok.o _ _ Hkn.o) with hh | hh | hh | hh | hh | hh | hh | hh
          all_goals as_aux_lemma =>
            obtain ⟨s1, s2, s3, s4, s5, s6⟩ := hh
            go_wp2_with (first | (go_at_call 14; refine (dZ _ _ _ _).mono ?_; rintro e w' ⟨rfl, rfl⟩) | (go_at_call 39; refine (gL _ _).mono ?_; rintro e w' ⟨rfl, rfl⟩))
            all_goals go_tidy
            all_goals try simp only [Bool.not_eq_true] at *
            all_goals first
              | (go_ret
                 exact ⟨by rw [Hf2.o, if_pos (fQ _ l k n Hkn.o (by simp [uK, *]))]; rfl, Yc⟩)
              | (go_roundw
                 case rel => exact ⟨k + 1, Zb, by go_num, by rw [dQ _ l k n Hkn.o, Hno.o]; simp [uK, *], Yc⟩
                 case measure => simp [intOf]; omega)
        · have hR : l.any (uK regs l.length) = false := by rw [← eF _ l k hlt, Hno.o]
          have Hf3 := bA (Hf2.o.trans (if_neg (by simp [hR])))
          clear hR Hno Hf2 hbr hzr hbA gl
          obtain ⟨wp, rfl⟩ := Exq wr
          go_wp2_with fail
          go_loopw [11] (fun i w2 => ∃ k : Nat, k ≤ l.length ∧ i = .int .i64 k ∧ (l.take k).any uL = false ∧ Below wp.heap.size wp w2) (fun i _ => l.length - (intOf i).toNat)
          case atStart => exact Jd
          case round =>
            clear hlt hk
            obtain ⟨k, hk, rfl, hno, hbr⟩ := hrel
            have hzr := hbr.size
            have Hno := bA hno
            clear hno
            obtain ⟨hcr, hfr⟩ := bB hbr
            have hbC : Below w.heap.size w wr := Yc
            have g0 : wr.cell? ⟨w.heap.size, 0, none⟩ = some (.int .i64 regs) := by rw [hcr _ _ Zb]; exact j0
            have g1 : wr.cell? ⟨w.heap.size, 1, none⟩ = some (.slice A l.length cap) := by rw [hcr _ _ Zb]; exact j1
            have gl : w.heap.size < wr.heap.size := Zb
            clear hcr hfr j0 j1
            by_cases hlt : k < l.length
            · obtain ⟨b, off, n, rfl, hbl, hkn, hn⟩ := hA.get hlt
              have Hkn := bA hkn
              clear hkn
              obtain ⟨c0, c1, c2, c3, c4, c5⟩ := hn.below hbC hbl
              have hbw : b < wr.heap.size := Zb
              rcases bMD n.op (Hok.o _ _ Hkn.o) with hh | hh | hh | hh | hh | hh | hh | hh
              all_goals as_aux_lemma =>
                obtain ⟨s1, s2, s3, s4, s5, s6⟩ := hh
                have s7 : (n.op != 1) = !(n.op == 1) := rfl
                rw [s6] at s7
                go_wp2_with (go_at_call 39; refine (gL _ _).mono ?_; rintro e w' ⟨rfl, rfl⟩)
                all_goals go_tidy
                all_goals try simp only [Bool.not_eq_true] at *
                all_goals first
                  | (go_ret
                     exact ⟨by rw [Hf3.o, if_pos (fQ _ l k n Hkn.o (by simp [uL, *]))]; rfl, Yc⟩)
                  | (go_roundw
                     case rel => exact ⟨k + 1, Zb, by go_num, by rw [dQ _ l k n Hkn.o, Hno.o]; simp [uL, *], Yc⟩
                     case measure => simp [intOf]; omega)
            · have hR : l.any uL = false := by rw [← eF _ l k hlt, Hno.o]
              have Hf4 := bA (Hf3.o.trans (if_neg (by simp [hR])))
              clear hR Hno Hf3
              go_wp2_with fail
              go_ret
              exact ⟨by rw [Hf4.o]; rfl, hbC⟩
theorem jU (regs : Int) (A : Option Addr) (l : List Nd) (cap : Nat) (w : World) (hA : bH w A l) :
    Calls prog 13 #[.agg #[.int .i64 regs, .slice A l.length cap]] w
      fun e w' => e = .returned (.int .i64 (chk regs l)) ∧ Below w.heap.size w w' := by
  rw [← bQE]
  by_cases h : inB (l.length : Int) 1 256 = false ∨ inB regs 1 64 = false
  · have hf : bHE regs l = 2 := by unfold bHE; rw [if_pos h]
    rw [hf]
    exact yI regs A l cap w h
  · simp only [not_or, Bool.not_eq_false] at h
    exact xM regs A l cap w hA h.1 h.2
end
end Go.Proofs.YtmghkonmfbpjcabGreatDoor
