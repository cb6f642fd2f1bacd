/- Parts. -/
import Derived.Test.YtmghkonmfbpjcabGreatDoorGB
set_option linter.unusedVariables false
set_option linter.unusedSimpArgs false
set_option maxRecDepth 100000
set_option maxHeartbeats 4000000
namespace Go.Proofs.YtmghkonmfbpjcabGreatDoor
open Go.RowKit
open Go.Proofs.Tryz
theorem Yo {P : Prop} (h : P := by (
 have hkk : k = l.length := Zb
 have Hkk := bA hkk
 clear hkk
 go_wp2_with fail
 go_ret
 exact ⟨_, rfl, by rw [← Hkk.o]; exact Hrow.o, hbr⟩)) : P := h
theorem zI (regs : Int) (A : Option Addr) (l : List Nd) (cap : Nat) (m : Int) (w : World) (i : Nat) (n : Nd) (hn : l[i]? = some n) (hl : l.length ≤ 256) (hA : bH w A l) :
 Calls prog 72 #[.agg #[.int .i64 regs, .slice A l.length cap], .int .i64 i, .int .i64 m] w fun e w' => e = .returned (.bool (bU n m)) ∧ Below w.heap.size w w' := by (
 have hi : i < l.length := (List.getElem?_eq_some_iff.1 hn).1
 obtain ⟨b, off, n', rfl, hb, hn', h0⟩ := hA.get hi
 rw [hn] at hn'
 injection hn' with hn'
 subst hn'
 clear hn
 obtain ⟨c0, c1, c2, c3, c4, c5⟩ := h0
 go_enter func72, ntmps72
 go_wp2
 all_goals go_tidy
 all_goals go_ret
 all_goals exact ⟨bML (by simp_all [bU]), Yc⟩)
def bBH (B : Nat) (t : TypeId) (xs : List Value) (w : World) (e : Ending) (w' : World) : Prop := ∃ v, e = .returned v ∧ Row w' B t v xs ∧ Below w.heap.size w w'
theorem bHR (regs : Int) (A : Option Addr) (l : List Nd) (cap : Nat) (w : World) (n : Nat) (hn : n < l.length) (hl : l.length ≤ 256) (hA : bH w A l) : Calls prog 149 #[.agg #[.int .i64 regs, .slice A l.length cap], .int .i64 n] w (bBH w.heap.size 3 (bN (sel (qT l n) l.length)) w) := by (
 obtain ⟨i3, h3i, h3z, h3s, h3b⟩ := info_parts nS
 obtain ⟨x, hx⟩ : ∃ x, l[n]? = some x := ⟨_, Vx hn⟩
 have Hx := bA hx
 clear hx
 go_enter func149, ntmps149
 go_wp2_with fail
 go_loopw [5, 6] (fun v i wr => ∃ k : Nat, k ≤ l.length ∧ i = .int .i64 k ∧ Row wr w.heap.size 3 v (bN (sel (qT l n) k)) ∧ Blk wr w.heap.size 24 #[.int .i64 regs, .slice A l.length cap] ∧ Below w.heap.size w wr) (fun _ i _ => l.length - (intOf i).toNat)
 case atStart => exact ⟨0, Nat.zero_le _, rfl, Row.nil_ _ _ _, Yd, Yc⟩
 case round => (
 obtain ⟨k, hk, rfl, hrow, hP, hbr⟩ := hrel
 refine Wl fun p0 p1 => ?_
 have hz := hbr.size
 have hsl := kP (qT l n) k
 rw [← bJ] at hsl
 have Hrow := bA hrow
 have HP := bA hP
 clear hrow hP
 by_cases hlt : k < l.length
 · (
 have hcall := zI regs A l cap (k : Int) wr n x Hx.o hl (hA.below hbr)
 cases ho : qT l n k
 · (
 have ho' := ho
 rw [nI Hx.o] at ho'
 rw [ho'] at hcall
 have Hcall := bA hcall
 have Ho := bA ho
 clear hcall ho ho'
 go_wp2_with (go_at_call 72; refine (Hcall.o).mono ?_; rintro e w1 ⟨rfl, hb1⟩)
 go_roundw
 case rel => exact ⟨k + 1, Zb, by go_num, by rw [gF Ho.o]; exact Hrow.o.below' hb1, HP.o.below hb1 HP.o.lt, Yc⟩
 case measure => simp [intOf]; omega)
 · (
 have ho' := ho
 rw [nI Hx.o] at ho'
 rw [ho'] at hcall
 have Hcall := bA hcall
 have Ho := bA ho
 clear hcall ho ho'
 obtain ⟨A5, c5, rfl, _, _⟩ := Hrow.o.shape
 go_wp2_with (first
  | (go_at_call 72; refine (Hcall.o).mono ?_; rintro e w1 ⟨rfl, hb1⟩; have hz1 := hb1.size)
  | (at_builtin; refine bV (v := .slice A5 (bN (sel (qT l n) k)).length c5) rfl (.tmp 18) (.tmp 20) _ rfl i3 _ 8 underlying25 h3i h3z h3s h3b rfl rfl ((Hrow.o.below' hb1).alloc _) (some ⟨w1.heap.size, 0, none⟩) 1 1 [.int .i64 (k : Int)] rfl rfl (dK _ _ _) Zk Zq Zh Zh ?_; intro v2 w2 hr2 hg2 hat2))
 have hb2 : Below w.heap.size w w2 := (((hbr.trans (hb1.mono hz)).alloc Zb _).grown hg2 Zh (fun q hq => (Hrow.o.lt q hq).1))
 go_roundw
 case rel => exact ⟨k + 1, Zb, by go_num, by rw [iC Ho.o, eI]; exact hr2, ((HP.o.below hb1 HP.o.lt).alloc _).grown hg2 (Hrow.o.ne_blk HP.o Ze), hb2⟩
 case measure => simp [intOf]; omega))
 · exact Yo))
theorem uO (regs : Int) (A : Option Addr) (l : List Nd) (cap : Nat) (w : World) (n : Nat) (hn : n < l.length) (hl : l.length ≤ 256) (hA : bH w A l) : Calls prog 40 #[.agg #[.int .i64 regs, .slice A l.length cap], .int .i64 n] w (bBH w.heap.size 3 (bN (sel (fO l n) l.length)) w) := by (
 obtain ⟨i3, h3i, h3z, h3s, h3b⟩ := info_parts nS
 go_enter func40, ntmps40
 go_wp2_with fail
 go_loopw [5, 6] (fun v i wr => ∃ k : Nat, k ≤ l.length ∧ i = .int .i64 k ∧ Row wr w.heap.size 3 v (bN (sel (fO l n) k)) ∧ Blk wr w.heap.size 24 #[.int .i64 regs, .slice A l.length cap] ∧ Below w.heap.size w wr) (fun _ i _ => l.length - (intOf i).toNat)
 case atStart => exact ⟨0, Nat.zero_le _, rfl, Row.nil_ _ _ _, Yd, Yc⟩
 case round => (
 obtain ⟨k, hk, rfl, hrow, hP, hbr⟩ := hrel
 refine Wl fun p0 p1 => ?_
 have hz := hbr.size
 have hsl := kP (fO l n) k
 rw [← bJ] at hsl
 have Hrow := bA hrow
 have HP := bA hP
 clear hrow hP
 by_cases hlt : k < l.length
 · (
 obtain ⟨x, hx⟩ : ∃ x, l[k]? = some x := ⟨_, Vx hlt⟩
 have Hx := bA hx
 clear hx
 have hcall := zI regs A l cap (n : Int) wr k x Hx.o hl (hA.below hbr)
 cases ho : fO l n k
 · (
 have ho' := ho
 rw [kS Hx.o] at ho'
 rw [ho'] at hcall
 have Hcall := bA hcall
 have Ho := bA ho
 clear hcall ho ho'
 go_wp2_with (go_at_call 72; refine (Hcall.o).mono ?_; rintro e w1 ⟨rfl, hb1⟩)
 go_roundw
 case rel => exact ⟨k + 1, Zb, by go_num, by rw [gF Ho.o]; exact Hrow.o.below' hb1, HP.o.below hb1 HP.o.lt, Yc⟩
 case measure => simp [intOf]; omega)
 · (
 have ho' := ho
 rw [kS Hx.o] at ho'
 rw [ho'] at hcall
 have Hcall := bA hcall
 have Ho := bA ho
 clear hcall ho ho'
 obtain ⟨A5, c5, rfl, _, _⟩ := Hrow.o.shape
 go_wp2_with (first
  | (go_at_call 72; refine (Hcall.o).mono ?_; rintro e w1 ⟨rfl, hb1⟩; have hz1 := hb1.size)
  | (at_builtin; refine bV (v := .slice A5 (bN (sel (fO l n) k)).length c5) rfl (.tmp 18) (.tmp 20) _ rfl i3 _ 8 underlying25 h3i h3z h3s h3b rfl rfl ((Hrow.o.below' hb1).alloc _) (some ⟨w1.heap.size, 0, none⟩) 1 1 [.int .i64 (k : Int)] rfl rfl (dK _ _ _) Zk Zq Zh Zh ?_; intro v2 w2 hr2 hg2 hat2))
 have hb2 : Below w.heap.size w w2 := (((hbr.trans (hb1.mono hz)).alloc Zb _).grown hg2 Zh (fun q hq => (Hrow.o.lt q hq).1))
 go_roundw
 case rel => exact ⟨k + 1, Zb, by go_num, by rw [iC Ho.o, eI]; exact hr2, ((HP.o.below hb1 HP.o.lt).alloc _).grown hg2 (Hrow.o.ne_blk HP.o Ze), hb2⟩
 case measure => simp [intOf]; omega))
 · exact Yo))
theorem bHI (n : Nd) (w : World) :
 Calls prog 30 #[.agg n.cells.toArray] w fun e w' => e = .returned (.bool (!gG n.op)) ∧ Below w.heap.size w w' := by (
 unfold Nd.cells
 go_enter func30, ntmps30
 go_wp2_with (go_at_call 31; refine (bAG _ _).mono ?_; rintro e w1 ⟨rfl, hbw1⟩; obtain ⟨hcw1, hfw1⟩ := bB hbw1; have hzw1 := hbw1.size; simp only [Sz] at hzw1 hcw1 hfw1; (try have hyw1 := Nat.lt_of_succ_le hzw1); (try have hxw1 := Nat.lt_of_succ_lt hyw1))
 go_ret
 exact ⟨rfl, Yc⟩)
theorem bHH (n regs : Int) (has : Bool) (g : Nat) (w : World) (h0 : w.cell? ⟨g, 0, none⟩ = some (.int .i64 regs)) :
 Calls prog 32 #[.int .i64 n, .bool has, .pointer (some ⟨g, 0, none⟩)] w fun e w' => e = .returned (.bool (okR regs n has)) ∧ w = w' := by (
 cases has <;> go_enter func32, ntmps32 <;> go_wp2
 all_goals go_tidy
 all_goals go_ret
 all_goals exact ⟨by simp_all [okR]; try omega, rfl⟩)
theorem bHG (n : Int) (A : Option Addr) (len cap : Nat) (has : Bool) (g : Nat) (w : World) (h0 : w.cell? ⟨g, 1, none⟩ = some (.slice A len cap)) :
 Calls prog 33 #[.int .i64 n, .bool has, .pointer (some ⟨g, 0, none⟩)] w fun e w' => e = .returned (.bool (okN len n has)) ∧ w = w' := by (
 cases has <;> go_enter func33, ntmps33 <;> go_wp2
 all_goals go_tidy
 all_goals go_ret
 all_goals exact ⟨by simp_all [okN]; try omega, rfl⟩)
theorem bHF (n : Int) (has : Bool) (w : World) :
 Calls prog 34 #[.int .i64 n, .bool has] w fun e w' => e = .returned (.bool (okF n has)) ∧ w = w' := by (
 cases has <;> go_enter func34, ntmps34 <;> go_wp2
 all_goals go_tidy
 all_goals go_ret
 all_goals exact ⟨by simp_all [okF], rfl⟩)
def bBK (q : Bool) (w : World) (e : Ending) (w' : World) : Prop := ∃ r : Int, e = .returned (.int .i64 r) ∧ decide (0 ≤ r) = q ∧ Below w.heap.size w w'
theorem bAP (A : Option Addr) (l : List Nd) (cap : Nat) (w : World) (hl : l.length ≤ maxLen) (hA : bH w A l) :
 Calls prog 64 #[.slice A l.length cap, .func (.func 30) #[] #[]] w
  (bBK (l.any fun n => !gG n.op) w) := by (
 unfold maxLen at hl
 go_enter func64, ntmps64
 go_wp2
 go_loopw [8] (fun i wr => ∃ k : Nat, k ≤ l.length ∧ i = .int .i64 k ∧ (l.take k).any (fun n => !gG n.op) = false ∧ Below w.heap.size w wr) (fun i _ => l.length - (intOf i).toNat)
 case atStart => exact Jd
 case round => (
 obtain ⟨k, hk, rfl, hno, hbr⟩ := hrel
 have hzr := hbr.size
 have Hno := bA hno
 clear hno
 by_cases hlt : k < l.length
 · (
 obtain ⟨b, off, n, rfl, hbl, hkn, hn⟩ := hA.get hlt
 have Hkn := bA hkn
 clear hkn
 obtain ⟨c0, c1, c2, c3, c4, c5⟩ := hn.below hbr hbl
 have hp := bHI n wr
 simp only [Nd.cells] at hp
 have Hp := bA hp
 clear hp
 have hbw : b < wr.heap.size := Zb
 cases ho : gG n.op
 · (
 rw [ho] at Hp
 go_wp2_with (go_at_call 30; refine (Hp.o).mono ?_; rintro e w1 ⟨rfl, hb1⟩)
 go_ret
 exact ⟨k, rfl, by rw [fQ _ l k n Hkn.o (by simp [ho])]; simp, Yc⟩)
 · (
 rw [ho] at Hp
 go_wp2_with (go_at_call 30; refine (Hp.o).mono ?_; rintro e w1 ⟨rfl, hb1⟩)
 go_roundw
 case rel => exact ⟨k + 1, Zb, by go_num, by rw [dQ _ l k n Hkn.o, Hno.o]; simp [ho], Yc⟩
 case measure => simp [intOf]; omega))
 · (
 go_wp2
 go_ret
 exact ⟨-1, rfl, by rw [← eF _ l k hlt, Hno.o]; rfl, hbr⟩)))
theorem oB (A : Option Addr) (l : List Nd) (cap : Nat) (w : World) (hl : l.length ≤ maxLen) (hA : bH w A l) :
 Calls prog 29 #[.slice A l.length cap, .func (.func 30) #[] #[]] w
  fun e w' => e = .returned (.bool (l.any fun n => !gG n.op)) ∧ Below w.heap.size w w' := by (
 have h := bAP A l cap w hl hA
 have H := bA h
 clear h
 generalize (l.any fun n => !gG n.op) = q at *
 go_enter func29, ntmps29
 go_wp2_with (go_at_call 64; refine (H.o).mono ?_; rintro e w1 ⟨r, rfl, hr, hb1⟩)
 go_ret
 exact ⟨by rw [← hr]; rfl, hb1⟩)
theorem fZ (regs : Int) (A : Option Addr) (l : List Nd) (cap : Nat) (w : World) (hl : l.length ≤ maxLen) (hA : bH w A l) :
    Calls prog 10 #[.agg #[.int .i64 regs, .slice A l.length cap]] w
      fun e w' => e = .returned (.int .i64 (chk regs l)) ∧ Below w.heap.size w w' := by
  unfold maxLen at hl
  by_cases h2 : (l.length : Int) < 1 ∨ 256 < (l.length : Int) ∨ regs < 1 ∨ 64 < regs
  · have hf : chk regs l = 2 := by rw [chk, if_pos h2]
    rw [hf]
    clear hf
    go_enter func10, ntmps10
    go_wp2_with fail
    all_goals go_tidy
    all_goals go_ret
    all_goals exact ⟨rfl, Yc⟩
  · have k1 : 1 ≤ (l.length : Int) := Zb
    have k2 : (l.length : Int) ≤ 256 := Zb
    have k3 : 1 ≤ regs := Zb
    have k4 : regs ≤ 64 := Zb
    have hany := oB A l cap
    cases h4 : (l.any fun n => !gG n.op)
    case true =>
      have hf : chk regs l = 4 := by rw [chk, if_neg h2, if_pos h4]
      rw [hf]
      have H4 := bA h4
      clear hf h4 h2 hany
      go_enter func10, ntmps10
      go_wp2_with (go_at_call 29; refine (oB _ _ _ _ hl (hA.below Yc)).mono ?_; rw [H4.o]; rintro e w1 ⟨rfl, hb1⟩)
      all_goals go_tidy
      all_goals go_ret
      all_goals exact ⟨rfl, Yc⟩
    case false =>
      have H4 := bA h4
      have hf : chk regs l = if (l.any (kI regs l.length)) = true then 3 else if (l.any badF) = true then 1 else 0 := by rw [chk, if_neg h2, if_neg (by simp [h4])]
      have Hf := bA hf
      clear hf h4 h2 hany
      have d1 : decide ((l.length : Int) < 1) = false := by simp; omega
      have d2 : decide (256 < (l.length : Int)) = false := by simp; omega
      have d3 : decide (regs < 1) = false := by simp; omega
      have d4 : decide (64 < regs) = false := by simp; omega
      go_enter func10, ntmps10
      go_wp2_with (go_at_call 29; refine (oB _ _ _ _ hl (hA.below Yc)).mono ?_; rw [H4.o]; rintro e w1 ⟨rfl, hb1⟩; obtain ⟨hc1, hf1⟩ := bB hb1; have hz1 := hb1.size; simp only [World.size_alloc] at hz1 hc1 hf1)
      go_loopw [42] (fun i wr => ∃ k : Nat, k ≤ l.length ∧ i = .int .i64 k ∧ (l.take k).any (kI regs l.length) = false ∧ Below w1.heap.size w1 wr) (fun i _ => l.length - (intOf i).toNat)
      case atStart => exact Jd
      case round =>
        obtain ⟨k, hk, rfl, hno, hbr⟩ := hrel
        have hzr := hbr.size
        have Hno := bA hno
        clear hno
        obtain ⟨hcr, hfr⟩ := bB hbr
        have hbA : Below w.heap.size w wr := Yc
        have g0 : wr.cell? ⟨w.heap.size, 0, none⟩ = some (.int .i64 regs) := by rw [hcr _ _ Zb, hc1 _ _ Zb]; simp
        have g1 : wr.cell? ⟨w.heap.size, 1, none⟩ = some (.slice A l.length cap) := by rw [hcr _ _ Zb, hc1 _ _ Zb]; simp
        have gl : w.heap.size < wr.heap.size := Zb
        clear hc1 hf1 hcr hfr
        by_cases hlt : k < l.length
        · obtain ⟨b, off, n, rfl, hbl, hkn, hn⟩ := hA.get hlt
          have Hkn := bA hkn
          clear hkn
          obtain ⟨c0, c1, c2, c3, c4, c5⟩ := hn.below hbA hbl
          have hbw : b < wr.heap.size := Zb
          go_wp2_with (first
            | (go_at_call 31; refine (bAG _ _).mono ?_; rintro e w2 ⟨rfl, hbw2⟩; obtain ⟨hcw2, hfw2⟩ := bB hbw2; have hzw2 := hbw2.size; simp only [Sz] at hzw2 hcw2 hfw2; (try have hyw2 := Nat.lt_of_succ_le hzw2); (try have hxw2 := Nat.lt_of_succ_lt hyw2); have gl2 : w.heap.size < w2.heap.size := Zb)
            | (go_at_call 32; refine (bHH _ regs _ _ _ (by go_simp)).mono ?_; rintro e w' ⟨rfl, rfl⟩)
            | (go_at_call 33; refine (bHG _ (some ⟨b, off, none⟩) l.length cap _ _ _ (by go_simp)).mono ?_; rintro e w' ⟨rfl, rfl⟩))
          all_goals go_tidy
          all_goals try simp only [Bool.not_eq_true] at *
          all_goals first
            | (go_ret
               exact ⟨by rw [Hf.o, if_pos (fQ _ l k n Hkn.o (by simp [kI, *]))]; rfl, Yc⟩)
            | (go_roundw
               case rel => exact ⟨k + 1, Zb, by go_num, by rw [dQ _ l k n Hkn.o, Hno.o]; simp [kI, *], Yc⟩
               case measure => simp [intOf]; omega)
        · have hR : l.any (kI regs l.length) = false := by rw [← eF _ l k hlt, Hno.o]
          have Hf2 := bA (Hf.o.trans (if_neg (by simp [hR])))
          clear hR Hno Hf hbr hzr hb1 hz1
          go_wp2_with fail
          go_loopw [99] (fun i w2 => ∃ k : Nat, k ≤ l.length ∧ i = .int .i64 k ∧ (l.take k).any badF = false ∧ Below w.heap.size w w2) (fun i _ => l.length - (intOf i).toNat)
          case atStart => exact ⟨0, Nat.zero_le _, rfl, Zf, hbA⟩
          case round =>
            clear g0 g1 hbA hlt hk gl
            obtain ⟨k, hk, rfl, hno, hbr⟩ := hrel
            have hzr := hbr.size
            have Hno := bA hno
            clear hno
            by_cases hlt : k < l.length
            · obtain ⟨b, off, n, rfl, hbl, hkn, hn⟩ := hA.get hlt
              have Hkn := bA hkn
              clear hkn
              obtain ⟨c0, c1, c2, c3, c4, c5⟩ := hn.below hbr hbl
              have hbw := V6 hbl hzr
              go_wp2_with (first
                | (go_at_call 31; refine (bAG _ _).mono ?_; rintro e w2 ⟨rfl, hbw2⟩; obtain ⟨hcw2, hfw2⟩ := bB hbw2; have hzw2 := hbw2.size; simp only [Sz] at hzw2 hcw2 hfw2; (try have hyw2 := Nat.lt_of_succ_le hzw2); (try have hxw2 := Nat.lt_of_succ_lt hyw2))
                | (go_at_call 34; refine (bHF _ _ _).mono ?_; rintro e w' ⟨rfl, rfl⟩))
              all_goals go_tidy
              all_goals try simp only [Bool.not_eq_true] at *
              all_goals first
                | (go_ret
                   exact ⟨by rw [Hf2.o, if_pos (fQ _ l k n Hkn.o (by simp [badF, *]))]; rfl, Yc⟩)
                | (go_roundw
                   case rel => exact ⟨k + 1, Zb, by go_num, by rw [dQ _ l k n Hkn.o, Hno.o]; simp [badF, *], Yc⟩
                   case measure => simp [intOf]; omega)
            · have hR : l.any badF = false := by rw [← eF _ l k hlt, Hno.o]
              have Hf3 := bA (Hf2.o.trans (if_neg (by simp [hR])))
              clear hR Hno Hf2
              go_wp2_with fail
              go_ret
              exact ⟨by rw [Hf3.o]; rfl, hbr⟩
def eV (plus lt x : List Bool) (m : Nat) : Bool := yn plus m || yn lt m && yn x m
theorem bJJ (bk em : Bool) (G P Q T X : Option Addr) (g p q t xn gc pc qc tc xc : Nat) (plus lt x : List Bool) (f h : Nat) (m : Nat) (w : World)
 (hQ : bG w Q (bE plus)) (hT : bG w T (bE lt)) (hX : bG w X (bE x)) (hq : plus.length = q) (ht : lt.length = t) (hx : x.length = xn)
 (hF : Blk w f 192 #[.bool bk, .bool em, .slice G g gc, .slice P p pc, .slice Q q qc, .slice T t tc]) (hH : Blk w h 74 #[.slice X xn xc])
 (m1 : m < q) (m2 : m < t) (m3 : m < xn) (hbig : q ≤ 65536 ∧ t ≤ 65536 ∧ xn ≤ 65536) :
 Calls prog 189 #[.int .i64 m, .pointer (some ⟨f, 0, none⟩), .pointer (some ⟨h, 0, none⟩)] w fun e w' => e = .returned (.bool (eV plus lt x m)) ∧ w = w' := by (
 obtain ⟨b1, b2, b3⟩ := hbig
 obtain ⟨qb, qo, rfl, _, cq⟩ := hQ.bool (k := m) Zb
 obtain ⟨tb, to_, rfl, _, ct⟩ := hT.bool (k := m) Zb
 obtain ⟨xb, xo, rfl, _, cx⟩ := hX.bool (k := m) Zb
 have f4 := hF.cell 4
 have f5 := hF.cell 5
 have h0 := hH.cell 0
 simp only [Yl] at f4 f5 h0
 clear hF hH hQ hT hX hq ht hx
 unfold eV
 cases h1 : yn plus m <;> cases h2 : yn lt m <;> cases h3 : yn x m <;> rw [h1] at cq <;> rw [h2] at ct <;> rw [h3] at cx <;> go_enter func189, ntmps189 <;> go_wp2
 all_goals go_tidy
 all_goals go_ret
 all_goals exact ⟨rfl, rfl⟩)
theorem yB {α : Type} (p : α → Bool) (l : List α) (k : Nat) (x : α) (h : l[k]? = some x) : (l.take (k + 1)).all p = ((l.take k).all p && p x) := by (
 rw [List.take_add_one, h]; simp)
theorem bER {α : Type} (p : α → Bool) (l : List α) (k : Nat) (x : α) (h : l[k]? = some x) (hp : p x = false) : l.all p = false :=
 List.all_eq_false.2 ⟨x, V4 h, by simp [hp]⟩
theorem bBD {α : Type} (p : α → Bool) (l : List α) (k : Nat) (h : ¬ k < l.length) : (l.take k).all p = l.all p := by (
 rw [List.take_of_length_le Zb])
theorem bQF (bk em : Bool) (G P Q T X R : Option Addr) (g p q t xn gc pc qc tc xc rc : Nat) (plus lt x : List Bool) (f h : Nat) (rs : List Int) (w : World)
 (hQ : bG w Q (bE plus)) (hT : bG w T (bE lt)) (hX : bG w X (bE x)) (hq : plus.length = q) (ht : lt.length = t) (hx : x.length = xn)
 (hF : Blk w f 192 #[.bool bk, .bool em, .slice G g gc, .slice P p pc, .slice Q q qc, .slice T t tc]) (hH : Blk w h 74 #[.slice X xn xc])
 (hR : bG w R (bN rs)) (hrs : ∀ r ∈ rs, 0 ≤ r ∧ r < q ∧ r < t ∧ r < xn) (hbig : q ≤ 65536 ∧ t ≤ 65536 ∧ xn ≤ 65536) (hrl : rs.length ≤ 65536) :
 Calls prog 188 #[.slice R rs.length rc, .func (.func 189) #[] #[.pointer (some ⟨f, 0, none⟩), .pointer (some ⟨h, 0, none⟩)]] w
  fun e w' => e = .returned (.bool (rs.all fun r => eV plus lt x r.toNat)) ∧ w = w' := by (
 have hone := fun (m : Nat) (m1 : m < q) (m2 : m < t) (m3 : m < xn) => bJJ bk em G P Q T X g p q t xn gc pc qc tc xc plus lt x f h m w hQ hT hX hq ht hx hF hH m1 m2 m3 hbig
 have Hone := bA hone
 clear hone hQ hT hX hq ht hx hF hH hbig
 go_enter func188, ntmps188
 go_wp2
 go_loop [9] (fun i => ∃ k : Nat, k ≤ rs.length ∧ i = .int .i64 k ∧ (rs.take k).all (fun r => eV plus lt x r.toNat) = true) (fun i => rs.length - (intOf i).toNat)
 case atStart => exact ⟨0, Nat.zero_le _, rfl, Zf⟩
 case round => (
 obtain ⟨k, hk, rfl, hno⟩ := hrel
 have Hno := bA hno
 clear hno
 by_cases hlt : k < rs.length
 · (
 obtain ⟨b, off, v, rfl, hbl, hkn, hn⟩ := hR.get (k := k) (by rw [bJ]; exact hlt)
 rw [kC] at hkn
 obtain ⟨r, hr, rfl⟩ : ∃ r, rs[k]? = some r ∧ .int .i64 r = v := by simpa using hkn
 have hrr := hrs r (V4 hr)
 obtain ⟨m, rfl⟩ := V7 hrr.1
 have Hr := bA hr
 clear hkn hr
 have hp := Hone.o m Zb Zb Zb
 have Hp := bA hp
 clear hp
 cases ho : eV plus lt x m
 · (
 rw [ho] at Hp
 go_wp2_with (go_at_call 189; refine (Hp.o).mono ?_; rintro e w1 ⟨rfl, rfl⟩)
 go_ret
 exact ⟨by rw [bER _ rs k m Hr.o (by simpa using ho)]; rfl, rfl⟩)
 · (
 rw [ho] at Hp
 go_wp2_with (go_at_call 189; refine (Hp.o).mono ?_; rintro e w1 ⟨rfl, rfl⟩)
 go_round
 case rel => exact ⟨k + 1, Zb, by go_num, by rw [yB _ rs k m Hr.o, Hno.o]; simpa using ho⟩
 case measure => simp [intOf]; omega))
 · (
 go_wp2
 go_ret
 exact ⟨by rw [← bBD _ rs k hlt, Hno.o]; rfl, rfl⟩)))
def kM (em : Bool) (gen pass plus lt x : List Bool) (rs : List Int) (n : Nat) : Bool :=
 if yn gen n then true else if yn pass n then (if rs.length = 0 then em else rs.all fun r => eV plus lt x r.toNat) else false
theorem bMG (bk em : Bool) (G P Q T X R GB : Option Addr) (g p q t xn gc pc qc tc xc rc gb gbc : Nat) (gen pass plus lt x : List Bool) (rs : List Int) (GA nn n : Nat) (w : World)
 (hG : bG w G (bE gen)) (hP : bG w P (bE pass)) (hQ : bG w Q (bE plus)) (hT : bG w T (bE lt)) (hX : bG w X (bE x))
 (hg : gen.length = g) (hp : pass.length = p) (hq : plus.length = q) (ht : lt.length = t) (hx : x.length = xn)
 (hA : w.cell? ⟨GA, n, none⟩ = some (.slice R rs.length rc)) (hAl : GA < w.heap.size) (hn1 : n < nn) (hn2 : n < g) (hn3 : n < p)
 (hR : bG w R (bN rs)) (hrs : ∀ r ∈ rs, 0 ≤ r ∧ r < q ∧ r < t ∧ r < xn) (hbig : q ≤ 65536 ∧ t ≤ 65536 ∧ xn ≤ 65536) (hbig2 : g ≤ 65536 ∧ p ≤ 65536 ∧ nn ≤ 65536) (hrl : rs.length ≤ 65536) :
 Calls prog 172 #[.agg #[.slice (some ⟨GA, 0, none⟩) nn nn, .slice GB gb gbc], .agg #[.bool bk, .bool em, .slice G g gc, .slice P p pc, .slice Q q qc, .slice T t tc], .slice X xn xc, .int .i64 n] w
  fun e w' => e = .returned (.bool (kM em gen pass plus lt x rs n)) ∧ Below w.heap.size w w' := by (
 obtain ⟨b1, b2, b3⟩ := hbig
 obtain ⟨b4, b5, b6⟩ := hbig2
 obtain ⟨gb_, go_, rfl, hgl, cg⟩ := hG.bool (k := n) Zb
 obtain ⟨pb_, po_, rfl, hpl, cp⟩ := hP.bool (k := n) Zb
 have Hg := bA hg
 have Hp := bA hp
 have Hq := bA hq
 have Ht := bA ht
 have Hx := bA hx
 clear hg hp hq ht hx
 have g1 := Nat.lt_succ_of_lt hgl
 have g2 := Nat.lt_succ_of_lt g1
 have p1 := Nat.lt_succ_of_lt hpl
 have p2 := Nat.lt_succ_of_lt p1
 have a1 := Nat.lt_succ_of_lt hAl
 have a2 := Nat.lt_succ_of_lt a1
 simp only [Nat.succ_eq_add_one] at g1 g2 p1 p2 a1 a2
 unfold kM
 cases h1 : yn gen n
 case true => (
 rw [h1] at cg
 go_enter func172, ntmps172
 go_wp2
 go_ret
 exact ⟨rfl, Yc⟩)
 case false => (
 rw [h1] at cg
 cases h2 : yn pass n
 case false => (
 rw [h2] at cp
 go_enter func172, ntmps172
 go_wp2
 go_ret
 exact ⟨rfl, Yc⟩)
 case true => (
 rw [h2] at cp
 by_cases h3 : rs.length = 0
 · (
 have h3' : rs = [] := List.eq_nil_of_length_eq_zero h3
 subst h3'
 clear h3
 simp only [List.length_nil] at hA
 go_enter func172, ntmps172
 go_wp2
 go_ret
 exact ⟨rfl, Yc⟩)
 · (
 have h3' : ((rs.length : Int) == 0) = false := beq_eq_false_iff_ne.2 Zb
 rw [if_neg h3]
 clear h3
 go_enter func172, ntmps172
 go_wp2_with (go_at_call 188; refine (bQF bk em _ _ Q T X R g p q t xn gc pc qc tc xc rc plus lt x (w.heap.size + 1) (w.heap.size + 2) rs _ (hQ.below Yc) (hT.below Yc) (hX.below Yc) Hq.o Ht.o Hx.o Yd Yd (hR.below Yc) hrs ⟨b1, b2, b3⟩ hrl).mono ?_; rintro e w' ⟨rfl, rfl⟩)
 go_ret
 exact ⟨rfl, Yc⟩))))
def bF (bk : Bool) (l : List Nd) (n : Nat) : List Int := sel (if bk then qT l n else fO l n) l.length
theorem bEK {plus lt x y : List Bool} (h : leB x y) {m : Nat} (ha : eV plus lt x m = true) : eV plus lt y m = true := by (
 simp only [eV, Bool.or_eq_true, V9] at *
 rcases ha with ha | ⟨h1, h2⟩
 · exact .inl ha
 · exact .inr ⟨h1, h m h2⟩)
theorem bFU {em : Bool} {gen pass plus lt x y : List Bool} {rs : List Int} {n : Nat} (h : leB x y) (hs : kM em gen pass plus lt x rs n = true) : kM em gen pass plus lt y rs n = true := by (
 unfold kM at *
 split at hs
 · rename_i h1; rw [if_pos h1]
 · (
 rename_i h1
 rw [if_neg h1]
 split at hs
 · (
 rename_i h2
 rw [if_pos h2]
 split at hs
 · rename_i h3; rw [if_pos h3]; exact hs
 · (
 rename_i h3
 rw [if_neg h3]
 rw [List.all_eq_true] at *
 exact fun r hr => bEK h (hs r hr)))
 · cases hs))
theorem bCE {em : Bool} {gen pass plus lt x : List Bool} {rs rs' : List Int} {n : Nat} (h : ∀ m, m ∈ rs ↔ m ∈ rs') : kM em gen pass plus lt x rs n = kM em gen pass plus lt x rs' n := by (
 unfold kM
 have h0 : (rs.length = 0) = (rs'.length = 0) := by (
 simp only [List.length_eq_zero_iff, List.eq_nil_iff_forall_not_mem, h])
 have h1 : (rs.all fun r => eV plus lt x r.toNat) = (rs'.all fun r => eV plus lt x r.toNat) := by (
 rw [Bool.eq_iff_iff, List.all_eq_true, List.all_eq_true]
 simp only [h])
 simp only [h0, h1])
theorem bCD {em : Bool} {gen pass plus lt x y : List Bool} {rs : List Int} {n : Nat} (h : ∀ m ∈ rs, yn x m.toNat = yn y m.toNat) : kM em gen pass plus lt x rs n = kM em gen pass plus lt y rs n := by (
 unfold kM
 have h1 : (rs.all fun r => eV plus lt x r.toNat) = (rs.all fun r => eV plus lt y r.toNat) := by (
 rw [Bool.eq_iff_iff, List.all_eq_true, List.all_eq_true]
 refine forall_congr' fun m => forall_congr' fun hm => ?_
 unfold eV
 rw [h m hm])
 rw [h1])
def cU (bk em : Bool) (gen pass plus lt : List Bool) (l : List Nd) (x : List Bool) (n : Nat) : Bool := kM em gen pass plus lt x (bF bk l n) n
theorem dP (bk em : Bool) (gen pass plus lt : List Bool) (l : List Nd) : jN (cU bk em gen pass plus lt l) := fun _ _ _ h hs => bFU h hs
section
section
variable (S : List Bool → Nat → Bool) (n : Nat)
def jP (x : List Bool) : Prop := x.length = n ∧ ∀ i, i < n → S x i = true → yn x i = true
def iQ (x : List Bool) : Prop := x.length = n ∧ ∀ z, jP S n z → leB x z
def mL (x : List Bool) : Prop := Ans S n x ∧ iQ S n x
variable {S n}
theorem iQ.start {x : List Bool} (hl : x.length = n) (h : ∀ i, yn x i = false) : iQ S n x := ⟨hl, fun z hz i hi => by rw [h i] at hi; cases hi⟩
theorem iQ.put (hm : jN S) {x : List Bool} (h : iQ S n x) {k : Nat} (hk : k < n) : iQ S n (x.set k (S x k)) := by (
 refine ⟨by simpa using h.1, fun z hz i hi => ?_⟩
 rw [cL _ _ _ _ (by rw [h.1]; exact hk)] at hi
 by_cases hik : i = k
 · (
 subst hik
 rw [if_pos rfl] at hi
 exact hz.2 i hk (hm x z i (h.2 z hz) hi))
 · (
 rw [if_neg hik] at hi
 exact h.2 z hz i hi))
theorem bPQ {x : List Bool} {k : Nat} (hk : k < x.length) (hp : yn x k = true → S x k = true) : leB x (x.set k (S x k)) := fun i hi => by (
 rw [cL _ _ _ _ hk]
 split
 · rename_i h; subst h; exact hp hi
 · exact hi)
theorem bFB.put (hm : jN S) {x : List Bool} (h : bFB S n x) {k : Nat} (hk : k < n) : bFB S n (x.set k (S x k)) := by (
 have hkx : k < x.length := by rw [h.1]; exact hk
 have hle := bPQ (S := S) hkx (h.2 k hk)
 refine ⟨by simpa using h.1, fun i hi hs => ?_⟩
 rw [cL _ _ _ _ hkx] at hs
 by_cases hik : i = k
 · (
 subst hik
 rw [if_pos rfl] at hs
 exact hm _ _ _ hle hs)
 · (
 rw [if_neg hik] at hs
 exact hm _ _ _ hle (h.2 i hi hs)))
theorem vB {x : List Bool} {k : Nat} (hk : k < x.length) (h0 : yn x k = false) : cnt (x.set k true) = cnt x + 1 := by (
 unfold cnt
 rw [List.count_set hk]
 have h1 : x[k] = false := by simpa [yn, hk] using h0
 simp [h1])
theorem mL.unique {x y : List Bool} (hx : mL S n x) (hy : mL S n y) : x = y := by (
 refine nV (hx.1.1.trans hy.1.1.symm) fun i hi => ?_
 rw [Bool.eq_iff_iff]
 exact ⟨hx.2.2 y ⟨hy.1.1, fun j hj h => by rw [hy.1.2 j hj]; exact h⟩ i, hy.2.2 x ⟨hx.1.1, fun j hj h => by rw [hx.1.2 j hj]; exact h⟩ i⟩)
def iJ (S : List Bool → Nat → Bool) (n c k : Nat) (x : List Bool) : Prop := bFB S n x ∧ iQ S n x ∧ (c < cnt x ∨ (c ≤ cnt x ∧ ∀ i, k ≤ i → i < n → yn x i = S x i) ∨ Ans S n x)
theorem bAC {x : List Bool} {k : Nat} {b : Bool} (hk : k < x.length) (h : yn x k = b) : x.set k b = x := nV Zf fun i _ => by (
 rw [cL _ _ _ _ hk]
 split
 · rename_i h'; subst h'; exact h.symm
 · rfl)
theorem iJ.step (hm : jN S) {c k : Nat} {x : List Bool} (h : iJ S n c (k + 1) x) (hk : k < n) : iJ S n c k (x.set k (S x k)) := by (
 obtain ⟨hp, hu, hr⟩ := h
 have hkx : k < x.length := by rw [hp.1]; exact hk
 refine ⟨hp.put hm hk, hu.put hm hk, ?_⟩
 by_cases he : yn x k = S x k
 · (
 rw [bAC hkx he]
 refine hr.imp id fun h => h.imp (fun ⟨hc, h⟩ => ⟨hc, fun i hi hin => ?_⟩) id
 rcases Nat.lt_or_ge k i with hlt | hge
 · exact h i hlt hin
 · (
 obtain rfl : i = k := Zb
 exact he))
 · (
 cases hx : yn x k with
 | true => exact absurd (hx.trans (hp.2 k hk hx).symm) he
 | false =>
  cases hs : S x k with
  | false => exact absurd (hx.trans hs.symm) he
  | true =>
   rw [vB hkx hx]
   rcases hr with hc | ⟨hc, _⟩ | ha
   · exact .inl Zb
   · exact .inl Zb
   · exact absurd (ha.2 k hk) he))
def mY (S : List Bool → Nat → Bool) (n c : Nat) (x : List Bool) : Prop := bFB S n x ∧ iQ S n x ∧ (c ≤ cnt x ∨ Ans S n x)
theorem mY.start {x : List Bool} (hl : x.length = n) (h : ∀ i, yn x i = false) : mY S n 0 x := ⟨⟨hl, fun i _ hi => by rw [h i] at hi; cases hi⟩, iQ.start hl h, .inl (Nat.zero_le _)⟩
theorem mY.begin_ {c : Nat} {x : List Bool} (h : mY S n c x) : iJ S n c n x := ⟨h.1, h.2.1, h.2.2.elim (fun h => .inr (.inl ⟨h, fun i hi hin => absurd hin Zb⟩)) fun h => .inr (.inr h)⟩
theorem iJ.end_ {c : Nat} {x : List Bool} (h : iJ S n c 0 x) : mY S n (c + 1) x :=
 ⟨h.1, h.2.1, h.2.2.elim (fun h => .inl Zb) fun h => .inr (h.elim (fun h => ⟨‹iJ S n c 0 x›.1.1, fun i hi => h.2 i (Nat.zero_le _) hi⟩) id)⟩
theorem mY.least {x : List Bool} (h : mY S n (n + 1) x) : mL S n x := by (
 refine ⟨h.2.2.resolve_left fun hc => ?_, h.2.1⟩
 have := tM x
 rw [h.1.1] at this
 omega)
end
def yP (S : List Bool → Nat → Bool) : Nat → List Bool → List Bool
 | 0, x => x
 | k + 1, x => yP S k (x.set k (S x k))
def lD (S : List Bool → Nat → Bool) (n : Nat) : Nat → List Bool
 | 0 => List.replicate n false
 | c + 1 => yP S n (lD S n c)
theorem iJ.sweep {S : List Bool → Nat → Bool} (hm : jN S) {n c : Nat} : ∀ (k : Nat) (x : List Bool), k ≤ n → iJ S n c k x → iJ S n c 0 (yP S k x)
 | 0, x, _, h => h
 | k + 1, x, hk, h => iJ.sweep hm k _ Zb (h.step hm Zb)
theorem qN {S : List Bool → Nat → Bool} (hm : jN S) (n : Nat) : ∀ c, mY S n c (lD S n c)
 | 0 => mY.start (by simp [lD]) (fun i => by simp [lD, yn, Vy, List.getElem?_replicate]; split <;> simp)
 | c + 1 => (iJ.sweep hm n _ (Nat.le_refl _) (qN hm n c).begin_).end_
def bAM (S : List Bool → Nat → Bool) (n : Nat) : List Bool := lD S n (n + 1)
theorem iW {S : List Bool → Nat → Bool} (hm : jN S) (n : Nat) : mL S n (bAM S n) := (qN hm n (n + 1)).least
theorem sD {S : List Bool → Nat → Bool} (hm : jN S) {n : Nat} {x : List Bool} (hc : jP S n x) (hu : iQ S n x) : x = bAM S n := by (
 have hl := iW hm n
 refine nV (hc.1.trans hl.1.1.symm) fun i hi => ?_
 rw [Bool.eq_iff_iff]
 exact ⟨hu.2 _ ⟨hl.1.1, fun j hj h => by rw [hl.1.2 j hj]; exact h⟩ i, hl.2.2 x hc i⟩)
end
section
def mk (n : Nat) (f : Nat → Bool) : List Bool := (List.range n).map f
theorem dD (n : Nat) (f : Nat → Bool) : (mk n f).length = n := by simp [mk]
theorem oU {n : Nat} {f : Nat → Bool} {k : Nat} (hk : k < n) : yn (mk n f) k = f k := by simp [yn, mk, hk]
theorem bNB {n : Nat} {f g : Nat → Bool} (h : ∀ k, k < n → f k = g k) : mk n f = mk n g := by (
 unfold mk
 exact List.map_congr_left fun k hk => h k X8)
theorem mk_le {n : Nat} {f g : Nat → Bool} (h : ∀ j, f j = true → g j = true) : leB (mk n f) (mk n g) := fun j hj => by (
 by_cases hn : j < n
 · rw [oU hn] at *; exact h j hj
 · rw [zY (by rw [dD]; omega)] at hj; cases hj)
section
variable {S S' : List Bool → Nat → Bool} {n : Nat}
def lE (S : List Bool → Nat → Bool) (n : Nat) (x : List Bool) (k : Nat) : Bool := S (mk n fun j => yn x j || j == k) k
theorem vR (hm : jN S) : jN (lE S n) := fun x y i h hs => hm _ _ _ (mk_le fun j hj => by
 simp only [Bool.or_eq_true] at *
 exact hj.imp (h j) id) hs
theorem yS {x : List Bool} {k : Nat} (hl : x.length = n) (hk : k < n) : (mk n fun j => yn x j || j == k) = x.set k true := by (
 refine nV (by rw [dD]; simp [hl]) fun i hi => ?_
 rw [dD] at hi
 rw [oU hi, cL _ _ _ _ (by rw [hl]; exact hk)]
 by_cases h : i = k
 · simp [h]
 · simp [h])
theorem eU.self (hm : jN S) {y : List Bool} (h : eU S n y) : eU (lE S n) n y := by (
 obtain ⟨⟨hl, ha⟩, hab⟩ := h
 refine ⟨⟨hl, fun i hi => ?_⟩, hl, fun z hz => hab.2 z ⟨hz.1, fun i hi hzi => ?_⟩⟩
 · (
 unfold lE
 rw [yS hl hi, Bool.eq_iff_iff]
 have hle : leB y (y.set i true) := fun j hj => by (
 rw [cL _ _ _ _ X2]
 split
 · rfl
 · exact hj)
 refine ⟨fun hy => hm _ _ _ hle (by rw [← ha i hi]; exact hy), fun hs => ?_⟩
 refine hab.2 (y.set i true) ⟨by simpa using hl, fun j hj hjz => ?_⟩ i (by rw [cL _ _ _ _ X2, if_pos rfl])
 by_cases hji : j = i
 · subst hji; exact hs
 · (
 rw [cL _ _ _ _ X2, if_neg hji] at hjz
 exact hm _ _ _ hle (by rw [← ha j hj]; exact hjz)))
 · (
 have := hz.2 i hi hzi
 unfold lE at this
 rw [yS hz.1 hi, bAC (by rw [hz.1]; exact hi) hzi] at this
 exact this))
def dT (S : List Bool → Nat → Bool) (n c k : Nat) (x : List Bool) : Prop :=
 mM S n x ∧ (∀ i, i < n → S x i = true → yn x i = true) ∧ ((∀ i, i < n → yn x i = true → S x i = true) ∨ cnt x + c + 1 ≤ n ∨ (cnt x + c ≤ n ∧ ∀ i, i < k → yn x i = true → S x i = true))
theorem dT.start {x : List Bool} (hl : x.length = n) (h : ∀ i, i < n → yn x i = true) : dT S n 0 0 x :=
 ⟨mM.start hl h, fun i hi _ => h i hi, .inr (.inr ⟨by have := tM x; omega, fun i hi => by omega⟩)⟩
theorem dT.len {c k : Nat} {x : List Bool} (h : dT S n c k x) : x.length = n := h.1.1
theorem dT.step (hm : jN S) {c k : Nat} {x : List Bool} (h : dT S n c k x) (hk : k < n) {b : Bool} (hb : b = S x k) : dT S n c (k + 1) (x.set k b) := by (
 subst hb
 obtain ⟨ha, hd, hs⟩ := h
 have hkx : k < x.length := by rw [ha.1]; exact hk
 by_cases he : yn x k = S x k
 · (
 rw [bAC hkx he]
 refine ⟨ha, hd, hs.imp id (Or.imp id fun ⟨h1, h2⟩ => ⟨h1, fun i hi hy => ?_⟩)⟩
 by_cases hik : i = k
 · subst hik; rw [← he]; exact hy
 · exact h2 i Zb hy)
 · (
 have hsf : S x k = false := by (
 cases hq : S x k with
 | false => rfl
 | true => exact absurd ((hd k hk hq).trans hq.symm) he)
 have hyt : yn x k = true := by (
 cases hq : yn x k with
 | true => rfl
 | false => exact absurd (hq.trans hsf.symm) he)
 rw [hsf]
 have hle : leB (x.set k false) x := fun j hj => by (
 rw [cL _ _ _ _ hkx] at hj
 split at hj
 · cases hj
 · exact hj)
 refine ⟨ha.drop hm hk hsf, fun i hi hsi => ?_, ?_⟩
 · (
 have h1 := hm _ _ _ hle hsi
 rw [cL _ _ _ _ hkx, if_neg (by rintro rfl; rw [hsf] at h1; cases h1)]
 exact hd i hi h1)
 · (
 have hc := bQD hkx hyt
 rcases hs with h1 | h1 | ⟨h1, _⟩
 · (
 have := h1 k hk hyt
 rw [hsf] at this
 cases this)
 · exact .inr (.inl Zb)
 · exact .inr (.inl Zb))))
theorem dT.turn {c : Nat} {x : List Bool} (h : dT S n c n x) : dT S n (c + 1) 0 x := by (
 obtain ⟨ha, hd, hs⟩ := h
 refine ⟨ha, hd, ?_⟩
 rcases hs with h1 | h1 | ⟨_, h1⟩
 · exact .inl h1
 · exact .inr (.inr ⟨Zb, fun i hi => by omega⟩)
 · exact .inl h1)
theorem dT.great (hm : jN S) {c : Nat} {x : List Bool} (h : dT S n c 0 x) (hc : n < c) : eU S n x := by (
 obtain ⟨ha, hd, hs⟩ := h
 refine ha.great hm ?_
 rcases hs with h1 | h1 | ⟨h1, _⟩
 · exact h1
 · omega
 · omega)
end
def cQ (t : Tm) (l : List Nd) : List Bool := mk l.length fun k => fJ t (nd l k)
def cI (t : Tm) (l : List Nd) : List Bool := mk l.length fun k => lM t (nd l k)
def noL (n : Nat) : List Bool := List.replicate n false
def cX (x : List Bool) : List Bool := mk x.length fun k => !yn x k
theorem bCR (x : List Bool) : (cX x).length = x.length := dD _ _
theorem bBL (n k : Nat) : yn (noL n) k = false := by (
 unfold noL yn
 rw [Vy, List.getElem?_replicate]
 split <;> rfl)
theorem bFK {x : List Bool} {k : Nat} (hk : k < x.length) : yn (cX x) k = !yn x k := oU hk
def iY (t : Tm) (l : List Nd) (d u : List Bool) : List Bool := mk l.length fun k => yn d k && ((bF false l k).length == 0 || (bF false l k).any fun m => !yn (cI t l) m.toNat || !yn d m.toNat && !yn u m.toNat)
def nK (t : Tm) (l : List Nd) (y : List Bool) : List Bool := mk l.length fun k => yn y k && (yn (cQ t l) k || (bF true l k).any fun m => !yn y m.toNat)
structure Fx where
 down : List Bool
 up : List Bool
 early : List Bool
 delay : List Bool
 late : List Bool
 alone : List Bool
structure yG (t : Tm) (l : List Nd) (F : Fx) : Prop where
 down : eU (cU true false (cQ t l) (cI t l) (noL l.length) (cX (noL l.length)) l) l.length F.down
 up : eU (cU false false (noL l.length) (cX (noL l.length)) (mk l.length fun k => yn (cI t l) k && yn (cQ t l) k) (cI t l) l) l.length F.up
 early : F.early = iY t l F.down F.up
 delay : eU (cU false false F.early (cX (noL l.length)) (noL l.length) (cX (cQ t l)) l) l.length F.delay
 late : F.late = nK t l F.delay
 alone : eU (cU true true (noL l.length) (cX (noL l.length)) F.late (cX (cQ t l)) l) l.length F.alone
theorem yG.unique {t : Tm} {l : List Nd} {F G : Fx} (hF : yG t l F) (hG : yG t l G) : F = G := by (
 obtain ⟨a, b, c, d, e, f⟩ := F
 obtain ⟨a', b', c', d', e', f'⟩ := G
 obtain ⟨h1, h2, h3, h4, h5, h6⟩ := hF
 obtain ⟨g1, g2, g3, g4, g5, g6⟩ := hG
 simp only at *
 have e1 := h1.unique g1
 have e2 := h2.unique g2
 subst e1 e2
 have e3 : c = c' := h3.trans g3.symm
 subst e3
 have e4 := h4.unique g4
 subst e4
 have e5 : e = e' := h5.trans g5.symm
 subst e5
 have e6 := h6.unique g6
 subst e6
 rfl)
theorem yG.len {t : Tm} {l : List Nd} {F : Fx} (h : yG t l F) : F.down.length = l.length ∧ F.up.length = l.length ∧ F.early.length = l.length ∧ F.delay.length = l.length ∧ F.late.length = l.length ∧ F.alone.length = l.length :=
 ⟨h.down.1.1, h.up.1.1, by rw [h.early]; exact dD _ _, h.delay.1.1, by rw [h.late]; exact dD _ _, h.alone.1.1⟩
end
theorem nL {bk : Bool} {l : List Nd} {k : Nat} {m : Int} (h : m ∈ bF bk l k) : m.toNat < l.length := by (
 unfold bF at h
 obtain ⟨i, hi, _, rfl⟩ := jS.1 h
 simpa using hi)
theorem zX {n k : Nat} (hk : k < n) : yn (cX (noL n)) k = true := by (
 rw [bFK (by simpa [noL] using hk), bBL]; rfl)
theorem vD {t : Tm} {l : List Nd} {k : Nat} {n : Nd} (hn : l[k]? = some n) : yn (cQ t l) k = fJ t n := by (
 rw [cQ, oU (List.getElem?_eq_some_iff.1 hn).1, dJ hn])
theorem zZ {t : Tm} {l : List Nd} {k : Nat} {n : Nd} (hn : l[k]? = some n) : yn (cI t l) k = lM t n := by (
 rw [cI, oU (List.getElem?_eq_some_iff.1 hn).1, dJ hn])
theorem vU (t : Tm) (l : List Nd) : (cQ t l).length = l.length := dD _ _
theorem bKA (t : Tm) (l : List Nd) : (cI t l).length = l.length := dD _ _
theorem qK {es : List Int} {p q : Int → Bool} (h : ∀ m ∈ es, p m = q m) : es.all p = es.all q := by (
 rw [Bool.eq_iff_iff, List.all_eq_true, List.all_eq_true]
 exact forall_congr' fun m => forall_congr' fun hm => by rw [h m hm])
def bDV (t : Tm) (l : List Nd) (x : List Bool) (k : Nat) : Bool := yn (cQ t l) k || yn (cI t l) k && decide (0 < (bF true l k).length) && (bF true l k).all fun m => yn x m.toNat
def upV (t : Tm) (l : List Nd) (x : List Bool) (k : Nat) : Bool := decide (0 < (bF false l k).length) && (bF false l k).all fun m => yn (cI t l) m.toNat && ((yn x m.toNat || m.toNat == k) || yn (cQ t l) m.toNat)
def bAU (t : Tm) (l : List Nd) (e x : List Bool) (k : Nat) : Bool := yn e k || decide (0 < (bF false l k).length) && (bF false l k).all fun m => yn x m.toNat && !yn (cQ t l) m.toNat
def bBC (t : Tm) (l : List Nd) (f x : List Bool) (k : Nat) : Bool := (bF true l k).all fun m => yn f m.toNat || !yn (cQ t l) m.toNat && (yn x m.toNat || m.toNat == k)
theorem bQB (t : Tm) (l : List Nd) (x : List Bool) {k : Nat} (hk : k < l.length) : cU true false (cQ t l) (cI t l) (noL l.length) (cX (noL l.length)) l x k = bDV t l x k := by (
 unfold cU kM bDV
 have h : ((bF true l k).all fun r => eV (noL l.length) (cX (noL l.length)) x r.toNat) = (bF true l k).all fun m => yn x m.toNat := qK fun m hm => by (
 rw [eV, bBL, zX (nL hm)]; simp)
 rw [h]
 cases yn (cQ t l) k <;> cases yn (cI t l) k <;> rcases hE : bF true l k with _ | ⟨e0, es⟩ <;> simp)
theorem up_eq (t : Tm) (l : List Nd) (x : List Bool) {k : Nat} (hk : k < l.length) : lE (cU false false (noL l.length) (cX (noL l.length)) (mk l.length fun k => yn (cI t l) k && yn (cQ t l) k) (cI t l) l) l.length x k = upV t l x k := by (
 unfold lE cU kM upV
 have h : ((bF false l k).all fun r => eV (mk l.length fun k => yn (cI t l) k && yn (cQ t l) k) (cI t l) (mk l.length fun j => yn x j || j == k) r.toNat) = (bF false l k).all fun m => yn (cI t l) m.toNat && ((yn x m.toNat || m.toNat == k) || yn (cQ t l) m.toNat) := qK fun m hm => by (
 have hlt := nL hm
 rw [eV, oU hlt, oU hlt]
 cases yn (cI t l) m.toNat <;> cases yn (cQ t l) m.toNat <;> simp)
 rw [h, bBL, zX hk]
 rcases hE : bF false l k with _ | ⟨e0, es⟩ <;> simp)
theorem bNV (t : Tm) (l : List Nd) (e x : List Bool) {k : Nat} (hk : k < l.length) : cU false false e (cX (noL l.length)) (noL l.length) (cX (cQ t l)) l x k = bAU t l e x k := by (
 unfold cU kM bAU
 have h : ((bF false l k).all fun r => eV (noL l.length) (cX (cQ t l)) x r.toNat) = (bF false l k).all fun m => yn x m.toNat && !yn (cQ t l) m.toNat := qK fun m hm => by (
 rw [eV, bBL, bFK (by rw [vU]; exact nL hm)]
 cases yn x m.toNat <;> cases yn (cQ t l) m.toNat <;> rfl)
 rw [h, zX hk]
 cases yn e k <;> rcases hE : bF false l k with _ | ⟨e0, es⟩ <;> simp)
theorem bOC (t : Tm) (l : List Nd) (f x : List Bool) {k : Nat} (hk : k < l.length) : lE (cU true true (noL l.length) (cX (noL l.length)) f (cX (cQ t l)) l) l.length x k = bBC t l f x k := by (
 unfold lE cU kM bBC
 have h : ((bF true l k).all fun r => eV f (cX (cQ t l)) (mk l.length fun j => yn x j || j == k) r.toNat) = (bF true l k).all fun m => yn f m.toNat || !yn (cQ t l) m.toNat && (yn x m.toNat || m.toNat == k) := qK fun m hm => by (
 have hlt := nL hm
 rw [eV, oU hlt, bFK (by rw [vU]; exact hlt)])
 rw [h, bBL, zX hk]
 rcases hE : bF true l k with _ | ⟨e0, es⟩ <;> simp)
def eB (l : List Nd) (x : List Bool) (i : Nat) : Bool := i == 0 || (List.range l.length).any fun j => yn x j && bU (l.getD j default) i
theorem jX (l : List Nd) : jN (eB l) := fun x y i h hs => by (
 unfold eB at *
 simp only [Bool.or_eq_true, List.any_eq_true, V9] at *
 exact hs.imp id fun ⟨j, hj, h1, h2⟩ => ⟨j, hj, h j h1, h2⟩)
def dO (l : List Nd) : List Bool := bAM (eB l) l.length
theorem lF (l : List Nd) : (dO l).length = l.length := (iW (jX l) l.length).1.1
def pB (l : List Nd) (x : List Bool) (j : Nat) : Prop := ∀ n, l[j]? = some n → ∀ m : Nat, bU n m = true → yn x m = true
theorem rV {l : List Nd} {x : List Bool} (hl : x.length = l.length) (h0 : yn x 0 = true) (h : ∀ j, j < l.length → yn x j = true → pB l x j) : jP (eB l) l.length x := by (
 refine ⟨hl, fun i hi hs => ?_⟩
 unfold eB at hs
 simp only [Bool.or_eq_true, List.any_eq_true, V9, beq_iff_eq, List.mem_range] at hs
 rcases hs with rfl | ⟨j, hj, h1, h2⟩
 · exact h0
 · (
 have hn : l[j]? = some l[j] := Vx hj
 rw [Vy, hn] at h2
 exact h j hj h1 _ hn i h2))
theorem jP.shut {l : List Nd} {x : List Bool} (h : jP (eB l) l.length x) {j : Nat} (hj : yn x j = true) (hb : ∀ n, l[j]? = some n → ∀ m : Nat, bU n m = true → m < l.length) : pB l x j := fun n hn m hm => by (
 refine h.2 m (hb n hn m hm) ?_
 unfold eB
 simp only [Bool.or_eq_true, List.any_eq_true, V9, beq_iff_eq, List.mem_range]
 refine .inr ⟨j, (List.getElem?_eq_some_iff.1 hn).1, hj, ?_⟩
 rw [Vy, hn]
 exact hm)
theorem tW (l : List Nd) (hl : 1 ≤ l.length) : iQ (eB l) l.length ((List.replicate l.length false).set 0 true) := by (
 refine ⟨Zf, fun z hz i hi => ?_⟩
 rw [cL _ _ _ _ Zh] at hi
 by_cases h0 : i = 0
 · (
 subst h0
 exact hz.2 0 Zb (by simp [eB]))
 · (
 rw [if_neg h0] at hi
 simp [yn, Vy, List.getElem?_replicate] at hi
 split at hi <;> simp at hi))
theorem yM {l : List Nd} {x : List Bool} (h : iQ (eB l) l.length x) {j m : Nat} {n : Nd} (hj : yn x j = true) (hn : l[j]? = some n) (hm : bU n m = true) (hml : m < l.length) : iQ (eB l) l.length (x.set m true) := by (
 refine ⟨by simpa using h.1, fun z hz i hi => ?_⟩
 rw [cL _ _ _ _ (by rw [h.1]; exact hml)] at hi
 by_cases him : i = m
 · (
 subst him
 refine hz.2 i hml ?_
 unfold eB
 simp only [Bool.or_eq_true, List.any_eq_true, V9, beq_iff_eq, List.mem_range]
 refine .inr ⟨j, (List.getElem?_eq_some_iff.1 hn).1, h.2 z hz j hj, ?_⟩
 rw [Vy, hn]
 exact hm)
 · (
 rw [if_neg him] at hi
 exact h.2 z hz i hi))
theorem eY {x : List Bool} {m i : Nat} (hm : m < x.length) (h : yn x i = true) : yn (x.set m true) i = true := by (
 rw [cL _ _ _ _ hm]
 split
 · rfl
 · exact h)
theorem gK {n : Nd} (h : n.op ≠ 12) : bU n n.t = true := by simp [bU, h]
theorem iK {n : Nd} (h : n.op = 11) : bU n n.e = true := by simp [bU, h]
theorem dI {n : Nd} {m : Int} (h : bU n m = true) : (n.op ≠ 12 ∧ m = n.t) ∨ (n.op = 11 ∧ m = n.e) := by (
 simp only [bU, Bool.or_eq_true, V9, bne_iff_ne, beq_iff_eq, ne_eq] at h
 rcases h with ⟨h1, h2⟩ | ⟨h1, h2⟩
 · exact .inl ⟨h1, h2.symm⟩
 · exact .inr ⟨h1, h2.symm⟩)
theorem xT {x : List Bool} {k : Nat} (hk : k < x.length) (h : yn x k = true) : x.set k true = x := bAC hk h
structure fX (l : List Nd) (c k : Nat) (x : List Bool) : Prop where
 under : iQ (eB l) l.length x
 zero : yn x 0 = true
 way : c + 1 < cnt x ∨ (c + 1 ≤ cnt x ∧ ∀ j, j < k → yn x j = true → pB l x j) ∨ jP (eB l) l.length x
theorem bAX {x : List Bool} {i : Nat} (h : yn x i = true) : 1 ≤ cnt x := by (
 have hi : i < x.length := by (
 rcases Nat.lt_or_ge i x.length with h1 | h1
 · exact h1
 · rw [zY h1] at h; cases h)
 unfold cnt
 refine List.count_pos_iff.2 ?_
 have : x[i] = true := by simpa [yn, hi] using h
 rw [← this]
 exact List.getElem_mem hi)
theorem fX.add {l : List Nd} {c k : Nat} {x : List Bool} (h : fX l c k x) {j m : Nat} {n : Nd} (hj : yn x j = true) (hn : l[j]? = some n) (hm : bU n m = true) (hml : m < l.length) (hb : ∀ n, l[j]? = some n → ∀ m : Nat, bU n m = true → m < l.length) :
 fX l c k (x.set m true) := by (
 have hxl : m < x.length := by rw [h.under.1]; exact hml
 refine ⟨yM h.under hj hn hm hml, eY hxl h.zero, ?_⟩
 cases hy : yn x m with
 | true => rw [xT hxl hy]; exact h.way
 | false =>
  have hcnt : cnt (x.set m true) = cnt x + 1 := vB hxl hy
  rcases h.way with h1 | ⟨h1, _⟩ | h1
  · exact .inl Zb
  · exact .inl Zb
  · (
 have := h1.shut hj hb n hn m hm
 rw [hy] at this
 cases this))
theorem fX.start {l : List Nd} {c : Nat} {x : List Bool} (h : iQ (eB l) l.length x) (h0 : yn x 0 = true) (hw : c + 1 ≤ cnt x ∨ jP (eB l) l.length x) : fX l c 0 x :=
 ⟨h, h0, hw.elim (fun h => .inr (.inl ⟨h, fun j hj => absurd hj Zb⟩)) fun h => .inr (.inr h)⟩
theorem fX.next {l : List Nd} {c k : Nat} {x : List Bool} (h : fX l c k x) (hs : yn x k = true → pB l x k) : fX l c (k + 1) x :=
 ⟨h.under, h.zero, h.way.imp id fun h => h.imp (fun ⟨h1, h2⟩ => ⟨h1, fun j hj hy => by
  by_cases hjk : j = k
  · subst hjk; exact hs hy
  · exact h2 j Zb hy⟩) id⟩
theorem fX.end_ {l : List Nd} {c : Nat} {x : List Bool} (h : fX l c l.length x) : c + 1 + 1 ≤ cnt x ∨ jP (eB l) l.length x := by (
 rcases h.way with h1 | ⟨h1, h2⟩ | h1
 · exact .inl Zb
 · exact .inr (rV h.under.1 h.zero h2)
 · exact .inr h1)
theorem bGA {l : List Nd} {x : List Bool} (h : iQ (eB l) l.length x) (hw : l.length + 1 ≤ cnt x ∨ jP (eB l) l.length x) : x = dO l := by (
 rcases hw with h1 | h1
 · (
 have := tM x
 rw [h.1] at this
 omega)
 · exact sD (jX l) h1 h)
def rk (x : List Bool) : Nat → Nat
 | 0 => 0
 | k + 1 => rk x k + (if yn x k = true then 1 else 0)
theorem rU (x : List Bool) : ∀ k, rk x k ≤ k
 | 0 => Nat.le_refl _
 | k + 1 => by (
 have := rU x k
 unfold rk
 split <;> omega)
theorem vT {x : List Bool} {k : Nat} (h : yn x k = true) : rk x (k + 1) = rk x k + 1 := by simp [rk, h]
theorem bMK {x : List Bool} {k : Nat} (h : yn x k = false) : rk x (k + 1) = rk x k := by simp [rk, h]
def kK (x : List Bool) (n : Nd) : Nd := { n with t := if n.op = 12 then n.t else (rk x n.t.toNat : Nat), e := if n.op = 11 then (rk x n.e.toNat : Nat) else n.e }
def eA (x : List Bool) (l : List Nd) : Nat → List Nd
 | 0 => []
 | k + 1 => eA x l k ++ (if yn x k = true then [kK x (l.getD k default)] else [])
theorem kY (x : List Bool) (l : List Nd) : ∀ k, (eA x l k).length = rk x k
 | 0 => rfl
 | k + 1 => by (
 unfold eA rk
 rw [Vz, kY x l k]
 split <;> simp)
theorem kW {x : List Bool} {l : List Nd} {k : Nat} {n : Nd} (h : yn x k = true) (hn : l[k]? = some n) : eA x l (k + 1) = eA x l k ++ [kK x n] := by (
 have : l.getD k default = n := by rw [Vy, hn]; rfl
 rw [eA, if_pos h, this])
theorem sU {x : List Bool} {l : List Nd} {k : Nat} (h : yn x k = false) : eA x l (k + 1) = eA x l k := by rw [eA, if_neg Xi, List.append_nil]
def iS (l : List Nd) : List Nd := eA (dO l) l l.length
theorem sV (l : List Nd) : (iS l).length ≤ l.length := by (
 unfold iS
 rw [kY]
 exact rU _ _)
theorem nO {l : List Nd} {k : Nat} {n : Nd} (hk : yn (dO l) k = true) (hn : l[k]? = some n) {m : Nat} (hm : bU n m = true) (hb : ∀ m : Nat, bU n m = true → m < l.length) : yn (dO l) m = true := by (
 have hc : jP (eB l) l.length (dO l) := by have h := (iW (jX l) l.length).1; exact ⟨h.1, fun i hi hs => (h.2 i hi).trans hs⟩
 refine jP.shut hc hk (fun n2 h2 m hm => ?_) n hn m hm
 rw [hn] at h2
 injection h2 with h2
 subst h2
 exact hb m hm)
section
theorem Nd.cells_len (n : Nd) : n.cells.length = 6 := rfl
theorem bNE {n : Nd} {w : World} {b off : Nat} : Nd.lies n w b off ↔ ∀ j, j < 6 → w.cell? ⟨b, off + j, none⟩ = (Nd.cells n)[j]? := by (
 constructor
 · (
 rintro ⟨h0, h1, h2, h3, h4, h5⟩ j hj
 match j, hj with
 | 0, _ => exact h0
 | 1, _ => exact h1
 | 2, _ => exact h2
 | 3, _ => exact h3
 | 4, _ => exact h4
 | 5, _ => exact h5)
 · (
 intro h
 exact ⟨h 0 Zb, h 1 Zb, h 2 Zb, h 3 Zb, h 4 Zb, h 5 Zb⟩))
def ndK : GK Nd 6 := ⟨Nd.cells, Nd.lies, Ze, fun _ => rfl, fun n u hu => by simp only [Nd.cells, Uo, List.not_mem_nil, or_false] at hu; rcases hu with rfl | rfl | rfl | rfl | rfl | rfl <;> rfl, bNE⟩
abbrev cO := @bO _ _ ndK
abbrev wp_append_nodes := @jV _ _ ndK
abbrev bK := @oJ _ _ ndK
abbrev iT := @qO _ _ ndK
def Nd.put (n : Nd) : Nat → Int → Nd
 | 0, x => { n with op := x }
 | 1, x => { n with d := x }
 | 2, x => { n with a := x }
 | 3, x => { n with b := x }
 | 4, x => { n with t := x }
 | _, x => { n with e := x }
theorem Nd.put_cells (n : Nd) (j : Nat) (x : Int) (hj : j < 6) : (n.put j x).cells = n.cells.set j (.int .i64 x) := by (
 rcases j with _ | _ | _ | _ | _ | _ | j <;> first | rfl | omega)
section
variable {w : World} {base : Nat} {e : TypeId} {v : Value} {l : List Nd}
theorem bO.store {g n cap : Nat} (h : cO w base e (.slice (some ⟨g, 0, none⟩) n cap) l) {k j : Nat} {x : Nd} (hk : l[k]? = some x) (hj : j < 6) (z : Int) :
 cO (w.setCell ⟨g, k * 6 + j, none⟩ (.int .i64 z)) base e (.slice (some ⟨g, 0, none⟩) n cap) (l.set k (x.put j z)) := bO.store'
          h hk hj (Nd.put_cells _ _ _ hj)
theorem bO.put6 {g n cap : Nat} (h : cO w base e (.slice (some ⟨g, 0, none⟩) n cap) l) {k : Nat} {x : Nd} (hk : l[k]? = some x) (y : Nd) :
 cO ((((((w.setCell ⟨g, k * 6, none⟩ (.int .i64 y.op)).setCell ⟨g, k * 6 + 1, none⟩ (.int .i64 y.d)).setCell ⟨g, k * 6 + 2, none⟩ (.int .i64 y.a)).setCell ⟨g, k * 6 + 3, none⟩ (.int .i64 y.b)).setCell ⟨g, k * 6 + 4, none⟩ (.int .i64 y.t)).setCell ⟨g, k * 6 + 5, none⟩ (.int .i64 y.e))
  base e (.slice (some ⟨g, 0, none⟩) n cap) (l.set k y) := by (
 have hlt : k < l.length := (List.getElem?_eq_some_iff.1 hk).1
 have hs : ∀ (z : Nd), (l.set k z)[k]? = some z := fun z => by rw [List.getElem?_set]; simp [hlt]
 have h0 := h.store hk (show 0 < 6 by omega) y.op
 rw [Nat.add_zero] at h0
 have h1 := h0.store (hs _) (show 1 < 6 by omega) y.d
 rw [List.set_set] at h1
 have h2 := h1.store (hs _) (show 2 < 6 by omega) y.a
 rw [List.set_set] at h2
 have h3 := h2.store (hs _) (show 3 < 6 by omega) y.b
 rw [List.set_set] at h3
 have h4 := h3.store (hs _) (show 4 < 6 by omega) y.t
 rw [List.set_set] at h4
 have h5 := h4.store (hs _) (show 5 < 6 by omega) y.e
 rw [List.set_set] at h5
 exact h5)
theorem cH {w : World} {n : Nd} {t : TypeId} {g : Nat} (h : g = w.heap.size) : bH (w.alloc (.cells #[.int .i64 n.op, .int .i64 n.d, .int .i64 n.a, .int .i64 n.b, .int .i64 n.t, .int .i64 n.e] t)) (some ⟨g, 0, none⟩) [n] := by (
 subst h
 refine bH.mk Zf fun i m hi => ?_
 rcases i with _ | i
 · (
 simp at hi
 subst hi
 simp [Nd.lies])
 · simp at hi)
end
theorem bH.nil {w : World} {A : Option Addr} : bH w A [] := fun h => absurd rfl h
end
def cM (t : Int) : Nd := ⟨0, 0, 0, 0, t, 0⟩
def eE (l : List Nd) (m : Int) : Nat := (sel (fO l m.toNat) l.length).length
def bY (l : List Nd) (n : Nd) (N : Nat) : Nd := if 2 ≤ eE l n.t then { n with t := N, e := if n.op = 11 ∧ n.e = n.t then (N : Int) else n.e } else n
def dM (l : List Nd) (n : Nd) : List Nd := if 2 ≤ eE l n.t then [cM n.t] else []
def fF (l : List Nd) (n : Nd) : Bool := n.op == 11 && n.e != n.t && decide (2 ≤ eE l n.e)
def dB (l : List Nd) (n x : Nd) (N : Nat) : Nd := if fF l n = true then { x with e := N } else x
def fU (l : List Nd) (n : Nd) : List Nd := if fF l n = true then [cM n.e] else []
def fV (l : List Nd) (k : Nat) (n : Nd) (out : List Nd) : List Nd := out.set k (bY l n out.length) ++ dM l n
def jC (l : List Nd) (k : Nat) (n x : Nd) (out : List Nd) : List Nd := out.set k (dB l n x out.length) ++ fU l n
def cY (l : List Nd) (k : Nat) (n : Nd) (out : List Nd) : List Nd := if n.op = 0 ∨ n.op = 12 then out else jC l k n (bY l n out.length) (fV l k n out)
def cK (l : List Nd) : Nat → List Nd
 | 0 => l
 | k + 1 => cY l k (l.getD k default) (cK l k)
def gA (l : List Nd) : List Nd := cK l l.length
theorem cR {l : List Nd} {k : Nat} {n : Nd} (hn : l[k]? = some n) : cK l (k + 1) = cY l k n (cK l k) := by (
 have : l.getD k default = n := by rw [Vy, hn]; rfl
 rw [cK, this])
theorem vN (l : List Nd) (n : Nd) : (dM l n).length ≤ 1 := by unfold dM; split <;> simp
theorem bFR (l : List Nd) (n : Nd) : (fU l n).length ≤ 1 := by unfold fU; split <;> simp
theorem sW (l : List Nd) (k : Nat) (n : Nd) (out : List Nd) : (fV l k n out).length = out.length + (dM l n).length := by simp [fV]
theorem bJD (l : List Nd) (k : Nat) (n x : Nd) (out : List Nd) : (jC l k n x out).length = out.length + (fU l n).length := by simp [jC]
theorem xR (l : List Nd) (k : Nat) (n : Nd) (out : List Nd) : out.length ≤ (cY l k n out).length ∧ (cY l k n out).length ≤ out.length + 2 := by (
 unfold cY
 split
 · omega
 · (
 rw [bJD, sW]
 have := vN l n
 have := bFR l n
 omega))
theorem mC (l : List Nd) : ∀ k, l.length ≤ (cK l k).length ∧ (cK l k).length ≤ l.length + 2 * k
 | 0 => by simp [cK]
 | k + 1 => by (
 have h1 := mC l k
 have h2 := xR l k (l.getD k default) (cK l k)
 rw [cK]
 omega)
theorem xS {l : List Nd} {k j : Nat} {n : Nd} {out : List Nd} (hk : k ≠ j) (hj : j < out.length) : (cY l k n out)[j]? = out[j]? := by (
 unfold cY
 split
 · rfl
 · (
 unfold jC
 rw [Uk (by rw [List.length_set, sW]; omega), List.getElem?_set_ne hk]
 unfold fV
 rw [Uk (by rw [List.length_set]; omega), List.getElem?_set_ne hk]))
theorem oZ (l : List Nd) : ∀ (k j : Nat), k ≤ j → j < l.length → (cK l k)[j]? = l[j]?
 | 0, j, _, _ => rfl
 | k + 1, j, hk, hj => by (
 rw [cK, xS Zb (by have := mC l k; omega)]
 exact oZ l k j Zb hj)
theorem pA {l : List Nd} {k : Nat} {n : Nd} {out : List Nd} (hk : k < out.length) (h0 : n.op ≠ 0) (h12 : n.op ≠ 12) :
 cY l k n out = out.set k (dB l n (bY l n out.length) (out.length + (dM l n).length)) ++ (dM l n ++ fU l n) := by (
 unfold cY
 rw [if_neg Zb]
 unfold jC
 rw [sW]
 unfold fV
 rw [List.set_append_left _ _ (by rw [List.length_set]; exact hk), List.set_set, List.append_assoc])
theorem gE {l : List Nd} {k : Nat} {n : Nd} {out : List Nd} (h : n.op = 0 ∨ n.op = 12) : cY l k n out = out := by (
 unfold cY
 rw [if_pos h])
theorem eH {l : List Nd} {k : Nat} {n : Nd} {out : List Nd} (h : ¬ (n.op = 0 ∨ n.op = 12)) : cY l k n out = jC l k n (bY l n out.length) (fV l k n out) := by (
 unfold cY
 rw [if_neg h])
theorem pU {l : List Nd} {k : Nat} {n : Nd} {out : List Nd} (hk : k < out.length) : (fV l k n out)[k]? = some (bY l n out.length) := by (
 unfold fV
 rw [Uk (by rw [List.length_set]; exact hk), List.getElem?_set]
 simp [hk])
theorem rS {α : Type} {l : List α} {k : Nat} {x : α} (h : l[k]? = some x) : l.set k x = l := by (
 refine List.ext_getElem? fun i => ?_
 rw [List.getElem?_set]
 split
 · (
 rename_i e
 subst e
 have := (List.getElem?_eq_some_iff.1 h).1
 rw [if_pos this, h])
 · rfl)
theorem bFO {l : List Nd} {k : Nat} {n : Nd} {out : List Nd} (h : ¬ 2 ≤ eE l n.t) (hk : out[k]? = some n) : fV l k n out = out := by (
 unfold fV bY dM
 rw [if_neg h, if_neg h, rS hk, List.append_nil])
theorem jF {l : List Nd} {k : Nat} {n x : Nd} {out : List Nd} (h : fF l n = false) (hk : out[k]? = some x) : jC l k n x out = out := by (
 unfold jC dB fU
 rw [if_neg Xi, if_neg Xi, rS hk, List.append_nil])
theorem vK {l : List Nd} {k : Nat} {n x : Nd} {out : List Nd} (h : fF l n = true) : jC l k n x out = out.set k (x.put 5 out.length) ++ [cM n.e] := by (
 unfold jC dB fU
 rw [if_pos h, if_pos h]
 rfl)
theorem vL {l : List Nd} {k : Nat} {n : Nd} {out : List Nd} (h : 2 ≤ eE l n.t) (he : ¬ (n.op = 11 ∧ n.e = n.t)) : fV l k n out = out.set k (n.put 4 out.length) ++ [cM n.t] := by (
 unfold fV bY dM
 rw [if_pos h, if_pos h, if_neg he]
 rfl)
theorem bFP {l : List Nd} {k : Nat} {n : Nd} {out : List Nd} (h : 2 ≤ eE l n.t) (he : n.op = 11 ∧ n.e = n.t) : fV l k n out = out.set k ((n.put 4 out.length).put 5 out.length) ++ [cM n.t] := by (
 unfold fV bY dM
 rw [if_pos h, if_pos h, if_pos he]
 rfl)
section
theorem bPJ {l : List Nd} {n : Nat} (h : n < l.length) : l[n]? = some (nd l n) := by rw [nd, Vy, Vx h]; rfl
theorem bGF {l : List Nd} {n : Nat} (h : n < l.length) : nd l n ∈ l := V4 (bPJ h)
section
variable {t : Tm} {l : List Nd} {F : Fx}
def Fx.D (F : Fx) (n : Nat) : Prop := yn F.down n = true
def Fx.U (F : Fx) (n : Nat) : Prop := yn F.up n = true
def Fx.E (F : Fx) (n : Nat) : Prop := yn F.early n = true
def Fx.Y (F : Fx) (n : Nat) : Prop := yn F.delay n = true
def Fx.L (F : Fx) (n : Nat) : Prop := yn F.late n = true
def Fx.A (F : Fx) (n : Nat) : Prop := yn F.alone n = true
variable {regs : Int}
end
end
def bCJ (op x y : Int) : Int := if op = 3 then wrap64 (x + y) else if op = 4 then wrap64 (x - y) else if op = 5 then wrap64 (x * y) else if op = 6 then bits .and .i64 x y else if op = 7 then bits .xor .i64 x y else if x < y then 1 else 0
def rg (r : List Int) (k : Int) : Int := r.getD k.toNat 0
theorem bRH {r : List Int} {k : Nat} {z : Int} (h : r[k]? = some z) : rg r (k : Int) = z := by simp [rg, Vy, h]
structure Rn where
 regs : List Int
 read : Nat
 out : List Int
 ret : Int
 ended : Bool
 steps : Nat
 pos : Nat
 ts : List Tm
def jB (l : List Nd) (inp : List Int) (s : Rn) : Rn :=
 let n := nd l s.pos
 if n.op = 1 then { s with steps := s.steps + 1, pos := n.t.toNat, regs := s.regs.set n.d.toNat n.a }
 else if n.op = 2 then { s with steps := s.steps + 1, pos := n.t.toNat, regs := s.regs.set n.d.toNat (rg s.regs n.a) }
 else if cG n.op = true then { s with steps := s.steps + 1, pos := n.t.toNat, regs := s.regs.set n.d.toNat (bCJ n.op (rg s.regs n.a) (rg s.regs n.b)), ts := s.ts ++ [n.tm] }
 else if n.op = 9 then (if s.read < inp.length then { s with steps := s.steps + 1, pos := n.t.toNat, regs := s.regs.set n.d.toNat (inp.getD s.read 0), read := s.read + 1 } else { s with steps := s.steps + 1, pos := n.t.toNat, regs := s.regs.set n.d.toNat 0 })
 else if n.op = 10 then { s with steps := s.steps + 1, pos := n.t.toNat, out := s.out ++ [rg s.regs n.a] }
 else if n.op = 11 then (if rg s.regs n.a = 0 then { s with steps := s.steps + 1, pos := n.e.toNat } else { s with steps := s.steps + 1, pos := n.t.toNat })
 else if n.op = 12 then { s with steps := s.steps + 1, pos := n.t.toNat, ret := rg s.regs n.a, ended := true }
 else { s with steps := s.steps + 1, pos := n.t.toNat }
theorem oY (l : List Nd) (inp : List Int) (s : Rn) : (jB l inp s).steps = s.steps + 1 := by (
 unfold jB
 simp only
 repeat' split
 all_goals rfl)
def goR (l : List Nd) (inp : List Int) : Nat → Rn → Rn
 | 0, s => s
 | k + 1, s => if s.ended = true then s else goR l inp k (jB l inp s)
theorem bKI {l : List Nd} {inp : List Int} {s : Rn} (h : s.ended = true) : ∀ k, goR l inp k s = s
 | 0 => rfl
 | k + 1 => by rw [goR, if_pos h]
theorem bNR {l : List Nd} {inp : List Int} {s : Rn} (h : s.ended = false) (k : Nat) : goR l inp (k + 1) s = goR l inp k (jB l inp s) := by rw [goR, if_neg Xi]
def rB (regs : Int) : Rn := ⟨List.replicate regs.toNat 0, 0, [], 0, false, 0, 0, []⟩
def bMH (regs : Int) (l : List Nd) (inp : List Int) (fuel : Nat) : Rn := goR l inp fuel (rB regs)
structure yE (regs : Int) (l : List Nd) (inp : List Int) (s : Rn) : Prop where
 regs : s.regs.length = regs.toNat
 pos : s.pos < l.length
 read : s.read ≤ inp.length
 out : s.out.length ≤ s.steps
 ts : s.ts.length ≤ s.steps
 key : ∀ t ∈ s.ts, ∃ n ∈ l, cG n.op = true ∧ t = n.tm
theorem yE.start {regs : Int} {l : List Nd} {inp : List Int} (hR : bM regs l) : yE regs l inp (rB regs) :=
 ⟨by simp [rB], hR.lo, Nat.zero_le _, Nat.le_refl _, Nat.le_refl _, fun t ht => by cases ht⟩
theorem bM.pos_ {regs : Int} {l : List Nd} (hR : bM regs l) {n : Nd} (hn : n ∈ l) : n.t.toNat < l.length := by (
 by_cases h12 : n.op = 12
 · (
 have h := hR.frm n hn
 have h0 : n.t = 0 := by (
 simp only [badF, okF, shT, h12, Uf, Bool.not_eq_false', Bool.or_eq_true, beq_iff_eq] at h
 rcases h.1.2 with e | e
 · simp at e
 · exact e)
 have := hR.lo
 rw [h0]
 show 0 < l.length
 omega)
 · (
 have := hR.then_ hn h12
 omega))
theorem yE.step {regs : Int} {l : List Nd} {inp : List Int} {s : Rn} (hR : bM regs l) (h : yE regs l inp s) : yE regs l inp (jB l inp s) := by (
 obtain ⟨h1, h2, h3, h4, h5, h6⟩ := h
 have hg : l[s.pos]? = some (nd l s.pos) := by rw [nd, Vy, Vx h2]; rfl
 have hn := V4 hg
 have hp := hR.pos_ hn
 generalize nd l s.pos = n at hg hn hp
 have hnd : nd l s.pos = n := dJ hg
 unfold jB
 simp only [hnd]
 split
 · exact Je
 split
 · exact Je
 split
 · (
 rename_i hB
 refine ⟨by simpa using h1, hp, h3, Nat.le_succ_of_le h4, by simp; omega, fun t ht => ?_⟩
 rcases List.mem_append.1 ht with e | e
 · exact h6 t e
 · exact ⟨n, hn, hB, by simpa using e⟩)
 split
 · (
 split
 · exact ⟨by simpa using h1, hp, by show s.read + 1 ≤ _; omega, Nat.le_succ_of_le h4, Nat.le_succ_of_le h5, h6⟩
 · exact ⟨by simpa using h1, hp, h3, Nat.le_succ_of_le h4, Nat.le_succ_of_le h5, h6⟩)
 split
 · exact ⟨h1, hp, h3, by simp; omega, Nat.le_succ_of_le h5, h6⟩
 split
 · (
 rename_i h11
 split
 · (
 have := hR.else_ hn h11
 exact ⟨h1, by show n.e.toNat < _; omega, h3, Nat.le_succ_of_le h4, Nat.le_succ_of_le h5, h6⟩)
 · exact ⟨h1, hp, h3, Nat.le_succ_of_le h4, Nat.le_succ_of_le h5, h6⟩)
 split
 · exact ⟨h1, hp, h3, Nat.le_succ_of_le h4, Nat.le_succ_of_le h5, h6⟩
 · exact ⟨h1, hp, h3, Nat.le_succ_of_le h4, Nat.le_succ_of_le h5, h6⟩)
theorem bM.chk {regs : Int} {l : List Nd} (h : bM regs l) : chk regs l = 0 := by (
 obtain ⟨h1, h2, h3, h4, h5, h6, h7⟩ := h
 unfold Go.Proofs.YtmghkonmfbpjcabGreatDoor.chk
 rw [if_neg Zb, if_neg, if_neg, if_neg]
 · (
 simp only [List.any_eq_true, not_exists, not_and]
 intro n hn; rw [h7 n hn]; simp)
 · (
 simp only [List.any_eq_true, not_exists, not_and]
 intro n hn; rw [h6 n hn]; simp)
 · (
 simp only [List.any_eq_true, not_exists, not_and]
 intro n hn; rw [h5 n hn]; simp))
section
section
variable {regs : Int} {l : List Nd} {inp : List Int}
end
section
variable {regs : Int} {t : Tm} {l : List Nd} {F : Fx} {inp : List Int}
theorem yno {b : Bool} (h : ¬ b = true) : b = false := by simpa using h
open Classical in
end
end
section
attribute [local irreducible] Row madeCells
theorem gR : (prog.info? 4).map (fun i => (i.zero, i.size, i.bytes)) = some (some (.bool false), 1, 1) := Zc
def sM (t : TypeId) (x : List Bool) (w : World) (e : Ending) (w' : World) : Prop := ∃ v, e = .returned v ∧ Row w' w.heap.size t v (bE x) ∧ Below w.heap.size w w'
theorem Row.bool_at_ {w : World} {B g : Nat} {e : TypeId} {n c : Nat} {x : List Bool} (h : Row w B e (.slice (some ⟨g, 0, none⟩) n c) (bE x)) {k : Nat} (hk : k < x.length) :
 w.cell? ⟨g, k, none⟩ = some (.bool (yn x k)) ∧ w.frozen? ⟨g, k, none⟩ = false := by (
 obtain ⟨g0, o0, cp0, e0, _, _, cx, fx⟩ := h.bool hk
 injection e0 with e0 e1 e2
 injection e0 with e0
 injection e0 with e0 e3
 subst e0 e3
 rw [Nat.zero_add] at cx fx
 exact ⟨cx, fx⟩)
theorem Row.setb0 {w : World} {B : Nat} {e : TypeId} {g n cap : Nat} {x : List Bool} (h : Row w B e (.slice (some ⟨g, 0, none⟩) n cap) (bE x)) (k : Nat) (b : Bool) :
 Row (w.setCell ⟨g, k, none⟩ (.bool b)) B e (.slice (some ⟨g, 0, none⟩) n cap) (bE (x.set k b)) := by (
 have := h.setb k b
 rwa [Nat.zero_add] at this)
theorem bFA (regs : Int) (A : Option Addr) (l : List Nd) (cap : Nat) (w : World) (hA : bH w A l) (hR : bM regs l) :
 Calls prog 44 #[.agg #[.int .i64 regs, .slice A l.length cap]] w (sM 4 (dO l) w) := by (
 have hlo := hR.lo
 have hhi := hR.hi
 have HR := bA hR
 clear hR
 obtain ⟨ib, hbi, hbz, hbs, hbb⟩ := info_parts gR
 have hmk := dN (P := prog) 74 4 ib _ 1 underlying74 hbi hbz hbs hbb Zb rfl l.length Zb
 have hm1 : Row ((w.alloc (.cells #[.int .i64 regs, .slice A l.length cap] 24)).alloc (.cells ((madeCells #[.bool false] l.length).setIfInBounds 0 (.bool true)) 4)) w.heap.size 4 (.slice (some ⟨w.heap.size + 1, 0, none⟩) l.length l.length) (bE ((List.replicate l.length false).set 0 true)) := by (
 refine Vm fun h => ?_
 rw [← tO, bE, List.map_replicate]
 simpa using h)
 have hm0 : Row ((w.alloc (.cells #[.int .i64 regs, .slice A l.length cap] 24)).alloc (.cells (madeCells #[.bool false] l.length) 4)) w.heap.size 4 (.slice (some ⟨w.heap.size + 1, 0, none⟩) l.length l.length) (bE (List.replicate l.length false)) := by (
 rw [bE, List.map_replicate]
 exact Yf)
 obtain ⟨cm, fm⟩ := hm0.bool_at_ (k := 0) Zh
 clear hm0
 have HM := bA hm1
 have hlp : (0 : Int) < (l.length : Int) := Zb
 have HU := bA (tW l hlo)
 have HZ := bA (show yn ((List.replicate l.length false).set 0 true) 0 = true by rw [cL _ _ _ _ Zh]; simp)
 clear hm1
 go_enter func44, ntmps44
 go_wp2_with fail
 go_loopg [4] (l.length) (fun gk i wr => ∃ (c : Nat) (x : List Bool), c ≤ l.length ∧ i = .int .i64 c ∧ gk = l.length - c ∧ iQ (eB l) l.length x ∧ yn x 0 = true ∧ (c + 1 ≤ cnt x ∨ jP (eB l) l.length x) ∧
  Row wr w.heap.size 4 (.slice (some ⟨w.heap.size + 1, 0, none⟩) l.length l.length) (bE x) ∧ Blk wr w.heap.size 24 #[.int .i64 regs, .slice A l.length cap] ∧ Below w.heap.size w wr)
 case atStart => exact ⟨0, _, Nat.zero_le _, rfl, rfl, HU.o, HZ.o, .inl (bAX HZ.o), HM.o, Yd, Yc⟩
 case round => (
 clear hmk HM HU HZ cm fm
 obtain ⟨c, x, hcl, rfl, hgk, hU, h0, hw, hRow, hP, hB⟩ := hrel
 have Hgk := bA hgk
 have HU := bA hU
 have H0 := bA h0
 have Hw := bA hw
 refine Wl fun p0 p1 => ?_
 have HRow := bA hRow
 have HP := bA hP
 clear hgk hU h0 hw hRow hP
 by_cases hlt : c < l.length
 · (
 go_wp2_with fail
 obtain ⟨wo, rfl⟩ := Exq wr
 obtain ⟨gk3, rfl⟩ := Exq gk
 go_loopg [5] (l.length) (fun gk i wr => ∃ (k : Nat) (x : List Bool), k ≤ l.length ∧ i = .int .i64 k ∧ gk = l.length - k ∧ fX l c k x ∧
  Row wr w.heap.size 4 (.slice (some ⟨w.heap.size + 1, 0, none⟩) l.length l.length) (bE x) ∧ Blk wr w.heap.size 24 #[.int .i64 regs, .slice A l.length cap] ∧ Below w.heap.size w wr)
 case atStart => exact ⟨0, x, Nat.zero_le _, rfl, rfl, fX.start HU.o H0.o Hw.o, HRow.o, HP.o, hB⟩
 case round => (
 clear HU H0 Hw HRow HP hB p0 p1
 obtain ⟨k, x, hk, rfl, hgk, hRe, hRow, hP, hB⟩ := hrel
 have Hgk2 := bA hgk
 have HRe := bA hRe
 have hz := hB.size
 have hxl := hRe.under.1
 refine Wl fun p0 p1 => ?_
 have lx := (hRow.lt _ rfl).2
 have lp := hP.lt
 clear hgk hRe
 by_cases hkl : k < l.length
 · (
 obtain ⟨n, hn⟩ : ∃ n, l[k]? = some n := ⟨_, Vx hkl⟩
 obtain ⟨nb, no, n', rfl, hnb, hn', hnl⟩ := (hA.below hB).get (k := k) hkl
 rw [hn] at hn'
 injection hn' with hn'
 subst hn'
 obtain ⟨c0, c1, c2, c3, c4, c5⟩ := hnl
 have hm := V4 hn
 have hbnd : ∀ n, l[k]? = some n → ∀ m : Nat, bU n m = true → m < l.length := by (
 intro n2 h2 m hlm
 rw [hn] at h2
 injection h2 with h2
 subst h2
 rcases dI hlm with ⟨h12, rfl'⟩ | ⟨h11, rfl'⟩
 · have := HR.o.then_ hm h12; omega
 · have := HR.o.else_ hm h11; omega)
 have hway := fun h => HR.o.then_ hm h
 have hway2 := fun h => HR.o.else_ hm h
 obtain ⟨ck, fk⟩ := hRow.bool_at_ (k := k) (by rw [hxl]; exact hkl)
 refine Vu fun q0 q1 => ?_
 have Hn := bA hn
 have Hb := bA hbnd
 have Hxl := bA hxl
 have HRow := bA hRow
 have HP := bA hP
 clear hn hbnd hxl hRow hP hA
 cases hxk : yn x k
 case false => (
 rw [hxk] at ck
 have Hxk := bA hxk
 clear hxk hway hway2
 go_wp2_with fail
 go_roundg (l.length - (k + 1))
 case measure => exact Jf
 case rel => exact ⟨k + 1, x, Zb, by go_num, rfl, HRe.o.next (fun h => by rw [Hxk.o] at h; cases h), HRow.o.alloc _, HP.o.alloc _, hB.alloc hz _⟩)
 case true => (
 rw [hxk] at ck
 have Hxk := bA hxk
 clear hxk
 by_cases h12 : n.op = 12
 · (
 have t12 : (n.op != 12) = false := by simp [h12]
 have t11 : (n.op == 11) = false := by simp [h12]
 have H12 := bA h12
 clear h12 hway hway2
 go_wp2_with fail
 go_roundg (l.length - (k + 1))
 case measure => exact Jf
 case rel => (
 refine ⟨k + 1, x, Zb, by go_num, rfl, HRe.o.next (fun _ n2 h2 m hlm => ?_), HRow.o.alloc _, HP.o.alloc _, hB.alloc hz _⟩
 rw [Hn.o] at h2
 injection h2 with h2
 subst h2
 have := H12.o
 rcases dI hlm with ⟨h, _⟩ | ⟨h, _⟩ <;> omega))
 · (
 obtain ⟨t0, t1⟩ := hway h12
 obtain ⟨tt, htt⟩ := V7 (show 0 ≤ n.t by omega)
 have t12 : (n.op != 12) = true := by simp [h12]
 obtain ⟨ct, ft⟩ := HRow.o.bool_at_ (k := tt) (by rw [Hxl.o]; omega)
 rw [htt] at c4
 obtain ⟨t0', t1'⟩ := Ikq (k := tt) (n := l.length) (by omega)
 have htl : tt < l.length := Zb
 have hxtl : tt < x.length := by rw [Hxl.o]; exact htl
 have Hxtl := bA hxtl
 have Htt := bA htt
 have H12 := bA h12
 have hld := gK h12
 rw [htt] at hld
 have Hld := bA hld
 clear h12 htt t0 t1 hway hld hxtl
 go_upto_if 40 with fail
 obtain ⟨wn, hwn⟩ := Exq (wr.alloc (.cells #[.int .i64 n.op, .int .i64 n.d, .int .i64 n.a, .int .i64 n.b, .int .i64 (tt : Int), .int .i64 n.e] 39))
 have hbW : Below wr.heap.size wr wn := by rw [hwn]; exact (Bnq _ _)
 have hXn : Blk wn wr.heap.size 39 #[.int .i64 n.op, .int .i64 n.d, .int .i64 n.a, .int .i64 n.b, .int .i64 (tt : Int), .int .i64 n.e] := by rw [hwn]; exact Yd
 rw [← hwn]
 have b4 := hXn.cell 4
 simp only [Yl] at b4
 have ct' := ((bB hbW).1 _ _ lx).trans ct
 have ft' := ((bB hbW).2 _ _ lx).trans ft
 have lxn := V6 lx hbW.size
 have HXn := bA hXn
 clear hwn hXn ct ft ck fk c0 c1 c2 c3 c4 c5
 go_cut [] (fun wx => Row wx w.heap.size 4 (.slice (some ⟨w.heap.size + 1, 0, none⟩) l.length l.length) (bE (x.set tt true)) ∧ Blk wx wr.heap.size 39 #[.int .i64 n.op, .int .i64 n.d, .int .i64 n.a, .int .i64 n.b, .int .i64 (tt : Int), .int .i64 n.e] ∧
  Blk wx w.heap.size 24 #[.int .i64 regs, .slice (some ⟨nb, no, none⟩) l.length cap] ∧ Below w.heap.size w wx ∧ wr.heap.size < wx.heap.size)
 case first => (
 go_wp2_with fail
 go_meet
 go_tidy
 exact ⟨(HRow.o.below' hbW).setb0 tt true, HXn.o.far Zd _, (HP.o.below hbW lp).far Zf _, (hB.trans (hbW.mono hz)).setCell Zf _, by have := HXn.o.lt; simpa using this⟩)
 case rest => (
 obtain ⟨hR2, hX2, hP2, hB2, hz2⟩ := hcut
 obtain ⟨wx, rfl⟩ := Exq wc
 obtain ⟨ck, fk⟩ := hR2.bool_at_ (k := k) (by rw [List.length_set, Hxl.o]; exact hkl)
 rw [eY Hxtl.o Hxk.o] at ck
 have b0 := hX2.cell 0
 have b5 := hX2.cell 5
 simp only [Yl] at b0 b5
 have lx2 := (hR2.lt _ rfl).2
 have lp2 := hP2.lt
 have hRe2 := HRe.o.add Hxk.o Hn.o Hld.o htl Hb.o
 have HRe2 := bA hRe2
 clear ct' ft' lxn b4 HXn hRe2
 by_cases h11 : n.op = 11
 · (
 obtain ⟨e0, e1⟩ := hway2 h11
 obtain ⟨ee, hee⟩ := V7 (show 0 ≤ n.e by omega)
 have t11 : (n.op == 11) = true := by simp [h11]
 have hel : ee < l.length := Zb
 obtain ⟨ce, fe⟩ := hR2.bool_at_ (k := ee) (by rw [List.length_set, Hxl.o]; exact hel)
 rw [hee] at b5
 obtain ⟨e0', e1'⟩ := Ikq (k := ee) (n := l.length) (by omega)
 have hld2 := iK h11
 rw [hee] at hld2
 have Hld2 := bA hld2
 have Hee := bA hee
 have H11 := bA h11
 have HR2 := bA hR2
 have HP2 := bA hP2
 clear h11 hee e0 e1 hld2 hR2 hP2 hX2 hway2
 go_wp2_with fail
 go_roundg (l.length - (k + 1))
 case measure => exact Jf
 case rel => (
 have hyk : yn (x.set tt true) k = true := eY Hxtl.o Hxk.o
 have hel' : ee < (x.set tt true).length := by rw [List.length_set, Hxl.o]; exact hel
 refine ⟨k + 1, (x.set tt true).set ee true, Zb, by go_num, rfl, (HRe2.o.add hyk Hn.o Hld2.o hel Hb.o).next (fun _ n2 h2 m hlm => ?_), HR2.o.setb0 ee true, HP2.o.far Zf _, hB2.setCell Zf _⟩
 rw [Hn.o] at h2
 injection h2 with h2
 subst h2
 rcases dI hlm with ⟨_, h⟩ | ⟨_, h⟩
 · (
 rw [Htt.o] at h
 obtain rfl : m = tt := Zb
 exact eY hel' (by rw [cL _ _ _ _ Hxtl.o]; simp))
 · (
 rw [Hee.o] at h
 obtain rfl : m = ee := Zb
 rw [cL _ _ _ _ hel']
 simp)))
 · (
 have t11 : (n.op == 11) = false := by simp [h11]
 have H11 := bA h11
 have HR2 := bA hR2
 have HP2 := bA hP2
 clear h11 hR2 hP2 hX2 hway2
 go_wp2_with fail
 go_roundg (l.length - (k + 1))
 case measure => exact Jf
 case rel => (
 refine ⟨k + 1, x.set tt true, Zb, by go_num, rfl, HRe2.o.next (fun _ n2 h2 m hlm => ?_), HR2.o, HP2.o, hB2⟩
 rw [Hn.o] at h2
 injection h2 with h2
 subst h2
 rcases dI hlm with ⟨_, h⟩ | ⟨h, _⟩
 · (
 rw [Htt.o] at h
 obtain rfl : m = tt := Zb
 rw [cL _ _ _ _ Hxtl.o]
 simp)
 · exact absurd h H11.o))))))
 · (
 have hkk : k = l.length := Zb
 have Hkk := bA hkk
 have HRow := bA hRow
 have HP := bA hP
 clear hkk hRow hP
 go_wp2_with fail
 go_roundg (l.length - (c + 1))
 case measure => exact Jg
 case rel => (
 have := HRe.o
 rw [Hkk.o] at this
 exact ⟨c + 1, x, Zb, by go_num, rfl, this.under, this.zero, this.end_, HRow.o, HP.o, hB⟩))))
 · (
 have hcc : c = l.length := Zb
 have Hcc := bA hcc
 clear hcc
 go_wp2_with fail
 go_ret
 refine ⟨_, rfl, ?_, hB⟩
 rw [← bGA HU.o (by have := Hw.o; rwa [Hcc.o] at this)]
 exact HRow.o)))
end
section
attribute [local irreducible] Row madeCells
def iA (P : Program) (F : FuncId) (caps : Array Value) (w : World) (k : Int) (b : Bool) : Prop :=
 ∀ W, Below w.heap.size w W → Calls P F (#[.int .i64 k] ++ caps) W fun e W' => e = .returned (.bool b) ∧ Below W.heap.size W W'
theorem bDH (F : FuncId) (caps : Array Value) (p : Int → Bool) (S : Option Addr) (xs : List Int) (cap : Nat) (w : World) (hl : xs.length ≤ maxLen) (hS : bG w S (bN xs))
 (hE : ∀ W args, (callFunc F args).run prog W = .ok (.enter F args) W) (hF : ∀ m ∈ xs, iA prog F caps w m (p m)) :
 Calls prog 190 #[.slice S xs.length cap, .func (.func F) #[] caps] w (bBK (xs.any p) w) := by (
 unfold maxLen at hl
 go_enter func190, ntmps190
 go_wp2
 go_loopw [8] (fun i wr => ∃ k : Nat, k ≤ xs.length ∧ i = .int .i64 k ∧ (xs.take k).any p = false ∧ Below w.heap.size w wr) (fun i _ => xs.length - (intOf i).toNat)
 case atStart => exact Jd
 case round => (
 obtain ⟨k, hk, rfl, hno, hbr⟩ := hrel
 have hzr := hbr.size
 have Hno := bA hno
 clear hno
 by_cases hlt : k < xs.length
 · (
 obtain ⟨b, off, v, rfl, hbl, hkn, hn⟩ := hS.get (k := k) (by rw [bJ]; exact hlt)
 obtain ⟨s, hs, hv⟩ : ∃ s, xs[k]? = some s ∧ Value.int .i64 s = v := by simpa [bN] using hkn
 subst hv
 clear hkn
 have Hkn := bA hs
 have hm : s ∈ xs := V4 hs
 have c0 := ((bB hbr).1 _ _ hbl).trans hn
 have hp := hF s hm wr hbr
 have Hp := bA hp
 clear hp hs
 have hbw : b < wr.heap.size := Zb
 go_wp2_with fail
 refine (Hp.o).mono ?_
 rintro e w1 ⟨rfl, hb1⟩
 have hbr1 := hbr.trans (hb1.mono hzr)
 cases ho : p s
 · (
 go_wp2_with fail
 go_roundw
 case rel => exact ⟨k + 1, Zb, by go_num, by rw [dQ _ xs k s Hkn.o, Hno.o]; simp [ho], hbr1⟩
 case measure => simp [intOf]; omega)
 · (
 go_wp2_with fail
 go_ret
 exact ⟨k, rfl, by rw [fQ _ xs k s Hkn.o ho]; simp, hbr1⟩))
 · (
 go_wp2
 go_ret
 exact ⟨-1, rfl, by rw [← eF _ xs k hlt, Hno.o]; rfl, hbr⟩)))
theorem bEO (F : FuncId) (caps : Array Value) (p : Int → Bool) (S : Option Addr) (xs : List Int) (cap : Nat) (w : World) (hl : xs.length ≤ maxLen) (hS : bG w S (bN xs))
 (hE : ∀ W args, (callFunc F args).run prog W = .ok (.enter F args) W) (hF : ∀ m ∈ xs, iA prog F caps w m (p m)) :
 Calls prog 173 #[.slice S xs.length cap, .func (.func F) #[] caps] w fun e w' => e = .returned (.bool (xs.any p)) ∧ Below w.heap.size w w' := by (
 have h := bDH F caps p S xs cap w hl hS hE hF
 have H := bA h
 clear h hF hS
 generalize xs.any p = q at *
 go_enter func173, ntmps173
 go_wp2_with (go_at_call 190; refine (H.o).mono ?_; rintro e w1 ⟨r, rfl, hr, hb1⟩)
 go_ret
 exact ⟨by rw [← hr]; rfl, hb1⟩)
theorem bBY (F : FuncId) (caps : Array Value) (p : Int → Bool) (S : Option Addr) (xs : List Int) (cap : Nat) (w : World) (hl : xs.length ≤ maxLen) (hS : bG w S (bN xs))
 (hE : ∀ W args, (callFunc F args).run prog W = .ok (.enter F args) W) (hF : ∀ m ∈ xs, iA prog F caps w m (p m)) :
 Calls prog 138 #[.slice S xs.length cap, .func (.func F) #[] caps] w fun e w' => e = .returned (.bool (xs.any p)) ∧ Below w.heap.size w w' := by (
 have H := bA (bEO F caps p S xs cap w hl hS hE hF)
 clear hF hS
 generalize xs.any p = q at *
 go_enter func138, ntmps138
 go_wp2_with (go_at_call 173; refine (H.o).mono ?_; rintro e w1 ⟨rfl, hb1⟩)
 go_ret
 exact ⟨rfl, hb1⟩)
theorem nM (F : FuncId) (caps : Array Value) (f : Nat → Bool) (regs : Int) (A : Option Addr) (n cap : Nat) (w : World) (hn : n ≤ 65536)
 (hE : ∀ W args, (callFunc F args).run prog W = .ok (.enter F args) W) (hF : ∀ k : Nat, k < n → iA prog F caps w k (f k)) :
 Calls prog 130 #[.agg #[.int .i64 regs, .slice A n cap], .func (.func F) #[] caps] w (sM 4 (mk n f) w) := by (
 obtain ⟨ib, hbi, hbz, hbs, hbb⟩ := info_parts gR
 have hmk := dN (P := prog) 74 4 ib _ 1 underlying74 hbi hbz hbs hbb Zb rfl n Zb
 go_enter func130, ntmps130
 go_wp2_with fail
 go_loopg [13] (n) (fun gk i wr => ∃ k : Nat, k ≤ n ∧ i = .int .i64 k ∧ gk = n - k ∧ ∃ x : List Bool, x.length = n ∧ (∀ j, j < k → yn x j = f j) ∧ Row wr w.heap.size 4 (.slice (some ⟨w.heap.size + 1, 0, none⟩) n n) (bE x) ∧ Below w.heap.size w wr)
 case atStart => exact Jh
 case round => (
 obtain ⟨k, hk, rfl, hgk, x, hxl, hxf, hR, hB⟩ := hrel
 have Hgk := bA hgk
 have Hxf := bA hxf
 have hxlt := (hR.lt _ rfl).2
 clear hgk hxf hmk
 by_cases hlt : k < n
 · (
 have hp := hF k hlt wr hB
 have Hp := bA hp
 have HF := bA hF
 have HR := bA hR
 clear hp hF hR
 refine Vs fun u0 u1 => ?_
 go_wp2_with fail
 refine (Hp.o).mono ?_
 rintro e w1 ⟨rfl, hb1⟩
 have hR1 := HR.o.below' hb1
 obtain ⟨g0, o0, cp0, e0, _, _, cx, fx⟩ := hR1.bool (k := k) Xl
 injection e0 with e0 e1 e2
 injection e0 with e0
 injection e0 with e0 e3
 subst e0 e3
 simp only [Nat.zero_add] at cx fx
 clear e1 e2
 have hz1 := hb1.size
 have hx1 := V6 hxlt hz1
 have HR1 := bA hR1
 clear hR1
 go_wp2_with fail
 go_roundg (n - (k + 1))
 case measure => exact Jg
 case rel => (
 have hs := HR1.o.setb k (f k)
 rw [Nat.zero_add] at hs
 refine ⟨k + 1, Zb, by go_num, rfl, x.set k (f k), by simpa using hxl, fun j hj => ?_, hs, (hB.trans (hb1.mono hB.size)).setCell Zd _⟩
 rw [cL _ _ _ _ Xl]
 split
 · rename_i e; rw [e]
 · exact Hxf.o j Zb))
 · (
 have hkk : k = n := Zb
 subst hkk
 have hxe : x = mk k f := nV (by rw [dD, hxl]) fun j hj => by rw [Hxf.o j Zb, oU Zb]
 subst hxe
 have HR := bA hR
 clear hR
 go_wp2_with fail
 go_ret
 exact ⟨_, rfl, HR.o, hB⟩)))
end
end Go.Proofs.YtmghkonmfbpjcabGreatDoor
