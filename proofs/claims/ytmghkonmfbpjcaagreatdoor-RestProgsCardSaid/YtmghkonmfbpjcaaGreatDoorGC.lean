/- Parts. -/
import Derived.Test.YtmghkonmfbpjcaaGreatDoorGB
import Derived.Deep.DeepCutAuto
import Derived.WalkLawsBesides
import Derived.BigQuiet
set_option linter.unusedVariables false
set_option linter.unusedSimpArgs false
set_option maxRecDepth 100000
set_option maxHeartbeats 4000000
namespace Go.Proofs.YtmghkonmfbpjcaaGreatDoor
open Go.Proofs.Tryz
section
open Go.RowKit
open Go.Maps
def kS (n : Int) : Value := if n = 1 then .func (.func 14) #[] #[] else if n = 2 then .func (.func 57) #[] #[] else if n = 3 then .func (.func 58) #[] #[] else if n = 4 then .func (.func 34) #[] #[] else .nilFunc
def wC (v : Value) : Option (DataW Unit × List MemPlace) :=
 match v with
 | .func (.func k) a b => if a.size = 0 ∧ b.size = 0 then some (.lit (.int .i64 k), []) else none
 | .nilFunc => some (.nil, [])
 | _ => none
theorem nI {v : Value} {k : Nat} {ps : List MemPlace} (h : wC v = some (.lit (.int .i64 k), ps)) : v = .func (.func k) #[] #[] := by
 unfold wC at h
 split at h
 ·rename_i k' a b
  split at h
  ·rename_i hs
   simp only [Option.some.injEq, Prod.mk.injEq, DataW.lit.injEq, Lit.int.injEq, true_and] at h
   have hk : k' = k := Int.ofNat.inj h.1
   rw [hk, Array.eq_empty_of_size_eq_zero hs.1, Array.eq_empty_of_size_eq_zero hs.2]
  ·cases h
 ·injection h with h
  injection h with h _
  cases h
 ·cases h
theorem bGG {v : Value} {ps : List MemPlace} (h : wC v = some (.nil, ps)) : v = .nilFunc := by
 unfold wC at h
 split at h
 ·split at h
  ·injection h with h
   injection h with h _
   cases h
  ·cases h
 ·rfl
 ·cases h
theorem bPL (w : World) : (zeroValue 46).run prog w = .ok .nilFunc w := Zc
theorem vX : Keyed prog 3 := int_keyed underlying3
theorem bBV (n : Int) (hn : (Lit.int .i64 n).wf = true) (w : World) : Calls prog 19 #[.int .i64 n] w fun e w' => e = .returned (kS n) ∧ Below w.heap.size w w' := by
 have hmm := @run_makeMap prog
 have h0 := World.ownsMap_made (H := Unit) w prog 3 wC
 obtain ⟨w1, r1, o1, g1⟩ := h0.update vX underlying99 Zw (key := .int .i64 1) (keyOf_int_mk underlying3 Ze) (val := .func (.func 14) #[] #[]) rfl
 obtain ⟨w2, r2, o2, g2⟩ := o1.update vX underlying99 Zw (key := .int .i64 2) (keyOf_int_mk underlying3 Ze) (val := .func (.func 57) #[] #[]) rfl
 obtain ⟨w3, r3, o3, g3⟩ := o2.update vX underlying99 Zw (key := .int .i64 3) (keyOf_int_mk underlying3 Ze) (val := .func (.func 58) #[] #[]) rfl
 obtain ⟨w4, r4, o4, g4⟩ := o3.update vX underlying99 Zw (key := .int .i64 4) (keyOf_int_mk underlying3 Ze) (val := .func (.func 34) #[] #[]) rfl
 obtain ⟨v, ps, r5, hv⟩ := o4.lookup vX underlying99 (bPL _) (zd := .nil) (zp := []) rfl (keyOf_int_mk underlying3 hn)
 have hB : Below w.heap.size w w4 := by
  have b0 : Below w.heap.size w (w.alloc (.map #[] 0)) := (Bnq _ _)
  have b1 := b0.grown g1 Zf (fun q hq => by cases hq; exact Nat.le_refl _)
  have b2 := b1.grown g2 b1.size (fun q hq => by cases hq; exact Nat.le_refl _)
  have b3 := b2.grown g3 b2.size (fun q hq => by cases hq; exact Nat.le_refl _)
  exact b3.grown g4 b3.size (fun q hq => by cases hq; exact Nat.le_refl _)
 have hp : v = kS n := by
  unfold kS
  by_cases h4 : n = 4
  ·subst h4
   rw [atKey_put_same Yd (by trivial)] at hv
   exact nI hv
  rw [atKey_put_other (by intro e; injection e with _ e; exact h4 e)] at hv
  by_cases h3 : n = 3
  ·subst h3
   rw [atKey_put_same Yd (by trivial)] at hv
   exact nI hv
  rw [atKey_put_other (by intro e; injection e with _ e; exact h3 e)] at hv
  by_cases h2 : n = 2
  ·subst h2
   rw [atKey_put_same Yd (by trivial)] at hv
   exact nI hv
  rw [atKey_put_other (by intro e; injection e with _ e; exact h2 e)] at hv
  by_cases h1 : n = 1
  ·subst h1
   rw [atKey_put_same Yd (by trivial)] at hv
   exact nI hv
  rw [atKey_put_other (by intro e; injection e with _ e; exact h1 e)] at hv
  rw [if_neg h1, if_neg h2, if_neg h3, if_neg h4]
  exact bGG hv
 have HB := bA hB
 have Hp := bA hp
 clear hB hp hv o1 o2 o3 o4 h0 g1 g2 g3 g4
 go_enter func19, ntmps19
 go_wp2_with fail
 go_ret
 exact ⟨by rw [Hp.o]; rfl, HB.o⟩
end
theorem nF : (prog.info? 3).map (fun i => (i.zero, i.size, i.bytes)) = some (some (.int .i64 0), 1, 8) := Zc
section
open Go.RowKit
theorem dQ (n lo hi : Int) (w : World) :
    Calls prog 41 #[.int .i64 n, .int .i64 lo, .int .i64 hi] w fun e w' => e = .returned (.bool (inB n lo hi)) ∧ w = w' := by
  by_cases h : lo ≤ n
  · go_enter func41, ntmps41
    go_wp2
    go_ret
    exact ⟨by simp [h, inB], rfl⟩
  · go_enter func41, ntmps41
    go_wp2
    go_ret
    exact ⟨by simp [inB]; omega, rfl⟩
theorem lJ (op : Int) (w : World) :
    Calls prog 100 #[.int .i64 op] w fun e w' => e = .returned (.bool (cF op)) ∧ w = w' := by
  go_enter func100, ntmps100
  go_wp2_with (go_at_call 41; refine (dQ _ _ _ _).mono ?_; rintro e w' ⟨rfl, rfl⟩)
  go_ret
  exact ⟨rfl, rfl⟩
theorem jB (op : Int) (w : World) :
    Calls prog 95 #[.int .i64 op] w fun e w' => e = .returned (.tuple #[.bool (dI op), .bool (dD op), .bool (cF op), .bool (pE op), .bool (fN op)]) ∧ w = w' := by
  go_enter func95, ntmps95
  go_wp2_with (go_at_call 41; refine (dQ _ _ _ _).mono ?_; rintro e w' ⟨rfl, rfl⟩)
  all_goals refine bodyPost_ret (v := .tuple #[.bool (dI op), .bool (dD op), .bool (cF op), .bool (pE op), .bool (fN op)]) ?_ rfl ⟨rfl, rfl⟩
  all_goals simp_all [results, results95, go_sem, dI, dD, cF, pE, fN]
theorem zR (op : Int) (w : World) :
    Calls prog 53 #[.int .i64 op] w fun e w' => e = .returned (.tuple #[.agg #[.bool (dI op), .bool (dD op), .bool (cF op), .bool (oD op), .bool (shT op), .bool (fN op)], .bool (gH op)]) ∧ Below w.heap.size w w' := by
  go_enter func53, ntmps53
  go_wp2
  all_goals go_tidy
  all_goals refine bodyPost_ret (v := .tuple #[.agg #[.bool (dI op), .bool (dD op), .bool (cF op), .bool (oD op), .bool (shT op), .bool (fN op)], .bool (gH op)]) ?_ rfl ⟨rfl, Ye⟩
  all_goals simp only [beq_iff_eq, beq_eq_false_iff_ne, ne_eq, Bool.or_eq_true, not_or] at *
  all_goals first
    | (rename_i h; subst h; simp [results, results53, go_sem]; exact ⟨⟨rfl, rfl, rfl, rfl, rfl, rfl⟩, rfl⟩)
    | (have h13 : gH op = false := by
         simp [gH, inB]
         omega
       have h14 : dI op = false ∧ dD op = false ∧ cF op = false ∧ oD op = false ∧ fN op = false := by
         simp [dI, dD, cF, oD, fN, inB]
         omega
       simp [results, results53, go_sem, shT, h13, h14])
end
section
open Go.RowKit
theorem Yq {P : Prop} (h : P := by (
 have hkk : k = l.length := Zb
 have Hkk := bA hkk
 clear hkk
 go_wp2_with fail
 go_ret
 exact ⟨_, rfl, by rw [← Hkk.o]; exact Hrow.o, hbr⟩)) : P := h
theorem yS (regs : Int) (A : Option Addr) (l : List Nd) (cap : Nat) (m : Int) (w : World) (i : Nat) (n : Nd) (hn : l[i]? = some n) (hl : l.length ≤ 256) (hA : bG w A l) :
 Calls prog 131 #[.agg #[.int .i64 regs, .slice A l.length cap], .int .i64 i, .int .i64 m] w fun e w' => e = .returned (.bool (bU n m)) ∧ Below w.heap.size w w' := by (
 have hi : i < l.length := (List.getElem?_eq_some_iff.1 hn).1
 obtain ⟨b, off, n', rfl, hb, hn', h0⟩ := hA.get hi
 rw [hn] at hn'
 injection hn' with hn'
 subst hn'
 clear hn
 obtain ⟨c0, c1, c2, c3, c4, c5⟩ := h0
 go_enter func131, ntmps131
 go_wp2
 all_goals go_tidy
 all_goals go_ret
 all_goals exact ⟨bLN (by simp_all [bU]), Ye⟩)
def bAR (B : Nat) (t : TypeId) (xs : List Value) (w : World) (e : Ending) (w' : World) : Prop := ∃ v, e = .returned v ∧ Row w' B t v xs ∧ Below w.heap.size w w'
theorem bGX (regs : Int) (A : Option Addr) (l : List Nd) (cap : Nat) (w : World) (n : Nat) (hn : n < l.length) (hl : l.length ≤ 256) (hA : bG w A l) : Calls prog 134 #[.agg #[.int .i64 regs, .slice A l.length cap], .int .i64 n] w (bAR w.heap.size 3 (bO (sel (qL l n) l.length)) w) := by (
 obtain ⟨i3, h3i, h3z, h3s, h3b⟩ := info_parts nF
 obtain ⟨x, hx⟩ : ∃ x, l[n]? = some x := ⟨_, Vs hn⟩
 have Hx := bA hx
 clear hx
 go_enter func134, ntmps134
 go_wp2_with fail
 go_loopw [5, 6] (fun v i wr => ∃ k : Nat, k ≤ l.length ∧ i = .int .i64 k ∧ Row wr w.heap.size 3 v (bO (sel (qL l n) k)) ∧ Blk wr w.heap.size 24 #[.int .i64 regs, .slice A l.length cap] ∧ Below w.heap.size w wr) (fun _ i _ => l.length - (intOf i).toNat)
 case atStart => exact ⟨0, Nat.zero_le _, rfl, Row.nil_ _ _ _, Yf, Ye⟩
 case round => (
 obtain ⟨k, hk, rfl, hrow, hP, hbr⟩ := hrel
 refine Wm fun p0 p1 => ?_
 have hz := hbr.size
 have hsl := kB (qL l n) k
 rw [← bJ] at hsl
 have Hrow := bA hrow
 have HP := bA hP
 clear hrow hP
 by_cases hlt : k < l.length
 · (
 have hcall := yS regs A l cap (k : Int) wr n x Hx.o hl (hA.below hbr)
 cases ho : qL l n k
 · (
 have ho' := ho
 rw [mV Hx.o] at ho'
 rw [ho'] at hcall
 have Hcall := bA hcall
 have Ho := bA ho
 clear hcall ho ho'
 go_wp2_with (go_at_call 131; refine (Hcall.o).mono ?_; rintro e w1 ⟨rfl, hb1⟩)
 go_roundw
 case rel => exact ⟨k + 1, Zb, by go_num, by rw [gG Ho.o]; exact Hrow.o.below' hb1, HP.o.below hb1 HP.o.lt, Ye⟩
 case measure => simp [intOf]; omega)
 · (
 have ho' := ho
 rw [mV Hx.o] at ho'
 rw [ho'] at hcall
 have Hcall := bA hcall
 have Ho := bA ho
 clear hcall ho ho'
 obtain ⟨A5, c5, rfl, _, _⟩ := Hrow.o.shape
 go_wp2_with (first
  | (go_at_call 131; refine (Hcall.o).mono ?_; rintro e w1 ⟨rfl, hb1⟩; have hz1 := hb1.size)
  | (at_builtin; refine bZ (v := .slice A5 (bO (sel (qL l n) k)).length c5) rfl (.tmp 18) (.tmp 20) _ rfl i3 _ 8 underlying25 h3i h3z h3s h3b rfl rfl ((Hrow.o.below' hb1).alloc _) (some ⟨w1.heap.size, 0, none⟩) 1 1 [.int .i64 (k : Int)] rfl rfl (dY _ _ _) Zk Zq Zh Zh ?_; intro v2 w2 hr2 hg2 hat2))
 have hb2 : Below w.heap.size w w2 := (((hbr.trans (hb1.mono hz)).alloc Zb _).grown hg2 Zh (fun q hq => (Hrow.o.lt q hq).1))
 go_roundw
 case rel => exact ⟨k + 1, Zb, by go_num, by rw [gY Ho.o, eE]; exact hr2, ((HP.o.below hb1 HP.o.lt).alloc _).grown hg2 (Hrow.o.ne_blk HP.o Ze), hb2⟩
 case measure => simp [intOf]; omega))
 · exact Yq))
theorem uI (regs : Int) (A : Option Addr) (l : List Nd) (cap : Nat) (w : World) (n : Nat) (hn : n < l.length) (hl : l.length ≤ 256) (hA : bG w A l) : Calls prog 96 #[.agg #[.int .i64 regs, .slice A l.length cap], .int .i64 n] w (bAR w.heap.size 3 (bO (sel (fM l n) l.length)) w) := by (
 obtain ⟨i3, h3i, h3z, h3s, h3b⟩ := info_parts nF
 go_enter func96, ntmps96
 go_wp2_with fail
 go_loopw [5, 6] (fun v i wr => ∃ k : Nat, k ≤ l.length ∧ i = .int .i64 k ∧ Row wr w.heap.size 3 v (bO (sel (fM l n) k)) ∧ Blk wr w.heap.size 24 #[.int .i64 regs, .slice A l.length cap] ∧ Below w.heap.size w wr) (fun _ i _ => l.length - (intOf i).toNat)
 case atStart => exact ⟨0, Nat.zero_le _, rfl, Row.nil_ _ _ _, Yf, Ye⟩
 case round => (
 obtain ⟨k, hk, rfl, hrow, hP, hbr⟩ := hrel
 refine Wm fun p0 p1 => ?_
 have hz := hbr.size
 have hsl := kB (fM l n) k
 rw [← bJ] at hsl
 have Hrow := bA hrow
 have HP := bA hP
 clear hrow hP
 by_cases hlt : k < l.length
 · (
 obtain ⟨x, hx⟩ : ∃ x, l[k]? = some x := ⟨_, Vs hlt⟩
 have Hx := bA hx
 clear hx
 have hcall := yS regs A l cap (n : Int) wr k x Hx.o hl (hA.below hbr)
 cases ho : fM l n k
 · (
 have ho' := ho
 rw [kG Hx.o] at ho'
 rw [ho'] at hcall
 have Hcall := bA hcall
 have Ho := bA ho
 clear hcall ho ho'
 go_wp2_with (go_at_call 131; refine (Hcall.o).mono ?_; rintro e w1 ⟨rfl, hb1⟩)
 go_roundw
 case rel => exact ⟨k + 1, Zb, by go_num, by rw [gG Ho.o]; exact Hrow.o.below' hb1, HP.o.below hb1 HP.o.lt, Ye⟩
 case measure => simp [intOf]; omega)
 · (
 have ho' := ho
 rw [kG Hx.o] at ho'
 rw [ho'] at hcall
 have Hcall := bA hcall
 have Ho := bA ho
 clear hcall ho ho'
 obtain ⟨A5, c5, rfl, _, _⟩ := Hrow.o.shape
 go_wp2_with (first
  | (go_at_call 131; refine (Hcall.o).mono ?_; rintro e w1 ⟨rfl, hb1⟩; have hz1 := hb1.size)
  | (at_builtin; refine bZ (v := .slice A5 (bO (sel (fM l n) k)).length c5) rfl (.tmp 18) (.tmp 20) _ rfl i3 _ 8 underlying25 h3i h3z h3s h3b rfl rfl ((Hrow.o.below' hb1).alloc _) (some ⟨w1.heap.size, 0, none⟩) 1 1 [.int .i64 (k : Int)] rfl rfl (dY _ _ _) Zk Zq Zh Zh ?_; intro v2 w2 hr2 hg2 hat2))
 have hb2 : Below w.heap.size w w2 := (((hbr.trans (hb1.mono hz)).alloc Zb _).grown hg2 Zh (fun q hq => (Hrow.o.lt q hq).1))
 go_roundw
 case rel => exact ⟨k + 1, Zb, by go_num, by rw [gY Ho.o, eE]; exact hr2, ((HP.o.below hb1 HP.o.lt).alloc _).grown hg2 (Hrow.o.ne_blk HP.o Ze), hb2⟩
 case measure => simp [intOf]; omega))
 · exact Yq))
end
section
open Go.RowKit
theorem bGP (n : Nd) (w : World) :
 Calls prog 52 #[.agg n.cells.toArray] w fun e w' => e = .returned (.bool (!gH n.op)) ∧ Below w.heap.size w w' := by (
 unfold Nd.cells
 go_enter func52, ntmps52
 go_wp2_with (go_at_call 53; refine (zR _ _).mono ?_; rintro e w1 ⟨rfl, hbw1⟩; obtain ⟨hcw1, hfw1⟩ := bB hbw1; have hzw1 := hbw1.size; simp only [Sz] at hzw1 hcw1 hfw1; (try have hyw1 := Nat.lt_of_succ_le hzw1); (try have hxw1 := Nat.lt_of_succ_lt hyw1))
 go_ret
 exact ⟨rfl, Ye⟩)
theorem bGO (n regs : Int) (has : Bool) (g : Nat) (w : World) (h0 : w.cell? ⟨g, 0, none⟩ = some (.int .i64 regs)) :
 Calls prog 54 #[.int .i64 n, .bool has, .pointer (some ⟨g, 0, none⟩)] w fun e w' => e = .returned (.bool (okR regs n has)) ∧ w = w' := by (
 cases has <;> go_enter func54, ntmps54 <;> go_wp2
 all_goals go_tidy
 all_goals go_ret
 all_goals exact ⟨by simp_all [okR]; try omega, rfl⟩)
theorem bGN (n : Int) (A : Option Addr) (len cap : Nat) (has : Bool) (g : Nat) (w : World) (h0 : w.cell? ⟨g, 1, none⟩ = some (.slice A len cap)) :
 Calls prog 55 #[.int .i64 n, .bool has, .pointer (some ⟨g, 0, none⟩)] w fun e w' => e = .returned (.bool (okN len n has)) ∧ w = w' := by (
 cases has <;> go_enter func55, ntmps55 <;> go_wp2
 all_goals go_tidy
 all_goals go_ret
 all_goals exact ⟨by simp_all [okN]; try omega, rfl⟩)
theorem bGM (n : Int) (has : Bool) (w : World) :
 Calls prog 56 #[.int .i64 n, .bool has] w fun e w' => e = .returned (.bool (okF n has)) ∧ w = w' := by (
 cases has <;> go_enter func56, ntmps56 <;> go_wp2
 all_goals go_tidy
 all_goals go_ret
 all_goals exact ⟨by simp_all [okF], rfl⟩)
def bAV (q : Bool) (w : World) (e : Ending) (w' : World) : Prop := ∃ r : Int, e = .returned (.int .i64 r) ∧ decide (0 ≤ r) = q ∧ Below w.heap.size w w'
theorem bAA (A : Option Addr) (l : List Nd) (cap : Nat) (w : World) (hl : l.length ≤ maxLen) (hA : bG w A l) :
 Calls prog 103 #[.slice A l.length cap, .func (.func 52) #[] #[]] w
  (bAV (l.any fun n => !gH n.op) w) := by (
 unfold maxLen at hl
 go_enter func103, ntmps103
 go_wp2
 go_loopw [8] (fun i wr => ∃ k : Nat, k ≤ l.length ∧ i = .int .i64 k ∧ (l.take k).any (fun n => !gH n.op) = false ∧ Below w.heap.size w wr) (fun i _ => l.length - (intOf i).toNat)
 case atStart => exact Ji
 case round => (
 obtain ⟨k, hk, rfl, hno, hbr⟩ := hrel
 have hzr := hbr.size
 have Hno := bA hno
 clear hno
 by_cases hlt : k < l.length
 · (
 obtain ⟨b, off, n, rfl, hbl, hkn, hn⟩ := hA.get hlt
 have Hkn := bA hkn
 clear hkn
 obtain ⟨c0, c1, c2, c3, c4, c5⟩ := hn.below hbr hbl
 have hp := bGP n wr
 simp only [Nd.cells] at hp
 have Hp := bA hp
 clear hp
 have hbw : b < wr.heap.size := Zb
 cases ho : gH n.op
 · (
 rw [ho] at Hp
 go_wp2_with (go_at_call 52; refine (Hp.o).mono ?_; rintro e w1 ⟨rfl, hb1⟩)
 go_ret
 exact ⟨k, rfl, by rw [fP _ l k n Hkn.o (by simp [ho])]; simp, Ye⟩)
 · (
 rw [ho] at Hp
 go_wp2_with (go_at_call 52; refine (Hp.o).mono ?_; rintro e w1 ⟨rfl, hb1⟩)
 go_roundw
 case rel => exact ⟨k + 1, Zb, by go_num, by rw [dN _ l k n Hkn.o, Hno.o]; simp [ho], Ye⟩
 case measure => simp [intOf]; omega))
 · (
 go_wp2
 go_ret
 exact ⟨-1, rfl, by rw [← eB _ l k hlt, Hno.o]; rfl, hbr⟩)))
theorem nU (A : Option Addr) (l : List Nd) (cap : Nat) (w : World) (hl : l.length ≤ maxLen) (hA : bG w A l) :
 Calls prog 51 #[.slice A l.length cap, .func (.func 52) #[] #[]] w
  fun e w' => e = .returned (.bool (l.any fun n => !gH n.op)) ∧ Below w.heap.size w w' := by (
 have h := bAA A l cap w hl hA
 have H := bA h
 clear h
 generalize (l.any fun n => !gH n.op) = q at *
 go_enter func51, ntmps51
 go_wp2_with (go_at_call 103; refine (H.o).mono ?_; rintro e w1 ⟨r, rfl, hr, hb1⟩)
 go_ret
 exact ⟨by rw [← hr]; rfl, hb1⟩)
end
section
open Go.RowKit
theorem fZ (regs : Int) (A : Option Addr) (l : List Nd) (cap : Nat) (w : World) (hl : l.length ≤ maxLen) (hA : bG w A l) :
    Calls prog 18 #[.agg #[.int .i64 regs, .slice A l.length cap]] w
      fun e w' => e = .returned (.int .i64 (chk regs l)) ∧ Below w.heap.size w w' := by
  unfold maxLen at hl
  by_cases h2 : (l.length : Int) < 1 ∨ 256 < (l.length : Int) ∨ regs < 1 ∨ 64 < regs
  · have hf : chk regs l = 2 := by rw [chk, if_pos h2]
    rw [hf]
    clear hf
    go_enter func18, ntmps18
    go_wp2_with fail
    all_goals go_tidy
    all_goals go_ret
    all_goals exact ⟨rfl, Ye⟩
  · have k1 : 1 ≤ (l.length : Int) := Zb
    have k2 : (l.length : Int) ≤ 256 := Zb
    have k3 : 1 ≤ regs := Zb
    have k4 : regs ≤ 64 := Zb
    have hany := nU A l cap
    cases h4 : (l.any fun n => !gH n.op)
    case true =>
      have hf : chk regs l = 4 := by rw [chk, if_neg h2, if_pos h4]
      rw [hf]
      have H4 := bA h4
      clear hf h4 h2 hany
      go_enter func18, ntmps18
      go_wp2_with (go_at_call 51; refine (nU _ _ _ _ hl (hA.below Ye)).mono ?_; rw [H4.o]; rintro e w1 ⟨rfl, hb1⟩)
      all_goals go_tidy
      all_goals go_ret
      all_goals exact ⟨rfl, Ye⟩
    case false =>
      have H4 := bA h4
      have hf : chk regs l = if (l.any (jU regs l.length)) = true then 3 else if (l.any badF) = true then 1 else 0 := by rw [chk, if_neg h2, if_neg (by simp [h4])]
      have Hf := bA hf
      clear hf h4 h2 hany
      have d1 : decide ((l.length : Int) < 1) = false := by simp; omega
      have d2 : decide (256 < (l.length : Int)) = false := by simp; omega
      have d3 : decide (regs < 1) = false := by simp; omega
      have d4 : decide (64 < regs) = false := by simp; omega
      go_enter func18, ntmps18
      go_wp2_with (go_at_call 51; refine (nU _ _ _ _ hl (hA.below Ye)).mono ?_; rw [H4.o]; rintro e w1 ⟨rfl, hb1⟩; obtain ⟨hc1, hf1⟩ := bB hb1; have hz1 := hb1.size; simp only [World.size_alloc] at hz1 hc1 hf1)
      go_loopw [42] (fun i wr => ∃ k : Nat, k ≤ l.length ∧ i = .int .i64 k ∧ (l.take k).any (jU regs l.length) = false ∧ Below w1.heap.size w1 wr) (fun i _ => l.length - (intOf i).toNat)
      case atStart => exact Ji
      case round =>
        obtain ⟨k, hk, rfl, hno, hbr⟩ := hrel
        have hzr := hbr.size
        have Hno := bA hno
        clear hno
        obtain ⟨hcr, hfr⟩ := bB hbr
        have hbA : Below w.heap.size w wr := Ye
        have g0 : wr.cell? ⟨w.heap.size, 0, none⟩ = some (.int .i64 regs) := by rw [hcr _ _ Zb, hc1 _ _ Zb]; simp
        have g1 : wr.cell? ⟨w.heap.size, 1, none⟩ = some (.slice A l.length cap) := by rw [hcr _ _ Zb, hc1 _ _ Zb]; simp
        have gl : w.heap.size < wr.heap.size := Zb
        clear hc1 hf1 hcr hfr
        by_cases hlt : k < l.length
        · obtain ⟨b, off, n, rfl, hbl, hkn, hn⟩ := hA.get hlt
          have Hkn := bA hkn
          clear hkn
          obtain ⟨c0, c1, c2, c3, c4, c5⟩ := hn.below hbA hbl
          have hbw : b < wr.heap.size := Zb
          go_wp2_with (first
            | (go_at_call 53; refine (zR _ _).mono ?_; rintro e w2 ⟨rfl, hbw2⟩; obtain ⟨hcw2, hfw2⟩ := bB hbw2; have hzw2 := hbw2.size; simp only [Sz] at hzw2 hcw2 hfw2; (try have hyw2 := Nat.lt_of_succ_le hzw2); (try have hxw2 := Nat.lt_of_succ_lt hyw2); have gl2 : w.heap.size < w2.heap.size := Zb)
            | (go_at_call 54; refine (bGO _ regs _ _ _ (by go_simp)).mono ?_; rintro e w' ⟨rfl, rfl⟩)
            | (go_at_call 55; refine (bGN _ (some ⟨b, off, none⟩) l.length cap _ _ _ (by go_simp)).mono ?_; rintro e w' ⟨rfl, rfl⟩))
          all_goals go_tidy
          all_goals try simp only [Bool.not_eq_true] at *
          all_goals first
            | (go_ret
               exact ⟨by rw [Hf.o, if_pos (fP _ l k n Hkn.o (by simp [jU, *]))]; rfl, Ye⟩)
            | (go_roundw
               case rel => exact ⟨k + 1, Zb, by go_num, by rw [dN _ l k n Hkn.o, Hno.o]; simp [jU, *], Ye⟩
               case measure => simp [intOf]; omega)
        · have hR : l.any (jU regs l.length) = false := by rw [← eB _ l k hlt, Hno.o]
          have Hf2 := bA (Hf.o.trans (if_neg (by simp [hR])))
          clear hR Hno Hf hbr hzr hb1 hz1
          go_wp2_with fail
          go_loopw [99] (fun i w2 => ∃ k : Nat, k ≤ l.length ∧ i = .int .i64 k ∧ (l.take k).any badF = false ∧ Below w.heap.size w w2) (fun i _ => l.length - (intOf i).toNat)
          case atStart => exact ⟨0, Nat.zero_le _, rfl, Zf, hbA⟩
          case round =>
            clear g0 g1 hbA hlt hk gl
            obtain ⟨k, hk, rfl, hno, hbr⟩ := hrel
            have hzr := hbr.size
            have Hno := bA hno
            clear hno
            by_cases hlt : k < l.length
            · obtain ⟨b, off, n, rfl, hbl, hkn, hn⟩ := hA.get hlt
              have Hkn := bA hkn
              clear hkn
              obtain ⟨c0, c1, c2, c3, c4, c5⟩ := hn.below hbr hbl
              have hbw := Vx hbl hzr
              go_wp2_with (first
                | (go_at_call 53; refine (zR _ _).mono ?_; rintro e w2 ⟨rfl, hbw2⟩; obtain ⟨hcw2, hfw2⟩ := bB hbw2; have hzw2 := hbw2.size; simp only [Sz] at hzw2 hcw2 hfw2; (try have hyw2 := Nat.lt_of_succ_le hzw2); (try have hxw2 := Nat.lt_of_succ_lt hyw2))
                | (go_at_call 56; refine (bGM _ _ _).mono ?_; rintro e w' ⟨rfl, rfl⟩))
              all_goals go_tidy
              all_goals try simp only [Bool.not_eq_true] at *
              all_goals first
                | (go_ret
                   exact ⟨by rw [Hf2.o, if_pos (fP _ l k n Hkn.o (by simp [badF, *]))]; rfl, Ye⟩)
                | (go_roundw
                   case rel => exact ⟨k + 1, Zb, by go_num, by rw [dN _ l k n Hkn.o, Hno.o]; simp [badF, *], Ye⟩
                   case measure => simp [intOf]; omega)
            · have hR : l.any badF = false := by rw [← eB _ l k hlt, Hno.o]
              have Hf3 := bA (Hf2.o.trans (if_neg (by simp [hR])))
              clear hR Hno Hf2
              go_wp2_with fail
              go_ret
              exact ⟨by rw [Hf3.o]; rfl, hbr⟩
end
section
open Go.RowKit
def eU (plus lt x : List Bool) (m : Nat) : Bool := yn plus m || yn lt m && yn x m
theorem bIN (bk em : Bool) (G P Q T X : Option Addr) (g p q t xn gc pc qc tc xc : Nat) (plus lt x : List Bool) (f h : Nat) (m : Nat) (w : World)
 (hQ : bH w Q (bE plus)) (hT : bH w T (bE lt)) (hX : bH w X (bE x)) (hq : plus.length = q) (ht : lt.length = t) (hx : x.length = xn)
 (hF : Blk w f 136 #[.bool bk, .bool em, .slice G g gc, .slice P p pc, .slice Q q qc, .slice T t tc]) (hH : Blk w h 70 #[.slice X xn xc])
 (m1 : m < q) (m2 : m < t) (m3 : m < xn) (hbig : q ≤ 65536 ∧ t ≤ 65536 ∧ xn ≤ 65536) :
 Calls prog 157 #[.int .i64 m, .pointer (some ⟨f, 0, none⟩), .pointer (some ⟨h, 0, none⟩)] w fun e w' => e = .returned (.bool (eU plus lt x m)) ∧ w = w' := by (
 obtain ⟨b1, b2, b3⟩ := hbig
 obtain ⟨qb, qo, rfl, _, cq⟩ := hQ.bool (k := m) Zb
 obtain ⟨tb, to_, rfl, _, ct⟩ := hT.bool (k := m) Zb
 obtain ⟨xb, xo, rfl, _, cx⟩ := hX.bool (k := m) Zb
 have f4 := hF.cell 4
 have f5 := hF.cell 5
 have h0 := hH.cell 0
 simp only [Yl] at f4 f5 h0
 clear hF hH hQ hT hX hq ht hx
 unfold eU
 cases h1 : yn plus m <;> cases h2 : yn lt m <;> cases h3 : yn x m <;> rw [h1] at cq <;> rw [h2] at ct <;> rw [h3] at cx <;> go_enter func157, ntmps157 <;> go_wp2
 all_goals go_tidy
 all_goals go_ret
 all_goals exact ⟨rfl, rfl⟩)
theorem xP {α : Type} (p : α → Bool) (l : List α) (k : Nat) (x : α) (h : l[k]? = some x) : (l.take (k + 1)).all p = ((l.take k).all p && p x) := by (
 rw [List.take_add_one, h]; simp)
theorem bDZ {α : Type} (p : α → Bool) (l : List α) (k : Nat) (x : α) (h : l[k]? = some x) (hp : p x = false) : l.all p = false :=
 List.all_eq_false.2 ⟨x, Vv h, by simp [hp]⟩
theorem bAN {α : Type} (p : α → Bool) (l : List α) (k : Nat) (h : ¬ k < l.length) : (l.take k).all p = l.all p := by (
 rw [List.take_of_length_le Zb])
theorem bOV (bk em : Bool) (G P Q T X R : Option Addr) (g p q t xn gc pc qc tc xc rc : Nat) (plus lt x : List Bool) (f h : Nat) (rs : List Int) (w : World)
 (hQ : bH w Q (bE plus)) (hT : bH w T (bE lt)) (hX : bH w X (bE x)) (hq : plus.length = q) (ht : lt.length = t) (hx : x.length = xn)
 (hF : Blk w f 136 #[.bool bk, .bool em, .slice G g gc, .slice P p pc, .slice Q q qc, .slice T t tc]) (hH : Blk w h 70 #[.slice X xn xc])
 (hR : bH w R (bO rs)) (hrs : ∀ r ∈ rs, 0 ≤ r ∧ r < q ∧ r < t ∧ r < xn) (hbig : q ≤ 65536 ∧ t ≤ 65536 ∧ xn ≤ 65536) (hrl : rs.length ≤ 65536) :
 Calls prog 156 #[.slice R rs.length rc, .func (.func 157) #[] #[.pointer (some ⟨f, 0, none⟩), .pointer (some ⟨h, 0, none⟩)]] w
  fun e w' => e = .returned (.bool (rs.all fun r => eU plus lt x r.toNat)) ∧ w = w' := by (
 have hone := fun (m : Nat) (m1 : m < q) (m2 : m < t) (m3 : m < xn) => bIN bk em G P Q T X g p q t xn gc pc qc tc xc plus lt x f h m w hQ hT hX hq ht hx hF hH m1 m2 m3 hbig
 have Hone := bA hone
 clear hone hQ hT hX hq ht hx hF hH hbig
 go_enter func156, ntmps156
 go_wp2
 go_loop [9] (fun i => ∃ k : Nat, k ≤ rs.length ∧ i = .int .i64 k ∧ (rs.take k).all (fun r => eU plus lt x r.toNat) = true) (fun i => rs.length - (intOf i).toNat)
 case atStart => exact ⟨0, Nat.zero_le _, rfl, Zf⟩
 case round => (
 obtain ⟨k, hk, rfl, hno⟩ := hrel
 have Hno := bA hno
 clear hno
 by_cases hlt : k < rs.length
 · (
 obtain ⟨b, off, v, rfl, hbl, hkn, hn⟩ := hR.get (k := k) (by rw [bJ]; exact hlt)
 rw [jP] at hkn
 obtain ⟨r, hr, rfl⟩ : ∃ r, rs[k]? = some r ∧ .int .i64 r = v := by simpa using hkn
 have hrr := hrs r (Vv hr)
 obtain ⟨m, rfl⟩ := Vy hrr.1
 have Hr := bA hr
 clear hkn hr
 have hp := Hone.o m Zb Zb Zb
 have Hp := bA hp
 clear hp
 cases ho : eU plus lt x m
 · (
 rw [ho] at Hp
 go_wp2_with (go_at_call 157; refine (Hp.o).mono ?_; rintro e w1 ⟨rfl, rfl⟩)
 go_ret
 exact ⟨by rw [bDZ _ rs k m Hr.o (by simpa using ho)]; rfl, rfl⟩)
 · (
 rw [ho] at Hp
 go_wp2_with (go_at_call 157; refine (Hp.o).mono ?_; rintro e w1 ⟨rfl, rfl⟩)
 go_round
 case rel => exact ⟨k + 1, Zb, by go_num, by rw [xP _ rs k m Hr.o, Hno.o]; simpa using ho⟩
 case measure => simp [intOf]; omega))
 · (
 go_wp2
 go_ret
 exact ⟨by rw [← bAN _ rs k hlt, Hno.o]; rfl, rfl⟩)))
def jY (em : Bool) (gen pass plus lt x : List Bool) (rs : List Int) (n : Nat) : Bool :=
 if yn gen n then true else if yn pass n then (if rs.length = 0 then em else rs.all fun r => eU plus lt x r.toNat) else false
theorem bLI (bk em : Bool) (G P Q T X R GB : Option Addr) (g p q t xn gc pc qc tc xc rc gb gbc : Nat) (gen pass plus lt x : List Bool) (rs : List Int) (GA nn n : Nat) (w : World)
 (hG : bH w G (bE gen)) (hP : bH w P (bE pass)) (hQ : bH w Q (bE plus)) (hT : bH w T (bE lt)) (hX : bH w X (bE x))
 (hg : gen.length = g) (hp : pass.length = p) (hq : plus.length = q) (ht : lt.length = t) (hx : x.length = xn)
 (hA : w.cell? ⟨GA, n, none⟩ = some (.slice R rs.length rc)) (hAl : GA < w.heap.size) (hn1 : n < nn) (hn2 : n < g) (hn3 : n < p)
 (hR : bH w R (bO rs)) (hrs : ∀ r ∈ rs, 0 ≤ r ∧ r < q ∧ r < t ∧ r < xn) (hbig : q ≤ 65536 ∧ t ≤ 65536 ∧ xn ≤ 65536) (hbig2 : g ≤ 65536 ∧ p ≤ 65536 ∧ nn ≤ 65536) (hrl : rs.length ≤ 65536) :
 Calls prog 129 #[.agg #[.slice (some ⟨GA, 0, none⟩) nn nn, .slice GB gb gbc], .agg #[.bool bk, .bool em, .slice G g gc, .slice P p pc, .slice Q q qc, .slice T t tc], .slice X xn xc, .int .i64 n] w
  fun e w' => e = .returned (.bool (jY em gen pass plus lt x rs n)) ∧ Below w.heap.size w w' := by (
 obtain ⟨b1, b2, b3⟩ := hbig
 obtain ⟨b4, b5, b6⟩ := hbig2
 obtain ⟨gb_, go_, rfl, hgl, cg⟩ := hG.bool (k := n) Zb
 obtain ⟨pb_, po_, rfl, hpl, cp⟩ := hP.bool (k := n) Zb
 have Hg := bA hg
 have Hp := bA hp
 have Hq := bA hq
 have Ht := bA ht
 have Hx := bA hx
 clear hg hp hq ht hx
 have g1 := Nat.lt_succ_of_lt hgl
 have g2 := Nat.lt_succ_of_lt g1
 have p1 := Nat.lt_succ_of_lt hpl
 have p2 := Nat.lt_succ_of_lt p1
 have a1 := Nat.lt_succ_of_lt hAl
 have a2 := Nat.lt_succ_of_lt a1
 simp only [Nat.succ_eq_add_one] at g1 g2 p1 p2 a1 a2
 unfold jY
 cases h1 : yn gen n
 case true => (
 rw [h1] at cg
 go_enter func129, ntmps129
 go_wp2
 go_ret
 exact ⟨rfl, Ye⟩)
 case false => (
 rw [h1] at cg
 cases h2 : yn pass n
 case false => (
 rw [h2] at cp
 go_enter func129, ntmps129
 go_wp2
 go_ret
 exact ⟨rfl, Ye⟩)
 case true => (
 rw [h2] at cp
 by_cases h3 : rs.length = 0
 · (
 have h3' : rs = [] := List.eq_nil_of_length_eq_zero h3
 subst h3'
 clear h3
 simp only [List.length_nil] at hA
 go_enter func129, ntmps129
 go_wp2
 go_ret
 exact ⟨rfl, Ye⟩)
 · (
 have h3' : ((rs.length : Int) == 0) = false := beq_eq_false_iff_ne.2 Zb
 rw [if_neg h3]
 clear h3
 go_enter func129, ntmps129
 go_wp2_with (go_at_call 156; refine (bOV bk em _ _ Q T X R g p q t xn gc pc qc tc xc rc plus lt x (w.heap.size + 1) (w.heap.size + 2) rs _ (hQ.below Ye) (hT.below Ye) (hX.below Ye) Hq.o Ht.o Hx.o Yf Yf (hR.below Ye) hrs ⟨b1, b2, b3⟩ hrl).mono ?_; rintro e w' ⟨rfl, rfl⟩)
 go_ret
 exact ⟨rfl, Ye⟩))))
end
section
open Go.RowKit
def bF (bk : Bool) (l : List Nd) (n : Nat) : List Int := sel (if bk then qL l n else fM l n) l.length
end
section
open Go.RowKit
theorem bDS {plus lt x y : List Bool} (h : leB x y) {m : Nat} (ha : eU plus lt x m = true) : eU plus lt y m = true := by (
 simp only [eU, Bool.or_eq_true, V4] at *
 rcases ha with ha | ⟨h1, h2⟩
 · exact .inl ha
 · exact .inr ⟨h1, h m h2⟩)
theorem bFB {em : Bool} {gen pass plus lt x y : List Bool} {rs : List Int} {n : Nat} (h : leB x y) (hs : jY em gen pass plus lt x rs n = true) : jY em gen pass plus lt y rs n = true := by (
 unfold jY at *
 split at hs
 · rename_i h1; rw [if_pos h1]
 · (
 rename_i h1
 rw [if_neg h1]
 split at hs
 · (
 rename_i h2
 rw [if_pos h2]
 split at hs
 · rename_i h3; rw [if_pos h3]; exact hs
 · (
 rename_i h3
 rw [if_neg h3]
 rw [List.all_eq_true] at *
 exact fun r hr => bDS h (hs r hr)))
 · cases hs))
theorem bBP {em : Bool} {gen pass plus lt x : List Bool} {rs rs' : List Int} {n : Nat} (h : ∀ m, m ∈ rs ↔ m ∈ rs') : jY em gen pass plus lt x rs n = jY em gen pass plus lt x rs' n := by (
 unfold jY
 have h0 : (rs.length = 0) = (rs'.length = 0) := by (
 simp only [List.length_eq_zero_iff, List.eq_nil_iff_forall_not_mem, h])
 have h1 : (rs.all fun r => eU plus lt x r.toNat) = (rs'.all fun r => eU plus lt x r.toNat) := by (
 rw [Bool.eq_iff_iff, List.all_eq_true, List.all_eq_true]
 simp only [h])
 simp only [h0, h1])
theorem bBO {em : Bool} {gen pass plus lt x y : List Bool} {rs : List Int} {n : Nat} (h : ∀ m ∈ rs, yn x m.toNat = yn y m.toNat) : jY em gen pass plus lt x rs n = jY em gen pass plus lt y rs n := by (
 unfold jY
 have h1 : (rs.all fun r => eU plus lt x r.toNat) = (rs.all fun r => eU plus lt y r.toNat) := by (
 rw [Bool.eq_iff_iff, List.all_eq_true, List.all_eq_true]
 refine forall_congr' fun m => forall_congr' fun hm => ?_
 unfold eU
 rw [h m hm])
 rw [h1])
def cO (bk em : Bool) (gen pass plus lt : List Bool) (l : List Nd) (x : List Bool) (n : Nat) : Bool := jY em gen pass plus lt x (bF bk l n) n
theorem dM (bk em : Bool) (gen pass plus lt : List Bool) (l : List Nd) : jG (cO bk em gen pass plus lt l) := fun _ _ _ h hs => bFB h hs
end
section
open Go.RowKit
section
variable (S : List Bool → Nat → Bool) (n : Nat)
def jI (x : List Bool) : Prop := x.length = n ∧ ∀ i, i < n → S x i = true → yn x i = true
def iI (x : List Bool) : Prop := x.length = n ∧ ∀ z, jI S n z → leB x z
def mB (x : List Bool) : Prop := Ans S n x ∧ iI S n x
variable {S n}
theorem iI.start {x : List Bool} (hl : x.length = n) (h : ∀ i, yn x i = false) : iI S n x := ⟨hl, fun z hz i hi => by rw [h i] at hi; cases hi⟩
theorem iI.put (hm : jG S) {x : List Bool} (h : iI S n x) {k : Nat} (hk : k < n) : iI S n (x.set k (S x k)) := by (
 refine ⟨by simpa using h.1, fun z hz i hi => ?_⟩
 rw [cI _ _ _ _ (by rw [h.1]; exact hk)] at hi
 by_cases hik : i = k
 · (
 subst hik
 rw [if_pos rfl] at hi
 exact hz.2 i hk (hm x z i (h.2 z hz) hi))
 · (
 rw [if_neg hik] at hi
 exact h.2 z hz i hi))
theorem bOJ {x : List Bool} {k : Nat} (hk : k < x.length) (hp : yn x k = true → S x k = true) : leB x (x.set k (S x k)) := fun i hi => by (
 rw [cI _ _ _ _ hk]
 split
 · rename_i h; subst h; exact hp hi
 · exact hi)
theorem bEJ.put (hm : jG S) {x : List Bool} (h : bEJ S n x) {k : Nat} (hk : k < n) : bEJ S n (x.set k (S x k)) := by (
 have hkx : k < x.length := by rw [h.1]; exact hk
 have hle := bOJ (S := S) hkx (h.2 k hk)
 refine ⟨by simpa using h.1, fun i hi hs => ?_⟩
 rw [cI _ _ _ _ hkx] at hs
 by_cases hik : i = k
 · (
 subst hik
 rw [if_pos rfl] at hs
 exact hm _ _ _ hle hs)
 · (
 rw [if_neg hik] at hs
 exact hm _ _ _ hle (h.2 i hi hs)))
theorem uS {x : List Bool} {k : Nat} (hk : k < x.length) (h0 : yn x k = false) : cnt (x.set k true) = cnt x + 1 := by (
 unfold cnt
 rw [List.count_set hk]
 have h1 : x[k] = false := by simpa [yn, hk] using h0
 simp [h1])
theorem mB.unique {x y : List Bool} (hx : mB S n x) (hy : mB S n y) : x = y := by (
 refine nJ (hx.1.1.trans hy.1.1.symm) fun i hi => ?_
 rw [Bool.eq_iff_iff]
 exact ⟨hx.2.2 y ⟨hy.1.1, fun j hj h => by rw [hy.1.2 j hj]; exact h⟩ i, hy.2.2 x ⟨hx.1.1, fun j hj h => by rw [hx.1.2 j hj]; exact h⟩ i⟩)
def iE (S : List Bool → Nat → Bool) (n c k : Nat) (x : List Bool) : Prop := bEJ S n x ∧ iI S n x ∧ (c < cnt x ∨ (c ≤ cnt x ∧ ∀ i, k ≤ i → i < n → yn x i = S x i) ∨ Ans S n x)
theorem zM {x : List Bool} {k : Nat} {b : Bool} (hk : k < x.length) (h : yn x k = b) : x.set k b = x := nJ Zf fun i _ => by (
 rw [cI _ _ _ _ hk]
 split
 · rename_i h'; subst h'; exact h.symm
 · rfl)
theorem iE.step (hm : jG S) {c k : Nat} {x : List Bool} (h : iE S n c (k + 1) x) (hk : k < n) : iE S n c k (x.set k (S x k)) := by (
 obtain ⟨hp, hu, hr⟩ := h
 have hkx : k < x.length := by rw [hp.1]; exact hk
 refine ⟨hp.put hm hk, hu.put hm hk, ?_⟩
 by_cases he : yn x k = S x k
 · (
 rw [zM hkx he]
 refine hr.imp id fun h => h.imp (fun ⟨hc, h⟩ => ⟨hc, fun i hi hin => ?_⟩) id
 rcases Nat.lt_or_ge k i with hlt | hge
 · exact h i hlt hin
 · (
 obtain rfl : i = k := Zb
 exact he))
 · (
 cases hx : yn x k with
 | true => exact absurd (hx.trans (hp.2 k hk hx).symm) he
 | false =>
  cases hs : S x k with
  | false => exact absurd (hx.trans hs.symm) he
  | true =>
   rw [uS hkx hx]
   rcases hr with hc | ⟨hc, _⟩ | ha
   · exact .inl Zb
   · exact .inl Zb
   · exact absurd (ha.2 k hk) he))
def mK (S : List Bool → Nat → Bool) (n c : Nat) (x : List Bool) : Prop := bEJ S n x ∧ iI S n x ∧ (c ≤ cnt x ∨ Ans S n x)
theorem mK.start {x : List Bool} (hl : x.length = n) (h : ∀ i, yn x i = false) : mK S n 0 x := ⟨⟨hl, fun i _ hi => by rw [h i] at hi; cases hi⟩, iI.start hl h, .inl (Nat.zero_le _)⟩
theorem mK.begin_ {c : Nat} {x : List Bool} (h : mK S n c x) : iE S n c n x := ⟨h.1, h.2.1, h.2.2.elim (fun h => .inr (.inl ⟨h, fun i hi hin => absurd hin Zb⟩)) fun h => .inr (.inr h)⟩
theorem iE.end_ {c : Nat} {x : List Bool} (h : iE S n c 0 x) : mK S n (c + 1) x :=
 ⟨h.1, h.2.1, h.2.2.elim (fun h => .inl Zb) fun h => .inr (h.elim (fun h => ⟨‹iE S n c 0 x›.1.1, fun i hi => h.2 i (Nat.zero_le _) hi⟩) id)⟩
theorem mK.least {x : List Bool} (h : mK S n (n + 1) x) : mB S n x := by (
 refine ⟨h.2.2.resolve_left fun hc => ?_, h.2.1⟩
 have := sY x
 rw [h.1.1] at this
 omega)
end
def yD (S : List Bool → Nat → Bool) : Nat → List Bool → List Bool
 | 0, x => x
 | k + 1, x => yD S k (x.set k (S x k))
def kP (S : List Bool → Nat → Bool) (n : Nat) : Nat → List Bool
 | 0 => List.replicate n false
 | c + 1 => yD S n (kP S n c)
theorem iE.sweep {S : List Bool → Nat → Bool} (hm : jG S) {n c : Nat} : ∀ (k : Nat) (x : List Bool), k ≤ n → iE S n c k x → iE S n c 0 (yD S k x)
 | 0, x, _, h => h
 | k + 1, x, hk, h => iE.sweep hm k _ Zb (h.step hm Zb)
theorem qG {S : List Bool → Nat → Bool} (hm : jG S) (n : Nat) : ∀ c, mK S n c (kP S n c)
 | 0 => mK.start (by simp [kP]) (fun i => by simp [kP, yn, Vt, List.getElem?_replicate]; split <;> simp)
 | c + 1 => (iE.sweep hm n _ (Nat.le_refl _) (qG hm n c).begin_).end_
def zX (S : List Bool → Nat → Bool) (n : Nat) : List Bool := kP S n (n + 1)
theorem iN {S : List Bool → Nat → Bool} (hm : jG S) (n : Nat) : mB S n (zX S n) := (qG hm n (n + 1)).least
theorem rX {S : List Bool → Nat → Bool} (hm : jG S) {n : Nat} {x : List Bool} (hc : jI S n x) (hu : iI S n x) : x = zX S n := by (
 have hl := iN hm n
 refine nJ (hc.1.trans hl.1.1.symm) fun i hi => ?_
 rw [Bool.eq_iff_iff]
 exact ⟨hu.2 _ ⟨hl.1.1, fun j hj h => by rw [hl.1.2 j hj]; exact h⟩ i, hl.2.2 x hc i⟩)
end
section
open Go.RowKit
def mk (n : Nat) (f : Nat → Bool) : List Bool := (List.range n).map f
theorem dC (n : Nat) (f : Nat → Bool) : (mk n f).length = n := by simp [mk]
theorem oM {n : Nat} {f : Nat → Bool} {k : Nat} (hk : k < n) : yn (mk n f) k = f k := by simp [yn, mk, hk]
theorem bMD {n : Nat} {f g : Nat → Bool} (h : ∀ k, k < n → f k = g k) : mk n f = mk n g := by (
 unfold mk
 exact List.map_congr_left fun k hk => h k Yb)
theorem mk_le {n : Nat} {f g : Nat → Bool} (h : ∀ j, f j = true → g j = true) : leB (mk n f) (mk n g) := fun j hj => by (
 by_cases hn : j < n
 · rw [oM hn] at *; exact h j hj
 · rw [zI (by rw [dC]; omega)] at hj; cases hj)
section
variable {S S' : List Bool → Nat → Bool} {n : Nat}
def kQ (S : List Bool → Nat → Bool) (n : Nat) (x : List Bool) (k : Nat) : Bool := S (mk n fun j => yn x j || j == k) k
theorem vG (hm : jG S) : jG (kQ S n) := fun x y i h hs => hm _ _ _ (mk_le fun j hj => by
 simp only [Bool.or_eq_true] at *
 exact hj.imp (h j) id) hs
theorem yG {x : List Bool} {k : Nat} (hl : x.length = n) (hk : k < n) : (mk n fun j => yn x j || j == k) = x.set k true := by (
 refine nJ (by rw [dC]; simp [hl]) fun i hi => ?_
 rw [dC] at hi
 rw [oM hi, cI _ _ _ _ (by rw [hl]; exact hk)]
 by_cases h : i = k
 · simp [h]
 · simp [h])
theorem eT.self (hm : jG S) {y : List Bool} (h : eT S n y) : eT (kQ S n) n y := by (
 obtain ⟨⟨hl, ha⟩, hab⟩ := h
 refine ⟨⟨hl, fun i hi => ?_⟩, hl, fun z hz => hab.2 z ⟨hz.1, fun i hi hzi => ?_⟩⟩
 · (
 unfold kQ
 rw [yG hl hi, Bool.eq_iff_iff]
 have hle : leB y (y.set i true) := fun j hj => by (
 rw [cI _ _ _ _ X6]
 split
 · rfl
 · exact hj)
 refine ⟨fun hy => hm _ _ _ hle (by rw [← ha i hi]; exact hy), fun hs => ?_⟩
 refine hab.2 (y.set i true) ⟨by simpa using hl, fun j hj hjz => ?_⟩ i (by rw [cI _ _ _ _ X6, if_pos rfl])
 by_cases hji : j = i
 · subst hji; exact hs
 · (
 rw [cI _ _ _ _ X6, if_neg hji] at hjz
 exact hm _ _ _ hle (by rw [← ha j hj]; exact hjz)))
 · (
 have := hz.2 i hi hzi
 unfold kQ at this
 rw [yG hz.1 hi, zM (by rw [hz.1]; exact hi) hzi] at this
 exact this))
def dO (S : List Bool → Nat → Bool) (n c k : Nat) (x : List Bool) : Prop :=
 mC S n x ∧ (∀ i, i < n → S x i = true → yn x i = true) ∧ ((∀ i, i < n → yn x i = true → S x i = true) ∨ cnt x + c + 1 ≤ n ∨ (cnt x + c ≤ n ∧ ∀ i, i < k → yn x i = true → S x i = true))
theorem dO.start {x : List Bool} (hl : x.length = n) (h : ∀ i, i < n → yn x i = true) : dO S n 0 0 x :=
 ⟨mC.start hl h, fun i hi _ => h i hi, .inr (.inr ⟨by have := sY x; omega, fun i hi => by omega⟩)⟩
theorem dO.len {c k : Nat} {x : List Bool} (h : dO S n c k x) : x.length = n := h.1.1
theorem dO.step (hm : jG S) {c k : Nat} {x : List Bool} (h : dO S n c k x) (hk : k < n) {b : Bool} (hb : b = S x k) : dO S n c (k + 1) (x.set k b) := by (
 subst hb
 obtain ⟨ha, hd, hs⟩ := h
 have hkx : k < x.length := by rw [ha.1]; exact hk
 by_cases he : yn x k = S x k
 · (
 rw [zM hkx he]
 refine ⟨ha, hd, hs.imp id (Or.imp id fun ⟨h1, h2⟩ => ⟨h1, fun i hi hy => ?_⟩)⟩
 by_cases hik : i = k
 · subst hik; rw [← he]; exact hy
 · exact h2 i Zb hy)
 · (
 have hsf : S x k = false := by (
 cases hq : S x k with
 | false => rfl
 | true => exact absurd ((hd k hk hq).trans hq.symm) he)
 have hyt : yn x k = true := by (
 cases hq : yn x k with
 | true => rfl
 | false => exact absurd (hq.trans hsf.symm) he)
 rw [hsf]
 have hle : leB (x.set k false) x := fun j hj => by (
 rw [cI _ _ _ _ hkx] at hj
 split at hj
 · cases hj
 · exact hj)
 refine ⟨ha.drop hm hk hsf, fun i hi hsi => ?_, ?_⟩
 · (
 have h1 := hm _ _ _ hle hsi
 rw [cI _ _ _ _ hkx, if_neg (by rintro rfl; rw [hsf] at h1; cases h1)]
 exact hd i hi h1)
 · (
 have hc := bOT hkx hyt
 rcases hs with h1 | h1 | ⟨h1, _⟩
 · (
 have := h1 k hk hyt
 rw [hsf] at this
 cases this)
 · exact .inr (.inl Zb)
 · exact .inr (.inl Zb))))
theorem dO.turn {c : Nat} {x : List Bool} (h : dO S n c n x) : dO S n (c + 1) 0 x := by (
 obtain ⟨ha, hd, hs⟩ := h
 refine ⟨ha, hd, ?_⟩
 rcases hs with h1 | h1 | ⟨_, h1⟩
 · exact .inl h1
 · exact .inr (.inr ⟨Zb, fun i hi => by omega⟩)
 · exact .inl h1)
theorem dO.great (hm : jG S) {c : Nat} {x : List Bool} (h : dO S n c 0 x) (hc : n < c) : eT S n x := by (
 obtain ⟨ha, hd, hs⟩ := h
 refine ha.great hm ?_
 rcases hs with h1 | h1 | ⟨h1, _⟩
 · exact h1
 · omega
 · omega)
end
def cL (t : Tm) (l : List Nd) : List Bool := mk l.length fun k => fJ t (nd l k)
def cE (t : Tm) (l : List Nd) : List Bool := mk l.length fun k => kZ t (nd l k)
def noL (n : Nat) : List Bool := List.replicate n false
def cQ (x : List Bool) : List Bool := mk x.length fun k => !yn x k
theorem bCB (x : List Bool) : (cQ x).length = x.length := dC _ _
theorem bAW (n k : Nat) : yn (noL n) k = false := by (
 unfold noL yn
 rw [Vt, List.getElem?_replicate]
 split <;> rfl)
theorem bEQ {x : List Bool} {k : Nat} (hk : k < x.length) : yn (cQ x) k = !yn x k := oM hk
def iQ (t : Tm) (l : List Nd) (d u : List Bool) : List Bool := mk l.length fun k => yn d k && ((bF false l k).length == 0 || (bF false l k).any fun m => !yn (cE t l) m.toNat || !yn d m.toNat && !yn u m.toNat)
def mY (t : Tm) (l : List Nd) (y : List Bool) : List Bool := mk l.length fun k => yn y k && (yn (cL t l) k || (bF true l k).any fun m => !yn y m.toNat)
structure Fx where
 down : List Bool
 up : List Bool
 early : List Bool
 delay : List Bool
 late : List Bool
 alone : List Bool
structure xT (t : Tm) (l : List Nd) (F : Fx) : Prop where
 down : eT (cO true false (cL t l) (cE t l) (noL l.length) (cQ (noL l.length)) l) l.length F.down
 up : eT (cO false false (noL l.length) (cQ (noL l.length)) (mk l.length fun k => yn (cE t l) k && yn (cL t l) k) (cE t l) l) l.length F.up
 early : F.early = iQ t l F.down F.up
 delay : eT (cO false false F.early (cQ (noL l.length)) (noL l.length) (cQ (cL t l)) l) l.length F.delay
 late : F.late = mY t l F.delay
 alone : eT (cO true true (noL l.length) (cQ (noL l.length)) F.late (cQ (cL t l)) l) l.length F.alone
theorem xT.unique {t : Tm} {l : List Nd} {F G : Fx} (hF : xT t l F) (hG : xT t l G) : F = G := by (
 obtain ⟨a, b, c, d, e, f⟩ := F
 obtain ⟨a', b', c', d', e', f'⟩ := G
 obtain ⟨h1, h2, h3, h4, h5, h6⟩ := hF
 obtain ⟨g1, g2, g3, g4, g5, g6⟩ := hG
 simp only at *
 have e1 := h1.unique g1
 have e2 := h2.unique g2
 subst e1 e2
 have e3 : c = c' := h3.trans g3.symm
 subst e3
 have e4 := h4.unique g4
 subst e4
 have e5 : e = e' := h5.trans g5.symm
 subst e5
 have e6 := h6.unique g6
 subst e6
 rfl)
theorem xT.len {t : Tm} {l : List Nd} {F : Fx} (h : xT t l F) : F.down.length = l.length ∧ F.up.length = l.length ∧ F.early.length = l.length ∧ F.delay.length = l.length ∧ F.late.length = l.length ∧ F.alone.length = l.length :=
 ⟨h.down.1.1, h.up.1.1, by rw [h.early]; exact dC _ _, h.delay.1.1, by rw [h.late]; exact dC _ _, h.alone.1.1⟩
end
section
open Go.RowKit
theorem mZ {bk : Bool} {l : List Nd} {k : Nat} {m : Int} (h : m ∈ bF bk l k) : m.toNat < l.length := by (
 unfold bF at h
 obtain ⟨i, hi, _, rfl⟩ := jK.1 h
 simpa using hi)
theorem zH {n k : Nat} (hk : k < n) : yn (cQ (noL n)) k = true := by (
 rw [bEQ (by simpa [noL] using hk), bAW]; rfl)
theorem uU {t : Tm} {l : List Nd} {k : Nat} {n : Nd} (hn : l[k]? = some n) : yn (cL t l) k = fJ t n := by (
 rw [cL, oM (List.getElem?_eq_some_iff.1 hn).1, dH hn])
theorem zJ {t : Tm} {l : List Nd} {k : Nat} {n : Nd} (hn : l[k]? = some n) : yn (cE t l) k = kZ t n := by (
 rw [cE, oM (List.getElem?_eq_some_iff.1 hn).1, dH hn])
theorem vJ (t : Tm) (l : List Nd) : (cL t l).length = l.length := dC _ _
theorem bJG (t : Tm) (l : List Nd) : (cE t l).length = l.length := dC _ _
theorem qD {es : List Int} {p q : Int → Bool} (h : ∀ m ∈ es, p m = q m) : es.all p = es.all q := by (
 rw [Bool.eq_iff_iff, List.all_eq_true, List.all_eq_true]
 exact forall_congr' fun m => forall_congr' fun hm => by rw [h m hm])
def bDC (t : Tm) (l : List Nd) (x : List Bool) (k : Nat) : Bool := yn (cL t l) k || yn (cE t l) k && decide (0 < (bF true l k).length) && (bF true l k).all fun m => yn x m.toNat
def upV (t : Tm) (l : List Nd) (x : List Bool) (k : Nat) : Bool := decide (0 < (bF false l k).length) && (bF false l k).all fun m => yn (cE t l) m.toNat && ((yn x m.toNat || m.toNat == k) || yn (cL t l) m.toNat)
def bAF (t : Tm) (l : List Nd) (e x : List Bool) (k : Nat) : Bool := yn e k || decide (0 < (bF false l k).length) && (bF false l k).all fun m => yn x m.toNat && !yn (cL t l) m.toNat
def bAM (t : Tm) (l : List Nd) (f x : List Bool) (k : Nat) : Bool := (bF true l k).all fun m => yn f m.toNat || !yn (cL t l) m.toNat && (yn x m.toNat || m.toNat == k)
theorem bOS (t : Tm) (l : List Nd) (x : List Bool) {k : Nat} (hk : k < l.length) : cO true false (cL t l) (cE t l) (noL l.length) (cQ (noL l.length)) l x k = bDC t l x k := by (
 unfold cO jY bDC
 have h : ((bF true l k).all fun r => eU (noL l.length) (cQ (noL l.length)) x r.toNat) = (bF true l k).all fun m => yn x m.toNat := qD fun m hm => by (
 rw [eU, bAW, zH (mZ hm)]; simp)
 rw [h]
 cases yn (cL t l) k <;> cases yn (cE t l) k <;> rcases hE : bF true l k with _ | ⟨e0, es⟩ <;> simp)
theorem up_eq (t : Tm) (l : List Nd) (x : List Bool) {k : Nat} (hk : k < l.length) : kQ (cO false false (noL l.length) (cQ (noL l.length)) (mk l.length fun k => yn (cE t l) k && yn (cL t l) k) (cE t l) l) l.length x k = upV t l x k := by (
 unfold kQ cO jY upV
 have h : ((bF false l k).all fun r => eU (mk l.length fun k => yn (cE t l) k && yn (cL t l) k) (cE t l) (mk l.length fun j => yn x j || j == k) r.toNat) = (bF false l k).all fun m => yn (cE t l) m.toNat && ((yn x m.toNat || m.toNat == k) || yn (cL t l) m.toNat) := qD fun m hm => by (
 have hlt := mZ hm
 rw [eU, oM hlt, oM hlt]
 cases yn (cE t l) m.toNat <;> cases yn (cL t l) m.toNat <;> simp)
 rw [h, bAW, zH hk]
 rcases hE : bF false l k with _ | ⟨e0, es⟩ <;> simp)
theorem bMT (t : Tm) (l : List Nd) (e x : List Bool) {k : Nat} (hk : k < l.length) : cO false false e (cQ (noL l.length)) (noL l.length) (cQ (cL t l)) l x k = bAF t l e x k := by (
 unfold cO jY bAF
 have h : ((bF false l k).all fun r => eU (noL l.length) (cQ (cL t l)) x r.toNat) = (bF false l k).all fun m => yn x m.toNat && !yn (cL t l) m.toNat := qD fun m hm => by (
 rw [eU, bAW, bEQ (by rw [vJ]; exact mZ hm)]
 cases yn x m.toNat <;> cases yn (cL t l) m.toNat <;> rfl)
 rw [h, zH hk]
 cases yn e k <;> rcases hE : bF false l k with _ | ⟨e0, es⟩ <;> simp)
theorem bNA (t : Tm) (l : List Nd) (f x : List Bool) {k : Nat} (hk : k < l.length) : kQ (cO true true (noL l.length) (cQ (noL l.length)) f (cQ (cL t l)) l) l.length x k = bAM t l f x k := by (
 unfold kQ cO jY bAM
 have h : ((bF true l k).all fun r => eU f (cQ (cL t l)) (mk l.length fun j => yn x j || j == k) r.toNat) = (bF true l k).all fun m => yn f m.toNat || !yn (cL t l) m.toNat && (yn x m.toNat || m.toNat == k) := qD fun m hm => by (
 have hlt := mZ hm
 rw [eU, oM hlt, bEQ (by rw [vJ]; exact hlt)])
 rw [h, bAW, zH hk]
 rcases hE : bF true l k with _ | ⟨e0, es⟩ <;> simp)
end
section
open Go.RowKit
def dT (l : List Nd) (x : List Bool) (i : Nat) : Bool := i == 0 || (List.range l.length).any fun j => yn x j && bU (l.getD j default) i
theorem jM (l : List Nd) : jG (dT l) := fun x y i h hs => by (
 unfold dT at *
 simp only [Bool.or_eq_true, List.any_eq_true, V4] at *
 exact hs.imp id fun ⟨j, hj, h1, h2⟩ => ⟨j, hj, h j h1, h2⟩)
def dL (l : List Nd) : List Bool := zX (dT l) l.length
theorem kR (l : List Nd) : (dL l).length = l.length := (iN (jM l) l.length).1.1
def oU (l : List Nd) (x : List Bool) (j : Nat) : Prop := ∀ n, l[j]? = some n → ∀ m : Nat, bU n m = true → yn x m = true
theorem rO {l : List Nd} {x : List Bool} (hl : x.length = l.length) (h0 : yn x 0 = true) (h : ∀ j, j < l.length → yn x j = true → oU l x j) : jI (dT l) l.length x := by (
 refine ⟨hl, fun i hi hs => ?_⟩
 unfold dT at hs
 simp only [Bool.or_eq_true, List.any_eq_true, V4, beq_iff_eq, List.mem_range] at hs
 rcases hs with rfl | ⟨j, hj, h1, h2⟩
 · exact h0
 · (
 have hn : l[j]? = some l[j] := Vs hj
 rw [Vt, hn] at h2
 exact h j hj h1 _ hn i h2))
theorem jI.shut {l : List Nd} {x : List Bool} (h : jI (dT l) l.length x) {j : Nat} (hj : yn x j = true) (hb : ∀ n, l[j]? = some n → ∀ m : Nat, bU n m = true → m < l.length) : oU l x j := fun n hn m hm => by (
 refine h.2 m (hb n hn m hm) ?_
 unfold dT
 simp only [Bool.or_eq_true, List.any_eq_true, V4, beq_iff_eq, List.mem_range]
 refine .inr ⟨j, (List.getElem?_eq_some_iff.1 hn).1, hj, ?_⟩
 rw [Vt, hn]
 exact hm)
theorem tK (l : List Nd) (hl : 1 ≤ l.length) : iI (dT l) l.length ((List.replicate l.length false).set 0 true) := by (
 refine ⟨Zf, fun z hz i hi => ?_⟩
 rw [cI _ _ _ _ Zh] at hi
 by_cases h0 : i = 0
 · (
 subst h0
 exact hz.2 0 Zb (by simp [dT]))
 · (
 rw [if_neg h0] at hi
 simp [yn, Vt, List.getElem?_replicate] at hi
 split at hi <;> simp at hi))
theorem xZ {l : List Nd} {x : List Bool} (h : iI (dT l) l.length x) {j m : Nat} {n : Nd} (hj : yn x j = true) (hn : l[j]? = some n) (hm : bU n m = true) (hml : m < l.length) : iI (dT l) l.length (x.set m true) := by (
 refine ⟨by simpa using h.1, fun z hz i hi => ?_⟩
 rw [cI _ _ _ _ (by rw [h.1]; exact hml)] at hi
 by_cases him : i = m
 · (
 subst him
 refine hz.2 i hml ?_
 unfold dT
 simp only [Bool.or_eq_true, List.any_eq_true, V4, beq_iff_eq, List.mem_range]
 refine .inr ⟨j, (List.getElem?_eq_some_iff.1 hn).1, h.2 z hz j hj, ?_⟩
 rw [Vt, hn]
 exact hm)
 · (
 rw [if_neg him] at hi
 exact h.2 z hz i hi))
theorem eW {x : List Bool} {m i : Nat} (hm : m < x.length) (h : yn x i = true) : yn (x.set m true) i = true := by (
 rw [cI _ _ _ _ hm]
 split
 · rfl
 · exact h)
theorem gJ {n : Nd} (h : n.op ≠ 12) : bU n n.t = true := by simp [bU, h]
theorem iF {n : Nd} (h : n.op = 11) : bU n n.e = true := by simp [bU, h]
theorem dF {n : Nd} {m : Int} (h : bU n m = true) : (n.op ≠ 12 ∧ m = n.t) ∨ (n.op = 11 ∧ m = n.e) := by (
 simp only [bU, Bool.or_eq_true, V4, bne_iff_ne, beq_iff_eq, ne_eq] at h
 rcases h with ⟨h1, h2⟩ | ⟨h1, h2⟩
 · exact .inl ⟨h1, h2.symm⟩
 · exact .inr ⟨h1, h2.symm⟩)
theorem xF {x : List Bool} {k : Nat} (hk : k < x.length) (h : yn x k = true) : x.set k true = x := zM hk h
structure fX (l : List Nd) (c k : Nat) (x : List Bool) : Prop where
 under : iI (dT l) l.length x
 zero : yn x 0 = true
 way : c + 1 < cnt x ∨ (c + 1 ≤ cnt x ∧ ∀ j, j < k → yn x j = true → oU l x j) ∨ jI (dT l) l.length x
theorem bAH {x : List Bool} {i : Nat} (h : yn x i = true) : 1 ≤ cnt x := by (
 have hi : i < x.length := by (
 rcases Nat.lt_or_ge i x.length with h1 | h1
 · exact h1
 · rw [zI h1] at h; cases h)
 unfold cnt
 refine List.count_pos_iff.2 ?_
 have : x[i] = true := by simpa [yn, hi] using h
 rw [← this]
 exact List.getElem_mem hi)
theorem fX.add {l : List Nd} {c k : Nat} {x : List Bool} (h : fX l c k x) {j m : Nat} {n : Nd} (hj : yn x j = true) (hn : l[j]? = some n) (hm : bU n m = true) (hml : m < l.length) (hb : ∀ n, l[j]? = some n → ∀ m : Nat, bU n m = true → m < l.length) :
 fX l c k (x.set m true) := by (
 have hxl : m < x.length := by rw [h.under.1]; exact hml
 refine ⟨xZ h.under hj hn hm hml, eW hxl h.zero, ?_⟩
 cases hy : yn x m with
 | true => rw [xF hxl hy]; exact h.way
 | false =>
  have hcnt : cnt (x.set m true) = cnt x + 1 := uS hxl hy
  rcases h.way with h1 | ⟨h1, _⟩ | h1
  · exact .inl Zb
  · exact .inl Zb
  · (
 have := h1.shut hj hb n hn m hm
 rw [hy] at this
 cases this))
theorem fX.start {l : List Nd} {c : Nat} {x : List Bool} (h : iI (dT l) l.length x) (h0 : yn x 0 = true) (hw : c + 1 ≤ cnt x ∨ jI (dT l) l.length x) : fX l c 0 x :=
 ⟨h, h0, hw.elim (fun h => .inr (.inl ⟨h, fun j hj => absurd hj Zb⟩)) fun h => .inr (.inr h)⟩
theorem fX.next {l : List Nd} {c k : Nat} {x : List Bool} (h : fX l c k x) (hs : yn x k = true → oU l x k) : fX l c (k + 1) x :=
 ⟨h.under, h.zero, h.way.imp id fun h => h.imp (fun ⟨h1, h2⟩ => ⟨h1, fun j hj hy => by
  by_cases hjk : j = k
  · subst hjk; exact hs hy
  · exact h2 j Zb hy⟩) id⟩
theorem fX.end_ {l : List Nd} {c : Nat} {x : List Bool} (h : fX l c l.length x) : c + 1 + 1 ≤ cnt x ∨ jI (dT l) l.length x := by (
 rcases h.way with h1 | ⟨h1, h2⟩ | h1
 · exact .inl Zb
 · exact .inr (rO h.under.1 h.zero h2)
 · exact .inr h1)
theorem bFF {l : List Nd} {x : List Bool} (h : iI (dT l) l.length x) (hw : l.length + 1 ≤ cnt x ∨ jI (dT l) l.length x) : x = dL l := by (
 rcases hw with h1 | h1
 · (
 have := sY x
 rw [h.1] at this
 omega)
 · exact rX (jM l) h1 h)
end
section
open Go.RowKit
def rk (x : List Bool) : Nat → Nat
 | 0 => 0
 | k + 1 => rk x k + (if yn x k = true then 1 else 0)
theorem rN (x : List Bool) : ∀ k, rk x k ≤ k
 | 0 => Nat.le_refl _
 | k + 1 => by (
 have := rN x k
 unfold rk
 split <;> omega)
theorem vI {x : List Bool} {k : Nat} (h : yn x k = true) : rk x (k + 1) = rk x k + 1 := by simp [rk, h]
theorem bLM {x : List Bool} {k : Nat} (h : yn x k = false) : rk x (k + 1) = rk x k := by simp [rk, h]
def jW (x : List Bool) (n : Nd) : Nd := { n with t := if n.op = 12 then n.t else (rk x n.t.toNat : Nat), e := if n.op = 11 then (rk x n.e.toNat : Nat) else n.e }
def dS (x : List Bool) (l : List Nd) : Nat → List Nd
 | 0 => []
 | k + 1 => dS x l k ++ (if yn x k = true then [jW x (l.getD k default)] else [])
theorem kM (x : List Bool) (l : List Nd) : ∀ k, (dS x l k).length = rk x k
 | 0 => rfl
 | k + 1 => by (
 unfold dS rk
 rw [Vu, kM x l k]
 split <;> simp)
theorem kK {x : List Bool} {l : List Nd} {k : Nat} {n : Nd} (h : yn x k = true) (hn : l[k]? = some n) : dS x l (k + 1) = dS x l k ++ [jW x n] := by (
 have : l.getD k default = n := by rw [Vt, hn]; rfl
 rw [dS, if_pos h, this])
theorem sK {x : List Bool} {l : List Nd} {k : Nat} (h : yn x k = false) : dS x l (k + 1) = dS x l k := by rw [dS, if_neg Xi, List.append_nil]
def iL (l : List Nd) : List Nd := dS (dL l) l l.length
theorem sL (l : List Nd) : (iL l).length ≤ l.length := by (
 unfold iL
 rw [kM]
 exact rN _ _)
theorem nD {l : List Nd} {k : Nat} {n : Nd} (hk : yn (dL l) k = true) (hn : l[k]? = some n) {m : Nat} (hm : bU n m = true) (hb : ∀ m : Nat, bU n m = true → m < l.length) : yn (dL l) m = true := by (
 have hc : jI (dT l) l.length (dL l) := by have h := (iN (jM l) l.length).1; exact ⟨h.1, fun i hi hs => (h.2 i hi).trans hs⟩
 refine jI.shut hc hk (fun n2 h2 m hm => ?_) n hn m hm
 rw [hn] at h2
 injection h2 with h2
 subst h2
 exact hb m hm)
end
section
open Go.RowKit
def cS : List Nd → List Value
 | [] => []
 | n :: l => n.cells ++ cS l
theorem Nd.cells_len (n : Nd) : n.cells.length = 6 := rfl
theorem kV (l : List Nd) : (cS l).length = l.length * 6 := by (
 induction l with
 | nil => rfl
 | cons n l ih => simp only [cS, Vu, Nd.cells_len, ih, List.length_cons]; omega)
theorem xJ (a b : List Nd) : cS (a ++ b) = cS a ++ cS b := by (
 induction a with
 | nil => rfl
 | cons n a ih => simp only [List.cons_append, cS, ih, List.append_assoc])
theorem kW : ∀ (l : List Nd) (i j : Nat), j < 6 → (cS l)[i * 6 + j]? = (l[i]?).bind fun n => n.cells[j]?
 | [], i, j, hj => by simp [cS]
 | n :: l, 0, j, hj => by (
 simp only [cS, Nat.zero_mul, Nat.zero_add, List.getElem?_cons_zero, Option.bind_some]
 rw [Ue (by rw [Nd.cells_len]; exact hj)])
 | n :: l, i + 1, j, hj => by (
 simp only [cS, List.getElem?_cons_succ]
 rw [Uf (by rw [Nd.cells_len]; omega), Nd.cells_len, show (i + 1) * 6 + j - 6 = i * 6 + j by omega]
 exact kW l i j hj)
theorem bFM (l : List Nd) : ∀ u ∈ cS l, u.oneCell' = true := by (
 induction l with
 | nil => intro u hu; cases hu
 | cons n l ih =>
  intro u hu
  simp only [cS, Ug] at hu
  rcases hu with hu | hu
  · (
 simp only [Nd.cells, Uh, List.not_mem_nil, or_false] at hu
 rcases hu with rfl | rfl | rfl | rfl | rfl | rfl <;> rfl)
  · exact ih u hu)
def Nd.put (n : Nd) : Nat → Int → Nd
 | 0, x => { n with op := x }
 | 1, x => { n with d := x }
 | 2, x => { n with a := x }
 | 3, x => { n with b := x }
 | 4, x => { n with t := x }
 | _, x => { n with e := x }
theorem Nd.put_cells (n : Nd) (j : Nat) (x : Int) (hj : j < 6) : (n.put j x).cells = n.cells.set j (.int .i64 x) := by (
 rcases j with _ | _ | _ | _ | _ | _ | j <;> first | rfl | omega)
theorem bCM {n : Nd} {w : World} {b off : Nat} : n.lies w b off ↔ ∀ j, j < 6 → w.cell? ⟨b, off + j, none⟩ = n.cells[j]? := by (
 constructor
 · (
 rintro ⟨h0, h1, h2, h3, h4, h5⟩ j hj
 match j, hj with
 | 0, _ => exact h0
 | 1, _ => exact h1
 | 2, _ => exact h2
 | 3, _ => exact h3
 | 4, _ => exact h4
 | 5, _ => exact h5)
 · (
 intro h
 exact ⟨h 0 Zb, h 1 Zb, h 2 Zb, h 3 Zb, h 4 Zb, h 5 Zb⟩))
theorem bG.cell {w : World} {b off : Nat} {l : List Nd} (h : bG w (some ⟨b, off, none⟩) l) (k : Nat) (hk : k < l.length * 6) : w.cell? ⟨b, off + k, none⟩ = (cS l)[k]? := by (
 have hd : k / 6 < l.length := Zb
 obtain ⟨b', off', n, e, _, hn, hl⟩ := h.get hd
 injection e with e
 injection e with e1 e2
 subst e1 e2
 have h6 : k % 6 < 6 := Nat.mod_lt _ Zb
 have := bCM.1 hl (k % 6) h6
 rw [show off + k / 6 * 6 + k % 6 = off + k by omega] at this
 have hg := kW l (k / 6) (k % 6) h6
 rw [show k / 6 * 6 + k % 6 = k by omega, hn] at hg
 rw [this, hg]
 rfl)
def bK (w : World) (base : Nat) (e : TypeId) (v : Value) (l : List Nd) : Prop := w.ownsRow base e 6 v l.length (cS l)
section
variable {w w' : World} {base : Nat} {e : TypeId} {v : Value} {l : List Nd}
theorem bK.nil_ (w : World) (base : Nat) (e : TypeId) : bK w base e (.slice none 0 0) [] := ⟨rfl, .inl ⟨rfl, rfl⟩⟩
theorem bK.open (h : bK w base e v l) : (v = .slice none 0 0 ∧ l = []) ∨ ∃ g cap cur, v = .slice (some ⟨g, 0, none⟩) l.length cap ∧ base ≤ g ∧ w.heap[g]? = some (.cells cur e (0, 0)) ∧ l.length ≤ cap ∧ cap ≤ maxLen ∧ cur.size = cap * 6 ∧
 ∀ k, k < l.length * 6 → cur[k]? = (cS l)[k]? := by (
 obtain ⟨hl, ⟨hv, hn⟩ | ⟨g, cap, cur, hv, hb, hh, h1, h2, h3, h4⟩⟩ := h
 · exact Jg
 · (
 refine .inr ⟨g, cap, cur, hv, hb, hh, h1, h2, h3, fun k hk => ?_⟩
 rw [← h4, List.getElem?_take, if_pos hk, Array.getElem?_toList]))
theorem bK.close {g cap : Nat} {cur : Array Value} (hb : base ≤ g) (hh : w.heap[g]? = some (.cells cur e (0, 0))) (h1 : l.length ≤ cap) (h2 : cap ≤ maxLen) (h3 : cur.size = cap * 6)
 (h4 : ∀ k, k < l.length * 6 → cur[k]? = (cS l)[k]?) : bK w base e (.slice (some ⟨g, 0, none⟩) l.length cap) l := by (
 refine ⟨kV l, .inr ⟨g, cap, cur, rfl, hb, hh, h1, h2, h3, ?_⟩⟩
 refine List.ext_getElem? fun k => ?_
 rw [List.getElem?_take]
 split
 · (
 rename_i hk
 rw [Array.getElem?_toList]
 exact h4 k hk)
 · (
 rename_i hk
 rw [List.getElem?_eq_none (by rw [kV]; omega)]))
theorem bK.lt (h : bK w base e v l) : ∀ k, v.ownBlock = some k → base ≤ k ∧ k < w.heap.size := by (
 rintro k hk
 rcases h.open with ⟨rfl, _⟩ | ⟨g, cap, cur, rfl, hb, hh, _⟩
 · simp [Value.ownBlock] at hk
 · (
 simp [Value.ownBlock] at hk
 subst hk
 exact ⟨hb, bW hh⟩))
theorem bK.of_block (h : bK w base e v l) (hk : ∀ k, v.ownBlock = some k → w'.heap[k]? = w.heap[k]?) : bK w' base e v l := by (
 obtain ⟨hl, ⟨hv, hn⟩ | ⟨g, cap, cur, hv, hb, hh, r⟩⟩ := h
 · exact ⟨hl, .inl ⟨hv, hn⟩⟩
 · exact ⟨hl, .inr ⟨g, cap, cur, hv, hb, (hk g (by rw [hv]; rfl)).trans hh, r⟩⟩)
theorem bK.kept {row : Option Nat} (h : bK w base e v l) (hg : w.grownBy w' row) (hne : v.ownBlock = none ∨ v.ownBlock ≠ row) : bK w' base e v l :=
 h.of_block fun k hk => hg.block k (h.lt k hk).2 (by
  rcases hne with hn | hn
  · rw [hn] at hk; cases hk
  · rw [← hk]; exact hn)
theorem bK.below {B : Nat} (h : bK w base e v l) (hb : Below B w w') (hB : ∀ k, v.ownBlock = some k → k < B) : bK w' base e v l := h.of_block fun k hk => hb.block k (hB k hk)
theorem bK.below' (h : bK w base e v l) (hb : Below w.heap.size w w') : bK w' base e v l := h.of_block fun k hk => hb.block k (h.lt k hk).2
theorem bK.alloc (h : bK w base e v l) (o : Obj) : bK (w.alloc o) base e v l := h.of_block fun k hk => Below.heap_alloc w o k (h.lt k hk).2
theorem bK.drew (h : bK w base e v l) : bK w.drew base e v l := h
theorem bK.drewN (h : bK w base e v l) (n : Nat) : bK (w.drewN n) base e v l := h
theorem bK.far (h : bK w base e v l) {p : Addr} (hp : v.ownBlock ≠ some p.block) (u : Value) : bK (w.setCell p u) base e v l :=
 h.of_block fun k hk => Below.heap_setCell w p u k (by rintro rfl; exact hp hk)
theorem bK.mono {base' : Nat} (h : bK w base e v l) (hb : base' ≤ base) : bK w base' e v l := by (
 obtain ⟨hl, h | ⟨g, cap, cur, hv, hg, r⟩⟩ := h
 · exact ⟨hl, .inl h⟩
 · exact ⟨hl, .inr ⟨g, cap, cur, hv, Nat.le_trans hb hg, r⟩⟩)
theorem bK.shape (h : bK w base e v l) : ∃ A cap, v = .slice A l.length cap ∧ l.length ≤ cap ∧ cap ≤ maxLen := by (
 rcases h.open with ⟨rfl, rfl⟩ | ⟨g, cap, cur, rfl, _, _, hc, hm, _⟩
 · exact Jd
 · exact ⟨_, cap, rfl, hc, hm⟩)
theorem bK.nodes {A : Option Addr} {n cap : Nat} (h : bK w base e (.slice A n cap) l) : bG w A l := fun hn => by (
 rcases h.open with ⟨_, rfl⟩ | ⟨g, cap, cur, hv, hb, hh, _, _, _, hc⟩
 · exact absurd rfl hn
 · (
 injection hv with hA
 subst hA
 refine ⟨g, 0, rfl, bW hh, fun i n hi => bCM.2 fun j hj => ?_⟩
 have hlt : i < l.length := (List.getElem?_eq_some_iff.1 hi).1
 have := hc (i * 6 + j) Zb
 rw [kW l i j hj, hi] at this
 rw [Nat.zero_add]
 simp only [World.cell?, hh, this]
 simp))
theorem bK.get (h : bK w base e v l) {k : Nat} (hk : k < l.length) :
 ∃ g cap n, v = .slice (some ⟨g, 0, none⟩) l.length cap ∧ base ≤ g ∧ g < w.heap.size ∧ l[k]? = some n ∧ n.lies w g (k * 6) ∧ ∀ j, j < l.length * 6 → w.frozen? ⟨g, j, none⟩ = false := by (
 have hN := h.shape
 rcases h.open with ⟨_, rfl⟩ | ⟨g, cap, cur, rfl, hb, hh, hcl, hcm, hcs, hc⟩
 · simp at hk
 · (
 have hn := (h.nodes).get hk
 obtain ⟨b, off, n, e1, _, hn, hl⟩ := hn
 injection e1 with e1
 injection e1 with e1 e2
 subst e1 e2
 rw [Nat.zero_add] at hl
 exact ⟨g, cap, n, rfl, hb, bW hh, hn, hl, fun j hj => by simp [World.frozen?, hh]⟩))
theorem bK.store {g n cap : Nat} (h : bK w base e (.slice (some ⟨g, 0, none⟩) n cap) l) {k j : Nat} {x : Nd} (hk : l[k]? = some x) (hj : j < 6) (z : Int) :
 bK (w.setCell ⟨g, k * 6 + j, none⟩ (.int .i64 z)) base e (.slice (some ⟨g, 0, none⟩) n cap) (l.set k (x.put j z)) := by (
 have hlt : k < l.length := (List.getElem?_eq_some_iff.1 hk).1
 rcases h.open with ⟨hv, _⟩ | ⟨g', cap', cur, hv, hb, hh, h1, h2, h3, hc⟩
 · cases hv
 · (
 injection hv with hA hn hcp
 injection hA with hA
 injection hA with hg _
 subst hg hn hcp
 have := bK.close (w := w.setCell ⟨g, k * 6 + j, none⟩ (.int .i64 z)) (base := base) (e := e) (g := g) (cap := cap) (l := l.set k (x.put j z)) hb (gP hh _) (by simpa using h1) h2 (by simpa using h3) (fun i hi => ?_)
 · rwa [List.length_set] at this
 · (
 rw [List.length_set] at hi
 rw [Array.getElem?_setIfInBounds]
 have e6 : i % 6 < 6 := Nat.mod_lt _ Zb
 have ei : i = i / 6 * 6 + i % 6 := Zb
 have hget : (cS (l.set k (x.put j z)))[i]? = ((l.set k (x.put j z))[i / 6]?).bind fun n => n.cells[i % 6]? := by (
 have := kW (l.set k (x.put j z)) (i / 6) (i % 6) e6
 rwa [← ei] at this)
 have hold : cur[i]? = (l[i / 6]?).bind fun n => n.cells[i % 6]? := by (
 rw [hc i hi]
 have := kW l (i / 6) (i % 6) e6
 rwa [← ei] at this)
 rw [hget, List.getElem?_set]
 by_cases hik : k = i / 6
 · (
 rw [if_pos hik, if_pos hlt, Option.bind_some, Nd.put_cells _ _ _ hj, List.getElem?_set]
 by_cases hij : j = i % 6
 · rw [if_pos (show k * 6 + j = i by omega), if_pos (show k * 6 + j < cur.size by omega), if_pos hij, if_pos (by rw [Nd.cells_len]; exact hj)]
 · (
 rw [if_neg hij, if_neg Zb, hold, ← hik, hk]
 rfl))
 · rw [if_neg hik, if_neg Zb, hold])))
theorem bK.put6 {g n cap : Nat} (h : bK w base e (.slice (some ⟨g, 0, none⟩) n cap) l) {k : Nat} {x : Nd} (hk : l[k]? = some x) (y : Nd) :
 bK ((((((w.setCell ⟨g, k * 6, none⟩ (.int .i64 y.op)).setCell ⟨g, k * 6 + 1, none⟩ (.int .i64 y.d)).setCell ⟨g, k * 6 + 2, none⟩ (.int .i64 y.a)).setCell ⟨g, k * 6 + 3, none⟩ (.int .i64 y.b)).setCell ⟨g, k * 6 + 4, none⟩ (.int .i64 y.t)).setCell ⟨g, k * 6 + 5, none⟩ (.int .i64 y.e))
  base e (.slice (some ⟨g, 0, none⟩) n cap) (l.set k y) := by (
 have hlt : k < l.length := (List.getElem?_eq_some_iff.1 hk).1
 have hs : ∀ (z : Nd), (l.set k z)[k]? = some z := fun z => by rw [List.getElem?_set]; simp [hlt]
 have h0 := h.store hk (show 0 < 6 by omega) y.op
 rw [Nat.add_zero] at h0
 have h1 := h0.store (hs _) (show 1 < 6 by omega) y.d
 rw [List.set_set] at h1
 have h2 := h1.store (hs _) (show 2 < 6 by omega) y.a
 rw [List.set_set] at h2
 have h3 := h2.store (hs _) (show 3 < 6 by omega) y.b
 rw [List.set_set] at h3
 have h4 := h3.store (hs _) (show 4 < 6 by omega) y.t
 rw [List.set_set] at h4
 have h5 := h4.store (hs _) (show 5 < 6 by omega) y.e
 rw [List.set_set] at h5
 exact h5)
theorem bK.ne_blk {g : Nat} {t : TypeId} {cs : Array Value} (h : bK w base e v l) (hg : Blk w g t cs) (hne : e ≠ t) : v.ownBlock ≠ some g := by (
 rcases h.open with ⟨rfl, _⟩ | ⟨g', cap, cur, rfl, _, hh, _⟩
 · exact Je
 · (
 intro he
 simp [Value.ownBlock] at he
 subst he
 have hB : Blk w g' e cur := by unfold Blk; exact hh
 exact hB.ne_ hg hne rfl))
theorem bK.blk {g n cap : Nat} (h : bK w base e (.slice (some ⟨g, 0, none⟩) n cap) l) : ∃ cs, Blk w g e cs := by (
 rcases h.open with ⟨hv, _⟩ | ⟨g', cap', cur, hv, hb, hh, _⟩
 · cases hv
 · (
 injection hv with hA
 injection hA with hA
 injection hA with hg
 subst hg
 exact ⟨cur, by unfold Blk; exact hh⟩))
theorem bK.ne_row {base' : Nat} {e' : TypeId} {u : Value} {ys : List Value} (h : bK w base e v l) (h' : Row w base' e' u ys) (hne : e ≠ e') : v.ownBlock = none ∨ v.ownBlock ≠ u.ownBlock := by (
 rcases h' with ⟨rfl, _⟩ | ⟨g', o, cap, cur, rfl, _, hh, _⟩
 · (
 rcases hv : v.ownBlock with _ | k
 · exact Jf
 · exact .inr Xv)
 · exact .inr (h.ne_blk (cs := cur) (t := e') Xj hne))
theorem bK.empty {g : Nat} (hg : g = w.heap.size) (hb : base ≤ w.heap.size) : bK (w.alloc (.cells #[] e)) base e (.slice (some ⟨g, 0, none⟩) 0 0) [] := by (
 subst hg
 exact bK.close (l := []) (cap := 0) hb (heap_alloc_new w _) Zf Zf rfl (fun k hk => by simp at hk))
theorem mU {P : Program} (t ty : TypeId) (i : TypeInfo) (z : Value) (bytes : Nat) (ht : P.underlying t = some (.slice e)) (hi : P.info? e = some i) (hz : i.zero = some z)
 (hsize : i.size = 6) (hby : i.bytes = bytes) (hzs : z.cells.size = 6) (hr : bK w base e v l) (A : Option Addr) (c : Nat) (news : List Nd) (hn : bG w A news)
 (h63 : l.length + news.length ≤ maxLen) (hbytes : (l.length + news.length) * bytes ≤ 140737488355328) (hbase : base ≤ w.heap.size) :
 ∃ v' w', (Builtin.append_ #[t, t] ty #[v, .slice A news.length c]).run P w = .ok v' w' ∧ bK w' base e v' (l ++ news) ∧ w.grownBy w' v.ownBlock ∧ (v'.ownBlock = v.ownBlock ∨ ∀ k, v'.ownBlock = some k → w.heap.size ≤ k) := by (
 by_cases hne : news = []
 · (
 subst hne
 refine ⟨v, w, ?_, by simpa using hr, World.grownBy.refl w _, .inl rfl⟩
 rcases hr.open with ⟨rfl, rfl⟩ | ⟨g, cap, cur, rfl, _, _, hnc, _⟩
 · exact Jh
 · rcases A with _ | A <;> simp [Builtin.append_, run_underlying ht, sizeOf, typeInfo, hi, hsize, Builtin.lenOf, Builtin.firstCells, loadCells, loadCellsFrom, hnc, storeCells])
 · (
 obtain ⟨b, off, rfl, hb, hcell⟩ := hn hne
 have hnews : ∀ j u, (cS news)[j]? = some u → w.cell? ((⟨b, off, none⟩ : Addr).add j) = some u := fun j u hj => by (
 rw [Addr.add_lit, ← hj]
 exact bG.cell hn j (by rw [← kV]; exact (List.getElem?_eq_some_iff.1 hj).1))
 obtain ⟨v', w', hrun, h2, h3, h4, h5⟩ := run_append_own_at (P := P) w base t ty e i z 6 bytes ht hi hz hsize hby hzs Zb v l.length (cS l) hr ⟨b, off, none⟩ news.length c (cS news) (kV _) hnews (bFM _) h63 hbytes hbase
 refine ⟨v', w', hrun, ?_, h3, h5.imp id fun h k hk => by rw [h] at hk; injection hk with hk; omega⟩
 show w'.ownsRow base e 6 v' (l ++ news).length (cS (l ++ news))
 rw [Vu, xJ]
 exact h2))
theorem oB {P : Program} {o : Oper} {a : Act} {K : Act → World → Prop} {Q : Exit → Act → World → Prop} (s x : Operand) (t : TypeId)
 (ho : o.op = .call { callee := .builtin .append, args := #[s, x], argTypes := #[t, t] })
 (i : TypeInfo) (z : Value) (bytes : Nat) (ht : P.underlying t = some (.slice e)) (hi : P.info? e = some i) (hz : i.zero = some z)
 (hsize : i.size = 6) (hby : i.bytes = bytes) (hzs : z.cells.size = 6) (hs : a.eval s = v) (hr : bK w base e v l) (A : Option Addr) (n c : Nat) (news : List Nd) (hx : a.eval x = .slice A n c)
 (hnl : n = news.length) (hn : bG w A news)
 (h63 : l.length + news.length ≤ maxLen) (hbytes : (l.length + news.length) * bytes ≤ 140737488355328) (hbase : base ≤ w.heap.size)
 (h : ∀ v' w', bK w' base e v' (l ++ news) → w.grownBy w' v.ownBlock → (v'.ownBlock = v.ownBlock ∨ ∀ k, v'.ownBlock = some k → w.heap.size ≤ k) → K (a.put o.dst v') w') : o.wp P a w K Q := by (
 subst hnl
 obtain ⟨v', w', hrun, h2, h3, h4⟩ := mU (P := P) t o.type i z bytes ht hi hz hsize hby hzs hr A c news hn h63 hbytes hbase
 unfold Oper.wp execOp
 simp only [ho, resolve, invoke, builtin, Sem.run_bind, Sem.run_pure, Result.andThen_ok, List.map_toArray, List.map_cons, List.map_nil, hs, hx, hrun]
 exact h v' w' h2 h3 h4)
theorem bL {P : Program} {ops : Array Oper} {rest : List Oper} {o : Oper} {a : Act} {Q : Exit → Act → World → Prop} (hgd : o.guard = none) (s x : Operand) (t : TypeId)
 (ho : o.op = .call { callee := .builtin .append, args := #[s, x], argTypes := #[t, t] })
 (i : TypeInfo) (z : Value) (bytes : Nat) (ht : P.underlying t = some (.slice e)) (hi : P.info? e = some i) (hz : i.zero = some z)
 (hsize : i.size = 6) (hby : i.bytes = bytes) (hzs : z.cells.size = 6) (hs : a.eval s = v) (hr : bK w base e v l) (A : Option Addr) (n c : Nat) (news : List Nd) (hx : a.eval x = .slice A n c)
 (hnl : n = news.length) (hn : bG w A news)
 (h63 : l.length + news.length ≤ maxLen) (hbytes : (l.length + news.length) * bytes ≤ 140737488355328) (hbase : base ≤ w.heap.size)
 (h : ∀ v' w', bK w' base e v' (l ++ news) → w.grownBy w' v.ownBlock → (v'.ownBlock = v.ownBlock ∨ ∀ k, v'.ownBlock = some k → w.heap.size ≤ k) → wpList P ops Q rest (a.put o.dst v') w') :
 wpList P ops Q (o :: rest) a w :=
 wpList_plain hgd fun _ hK => oB s x t ho i z bytes ht hi hz hsize hby hzs hs hr A n c news hx hnl hn h63 hbytes hbase fun v' w' h2 h3 h4=> hK _ _ (h v' w' h2 h3 h4)
theorem lH {P : Program} {ops : Array Oper} {o : Oper} {a : Act} {K : Act → World → Prop} {Q : Exit → Act → World → Prop} {E : Prop} (hgd : o.guard = none) (s x : Operand) (t : TypeId)
 (ho : o.op = .call { callee := .builtin .append, args := #[s, x], argTypes := #[t, t] })
 (i : TypeInfo) (z : Value) (bytes : Nat) (ht : P.underlying t = some (.slice e)) (hi : P.info? e = some i) (hz : i.zero = some z)
 (hsize : i.size = 6) (hby : i.bytes = bytes) (hzs : z.cells.size = 6) (hs : a.eval s = v) (hr : bK w base e v l) (A : Option Addr) (n c : Nat) (news : List Nd) (hx : a.eval x = .slice A n c)
 (hnl : n = news.length) (hn : bG w A news)
 (h63 : l.length + news.length ≤ maxLen) (hbytes : (l.length + news.length) * bytes ≤ 140737488355328) (hbase : base ≤ w.heap.size)
 (h : ∀ v' w', bK w' base e v' (l ++ news) → w.grownBy w' v.ownBlock → (v'.ownBlock = v.ownBlock ∨ ∀ k, v'.ownBlock = some k → w.heap.size ≤ k) → K (a.put o.dst v') w') :
 if Region.wanted o (yielded ops a.tmps) = true then Oper.wp P o a w K Q else E := by (
 have hw : Region.wanted o (yielded ops a.tmps) = true := by simp [Region.wanted, hgd]
 rw [if_pos hw]
 exact oB s x t ho i z bytes ht hi hz hsize hby hzs hs hr A n c news hx hnl hn h63 hbytes hbase h)
theorem cG {w : World} {n : Nd} {t : TypeId} {g : Nat} (h : g = w.heap.size) : bG (w.alloc (.cells #[.int .i64 n.op, .int .i64 n.d, .int .i64 n.a, .int .i64 n.b, .int .i64 n.t, .int .i64 n.e] t)) (some ⟨g, 0, none⟩) [n] := by (
 subst h
 refine bG.mk Zf fun i m hi => ?_
 rcases i with _ | i
 · (
 simp at hi
 subst hi
 simp [Nd.lies])
 · simp at hi)
end
theorem bG.nil {w : World} {A : Option Addr} : bG w A [] := fun h => absurd rfl h
end
section
open Go.RowKit
def cJ (t : Int) : Nd := ⟨0, 0, 0, 0, t, 0⟩
def dZ (l : List Nd) (m : Int) : Nat := (sel (fM l m.toNat) l.length).length
def bY (l : List Nd) (n : Nd) (N : Nat) : Nd := if 2 ≤ dZ l n.t then { n with t := N, e := if n.op = 11 ∧ n.e = n.t then (N : Int) else n.e } else n
def dJ (l : List Nd) (n : Nd) : List Nd := if 2 ≤ dZ l n.t then [cJ n.t] else []
def fE (l : List Nd) (n : Nd) : Bool := n.op == 11 && n.e != n.t && decide (2 ≤ dZ l n.e)
def dB (l : List Nd) (n x : Nd) (N : Nat) : Nd := if fE l n = true then { x with e := N } else x
def fT (l : List Nd) (n : Nd) : List Nd := if fE l n = true then [cJ n.e] else []
def fV (l : List Nd) (k : Nat) (n : Nd) (out : List Nd) : List Nd := out.set k (bY l n out.length) ++ dJ l n
def iW (l : List Nd) (k : Nat) (n x : Nd) (out : List Nd) : List Nd := out.set k (dB l n x out.length) ++ fT l n
def cR (l : List Nd) (k : Nat) (n : Nd) (out : List Nd) : List Nd := if n.op = 0 ∨ n.op = 12 then out else iW l k n (bY l n out.length) (fV l k n out)
def cH (l : List Nd) : Nat → List Nd
 | 0 => l
 | k + 1 => cR l k (l.getD k default) (cH l k)
def gA (l : List Nd) : List Nd := cH l l.length
theorem cM {l : List Nd} {k : Nat} {n : Nd} (hn : l[k]? = some n) : cH l (k + 1) = cR l k n (cH l k) := by (
 have : l.getD k default = n := by rw [Vt, hn]; rfl
 rw [cH, this])
theorem vE (l : List Nd) (n : Nd) : (dJ l n).length ≤ 1 := by unfold dJ; split <;> simp
theorem bEY (l : List Nd) (n : Nd) : (fT l n).length ≤ 1 := by unfold fT; split <;> simp
theorem sM (l : List Nd) (k : Nat) (n : Nd) (out : List Nd) : (fV l k n out).length = out.length + (dJ l n).length := by simp [fV]
theorem bII (l : List Nd) (k : Nat) (n x : Nd) (out : List Nd) : (iW l k n x out).length = out.length + (fT l n).length := by simp [iW]
theorem xD (l : List Nd) (k : Nat) (n : Nd) (out : List Nd) : out.length ≤ (cR l k n out).length ∧ (cR l k n out).length ≤ out.length + 2 := by (
 unfold cR
 split
 · omega
 · (
 rw [bII, sM]
 have := vE l n
 have := bEY l n
 omega))
theorem lI (l : List Nd) : ∀ k, l.length ≤ (cH l k).length ∧ (cH l k).length ≤ l.length + 2 * k
 | 0 => by simp [cH]
 | k + 1 => by (
 have h1 := lI l k
 have h2 := xD l k (l.getD k default) (cH l k)
 rw [cH]
 omega)
theorem xE {l : List Nd} {k j : Nat} {n : Nd} {out : List Nd} (hk : k ≠ j) (hj : j < out.length) : (cR l k n out)[j]? = out[j]? := by (
 unfold cR
 split
 · rfl
 · (
 unfold iW
 rw [Ue (by rw [List.length_set, sM]; omega), List.getElem?_set_ne hk]
 unfold fV
 rw [Ue (by rw [List.length_set]; omega), List.getElem?_set_ne hk]))
theorem oR (l : List Nd) : ∀ (k j : Nat), k ≤ j → j < l.length → (cH l k)[j]? = l[j]?
 | 0, j, _, _ => rfl
 | k + 1, j, hk, hj => by (
 rw [cH, xE Zb (by have := lI l k; omega)]
 exact oR l k j Zb hj)
theorem oS {l : List Nd} {k : Nat} {n : Nd} {out : List Nd} (hk : k < out.length) (h0 : n.op ≠ 0) (h12 : n.op ≠ 12) :
 cR l k n out = out.set k (dB l n (bY l n out.length) (out.length + (dJ l n).length)) ++ (dJ l n ++ fT l n) := by (
 unfold cR
 rw [if_neg Zb]
 unfold iW
 rw [sM]
 unfold fV
 rw [List.set_append_left _ _ (by rw [List.length_set]; exact hk), List.set_set, List.append_assoc])
theorem gF {l : List Nd} {k : Nat} {n : Nd} {out : List Nd} (h : n.op = 0 ∨ n.op = 12) : cR l k n out = out := by (
 unfold cR
 rw [if_pos h])
theorem eC {l : List Nd} {k : Nat} {n : Nd} {out : List Nd} (h : ¬ (n.op = 0 ∨ n.op = 12)) : cR l k n out = iW l k n (bY l n out.length) (fV l k n out) := by (
 unfold cR
 rw [if_neg h])
theorem pO {l : List Nd} {k : Nat} {n : Nd} {out : List Nd} (hk : k < out.length) : (fV l k n out)[k]? = some (bY l n out.length) := by (
 unfold fV
 rw [Ue (by rw [List.length_set]; exact hk), List.getElem?_set]
 simp [hk])
theorem rL {α : Type} {l : List α} {k : Nat} {x : α} (h : l[k]? = some x) : l.set k x = l := by (
 refine List.ext_getElem? fun i => ?_
 rw [List.getElem?_set]
 split
 · (
 rename_i e
 subst e
 have := (List.getElem?_eq_some_iff.1 h).1
 rw [if_pos this, h])
 · rfl)
theorem bEV {l : List Nd} {k : Nat} {n : Nd} {out : List Nd} (h : ¬ 2 ≤ dZ l n.t) (hk : out[k]? = some n) : fV l k n out = out := by (
 unfold fV bY dJ
 rw [if_neg h, if_neg h, rL hk, List.append_nil])
theorem iZ {l : List Nd} {k : Nat} {n x : Nd} {out : List Nd} (h : fE l n = false) (hk : out[k]? = some x) : iW l k n x out = out := by (
 unfold iW dB fT
 rw [if_neg Xi, if_neg Xi, rL hk, List.append_nil])
theorem vC {l : List Nd} {k : Nat} {n x : Nd} {out : List Nd} (h : fE l n = true) : iW l k n x out = out.set k (x.put 5 out.length) ++ [cJ n.e] := by (
 unfold iW dB fT
 rw [if_pos h, if_pos h]
 rfl)
theorem vD {l : List Nd} {k : Nat} {n : Nd} {out : List Nd} (h : 2 ≤ dZ l n.t) (he : ¬ (n.op = 11 ∧ n.e = n.t)) : fV l k n out = out.set k (n.put 4 out.length) ++ [cJ n.t] := by (
 unfold fV bY dJ
 rw [if_pos h, if_pos h, if_neg he]
 rfl)
theorem bEW {l : List Nd} {k : Nat} {n : Nd} {out : List Nd} (h : 2 ≤ dZ l n.t) (he : n.op = 11 ∧ n.e = n.t) : fV l k n out = out.set k ((n.put 4 out.length).put 5 out.length) ++ [cJ n.t] := by (
 unfold fV bY dJ
 rw [if_pos h, if_pos h, if_pos he]
 rfl)
end
section
open Go.RowKit
theorem bOF {l : List Nd} {n : Nat} (h : n < l.length) : l[n]? = some (nd l n) := by rw [nd, Vt, Vs h]; rfl
theorem bFL {l : List Nd} {n : Nat} (h : n < l.length) : nd l n ∈ l := Vv (bOF h)
section
variable {t : Tm} {l : List Nd} {F : Fx}
def Fx.D (F : Fx) (n : Nat) : Prop := yn F.down n = true
def Fx.U (F : Fx) (n : Nat) : Prop := yn F.up n = true
def Fx.E (F : Fx) (n : Nat) : Prop := yn F.early n = true
def Fx.Y (F : Fx) (n : Nat) : Prop := yn F.delay n = true
def Fx.L (F : Fx) (n : Nat) : Prop := yn F.late n = true
def Fx.A (F : Fx) (n : Nat) : Prop := yn F.alone n = true
variable {regs : Int}
end
end
section
open Go.RowKit
def bBT (op x y : Int) : Int := if op = 3 then wrap64 (x + y) else if op = 4 then wrap64 (x - y) else if op = 5 then wrap64 (x * y) else if op = 6 then bits .and .i64 x y else if op = 7 then bits .xor .i64 x y else if x < y then 1 else 0
def rg (r : List Int) (k : Int) : Int := r.getD k.toNat 0
theorem bPX {r : List Int} {k : Nat} {z : Int} (h : r[k]? = some z) : rg r (k : Int) = z := by simp [rg, Vt, h]
structure Rn where
 regs : List Int
 read : Nat
 out : List Int
 ret : Int
 ended : Bool
 steps : Nat
 pos : Nat
 ts : List Tm
def iU (l : List Nd) (inp : List Int) (s : Rn) : Rn :=
 let n := nd l s.pos
 if n.op = 1 then { s with steps := s.steps + 1, pos := n.t.toNat, regs := s.regs.set n.d.toNat n.a }
 else if n.op = 2 then { s with steps := s.steps + 1, pos := n.t.toNat, regs := s.regs.set n.d.toNat (rg s.regs n.a) }
 else if cF n.op = true then { s with steps := s.steps + 1, pos := n.t.toNat, regs := s.regs.set n.d.toNat (bBT n.op (rg s.regs n.a) (rg s.regs n.b)), ts := s.ts ++ [n.tm] }
 else if n.op = 9 then (if s.read < inp.length then { s with steps := s.steps + 1, pos := n.t.toNat, regs := s.regs.set n.d.toNat (inp.getD s.read 0), read := s.read + 1 } else { s with steps := s.steps + 1, pos := n.t.toNat, regs := s.regs.set n.d.toNat 0 })
 else if n.op = 10 then { s with steps := s.steps + 1, pos := n.t.toNat, out := s.out ++ [rg s.regs n.a] }
 else if n.op = 11 then (if rg s.regs n.a = 0 then { s with steps := s.steps + 1, pos := n.e.toNat } else { s with steps := s.steps + 1, pos := n.t.toNat })
 else if n.op = 12 then { s with steps := s.steps + 1, pos := n.t.toNat, ret := rg s.regs n.a, ended := true }
 else { s with steps := s.steps + 1, pos := n.t.toNat }
theorem oQ (l : List Nd) (inp : List Int) (s : Rn) : (iU l inp s).steps = s.steps + 1 := by (
 unfold iU
 simp only
 repeat' split
 all_goals rfl)
def goR (l : List Nd) (inp : List Int) : Nat → Rn → Rn
 | 0, s => s
 | k + 1, s => if s.ended = true then s else goR l inp k (iU l inp s)
theorem bJL {l : List Nd} {inp : List Int} {s : Rn} (h : s.ended = true) : ∀ k, goR l inp k s = s
 | 0 => rfl
 | k + 1 => by rw [goR, if_pos h]
theorem bMP {l : List Nd} {inp : List Int} {s : Rn} (h : s.ended = false) (k : Nat) : goR l inp (k + 1) s = goR l inp k (iU l inp s) := by rw [goR, if_neg Xi]
def qR (regs : Int) : Rn := ⟨List.replicate regs.toNat 0, 0, [], 0, false, 0, 0, []⟩
def bLJ (regs : Int) (l : List Nd) (inp : List Int) (fuel : Nat) : Rn := goR l inp fuel (qR regs)
structure xR (regs : Int) (l : List Nd) (inp : List Int) (s : Rn) : Prop where
 regs : s.regs.length = regs.toNat
 pos : s.pos < l.length
 read : s.read ≤ inp.length
 out : s.out.length ≤ s.steps
 ts : s.ts.length ≤ s.steps
 key : ∀ t ∈ s.ts, ∃ n ∈ l, cF n.op = true ∧ t = n.tm
theorem xR.start {regs : Int} {l : List Nd} {inp : List Int} (hR : bN regs l) : xR regs l inp (qR regs) :=
 ⟨by simp [qR], hR.lo, Nat.zero_le _, Nat.le_refl _, Nat.le_refl _, fun t ht => by cases ht⟩
theorem bN.pos_ {regs : Int} {l : List Nd} (hR : bN regs l) {n : Nd} (hn : n ∈ l) : n.t.toNat < l.length := by (
 by_cases h12 : n.op = 12
 · (
 have h := hR.frm n hn
 have h0 : n.t = 0 := by (
 simp only [badF, okF, shT, h12, V6, Bool.not_eq_false', Bool.or_eq_true, beq_iff_eq] at h
 rcases h.1.2 with e | e
 · simp at e
 · exact e)
 have := hR.lo
 rw [h0]
 show 0 < l.length
 omega)
 · (
 have := hR.then_ hn h12
 omega))
theorem xR.step {regs : Int} {l : List Nd} {inp : List Int} {s : Rn} (hR : bN regs l) (h : xR regs l inp s) : xR regs l inp (iU l inp s) := by (
 obtain ⟨h1, h2, h3, h4, h5, h6⟩ := h
 have hg : l[s.pos]? = some (nd l s.pos) := by rw [nd, Vt, Vs h2]; rfl
 have hn := Vv hg
 have hp := hR.pos_ hn
 generalize nd l s.pos = n at hg hn hp
 have hnd : nd l s.pos = n := dH hg
 unfold iU
 simp only [hnd]
 split
 · exact Jj
 split
 · exact Jj
 split
 · (
 rename_i hB
 refine ⟨by simpa using h1, hp, h3, Nat.le_succ_of_le h4, by simp; omega, fun t ht => ?_⟩
 rcases List.mem_append.1 ht with e | e
 · exact h6 t e
 · exact ⟨n, hn, hB, by simpa using e⟩)
 split
 · (
 split
 · exact ⟨by simpa using h1, hp, by show s.read + 1 ≤ _; omega, Nat.le_succ_of_le h4, Nat.le_succ_of_le h5, h6⟩
 · exact ⟨by simpa using h1, hp, h3, Nat.le_succ_of_le h4, Nat.le_succ_of_le h5, h6⟩)
 split
 · exact ⟨h1, hp, h3, by simp; omega, Nat.le_succ_of_le h5, h6⟩
 split
 · (
 rename_i h11
 split
 · (
 have := hR.else_ hn h11
 exact ⟨h1, by show n.e.toNat < _; omega, h3, Nat.le_succ_of_le h4, Nat.le_succ_of_le h5, h6⟩)
 · exact ⟨h1, hp, h3, Nat.le_succ_of_le h4, Nat.le_succ_of_le h5, h6⟩)
 split
 · exact ⟨h1, hp, h3, Nat.le_succ_of_le h4, Nat.le_succ_of_le h5, h6⟩
 · exact ⟨h1, hp, h3, Nat.le_succ_of_le h4, Nat.le_succ_of_le h5, h6⟩)
end
section
open Go.RowKit
theorem bN.chk {regs : Int} {l : List Nd} (h : bN regs l) : chk regs l = 0 := by (
 obtain ⟨h1, h2, h3, h4, h5, h6, h7⟩ := h
 unfold Go.Proofs.YtmghkonmfbpjcaaGreatDoor.chk
 rw [if_neg Zb, if_neg, if_neg, if_neg]
 · (
 simp only [List.any_eq_true, not_exists, not_and]
 intro n hn; rw [h7 n hn]; simp)
 · (
 simp only [List.any_eq_true, not_exists, not_and]
 intro n hn; rw [h6 n hn]; simp)
 · (
 simp only [List.any_eq_true, not_exists, not_and]
 intro n hn; rw [h5 n hn]; simp))
end
section
open Go.RowKit
section
variable {regs : Int} {l : List Nd} {inp : List Int}
end
section
variable {regs : Int} {t : Tm} {l : List Nd} {F : Fx} {inp : List Int}
theorem yno {b : Bool} (h : ¬ b = true) : b = false := by simpa using h
open Classical in
end
end
end Go.Proofs.YtmghkonmfbpjcaaGreatDoor
