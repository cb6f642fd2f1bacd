/- live.Dead. -/
import Derived.Test.YtmghkonmfbpjcabDoorLiveL
import Derived.Test.YtmghkonmfbpjcabDoorSame
import Derived.Test.YtmghkonmfbpjcabDoorJC
import Derived.Deep.RegionWith
import Derived.RegionTactic
namespace Go.Proofs.YtmghkonmfbpjcabDoor
set_option linter.unusedVariables false
set_option linter.unusedSimpArgs false
open Go.RowKit
set_option maxHeartbeats 4000000
attribute [local irreducible] Row madeCells

/-- what the closure in Dead says of a node -/
def deadB (ats : List Nat) (n : Nd) : Bool := (decide (1 ≤ n.op) && decide (n.op ≤ 8)) && (((ats.getD n.t.toNat 0 &&& 2 ^ n.d.toNat : Nat) : Int) == 0)

theorem dead1_any (n : Nd) (S : Option Addr) (ats : List Nat) (cap g : Nat) (w : World) (hS : ValsAt w S (u64s ats)) (hl : ats.length ≤ 256) (hz : ∀ z ∈ ats, z < 2 ^ 64)
    (ht : n.op ≠ 12 → 0 ≤ n.t ∧ n.t < ats.length) (hr : Regs64 n) (hg : g < w.heap.size) (hc : w.cell? ⟨g, 0, none⟩ = some (.slice S ats.length cap)) :
    Calls Tryd.prog 24 #[.agg #[.int .i64 n.op, .int .i64 n.d, .int .i64 n.a, .int .i64 n.b, .int .i64 n.t, .int .i64 n.e], .pointer (some ⟨g, 0, none⟩)] w
      fun e w' => e = .returned (.bool (deadB ats n)) ∧ Below w.heap.size w w' := by
  by_cases h1 : 1 ≤ n.op
  · by_cases h8 : n.op ≤ 8
    · obtain ⟨t0, t1⟩ := ht (by omega)
      obtain ⟨tt, htt⟩ := Int.eq_ofNat_of_zero_le t0
      obtain ⟨b, off, rfl, hb, ct⟩ := hS.u64 (k := tt) (by omega)
      have xt := getD_lt hz tt
      have hd := hr.1 (by simp [hasD, inB]; omega)
      have hone := fun W => one_any n.d.toNat (by omega) W
      rw [Int.toNat_of_nonneg hd.1] at hone
      have hp := two_pow_lt (k := n.d.toNat) (by omega)
      have hm : deadB ats n = (((ats.getD tt 0 &&& 2 ^ n.d.toNat : Nat) : Int) == 0) := by simp [deadB, h1, h8, htt]
      rw [hm]
      generalize ats.getD tt 0 = x at *
      generalize (2 ^ n.d.toNat : Nat) = y at *
      have hand := bits_and_u64_nat x y xt hp
      have d1 : decide (1 ≤ n.op) = true := by simp [h1]
      have d8 : decide (n.op ≤ 8) = true := by simp [h8]
      have HO := hide hone
      have HA := hide hand
      obtain ⟨op, d, a, b0, t, e⟩ := n
      simp only at *
      subst htt
      clear hone hand hm hr ht hz hS hd hp
      go_enter Tryd.func24, Tryd.ntmps24
      go_wp2_with fail
      go_quiet ((go_at_call 25; exact Calls.quiet_of_same (HO.out _)))
      go_wp2_with fail
      go_ret
      exact ⟨by rw [← HA.out]; rfl, (by repeat (first | (with_reducible exact Below.refl _ _) | (with_reducible assumption) | (with_reducible refine Below.drew ?_) | (with_reducible refine below_drewN ?_ _) | (with_reducible refine Below.alloc ?_ (by (try simp only [World.size_alloc, World.size_setCell, World.size_drew, World.heap_drewN]); (first | done | omega | ((try simp only [World.size_alloc, World.size_setCell, World.size_drew, World.heap_drewN] at *); omega))) _) | (with_reducible refine Below.setCell ?_ (by (try simp only [World.size_alloc, World.size_setCell, World.size_drew, World.heap_drewN]); (first | done | omega | ((try simp only [World.size_alloc, World.size_setCell, World.size_drew, World.heap_drewN] at *); omega))) _) | (with_reducible refine Below.trans ?_ (Below.mono (by assumption) (by (try simp only [World.size_alloc, World.size_setCell, World.size_drew, World.heap_drewN]); (first | done | omega | ((try simp only [World.size_alloc, World.size_setCell, World.size_drew, World.heap_drewN] at *); omega)))))))⟩
    · have hm : deadB ats n = false := by simp [deadB, h8]
      rw [hm]
      have d1 : decide (1 ≤ n.op) = true := by simp [h1]
      have d8 : decide (n.op ≤ 8) = false := by simp [h8]
      clear hm hr ht hz hS
      go_enter Tryd.func24, Tryd.ntmps24
      go_wp2_with fail
      go_quiet (fail)
      go_wp2_with fail
      go_ret
      exact ⟨rfl, (by repeat (first | (with_reducible exact Below.refl _ _) | (with_reducible assumption) | (with_reducible refine Below.drew ?_) | (with_reducible refine below_drewN ?_ _) | (with_reducible refine Below.alloc ?_ (by (try simp only [World.size_alloc, World.size_setCell, World.size_drew, World.heap_drewN]); (first | done | omega | ((try simp only [World.size_alloc, World.size_setCell, World.size_drew, World.heap_drewN] at *); omega))) _) | (with_reducible refine Below.setCell ?_ (by (try simp only [World.size_alloc, World.size_setCell, World.size_drew, World.heap_drewN]); (first | done | omega | ((try simp only [World.size_alloc, World.size_setCell, World.size_drew, World.heap_drewN] at *); omega))) _) | (with_reducible refine Below.trans ?_ (Below.mono (by assumption) (by (try simp only [World.size_alloc, World.size_setCell, World.size_drew, World.heap_drewN]); (first | done | omega | ((try simp only [World.size_alloc, World.size_setCell, World.size_drew, World.heap_drewN] at *); omega)))))))⟩
  · have hm : deadB ats n = false := by simp [deadB, h1]
    rw [hm]
    have d1 : decide (1 ≤ n.op) = false := by simp [h1]
    clear hm hr ht hz hS
    go_enter Tryd.func24, Tryd.ntmps24
    go_wp2_with fail
    go_quiet (fail)
    go_wp2_with fail
    go_ret
    exact ⟨rfl, (by repeat (first | (with_reducible exact Below.refl _ _) | (with_reducible assumption) | (with_reducible refine Below.drew ?_) | (with_reducible refine below_drewN ?_ _) | (with_reducible refine Below.alloc ?_ (by (try simp only [World.size_alloc, World.size_setCell, World.size_drew, World.heap_drewN]); (first | done | omega | ((try simp only [World.size_alloc, World.size_setCell, World.size_drew, World.heap_drewN] at *); omega))) _) | (with_reducible refine Below.setCell ?_ (by (try simp only [World.size_alloc, World.size_setCell, World.size_drew, World.heap_drewN]); (first | done | omega | ((try simp only [World.size_alloc, World.size_setCell, World.size_drew, World.heap_drewN] at *); omega))) _) | (with_reducible refine Below.trans ?_ (Below.mono (by assumption) (by (try simp only [World.size_alloc, World.size_setCell, World.size_drew, World.heap_drewN]); (first | done | omega | ((try simp only [World.size_alloc, World.size_setCell, World.size_drew, World.heap_drewN] at *); omega)))))))⟩

/-- the first of which it is so -/
def IdxAt (p : Nd → Bool) (l : List Nd) (w : World) (e : Ending) (w' : World) : Prop :=
  ((∃ (k : Nat) (x : Nd), e = .returned (.int .i64 k) ∧ l[k]? = some x ∧ p x = true) ∨ (e = .returned (.int .i64 (-1)) ∧ ∀ x ∈ l, p x = false)) ∧ Below w.heap.size w w'
theorem idxDead_any (A S : Option Addr) (l : List Nd) (ats : List Nat) (cap cap2 g : Nat) (w : World) (hA : NodesAt w A l) (hS : ValsAt w S (u64s ats)) (hl : ats.length ≤ 256) (hal : ats.length = l.length) (hz : ∀ z ∈ ats, z < 2 ^ 64)
    (ht : ∀ n ∈ l, n.op ≠ 12 → 0 ≤ n.t ∧ n.t < ats.length) (hr : ∀ n ∈ l, Regs64 n) (hg : g < w.heap.size) (hc : w.cell? ⟨g, 0, none⟩ = some (.slice S ats.length cap2)) :
    Calls Tryd.prog 23 #[.slice A l.length cap, .func (.func 24) #[] #[.pointer (some ⟨g, 0, none⟩)]] w (IdxAt (deadB ats) l w) := by
  have hcall := fun (n : Nd) (hn : n ∈ l) W (hW : Below w.heap.size w W) => dead1_any n S ats cap2 g W (hS.below hW) hl hz (ht n hn) (hr n hn) (Nat.lt_of_lt_of_le hg hW.size) (((bcell hW).1 _ _ hg).trans hc)
  have HCall := hide hcall
  have hll : l.length ≤ 256 := by omega
  clear hcall hc hr ht hz hS hal hl
  go_enter Tryd.func23, Tryd.ntmps23
  go_wp2_with fail
  go_loopg [8] (l.length) (fun gk i wr => ∃ k : Nat, k ≤ l.length ∧ i = .int .i64 k ∧ gk = l.length - k ∧ (∀ j x, j < k → l[j]? = some x → deadB ats x = false) ∧ Below w.heap.size w wr)
  case atStart => exact ⟨0, Nat.zero_le _, rfl, rfl, fun j x hj => absurd hj (by omega), Below.refl _ _⟩
  case round =>
    obtain ⟨k, hk, rfl, hgk, hno, hB⟩ := hrel
    have Hgk := hide hgk
    have Hno := hide hno
    have hz := hB.size
    clear hgk hno
    by_cases hlt : k < l.length
    · obtain ⟨b, off, n, rfl, hbl, hkn, hn⟩ := hA.get hlt
      obtain ⟨c0, c1, c2, c3, c4, c5⟩ := hn.below hB hbl
      have hp := HCall.out n (List.mem_of_getElem? hkn) wr hB
      have Hkn := hide hkn
      have Hp := hide hp
      have hbw : b < wr.heap.size := by omega
      clear hp hkn hn hA
      cases hd : deadB ats n
      case true =>
        have Hd := hide hd
        go_wp2_with (go_at_call 24; refine (Hp.out).mono ?_; rw [hd]; rintro e w1 ⟨rfl, hb1⟩)
        go_ret
        exact ⟨.inl ⟨k, n, rfl, Hkn.out, Hd.out⟩, (by repeat (first | (with_reducible exact Below.refl _ _) | (with_reducible assumption) | (with_reducible refine Below.drew ?_) | (with_reducible refine below_drewN ?_ _) | (with_reducible refine Below.alloc ?_ (by (try simp only [World.size_alloc, World.size_setCell, World.size_drew, World.heap_drewN]); (first | done | omega | ((try simp only [World.size_alloc, World.size_setCell, World.size_drew, World.heap_drewN] at *); omega))) _) | (with_reducible refine Below.setCell ?_ (by (try simp only [World.size_alloc, World.size_setCell, World.size_drew, World.heap_drewN]); (first | done | omega | ((try simp only [World.size_alloc, World.size_setCell, World.size_drew, World.heap_drewN] at *); omega))) _) | (with_reducible refine Below.trans ?_ (Below.mono (by assumption) (by (try simp only [World.size_alloc, World.size_setCell, World.size_drew, World.heap_drewN]); (first | done | omega | ((try simp only [World.size_alloc, World.size_setCell, World.size_drew, World.heap_drewN] at *); omega)))))))⟩
      case false =>
        have Hd := hide hd
        go_wp2_with (go_at_call 24; refine (Hp.out).mono ?_; rw [hd]; rintro e w1 ⟨rfl, hb1⟩)
        go_roundg (l.length - (k + 1))
        case measure => have := Hgk.out; omega
        case rel =>
          refine ⟨k + 1, by omega, by go_num, rfl, fun j x hj hx => ?_, (by repeat (first | (with_reducible exact Below.refl _ _) | (with_reducible assumption) | (with_reducible refine Below.drew ?_) | (with_reducible refine below_drewN ?_ _) | (with_reducible refine Below.alloc ?_ (by (try simp only [World.size_alloc, World.size_setCell, World.size_drew, World.heap_drewN]); (first | done | omega | ((try simp only [World.size_alloc, World.size_setCell, World.size_drew, World.heap_drewN] at *); omega))) _) | (with_reducible refine Below.setCell ?_ (by (try simp only [World.size_alloc, World.size_setCell, World.size_drew, World.heap_drewN]); (first | done | omega | ((try simp only [World.size_alloc, World.size_setCell, World.size_drew, World.heap_drewN] at *); omega))) _) | (with_reducible refine Below.trans ?_ (Below.mono (by assumption) (by (try simp only [World.size_alloc, World.size_setCell, World.size_drew, World.heap_drewN]); (first | done | omega | ((try simp only [World.size_alloc, World.size_setCell, World.size_drew, World.heap_drewN] at *); omega)))))))⟩
          by_cases hjk : j = k
          · subst hjk
            rw [Hkn.out] at hx
            injection hx with hx
            subst hx
            exact Hd.out
          · exact Hno.out j x (by omega) hx
    · go_wp2_with fail
      go_ret
      refine ⟨.inr ⟨rfl, fun x hx => ?_⟩, hB⟩
      obtain ⟨j, hj, rfl⟩ := List.getElem_of_mem hx
      exact Hno.out j _ (by omega) (List.getElem?_eq_getElem hj)

theorem Dead_err (regs : Int) (A : Option Addr) (l : List Nd) (cap : Nat) (w : World) (hA : NodesAt w A l) (hml : l.length ≤ maxLen) (hc : chk regs l ≠ 0) :
    Calls Tryd.prog 6 #[.agg #[.int .i64 regs, .slice A l.length cap]] w
      fun e w' => e = .returned (.tuple #[.agg #[.int .i64 0, .slice none 0 0], .int .i64 (chk regs l)]) ∧ Below w.heap.size w w' := by
  have hC := fun W (hW : Below w.heap.size w W) => Check_any regs A l cap W hml (hA.below hW)
  have HC := hide hC
  clear hC
  generalize chk regs l = fe at *
  have hne : (fe != 0) = true := by simpa using hc
  clear hc
  go_enter Tryd.func6, Tryd.ntmps6
  go_wp2_with fail
  go_step3
  go_wp2_with fail
  refine (HC.out _ (by repeat (first | (with_reducible exact Below.refl _ _) | (with_reducible assumption) | (with_reducible refine Below.drew ?_) | (with_reducible refine below_drewN ?_ _) | (with_reducible refine Below.alloc ?_ (by (try simp only [World.size_alloc, World.size_setCell, World.size_drew, World.heap_drewN]); (first | done | omega | ((try simp only [World.size_alloc, World.size_setCell, World.size_drew, World.heap_drewN] at *); omega))) _) | (with_reducible refine Below.setCell ?_ (by (try simp only [World.size_alloc, World.size_setCell, World.size_drew, World.heap_drewN]); (first | done | omega | ((try simp only [World.size_alloc, World.size_setCell, World.size_drew, World.heap_drewN] at *); omega))) _) | (with_reducible refine Below.trans ?_ (Below.mono (by assumption) (by (try simp only [World.size_alloc, World.size_setCell, World.size_drew, World.heap_drewN]); (first | done | omega | ((try simp only [World.size_alloc, World.size_setCell, World.size_drew, World.heap_drewN] at *); omega)))))))).mono ?_
  rintro e w1 ⟨rfl, hb1⟩
  have hz1 := hb1.size
  have hQ1 : Blk w1 (w.heap.size + 1) 24 #[.int .i64 0, .slice none 0 0] := Blk.below (Blk.new' (by simp)) hb1 (by simp)
  have r0 := hQ1.cell 0
  have r1 := hQ1.cell 1
  have f0 := hQ1.frozen 0
  have f1 := hQ1.frozen 1
  simp only [List.getElem?_toArray, List.getElem?_cons_zero, List.getElem?_cons_succ] at r0 r1
  go_wp2_with fail
  go_tidy
  simp only [Exit.noGoto_ret]
  refine bodyPost_ret (v := .tuple #[.agg #[.int .i64 0, .slice none 0 0], .int .i64 fe]) (by simp [results, Tryd.results6, go_sem, r0, r1, World.cell?_setCell_same, World.cell?_setCell_other]) rfl ⟨rfl, (by repeat (first | (with_reducible exact Below.refl _ _) | (with_reducible assumption) | (with_reducible refine Below.drew ?_) | (with_reducible refine below_drewN ?_ _) | (with_reducible refine Below.alloc ?_ (by (try simp only [World.size_alloc, World.size_setCell, World.size_drew, World.heap_drewN]); (first | done | omega | ((try simp only [World.size_alloc, World.size_setCell, World.size_drew, World.heap_drewN] at *); omega))) _) | (with_reducible refine Below.setCell ?_ (by (try simp only [World.size_alloc, World.size_setCell, World.size_drew, World.heap_drewN]); (first | done | omega | ((try simp only [World.size_alloc, World.size_setCell, World.size_drew, World.heap_drewN] at *); omega))) _) | (with_reducible refine Below.trans ?_ (Below.mono (by assumption) (by (try simp only [World.size_alloc, World.size_setCell, World.size_drew, World.heap_drewN]); (first | done | omega | ((try simp only [World.size_alloc, World.size_setCell, World.size_drew, World.heap_drewN] at *); omega)))))))⟩

theorem deadB_X {regs : Int} {l : List Nd} (hR : Right regs l) {ats : List Nat} (h : ∀ r : Nat, r < 64 → Least (liveS l r) l.length (bitsAt r ats)) {n : Nd} (hn : n ∈ l) : deadB ats n = deadX l n := by
  unfold deadB deadX
  by_cases h1 : 1 ≤ n.op ∧ n.op ≤ 8
  · have hd := (hR.regs64 hn).1 (by simp [hasD, inB]; omega)
    rw [bit_zero_iff, ← yn_bitsAt, Least.unique (h n.d.toNat (by omega)) (lvx_least l n.d.toNat)]
  · have : (decide (1 ≤ n.op) && decide (n.op ≤ 8)) = false := by simp; omega
    rw [this]
    rfl
def DeadPost (regs : Int) (l : List Nd) (w : World) (e : Ending) (w' : World) : Prop :=
  ∃ (v : Value) (l' : List Nd), e = .returned (.tuple #[.agg #[.int .i64 regs, v], .int .i64 0]) ∧ DeadIs l l' ∧ l'.length = l.length ∧ NRow w' w.heap.size 55 v l' ∧ Below w.heap.size w w'

set_option maxRecDepth 100000 in
theorem Dead_ok (regs : Int) (A : Option Addr) (l : List Nd) (cap : Nat) (w : World) (hA : NodesAt w A l) (hR : Right regs l) (hc : chk regs l = 0) :
    Calls Tryd.prog 6 #[.agg #[.int .i64 regs, .slice A l.length cap]] w (DeadPost regs l w) := by
  have hlo := hR.lo
  have hhi := hR.hi
  have hC := fun W (hW : Below w.heap.size w W) => Check_any regs A l cap W (by unfold maxLen; omega) (hA.below hW)
  rw [hc] at hC
  have HC := hide hC
  have hCl := fun W (hW : Below w.heap.size w W) => Clone_any A l cap W (hA.below hW) hlo (by omega)
  have HCl := hide hCl
  have HR := hide hR
  clear hC hc hR hCl
  go_enter Tryd.func6, Tryd.ntmps6
  go_wp2_with fail
  refine wp_scope_again 0 (fun g a' w' => ∃ (GQ : Nat) (v : Value) (l' : List Nd) (u4 u6 u7 u8 u9 u10 u11 u12 u13 u14 u15 u16 u17 u18 u19 u20 u21 u22 u23 u24 u25 u26 u27 u28 u29 u30 u31 u32 u33 u34 u35 u36 u37 u38 u39 : Value), a' = { tmps := #[.agg #[.int .i64 regs, .slice A l.length cap], .pointer (some ⟨w.heap.size, 0, none⟩), .pointer (some ⟨w.heap.size + 1, 0, none⟩), .int .i64 0, u4, .pointer (some ⟨GQ, 0, none⟩), u6, u7, u8, u9, u10, u11, u12, u13, u14, u15, u16, u17, u18, u19, u20, u21, u22, u23, u24, u25, u26, u27, u28, u29, u30, u31, u32, u33, u34, u35, u36, u37, u38, u39], defers := [] } ∧ g = busyN l' ∧ Right regs l' ∧ Hushes l l' ∧ l'.length = l.length ∧
    w.heap.size + 2 ≤ GQ ∧ Blk w' GQ 24 #[.int .i64 regs, v] ∧ NRow w' w.heap.size 55 v l' ∧ Blk w' (w.heap.size + 1) 24 #[.int .i64 0, .slice none 0 0] ∧ Below w.heap.size w w') rfl ?pass ?first
  case first =>
    intro again
    have Again := hide again
    clear again
    go_wp2_with fail
    refine (HC.out _ (by repeat (first | (with_reducible exact Below.refl _ _) | (with_reducible assumption) | (with_reducible refine Below.drew ?_) | (with_reducible refine below_drewN ?_ _) | (with_reducible refine Below.alloc ?_ (by (try simp only [World.size_alloc, World.size_setCell, World.size_drew, World.heap_drewN]); (first | done | omega | ((try simp only [World.size_alloc, World.size_setCell, World.size_drew, World.heap_drewN] at *); omega))) _) | (with_reducible refine Below.setCell ?_ (by (try simp only [World.size_alloc, World.size_setCell, World.size_drew, World.heap_drewN]); (first | done | omega | ((try simp only [World.size_alloc, World.size_setCell, World.size_drew, World.heap_drewN] at *); omega))) _) | (with_reducible refine Below.trans ?_ (Below.mono (by assumption) (by (try simp only [World.size_alloc, World.size_setCell, World.size_drew, World.heap_drewN]); (first | done | omega | ((try simp only [World.size_alloc, World.size_setCell, World.size_drew, World.heap_drewN] at *); omega)))))))).mono ?_
    rintro e w1 ⟨rfl, hb1⟩
    have hz1 := hb1.size
    simp only [World.size_alloc] at hz1
    have hP1 : Blk w1 w.heap.size 24 #[.int .i64 regs, .slice A l.length cap] := Blk.below (Blk.alloc (Blk.new' rfl) _) hb1 (by simp <;> omega)
    have hQ1 : Blk w1 (w.heap.size + 1) 24 #[.int .i64 0, .slice none 0 0] := Blk.below (Blk.new' (by simp)) hb1 (by simp)
    have hB1 : Below w.heap.size w w1 := (by repeat (first | (with_reducible exact Below.refl _ _) | (with_reducible assumption) | (with_reducible refine Below.drew ?_) | (with_reducible refine below_drewN ?_ _) | (with_reducible refine Below.alloc ?_ (by (try simp only [World.size_alloc, World.size_setCell, World.size_drew, World.heap_drewN]); (first | done | omega | ((try simp only [World.size_alloc, World.size_setCell, World.size_drew, World.heap_drewN] at *); omega))) _) | (with_reducible refine Below.setCell ?_ (by (try simp only [World.size_alloc, World.size_setCell, World.size_drew, World.heap_drewN]); (first | done | omega | ((try simp only [World.size_alloc, World.size_setCell, World.size_drew, World.heap_drewN] at *); omega))) _) | (with_reducible refine Below.trans ?_ (Below.mono (by assumption) (by (try simp only [World.size_alloc, World.size_setCell, World.size_drew, World.heap_drewN]); (first | done | omega | ((try simp only [World.size_alloc, World.size_setCell, World.size_drew, World.heap_drewN] at *); omega)))))))
    have p0 := hP1.cell 0
    have p1 := hP1.cell 1
    simp only [List.getElem?_toArray, List.getElem?_cons_zero, List.getElem?_cons_succ] at p0 p1
    have lp := hP1.lt
    clear hb1
    go_upto_region 4 with fail
    go_cut [5] (fun s5 wx => ∃ (GQ : Nat) (v : Value), s5 = .pointer (some ⟨GQ, 0, none⟩) ∧ w.heap.size + 2 ≤ GQ ∧ Blk wx GQ 24 #[.int .i64 regs, v] ∧ NRow wx w.heap.size 55 v l ∧ Blk wx (w.heap.size + 1) 24 #[.int .i64 0, .slice none 0 0] ∧ Below w.heap.size w wx)
    case first =>
      go_region_with (first
        | (go_at_call 21; (first | with_reducible show Calls _ _ _ (World.drew (World.alloc _ _)) _ | with_reducible show Calls _ _ _ (World.alloc _ _) _); refine (HCl.out _ (by repeat (first | (with_reducible exact Below.refl _ _) | (with_reducible assumption) | (with_reducible refine Below.drew ?_) | (with_reducible refine below_drewN ?_ _) | (with_reducible refine Below.alloc ?_ (by (try simp only [World.size_alloc, World.size_setCell, World.size_drew, World.heap_drewN]); (first | done | omega | ((try simp only [World.size_alloc, World.size_setCell, World.size_drew, World.heap_drewN] at *); omega))) _) | (with_reducible refine Below.setCell ?_ (by (try simp only [World.size_alloc, World.size_setCell, World.size_drew, World.heap_drewN]); (first | done | omega | ((try simp only [World.size_alloc, World.size_setCell, World.size_drew, World.heap_drewN] at *); omega))) _) | (with_reducible refine Below.trans ?_ (Below.mono (by assumption) (by (try simp only [World.size_alloc, World.size_setCell, World.size_drew, World.heap_drewN]); (first | done | omega | ((try simp only [World.size_alloc, World.size_setCell, World.size_drew, World.heap_drewN] at *); omega)))))))).mono ?_; rintro e w2 ⟨v2, rfl, hr2, hb2⟩; obtain ⟨A2, c2, rfl, _, _⟩ := hr2.shape; have hz2 := hb2.size; simp only [World.size_alloc, World.size_drew] at hz2; have hP2 : Blk w2 w.heap.size 24 #[.int .i64 regs, .slice A l.length cap] := Blk.below (by repeat (first | ((with_reducible refine Blk.new' ?_); exact (by (try simp only [World.size_alloc, World.size_setCell, World.size_drew, World.heap_drewN]); (first | done | omega | ((try simp only [World.size_alloc, World.size_setCell, World.size_drew, World.heap_drewN] at *); omega)))) | (with_reducible refine Blk.drew ?_) | (with_reducible refine Blk.drewN ?_ _) | (with_reducible refine Blk.alloc ?_ _) | with_reducible assumption)) hb2 (by simp <;> omega); have hQ2 : Blk w2 (w.heap.size + 1) 24 #[.int .i64 0, .slice none 0 0] := Blk.below (by repeat (first | ((with_reducible refine Blk.new' ?_); exact (by (try simp only [World.size_alloc, World.size_setCell, World.size_drew, World.heap_drewN]); (first | done | omega | ((try simp only [World.size_alloc, World.size_setCell, World.size_drew, World.heap_drewN] at *); omega)))) | (with_reducible refine Blk.drew ?_) | (with_reducible refine Blk.drewN ?_ _) | (with_reducible refine Blk.alloc ?_ _) | with_reducible assumption)) hb2 (by simp <;> omega); have l2 := hP2.lt; have l3 := hQ2.lt; have q0 := hP2.cell 0; have q1 := hP2.cell 1; simp only [List.getElem?_toArray, List.getElem?_cons_zero, List.getElem?_cons_succ] at q0 q1; have hG2 : Blk w2 w1.heap.size 24 #[.int .i64 0, .slice none 0 0] := Blk.below (by repeat (first | ((with_reducible refine Blk.new' ?_); exact (by (try simp only [World.size_alloc, World.size_setCell, World.size_drew, World.heap_drewN]); (first | done | omega | ((try simp only [World.size_alloc, World.size_setCell, World.size_drew, World.heap_drewN] at *); omega)))) | (with_reducible refine Blk.drew ?_) | (with_reducible refine Blk.drewN ?_ _) | (with_reducible refine Blk.alloc ?_ _) | with_reducible assumption)) hb2 (by simp <;> omega); have g0 := hG2.cell 0; have g1 := hG2.cell 1; have g2 := hG2.frozen 0; have g3 := hG2.frozen 1; simp only [List.getElem?_toArray, List.getElem?_cons_zero, List.getElem?_cons_succ] at g0 g1)
        | (go_at_call 21; refine (HCl.out _ (by repeat (first | (with_reducible exact Below.refl _ _) | (with_reducible assumption) | (with_reducible refine Below.drew ?_) | (with_reducible refine below_drewN ?_ _) | (with_reducible refine Below.alloc ?_ (by (try simp only [World.size_alloc, World.size_setCell, World.size_drew, World.heap_drewN]); (first | done | omega | ((try simp only [World.size_alloc, World.size_setCell, World.size_drew, World.heap_drewN] at *); omega))) _) | (with_reducible refine Below.setCell ?_ (by (try simp only [World.size_alloc, World.size_setCell, World.size_drew, World.heap_drewN]); (first | done | omega | ((try simp only [World.size_alloc, World.size_setCell, World.size_drew, World.heap_drewN] at *); omega))) _) | (with_reducible refine Below.trans ?_ (Below.mono (by assumption) (by (try simp only [World.size_alloc, World.size_setCell, World.size_drew, World.heap_drewN]); (first | done | omega | ((try simp only [World.size_alloc, World.size_setCell, World.size_drew, World.heap_drewN] at *); omega)))))))).mono ?_; rintro e w2 ⟨v2, rfl, hr2, hb2⟩; obtain ⟨A2, c2, rfl, _, _⟩ := hr2.shape; have hz2 := hb2.size; simp only [World.size_alloc, World.size_drew] at hz2; have hP2 : Blk w2 w.heap.size 24 #[.int .i64 regs, .slice A l.length cap] := Blk.below (by repeat (first | ((with_reducible refine Blk.new' ?_); exact (by (try simp only [World.size_alloc, World.size_setCell, World.size_drew, World.heap_drewN]); (first | done | omega | ((try simp only [World.size_alloc, World.size_setCell, World.size_drew, World.heap_drewN] at *); omega)))) | (with_reducible refine Blk.drew ?_) | (with_reducible refine Blk.drewN ?_ _) | (with_reducible refine Blk.alloc ?_ _) | with_reducible assumption)) hb2 (by simp <;> omega); have hQ2 : Blk w2 (w.heap.size + 1) 24 #[.int .i64 0, .slice none 0 0] := Blk.below (by repeat (first | ((with_reducible refine Blk.new' ?_); exact (by (try simp only [World.size_alloc, World.size_setCell, World.size_drew, World.heap_drewN]); (first | done | omega | ((try simp only [World.size_alloc, World.size_setCell, World.size_drew, World.heap_drewN] at *); omega)))) | (with_reducible refine Blk.drew ?_) | (with_reducible refine Blk.drewN ?_ _) | (with_reducible refine Blk.alloc ?_ _) | with_reducible assumption)) hb2 (by simp <;> omega); have l2 := hP2.lt; have l3 := hQ2.lt; have q0 := hP2.cell 0; have q1 := hP2.cell 1; simp only [List.getElem?_toArray, List.getElem?_cons_zero, List.getElem?_cons_succ] at q0 q1))
      all_goals (go_wp2_with fail)
      all_goals go_meet
      all_goals go_tidy
      all_goals (first
        | (refine ⟨w2.heap.size, .slice A2 l.length c2, rfl, by omega, (by repeat (first | ((with_reducible refine Blk.new' ?_); exact (by (try simp only [World.size_alloc, World.size_setCell, World.size_drew, World.heap_drewN]); (first | done | omega | ((try simp only [World.size_alloc, World.size_setCell, World.size_drew, World.heap_drewN] at *); omega)))) | (with_reducible refine Blk.drew ?_) | (with_reducible refine Blk.drewN ?_ _) | (with_reducible refine Blk.alloc ?_ _) | with_reducible assumption)), (hr2.alloc _).mono (by simp <;> omega), hQ2.alloc _, ?_⟩; exact (by repeat (first | (with_reducible exact Below.refl _ _) | (with_reducible assumption) | (with_reducible refine Below.drew ?_) | (with_reducible refine below_drewN ?_ _) | (with_reducible refine Below.alloc ?_ (by (try simp only [World.size_alloc, World.size_setCell, World.size_drew, World.heap_drewN]); (first | done | omega | ((try simp only [World.size_alloc, World.size_setCell, World.size_drew, World.heap_drewN] at *); omega))) _) | (with_reducible refine Below.setCell ?_ (by (try simp only [World.size_alloc, World.size_setCell, World.size_drew, World.heap_drewN]); (first | done | omega | ((try simp only [World.size_alloc, World.size_setCell, World.size_drew, World.heap_drewN] at *); omega))) _) | (with_reducible refine Below.trans ?_ (Below.mono (by assumption) (by (try simp only [World.size_alloc, World.size_setCell, World.size_drew, World.heap_drewN]); (first | done | omega | ((try simp only [World.size_alloc, World.size_setCell, World.size_drew, World.heap_drewN] at *); omega))))))))
        | (refine ⟨w1.heap.size, .slice A2 l.length c2, rfl, by omega, (hG2.set_ 0 _).set_ 1 _, ((hr2.far (hr2.ne_blk hG2 (by decide)) _).far (hr2.ne_blk hG2 (by decide)) _).mono (by simp <;> omega), (hQ2.far (by simp <;> omega) _).far (by simp <;> omega) _, ?_⟩; exact (by repeat (first | (with_reducible exact Below.refl _ _) | (with_reducible assumption) | (with_reducible refine Below.drew ?_) | (with_reducible refine below_drewN ?_ _) | (with_reducible refine Below.alloc ?_ (by (try simp only [World.size_alloc, World.size_setCell, World.size_drew, World.heap_drewN]); (first | done | omega | ((try simp only [World.size_alloc, World.size_setCell, World.size_drew, World.heap_drewN] at *); omega))) _) | (with_reducible refine Below.setCell ?_ (by (try simp only [World.size_alloc, World.size_setCell, World.size_drew, World.heap_drewN]); (first | done | omega | ((try simp only [World.size_alloc, World.size_setCell, World.size_drew, World.heap_drewN] at *); omega))) _) | (with_reducible refine Below.trans ?_ (Below.mono (by assumption) (by (try simp only [World.size_alloc, World.size_setCell, World.size_drew, World.heap_drewN]); (first | done | omega | ((try simp only [World.size_alloc, World.size_setCell, World.size_drew, World.heap_drewN] at *); omega))))))))
        | trace_state)
    case rest =>
      obtain ⟨GQ, v, rfl, hGQ, hQ, hN, hRes, hBc⟩ := hcut
      go_wp2_with fail
      go_step3
      rename_i K hK
      refine hK _ _ ?_
      exact Again.out _ _ _ ⟨GQ, v, l, _, _, _, _, _, _, _, _, _, _, _, _, _, _, _, _, _, _, _, _, _, _, _, _, _, _, _, _, _, _, _, _, _, _, _, rfl, rfl, HR.out, Hushes.nil l, rfl, hGQ, hQ, hN, hRes, hBc⟩
  case pass =>
    rintro g a' wr ⟨GQ, v, l', u4, u6, u7, u8, u9, u10, u11, u12, u13, u14, u15, u16, u17, u18, u19, u20, u21, u22, u23, u24, u25, u26, u27, u28, u29, u30, u31, u32, u33, u34, u35, u36, u37, u38, u39, rfl, hg, hR', hH, hll, hGQ, hQ, hN, hRes, hB⟩
    obtain ⟨A2, c2, rfl, _, _⟩ := hN.shape
    have hz := hB.size
    have q0 := hQ.cell 0
    have q1 := hQ.cell 1
    have qf := hQ.lt
    simp only [List.getElem?_toArray, List.getElem?_cons_zero, List.getElem?_cons_succ] at q0 q1
    have hnd := hN.nodes
    have hS := sets_run regs A2 l' c2 wr hnd hR'
    have HS := hide hS
    have Hg := hide hg
    have HR' := hide hR'
    have HH := hide hH
    have Hll := hide hll
    have HQ := hide hQ
    have HN := hide hN
    have HRes := hide hRes
    have lres := hRes.lt
    clear hS hg hR' hH hll hQ hN hRes
    go_wp2_with fail
    refine (HS.out).mono ?_
    rintro e w2 ⟨ats, v2, ⟨hal, hz64, hlst⟩, rfl, hr2, hb2⟩
    obtain ⟨S2, d2, rfl, _, _⟩ := hr2.shape
    have hz2 := hb2.size
    rw [u64s_length] at *
    have q0' := ((bcell hb2).1 _ _ qf).trans q0
    have q1' := ((bcell hb2).1 _ _ qf).trans q1
    have hidx := fun (B : Nat) => idxDead_any A2 S2 l' ats c2 d2 w2.heap.size (w2.alloc (.cells #[.slice S2 ats.length d2] 56)) (hnd.below (hb2.alloc hz2 _)) (hr2.vals.below ((Below.refl _ _).alloc (Nat.le_refl _) _)) (by rw [hal, Hll.out]; exact hhi) hal hz64
      (fun n hn h12 => by have := HR'.out.then_ hn h12; omega) (fun n hn => HR'.out.regs64 hn) (by simp) (by simp)
    have HIdx := hide (hidx 0)
    have Hlst := hide hlst
    have qf' : GQ < w2.heap.size := by omega
    clear hidx hal hz64 hlst hr2 q0 q1
    go_wp2_with fail
    refine (HIdx.out).mono ?_
    rintro e w3 ⟨hk, hb3⟩
    have hz3 := hb3.size
    simp only [World.size_alloc] at hz3
    have hB3 : Below wr.heap.size wr w3 := (hb2.alloc hz2 _).trans (hb3.mono (by simp; omega))
    have HQ3 := hide (HQ.out.below hB3 qf)
    have HN3 := hide (HN.out.below' hB3)
    have HRes3 := hide (HRes.out.below hB3 lres)
    have q0 := HQ3.out.cell 0
    have q1 := HQ3.out.cell 1
    simp only [List.getElem?_toArray, List.getElem?_cons_zero, List.getElem?_cons_succ] at q0 q1
    have hB3' : Below w.heap.size w w3 := hB.trans (hB3.mono hz)
    clear q0' q1' hb3 hnd HIdx hb2
    rcases hk with ⟨k, x, rfl, hk, hdead⟩ | ⟨rfl, hall⟩
    · have hkl : k < l'.length := (List.getElem?_eq_some_iff.1 hk).1
      obtain ⟨gN, cN, x', e1, hgB, hgl, hx', hlies, hfr⟩ := HN3.out.get hkl
      injection e1 with e1 e2 e3
      subst e1 e3
      rw [hk] at hx'
      injection hx' with hx'
      subst hx'
      obtain ⟨c0, c1, c2', c3, c4, c5⟩ := hlies
      have f0 := hfr (k * 6) (by omega)
      have f1 := hfr (k * 6 + 1) (by omega)
      have f2 := hfr (k * 6 + 2) (by omega)
      have f3 := hfr (k * 6 + 3) (by omega)
      have f4 := hfr (k * 6 + 4) (by omega)
      have f5 := hfr (k * 6 + 5) (by omega)
      have k0 : (0 : Int) ≤ (k : Int) := by omega
      have k1 : (k : Int) < (l'.length : Int) := by omega
      have Hk := hide hk
      have Hdead := hide hdead
      clear hk hdead hfr
      go_wp2_with fail
      go_region
      all_goals go_wp2_with fail
      all_goals go_step3
      all_goals (
        have hDN : DeadN l' k := (deadX_iff HR'.out Hk.out).1 (by rw [← deadB_X HR'.out Hlst.out (List.mem_of_getElem? Hk.out)]; exact Hdead.out)
        have hop : 1 ≤ x.op ∧ x.op ≤ 8 := by
          obtain ⟨y, hy, h1, h8, _⟩ := id hDN
          rw [Hk.out] at hy
          injection hy with hy
          subst hy
          exact ⟨h1, h8⟩
        have hne := HN3.out.ne_blk HQ3.out (by decide)
        have hne2 := HN3.out.ne_blk HRes3.out (by decide)
        have g1 : gN ≠ GQ := fun e => hne (by simp [Value.ownBlock, e])
        have g2 : gN ≠ w.heap.size + 1 := fun e => hne2 (by simp [Value.ownBlock, e])
        have hput := HN3.out.put6 Hk.out (hush x)
        refine ⟨rfl, busyN (hushAt l' k), by rw [Hg.out]; exact busyN_hush Hk.out (by omega), GQ, .slice (some ⟨gN, 0, none⟩) l'.length c2, hushAt l' k, _, _, _, _, _, _, _, _, _, _, _, _, _, _, _, _, _, _, _, _, _, _, _, _, _, _, _, _, _, _, _, _, _, _, _, rfl, rfl, HR'.out.hush Hk.out (by omega), HH.out.snoc hDN, by rw [hushAt_len]; exact Hll.out, hGQ, ?_, ?_, ?_, ?_⟩
        · exact Blk.drew ((((((HQ3.out.far (Ne.symm g1) _).far (Ne.symm g1) _).far (Ne.symm g1) _).far (Ne.symm g1) _).far (Ne.symm g1) _).far (Ne.symm g1) _)
        · rw [hushAt_eq Hk.out]
          exact NRow.drew hput
        · exact Blk.drew ((((((HRes3.out.far (Ne.symm g2) _).far (Ne.symm g2) _).far (Ne.symm g2) _).far (Ne.symm g2) _).far (Ne.symm g2) _).far (Ne.symm g2) _)
        · exact Below.drew ((((((hB3'.setCell hgB _).setCell hgB _).setCell hgB _).setCell hgB _).setCell hgB _).setCell hgB _))
    · have r0 := HRes3.out.cell 0
      have r1 := HRes3.out.cell 1
      have r2 := HRes3.out.frozen 0
      have r3 := HRes3.out.frozen 1
      simp only [List.getElem?_toArray, List.getElem?_cons_zero, List.getElem?_cons_succ] at r0 r1
      have Hall := hide hall
      clear hall
      go_wp2_with fail
      go_tidy
      simp only [Exit.jump]
      refine bodyPost_ret (v := .tuple #[.agg #[.int .i64 regs, .slice A2 l'.length c2], .int .i64 0]) (by simp [results, Tryd.results6, go_sem, r0, r1, World.cell?_setCell_same, World.cell?_setCell_other]) rfl ?_
      have hne2 := HN3.out.ne_blk HRes3.out (by decide)
      refine ⟨_, l', rfl, ⟨HH.out, not_dead HR'.out fun n hn => ?_⟩, Hll.out, (HN3.out.far hne2 _).far hne2 _, (hB3'.setCell (by simp) _).setCell (by simp) _⟩
      rw [← deadB_X HR'.out Hlst.out hn]
      exact Hall.out n hn
end Go.Proofs.YtmghkonmfbpjcabDoor
