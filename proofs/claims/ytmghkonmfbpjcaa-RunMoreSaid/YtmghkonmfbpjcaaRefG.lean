/- The reference's leads, NextOf, AheadOf. -/
import Derived.Test.YtmghkonmfbpjcaaTab
import Derived.Test.YtmghkonmfbpjcaaOps
namespace Go.Proofs.Ytmghkonmfbpjcaa
set_option linter.unusedVariables false
set_option linter.unusedSimpArgs false
open Go.RowKit
set_option maxHeartbeats 2000000

theorem infoInt : (Try.prog.info? 3).map (fun i => (i.zero, i.size, i.bytes)) = some (some (.int .i64 0), 1, 8) := by kernel_rfl

theorem leads_any (regs : Int) (A : Option Addr) (l : List Nd) (cap : Nat) (m : Int) (w : World) (i : Nat) (n : Nd) (hn : l[i]? = some n) (hl : l.length ≤ 256) (hA : NodesAt w A l) :
    Calls Try.prog 83 #[.agg #[.int .i64 regs, .slice A l.length cap], .int .i64 i, .int .i64 m] w fun e w' => e = .returned (.bool (leadsB n m)) ∧ Below w.heap.size w w' := by
  have hi : i < l.length := (List.getElem?_eq_some_iff.1 hn).1
  obtain ⟨b, off, n', rfl, hb, hn', h0⟩ := hA.get hi
  rw [hn] at hn'
  injection hn' with hn'
  subst hn'
  clear hn
  obtain ⟨c0, c1, c2, c3, c4, c5⟩ := h0
  go_enter Try.func83, Try.ntmps83
  go_wp2
  all_goals go_tidy
  all_goals go_ret
  all_goals exact ⟨ret_bool (by simp_all [leadsB]), (by repeat (first | (with_reducible exact Below.refl _ _) | (with_reducible assumption) | (with_reducible refine Below.drew ?_) | (with_reducible refine below_drewN ?_ _) | (with_reducible refine Below.alloc ?_ (by (try simp only [World.size_alloc, World.size_setCell, World.size_drew, World.heap_drewN]); (first | done | omega | ((try simp only [World.size_alloc, World.size_setCell, World.size_drew, World.heap_drewN] at *); omega))) _) | (with_reducible refine Below.setCell ?_ (by (try simp only [World.size_alloc, World.size_setCell, World.size_drew, World.heap_drewN]); (first | done | omega | ((try simp only [World.size_alloc, World.size_setCell, World.size_drew, World.heap_drewN] at *); omega))) _) | (with_reducible refine Below.trans ?_ (Below.mono (by assumption) (by (try simp only [World.size_alloc, World.size_setCell, World.size_drew, World.heap_drewN]); (first | done | omega | ((try simp only [World.size_alloc, World.size_setCell, World.size_drew, World.heap_drewN] at *); omega)))))))⟩

def RowPost (B : Nat) (t : TypeId) (xs : List Value) (w : World) (e : Ending) (w' : World) : Prop := ∃ v, e = .returned v ∧ Row w' B t v xs ∧ Below w.heap.size w w'

theorem NextOf_any (regs : Int) (A : Option Addr) (l : List Nd) (cap : Nat) (w : World) (n : Nat) (hn : n < l.length) (hl : l.length ≤ 256) (hA : NodesAt w A l) : Calls Try.prog 36 #[.agg #[.int .i64 regs, .slice A l.length cap], .int .i64 n] w (RowPost w.heap.size 3 (ints (sel (nextP l n) l.length)) w) := by
  obtain ⟨i3, h3i, h3z, h3s, h3b⟩ := info_parts infoInt
  obtain ⟨x, hx⟩ : ∃ x, l[n]? = some x := ⟨_, List.getElem?_eq_getElem hn⟩
  have Hx := hide hx
  clear hx
  go_enter Try.func36, Try.ntmps36
  go_wp2_with fail
  go_loopw [5, 6] (fun v i wr => ∃ k : Nat, k ≤ l.length ∧ i = .int .i64 k ∧ Row wr w.heap.size 3 v (ints (sel (nextP l n) k)) ∧ Blk wr w.heap.size 24 #[.int .i64 regs, .slice A l.length cap] ∧ Below w.heap.size w wr) (fun _ i _ => l.length - (intOf i).toNat)
  case atStart => exact ⟨0, Nat.zero_le _, rfl, Row.nil_ _ _ _, (by repeat (first | ((with_reducible refine Blk.new' ?_); exact (by (try simp only [World.size_alloc, World.size_setCell, World.size_drew, World.heap_drewN]); (first | done | omega | ((try simp only [World.size_alloc, World.size_setCell, World.size_drew, World.heap_drewN] at *); omega)))) | (with_reducible refine Blk.drew ?_) | (with_reducible refine Blk.drewN ?_ _) | (with_reducible refine Blk.alloc ?_ _) | with_reducible assumption)), (by repeat (first | (with_reducible exact Below.refl _ _) | (with_reducible assumption) | (with_reducible refine Below.drew ?_) | (with_reducible refine below_drewN ?_ _) | (with_reducible refine Below.alloc ?_ (by (try simp only [World.size_alloc, World.size_setCell, World.size_drew, World.heap_drewN]); (first | done | omega | ((try simp only [World.size_alloc, World.size_setCell, World.size_drew, World.heap_drewN] at *); omega))) _) | (with_reducible refine Below.setCell ?_ (by (try simp only [World.size_alloc, World.size_setCell, World.size_drew, World.heap_drewN]); (first | done | omega | ((try simp only [World.size_alloc, World.size_setCell, World.size_drew, World.heap_drewN] at *); omega))) _) | (with_reducible refine Below.trans ?_ (Below.mono (by assumption) (by (try simp only [World.size_alloc, World.size_setCell, World.size_drew, World.heap_drewN]); (first | done | omega | ((try simp only [World.size_alloc, World.size_setCell, World.size_drew, World.heap_drewN] at *); omega)))))))⟩
  case round =>
    obtain ⟨k, hk, rfl, hrow, hP, hbr⟩ := hrel
    have p0 := hP.cell 0
    have p1 := hP.cell 1
    simp only [List.getElem?_toArray, List.getElem?_cons_zero, List.getElem?_cons_succ] at p0 p1
    have hz := hbr.size
    have hsl := sel_len (nextP l n) k
    rw [← ints_length] at hsl
    have Hrow := hide hrow
    have HP := hide hP
    clear hrow hP
    by_cases hlt : k < l.length
    · have hcall := leads_any regs A l cap (k : Int) wr n x Hx.out hl (hA.below hbr)
      cases ho : nextP l n k
      · have ho' := ho
        rw [nextP_eq Hx.out] at ho'
        rw [ho'] at hcall
        have Hcall := hide hcall
        have Ho := hide ho
        clear hcall ho ho'
        go_wp2_with (go_at_call 83; refine (Hcall.out).mono ?_; rintro e w1 ⟨rfl, hb1⟩)
        go_roundw
        case rel => exact ⟨k + 1, by omega, by go_num, by rw [sel_succ_false Ho.out]; exact Hrow.out.below' hb1, HP.out.below hb1 HP.out.lt, (by repeat (first | (with_reducible exact Below.refl _ _) | (with_reducible assumption) | (with_reducible refine Below.drew ?_) | (with_reducible refine below_drewN ?_ _) | (with_reducible refine Below.alloc ?_ (by (try simp only [World.size_alloc, World.size_setCell, World.size_drew, World.heap_drewN]); (first | done | omega | ((try simp only [World.size_alloc, World.size_setCell, World.size_drew, World.heap_drewN] at *); omega))) _) | (with_reducible refine Below.setCell ?_ (by (try simp only [World.size_alloc, World.size_setCell, World.size_drew, World.heap_drewN]); (first | done | omega | ((try simp only [World.size_alloc, World.size_setCell, World.size_drew, World.heap_drewN] at *); omega))) _) | (with_reducible refine Below.trans ?_ (Below.mono (by assumption) (by (try simp only [World.size_alloc, World.size_setCell, World.size_drew, World.heap_drewN]); (first | done | omega | ((try simp only [World.size_alloc, World.size_setCell, World.size_drew, World.heap_drewN] at *); omega)))))))⟩
        case measure => simp [intOf]; omega
      · have ho' := ho
        rw [nextP_eq Hx.out] at ho'
        rw [ho'] at hcall
        have Hcall := hide hcall
        have Ho := hide ho
        clear hcall ho ho'
        obtain ⟨A5, c5, rfl, _, _⟩ := Hrow.out.shape
        go_wp2_with (first
          | (go_at_call 83; refine (Hcall.out).mono ?_; rintro e w1 ⟨rfl, hb1⟩; have hz1 := hb1.size)
          | (at_builtin; refine wpList_append_row (v := .slice A5 (ints (sel (nextP l n) k)).length c5) rfl (.tmp 18) (.tmp 20) _ rfl i3 _ 8 Try.underlying56 h3i h3z h3s h3b rfl rfl ((Hrow.out.below' hb1).alloc _) (some ⟨w1.heap.size, 0, none⟩) 1 1 [.int .i64 (k : Int)] rfl rfl (vals_one _ _ _) (by simp [Value.oneCell']) (by simp [maxLen]; omega) (by simp; omega) (by simp; omega) ?_; intro v2 w2 hr2 hg2 hat2))
        have hb2 : Below w.heap.size w w2 := (((hbr.trans (hb1.mono hz)).alloc (by omega) _).grown hg2 (by simp; omega) (fun q hq => (Hrow.out.lt q hq).1))
        go_roundw
        case rel => exact ⟨k + 1, by omega, by go_num, by rw [sel_succ_true Ho.out, ints_append]; exact hr2, ((HP.out.below hb1 HP.out.lt).alloc _).grown hg2 (Hrow.out.ne_blk HP.out (by decide)), hb2⟩
        case measure => simp [intOf]; omega
    · have hkk : k = l.length := by omega
      have Hkk := hide hkk
      clear hkk
      go_wp2_with fail
      go_ret
      exact ⟨_, rfl, by rw [← Hkk.out]; exact Hrow.out, hbr⟩
theorem AheadOf_any (regs : Int) (A : Option Addr) (l : List Nd) (cap : Nat) (w : World) (n : Nat) (hn : n < l.length) (hl : l.length ≤ 256) (hA : NodesAt w A l) : Calls Try.prog 37 #[.agg #[.int .i64 regs, .slice A l.length cap], .int .i64 n] w (RowPost w.heap.size 3 (ints (sel (aheadP l n) l.length)) w) := by
  obtain ⟨i3, h3i, h3z, h3s, h3b⟩ := info_parts infoInt
  go_enter Try.func37, Try.ntmps37
  go_wp2_with fail
  go_loopw [5, 6] (fun v i wr => ∃ k : Nat, k ≤ l.length ∧ i = .int .i64 k ∧ Row wr w.heap.size 3 v (ints (sel (aheadP l n) k)) ∧ Blk wr w.heap.size 24 #[.int .i64 regs, .slice A l.length cap] ∧ Below w.heap.size w wr) (fun _ i _ => l.length - (intOf i).toNat)
  case atStart => exact ⟨0, Nat.zero_le _, rfl, Row.nil_ _ _ _, (by repeat (first | ((with_reducible refine Blk.new' ?_); exact (by (try simp only [World.size_alloc, World.size_setCell, World.size_drew, World.heap_drewN]); (first | done | omega | ((try simp only [World.size_alloc, World.size_setCell, World.size_drew, World.heap_drewN] at *); omega)))) | (with_reducible refine Blk.drew ?_) | (with_reducible refine Blk.drewN ?_ _) | (with_reducible refine Blk.alloc ?_ _) | with_reducible assumption)), (by repeat (first | (with_reducible exact Below.refl _ _) | (with_reducible assumption) | (with_reducible refine Below.drew ?_) | (with_reducible refine below_drewN ?_ _) | (with_reducible refine Below.alloc ?_ (by (try simp only [World.size_alloc, World.size_setCell, World.size_drew, World.heap_drewN]); (first | done | omega | ((try simp only [World.size_alloc, World.size_setCell, World.size_drew, World.heap_drewN] at *); omega))) _) | (with_reducible refine Below.setCell ?_ (by (try simp only [World.size_alloc, World.size_setCell, World.size_drew, World.heap_drewN]); (first | done | omega | ((try simp only [World.size_alloc, World.size_setCell, World.size_drew, World.heap_drewN] at *); omega))) _) | (with_reducible refine Below.trans ?_ (Below.mono (by assumption) (by (try simp only [World.size_alloc, World.size_setCell, World.size_drew, World.heap_drewN]); (first | done | omega | ((try simp only [World.size_alloc, World.size_setCell, World.size_drew, World.heap_drewN] at *); omega)))))))⟩
  case round =>
    obtain ⟨k, hk, rfl, hrow, hP, hbr⟩ := hrel
    have p0 := hP.cell 0
    have p1 := hP.cell 1
    simp only [List.getElem?_toArray, List.getElem?_cons_zero, List.getElem?_cons_succ] at p0 p1
    have hz := hbr.size
    have hsl := sel_len (aheadP l n) k
    rw [← ints_length] at hsl
    have Hrow := hide hrow
    have HP := hide hP
    clear hrow hP
    by_cases hlt : k < l.length
    · obtain ⟨x, hx⟩ : ∃ x, l[k]? = some x := ⟨_, List.getElem?_eq_getElem hlt⟩
      have Hx := hide hx
      clear hx
      have hcall := leads_any regs A l cap (n : Int) wr k x Hx.out hl (hA.below hbr)
      cases ho : aheadP l n k
      · have ho' := ho
        rw [aheadP_eq Hx.out] at ho'
        rw [ho'] at hcall
        have Hcall := hide hcall
        have Ho := hide ho
        clear hcall ho ho'
        go_wp2_with (go_at_call 83; refine (Hcall.out).mono ?_; rintro e w1 ⟨rfl, hb1⟩)
        go_roundw
        case rel => exact ⟨k + 1, by omega, by go_num, by rw [sel_succ_false Ho.out]; exact Hrow.out.below' hb1, HP.out.below hb1 HP.out.lt, (by repeat (first | (with_reducible exact Below.refl _ _) | (with_reducible assumption) | (with_reducible refine Below.drew ?_) | (with_reducible refine below_drewN ?_ _) | (with_reducible refine Below.alloc ?_ (by (try simp only [World.size_alloc, World.size_setCell, World.size_drew, World.heap_drewN]); (first | done | omega | ((try simp only [World.size_alloc, World.size_setCell, World.size_drew, World.heap_drewN] at *); omega))) _) | (with_reducible refine Below.setCell ?_ (by (try simp only [World.size_alloc, World.size_setCell, World.size_drew, World.heap_drewN]); (first | done | omega | ((try simp only [World.size_alloc, World.size_setCell, World.size_drew, World.heap_drewN] at *); omega))) _) | (with_reducible refine Below.trans ?_ (Below.mono (by assumption) (by (try simp only [World.size_alloc, World.size_setCell, World.size_drew, World.heap_drewN]); (first | done | omega | ((try simp only [World.size_alloc, World.size_setCell, World.size_drew, World.heap_drewN] at *); omega)))))))⟩
        case measure => simp [intOf]; omega
      · have ho' := ho
        rw [aheadP_eq Hx.out] at ho'
        rw [ho'] at hcall
        have Hcall := hide hcall
        have Ho := hide ho
        clear hcall ho ho'
        obtain ⟨A5, c5, rfl, _, _⟩ := Hrow.out.shape
        go_wp2_with (first
          | (go_at_call 83; refine (Hcall.out).mono ?_; rintro e w1 ⟨rfl, hb1⟩; have hz1 := hb1.size)
          | (at_builtin; refine wpList_append_row (v := .slice A5 (ints (sel (aheadP l n) k)).length c5) rfl (.tmp 18) (.tmp 20) _ rfl i3 _ 8 Try.underlying56 h3i h3z h3s h3b rfl rfl ((Hrow.out.below' hb1).alloc _) (some ⟨w1.heap.size, 0, none⟩) 1 1 [.int .i64 (k : Int)] rfl rfl (vals_one _ _ _) (by simp [Value.oneCell']) (by simp [maxLen]; omega) (by simp; omega) (by simp; omega) ?_; intro v2 w2 hr2 hg2 hat2))
        have hb2 : Below w.heap.size w w2 := (((hbr.trans (hb1.mono hz)).alloc (by omega) _).grown hg2 (by simp; omega) (fun q hq => (Hrow.out.lt q hq).1))
        go_roundw
        case rel => exact ⟨k + 1, by omega, by go_num, by rw [sel_succ_true Ho.out, ints_append]; exact hr2, ((HP.out.below hb1 HP.out.lt).alloc _).grown hg2 (Hrow.out.ne_blk HP.out (by decide)), hb2⟩
        case measure => simp [intOf]; omega
    · have hkk : k = l.length := by omega
      have Hkk := hide hkk
      clear hkk
      go_wp2_with fail
      go_ret
      exact ⟨_, rfl, by rw [← Hkk.out]; exact Hrow.out, hbr⟩
end Go.Proofs.Ytmghkonmfbpjcaa
