/- flow.Check and the reference's FlowError: what they answer. -/
import Derived.Test.YtmghkonmfbpjcaaCheck2
namespace Go.Proofs.Ytmghkonmfbpjcaa
set_option linter.unusedVariables false
set_option linter.unusedSimpArgs false
open Go.RowKit
set_option maxHeartbeats 2000000

theorem fcheck1_any (S A : Option Addr) (n m len cap : Nat) (g : Nat) (w : World) (h0 : w.cell? ⟨g, 1, none⟩ = some (.slice A len cap)) :
    Calls Try.prog 56 #[.slice S n m, .pointer (some ⟨g, 0, none⟩)] w fun e w' => e = .returned (.bool ((n : Int) != (len : Int))) ∧ w = w' := by
  go_enter Try.func56, Try.ntmps56
  go_wp2
  go_ret
  exact ⟨rfl, rfl⟩

/-- slices as values -/
def slv (s : Option Addr × Nat × Nat) : Value := .slice s.1 s.2.1 s.2.2

theorem idxBools_any (S A : Option Addr) (ss : List (Option Addr × Nat × Nat)) (cap len cp : Nat) (g : Nat) (w : World) (hl : ss.length ≤ maxLen) (hS : ValsAt w S (ss.map slv))
    (hg : g < w.heap.size) (h0 : w.cell? ⟨g, 1, none⟩ = some (.slice A len cp)) :
    Calls Try.prog 98 #[.slice S ss.length cap, .func (.func 56) #[] #[.pointer (some ⟨g, 0, none⟩)]] w
      (IdxPost (ss.any fun s => (s.2.1 : Int) != (len : Int)) w) := by
  unfold maxLen at hl
  go_enter Try.func98, Try.ntmps98
  go_wp2
  go_loopw [8] (fun i wr => ∃ k : Nat, k ≤ ss.length ∧ i = .int .i64 k ∧ (ss.take k).any (fun s => (s.2.1 : Int) != (len : Int)) = false ∧ Below w.heap.size w wr) (fun i _ => ss.length - (intOf i).toNat)
  case atStart => exact ⟨0, Nat.zero_le _, rfl, by simp, Below.refl _ _⟩
  case round =>
    obtain ⟨k, hk, rfl, hno, hbr⟩ := hrel
    have hzr := hbr.size
    have Hno := hide hno
    clear hno
    by_cases hlt : k < ss.length
    · obtain ⟨b, off, v, rfl, hbl, hkn, hn⟩ := hS.get (k := k) (by simpa using hlt)
      obtain ⟨s, hs, hv⟩ : ∃ s, ss[k]? = some s ∧ slv s = v := by simpa using hkn
      subst hv
      clear hkn
      have Hkn := hide hs
      clear hs
      have c0 := ((bcell hbr).1 _ _ hbl).trans hn
      unfold slv at c0
      have g0 := ((bcell hbr).1 _ 1 hg).trans h0
      have hp := fcheck1_any s.1 A s.2.1 s.2.2 len cp g wr g0
      have Hp := hide hp
      clear hp
      have hbw : b < wr.heap.size := by omega
      cases ho : ((s.2.1 : Int) != (len : Int))
      · rw [ho] at Hp
        go_wp2_with (go_at_call 56; refine (Hp.out).mono ?_; rintro e w1 ⟨rfl, rfl⟩)
        go_roundw
        case rel => exact ⟨k + 1, by omega, by go_num, by rw [any_take_succ _ ss k s Hkn.out, Hno.out]; simp [ho], hbr⟩
        case measure => simp [intOf]; omega
      · rw [ho] at Hp
        go_wp2_with (go_at_call 56; refine (Hp.out).mono ?_; rintro e w1 ⟨rfl, rfl⟩)
        go_ret
        exact ⟨k, rfl, by rw [any_of_take _ ss k s Hkn.out ho]; simp, hbr⟩
    · go_wp2
      go_ret
      exact ⟨-1, rfl, by rw [← any_take_all _ ss k hlt, Hno.out]; rfl, hbr⟩

theorem anyBools_any (S A : Option Addr) (ss : List (Option Addr × Nat × Nat)) (cap len cp : Nat) (g : Nat) (w : World) (hl : ss.length ≤ maxLen) (hS : ValsAt w S (ss.map slv))
    (hg : g < w.heap.size) (h0 : w.cell? ⟨g, 1, none⟩ = some (.slice A len cp)) :
    Calls Try.prog 55 #[.slice S ss.length cap, .func (.func 56) #[] #[.pointer (some ⟨g, 0, none⟩)]] w
      fun e w' => e = .returned (.bool (ss.any fun s => (s.2.1 : Int) != (len : Int))) ∧ Below w.heap.size w w' := by
  have h := idxBools_any S A ss cap len cp g w hl hS hg h0
  have H := hide h
  clear h h0
  generalize (ss.any fun s => (s.2.1 : Int) != (len : Int)) = q at *
  go_enter Try.func55, Try.ntmps55
  go_wp2_with (go_at_call 98; refine (H.out).mono ?_; rintro e w1 ⟨r, rfl, hr, hb1⟩)
  go_ret
  exact ⟨by rw [← hr]; rfl, hb1⟩

/-- a flow's lists: as many as nodes? -/
def okLens (n g p q t : Nat) : Bool := ((g : Int) == n) && ((p : Int) == n) && ((q : Int) == n) && ((t : Int) == n)
def fchk (regs : Int) (l : List Nd) (g p q t : Nat) : Int :=
  if chk regs l ≠ 0 then chk regs l else if okLens l.length g p q t = true then 0 else 1

theorem FCheck_any (regs : Int) (A : Option Addr) (l : List Nd) (cap : Nat) (bk em : Bool) (G P Q T : Option Addr) (g p q t gc pc qc tc : Nat) (w : World) (hl : l.length ≤ maxLen) (hA : NodesAt w A l) :
    Calls Try.prog 17 #[.agg #[.int .i64 regs, .slice A l.length cap], .agg #[.bool bk, .bool em, .slice G g gc, .slice P p pc, .slice Q q qc, .slice T t tc]] w
      fun e w' => e = .returned (.int .i64 (fchk regs l g p q t)) ∧ Below w.heap.size w w' := by
  by_cases h : chk regs l = 0
  · have hf : fchk regs l g p q t = if okLens l.length g p q t = true then 0 else 1 := by unfold fchk; simp [h]
    have hq : (([(G, g, gc), (P, p, pc), (Q, q, qc), (T, t, tc)] : List (Option Addr × Nat × Nat)).any fun s => (s.2.1 : Int) != (l.length : Int)) = !okLens l.length g p q t := by
      simp only [List.any_cons, List.any_nil, okLens, bne, Bool.not_and, Bool.or_assoc, Bool.or_false]
    have H := hide h
    have Hf := hide hf
    have Hq := hide hq
    clear h hf hq
    generalize hokl : okLens l.length g p q t = ok at *
    have Hok := hide hokl
    clear hokl
    go_enter Try.func17, Try.ntmps17
    go_wp2_with (first
      | (go_at_call 40; refine (Check_any _ _ _ _ _ hl (hA.below (by repeat (first | (with_reducible exact Below.refl _ _) | (with_reducible assumption) | (with_reducible refine Below.drew ?_) | (with_reducible refine below_drewN ?_ _) | (with_reducible refine Below.alloc ?_ (by (try simp only [World.size_alloc, World.size_setCell, World.size_drew, World.heap_drewN]); (first | done | omega | ((try simp only [World.size_alloc, World.size_setCell, World.size_drew, World.heap_drewN] at *); omega))) _) | (with_reducible refine Below.setCell ?_ (by (try simp only [World.size_alloc, World.size_setCell, World.size_drew, World.heap_drewN]); (first | done | omega | ((try simp only [World.size_alloc, World.size_setCell, World.size_drew, World.heap_drewN] at *); omega))) _) | (with_reducible refine Below.trans ?_ (Below.mono (by assumption) (by (try simp only [World.size_alloc, World.size_setCell, World.size_drew, World.heap_drewN]); (first | done | omega | ((try simp only [World.size_alloc, World.size_setCell, World.size_drew, World.heap_drewN] at *); omega))))))))).mono ?_; rw [H.out]; rintro e w1 ⟨rfl, hb1⟩; obtain ⟨hc1, hf1⟩ := bcell hb1; have hz1 := hb1.size; simp only [World.size_alloc] at hz1 hc1 hf1; have hy1 := Nat.lt_of_succ_le hz1; have hx1 := Nat.lt_of_succ_lt hy1)
      )
    have hV : ValsAt (w1.alloc (.cells #[.slice G g gc, .slice P p pc, .slice Q q qc, .slice T t tc] 25)) (some ⟨w1.heap.size, 0, none⟩) (([(G, g, gc), (P, p, pc), (Q, q, qc), (T, t, tc)] : List (Option Addr × Nat × Nat)).map slv) := by
      refine ValsAt.mk (by simp) ?_
      intro i v hi
      rcases i with _ | _ | _ | _ | i <;> simp [slv] at hi ⊢ <;> exact hi
    have g0 : (w1.alloc (.cells #[.slice G g gc, .slice P p pc, .slice Q q qc, .slice T t tc] 25)).cell? ⟨w.heap.size, 1, none⟩ = some (.slice A l.length cap) := by
      rw [cpast hx1, hc1 _ _ (by omega), cpast (by simp)]
      simp
    refine (anyBools_any _ A _ _ l.length cap _ _ (by simp [maxLen]) hV (by simp; omega) g0).mono ?_
    rw [Hq.out]
    rintro e w2 ⟨rfl, hb2⟩
    have hz2 := hb2.size
    simp only [World.size_alloc] at hz2
    have hB : Below w.heap.size w w2 := (by repeat (first | (with_reducible exact Below.refl _ _) | (with_reducible assumption) | (with_reducible refine Below.drew ?_) | (with_reducible refine below_drewN ?_ _) | (with_reducible refine Below.alloc ?_ (by (try simp only [World.size_alloc, World.size_setCell, World.size_drew, World.heap_drewN]); (first | done | omega | ((try simp only [World.size_alloc, World.size_setCell, World.size_drew, World.heap_drewN] at *); omega))) _) | (with_reducible refine Below.setCell ?_ (by (try simp only [World.size_alloc, World.size_setCell, World.size_drew, World.heap_drewN]); (first | done | omega | ((try simp only [World.size_alloc, World.size_setCell, World.size_drew, World.heap_drewN] at *); omega))) _) | (with_reducible refine Below.trans ?_ (Below.mono (by assumption) (by (try simp only [World.size_alloc, World.size_setCell, World.size_drew, World.heap_drewN]); (first | done | omega | ((try simp only [World.size_alloc, World.size_setCell, World.size_drew, World.heap_drewN] at *); omega)))))))
    clear hb2 hb1 hV g0 hc1 hf1
    cases ok
    · go_wp2_with fail
      go_ret
      exact ⟨by rw [Hf.out]; rfl, hB⟩
    · go_wp2_with fail
      go_ret
      exact ⟨by rw [Hf.out]; rfl, hB⟩
  · have hf : fchk regs l g p q t = chk regs l := by unfold fchk; simp [h]
    rw [hf]
    clear hf
    generalize hq : chk regs l = q' at *
    have Hq := hide hq
    clear hq
    go_enter Try.func17, Try.ntmps17
    go_wp2_with (go_at_call 40; refine (Check_any _ _ _ _ _ hl (hA.below (by repeat (first | (with_reducible exact Below.refl _ _) | (with_reducible assumption) | (with_reducible refine Below.drew ?_) | (with_reducible refine below_drewN ?_ _) | (with_reducible refine Below.alloc ?_ (by (try simp only [World.size_alloc, World.size_setCell, World.size_drew, World.heap_drewN]); (first | done | omega | ((try simp only [World.size_alloc, World.size_setCell, World.size_drew, World.heap_drewN] at *); omega))) _) | (with_reducible refine Below.setCell ?_ (by (try simp only [World.size_alloc, World.size_setCell, World.size_drew, World.heap_drewN]); (first | done | omega | ((try simp only [World.size_alloc, World.size_setCell, World.size_drew, World.heap_drewN] at *); omega))) _) | (with_reducible refine Below.trans ?_ (Below.mono (by assumption) (by (try simp only [World.size_alloc, World.size_setCell, World.size_drew, World.heap_drewN]); (first | done | omega | ((try simp only [World.size_alloc, World.size_setCell, World.size_drew, World.heap_drewN] at *); omega))))))))).mono ?_; rw [Hq.out]; rintro e w1 ⟨rfl, hb1⟩; obtain ⟨hc1, hf1⟩ := bcell hb1; have hz1 := hb1.size; simp only [World.size_alloc] at hz1 hc1 hf1)
    go_ret
    exact ⟨rfl, (by repeat (first | (with_reducible exact Below.refl _ _) | (with_reducible assumption) | (with_reducible refine Below.drew ?_) | (with_reducible refine below_drewN ?_ _) | (with_reducible refine Below.alloc ?_ (by (try simp only [World.size_alloc, World.size_setCell, World.size_drew, World.heap_drewN]); (first | done | omega | ((try simp only [World.size_alloc, World.size_setCell, World.size_drew, World.heap_drewN] at *); omega))) _) | (with_reducible refine Below.setCell ?_ (by (try simp only [World.size_alloc, World.size_setCell, World.size_drew, World.heap_drewN]); (first | done | omega | ((try simp only [World.size_alloc, World.size_setCell, World.size_drew, World.heap_drewN] at *); omega))) _) | (with_reducible refine Below.trans ?_ (Below.mono (by assumption) (by (try simp only [World.size_alloc, World.size_setCell, World.size_drew, World.heap_drewN]); (first | done | omega | ((try simp only [World.size_alloc, World.size_setCell, World.size_drew, World.heap_drewN] at *); omega)))))))⟩

theorem FlowError_any (hck : ∀ (regs : Int) (A : Option Addr) (l : List Nd) (cap : Nat) (w : World), NodesAt w A l → Calls Try.prog 22 #[.agg #[.int .i64 regs, .slice A l.length cap]] w
      fun e w' => e = .returned (.int .i64 (chk regs l)) ∧ Below w.heap.size w w')
    (regs : Int) (A : Option Addr) (l : List Nd) (cap : Nat) (bk em : Bool) (G P Q T : Option Addr) (g p q t gc pc qc tc : Nat) (w : World) (hl : l.length ≤ maxLen) (hA : NodesAt w A l) :
    Calls Try.prog 13 #[.agg #[.int .i64 regs, .slice A l.length cap], .agg #[.bool bk, .bool em, .slice G g gc, .slice P p pc, .slice Q q qc, .slice T t tc]] w
      fun e w' => e = .returned (.int .i64 (fchk regs l g p q t)) ∧ Below w.heap.size w w' := by
  have Hck := hide hck
  clear hck
  by_cases h : chk regs l = 0
  · have hf : fchk regs l g p q t = if okLens l.length g p q t = true then 0 else 1 := by unfold fchk; simp [h]
    have H := hide h
    have Hf := hide hf
    clear h hf
    go_enter Try.func13, Try.ntmps13
    go_wp2_with (go_at_call 22; refine (Hck.out _ _ _ _ _ (hA.below (by repeat (first | (with_reducible exact Below.refl _ _) | (with_reducible assumption) | (with_reducible refine Below.drew ?_) | (with_reducible refine below_drewN ?_ _) | (with_reducible refine Below.alloc ?_ (by (try simp only [World.size_alloc, World.size_setCell, World.size_drew, World.heap_drewN]); (first | done | omega | ((try simp only [World.size_alloc, World.size_setCell, World.size_drew, World.heap_drewN] at *); omega))) _) | (with_reducible refine Below.setCell ?_ (by (try simp only [World.size_alloc, World.size_setCell, World.size_drew, World.heap_drewN]); (first | done | omega | ((try simp only [World.size_alloc, World.size_setCell, World.size_drew, World.heap_drewN] at *); omega))) _) | (with_reducible refine Below.trans ?_ (Below.mono (by assumption) (by (try simp only [World.size_alloc, World.size_setCell, World.size_drew, World.heap_drewN]); (first | done | omega | ((try simp only [World.size_alloc, World.size_setCell, World.size_drew, World.heap_drewN] at *); omega))))))))).mono ?_; rw [H.out]; rintro e w1 ⟨rfl, hb1⟩; obtain ⟨hc1, hf1⟩ := bcell hb1; have hz1 := hb1.size; simp only [World.size_alloc] at hz1 hc1 hf1; have hy1 := Nat.lt_of_succ_le hz1; have hx1 := Nat.lt_of_succ_lt hy1)
    all_goals go_tidy
    all_goals go_ret
    all_goals refine ⟨?_, (by repeat (first | (with_reducible exact Below.refl _ _) | (with_reducible assumption) | (with_reducible refine Below.drew ?_) | (with_reducible refine below_drewN ?_ _) | (with_reducible refine Below.alloc ?_ (by (try simp only [World.size_alloc, World.size_setCell, World.size_drew, World.heap_drewN]); (first | done | omega | ((try simp only [World.size_alloc, World.size_setCell, World.size_drew, World.heap_drewN] at *); omega))) _) | (with_reducible refine Below.setCell ?_ (by (try simp only [World.size_alloc, World.size_setCell, World.size_drew, World.heap_drewN]); (first | done | omega | ((try simp only [World.size_alloc, World.size_setCell, World.size_drew, World.heap_drewN] at *); omega))) _) | (with_reducible refine Below.trans ?_ (Below.mono (by assumption) (by (try simp only [World.size_alloc, World.size_setCell, World.size_drew, World.heap_drewN]); (first | done | omega | ((try simp only [World.size_alloc, World.size_setCell, World.size_drew, World.heap_drewN] at *); omega)))))))⟩
    all_goals rw [Hf.out]
    all_goals simp_all [okLens]
  · have hf : fchk regs l g p q t = chk regs l := by unfold fchk; simp [h]
    rw [hf]
    clear hf
    generalize hq : chk regs l = q' at *
    have Hq := hide hq
    clear hq
    go_enter Try.func13, Try.ntmps13
    go_wp2_with (go_at_call 22; refine (Hck.out _ _ _ _ _ (hA.below (by repeat (first | (with_reducible exact Below.refl _ _) | (with_reducible assumption) | (with_reducible refine Below.drew ?_) | (with_reducible refine below_drewN ?_ _) | (with_reducible refine Below.alloc ?_ (by (try simp only [World.size_alloc, World.size_setCell, World.size_drew, World.heap_drewN]); (first | done | omega | ((try simp only [World.size_alloc, World.size_setCell, World.size_drew, World.heap_drewN] at *); omega))) _) | (with_reducible refine Below.setCell ?_ (by (try simp only [World.size_alloc, World.size_setCell, World.size_drew, World.heap_drewN]); (first | done | omega | ((try simp only [World.size_alloc, World.size_setCell, World.size_drew, World.heap_drewN] at *); omega))) _) | (with_reducible refine Below.trans ?_ (Below.mono (by assumption) (by (try simp only [World.size_alloc, World.size_setCell, World.size_drew, World.heap_drewN]); (first | done | omega | ((try simp only [World.size_alloc, World.size_setCell, World.size_drew, World.heap_drewN] at *); omega))))))))).mono ?_; rw [Hq.out]; rintro e w1 ⟨rfl, hb1⟩; obtain ⟨hc1, hf1⟩ := bcell hb1; have hz1 := hb1.size; simp only [World.size_alloc] at hz1 hc1 hf1)
    go_ret
    exact ⟨rfl, (by repeat (first | (with_reducible exact Below.refl _ _) | (with_reducible assumption) | (with_reducible refine Below.drew ?_) | (with_reducible refine below_drewN ?_ _) | (with_reducible refine Below.alloc ?_ (by (try simp only [World.size_alloc, World.size_setCell, World.size_drew, World.heap_drewN]); (first | done | omega | ((try simp only [World.size_alloc, World.size_setCell, World.size_drew, World.heap_drewN] at *); omega))) _) | (with_reducible refine Below.setCell ?_ (by (try simp only [World.size_alloc, World.size_setCell, World.size_drew, World.heap_drewN]); (first | done | omega | ((try simp only [World.size_alloc, World.size_setCell, World.size_drew, World.heap_drewN] at *); omega))) _) | (with_reducible refine Below.trans ?_ (Below.mono (by assumption) (by (try simp only [World.size_alloc, World.size_setCell, World.size_drew, World.heap_drewN]); (first | done | omega | ((try simp only [World.size_alloc, World.size_setCell, World.size_drew, World.heap_drewN] at *); omega)))))))⟩
end Go.Proofs.Ytmghkonmfbpjcaa
