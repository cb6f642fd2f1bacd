/- prog.exits: where a node goes on, in order, each once. -/
import Derived.Test.YtmghkonmfbpjcaaPgA
import Derived.Test.YtmghkonmfbpjcaaRefG
import Derived.Test.YtmghkonmfbpjcaaNRow
namespace Go.Proofs.Ytmghkonmfbpjcaa
set_option linter.unusedVariables false
set_option linter.unusedSimpArgs false
open Go.RowKit
set_option maxHeartbeats 4000000

theorem Row.lit {w : World} {B g : Nat} {e : TypeId} {xs : List Value} (hg : g = w.heap.size) (hb : B ≤ w.heap.size) (hl : xs.length ≤ maxLen) : Row (w.alloc (.cells xs.toArray e)) B e (.slice (some ⟨g, 0, none⟩) xs.length xs.length) xs := by
  subst hg
  exact .inr ⟨w.heap.size, 0, xs.length, xs.toArray, rfl, hb, heap_alloc_new w _, Nat.le_refl _, hl, by simp, fun j x hj => by simpa using hj⟩
def exitsS (n : Nd) : List Int := if n.op = 12 then [] else if n.op = 11 then (if n.e < n.t then once2 n.e n.t else once2 n.t n.e) else [n.t]
attribute [local irreducible] Row madeCells

theorem exits_any (n : Nd) (w : World) : Calls Try.prog 80 #[.agg #[.int .i64 n.op, .int .i64 n.d, .int .i64 n.a, .int .i64 n.b, .int .i64 n.t, .int .i64 n.e]] w (RowPost w.heap.size 3 (ints (exitsS n)) w) := by
  obtain ⟨op, d, a, b, t, e⟩ := n
  by_cases h12 : op = 12
  · subst h12
    have hs : exitsS ⟨12, d, a, b, t, e⟩ = [] := rfl
    rw [hs]
    clear hs
    go_enter Try.func80, Try.ntmps80
    go_wp2_with fail
    go_ret
    exact ⟨_, rfl, Row.nil_ _ _ _, (by repeat (first | (with_reducible exact Below.refl _ _) | (with_reducible assumption) | (with_reducible refine Below.drew ?_) | (with_reducible refine below_drewN ?_ _) | (with_reducible refine Below.alloc ?_ (by (try simp only [World.size_alloc, World.size_setCell, World.size_drew, World.heap_drewN]); (first | done | omega | ((try simp only [World.size_alloc, World.size_setCell, World.size_drew, World.heap_drewN] at *); omega))) _) | (with_reducible refine Below.setCell ?_ (by (try simp only [World.size_alloc, World.size_setCell, World.size_drew, World.heap_drewN]); (first | done | omega | ((try simp only [World.size_alloc, World.size_setCell, World.size_drew, World.heap_drewN] at *); omega))) _) | (with_reducible refine Below.trans ?_ (Below.mono (by assumption) (by (try simp only [World.size_alloc, World.size_setCell, World.size_drew, World.heap_drewN]); (first | done | omega | ((try simp only [World.size_alloc, World.size_setCell, World.size_drew, World.heap_drewN] at *); omega)))))))⟩
  · by_cases h11 : op = 11
    · subst h11
      have hs : exitsS ⟨11, d, a, b, t, e⟩ = if e < t then once2 e t else once2 t e := rfl
      rw [hs]
      clear hs h12
      have hR0 : Row ((w.alloc (.cells #[.int .i64 11, .int .i64 d, .int .i64 a, .int .i64 b, .int .i64 t, .int .i64 e] 91)).alloc (.cells #[.int .i64 t, .int .i64 e] 3)) w.heap.size 3 (.slice (some ⟨w.heap.size + 1, 0, none⟩) 2 2) (ints [t, e]) :=
        Row.lit (xs := [.int .i64 t, .int .i64 e]) (by simp) (by simp) (by simp [maxLen])
      have HS := hide (Sort_two hR0)
      have hC := fun (g : Nat) (x y : Int) (W : World) (h : Row W w.heap.size 3 (.slice (some ⟨g, 0, none⟩) 2 2) (ints [x, y])) => Compact_two h
      have HC := hide hC
      clear hR0 hC
      have hs2 : sort2 t e = if e < t then [e, t] else [t, e] := rfl
      rw [hs2] at HS
      clear hs2
      by_cases hlt : e < t
      · rw [if_pos hlt] at HS ⊢
        clear hlt
        go_enter Try.func80, Try.ntmps80
        go_wp2_with fail
        all_goals
          refine (HS.out).mono ?_
          rintro e1 w1 ⟨rfl, hr1, hb1⟩
          have hb2 : Below w.heap.size w w1 := (((Below.refl _ _).alloc (Nat.le_refl _) _).alloc (by simp) _).trans hb1
          have HC1 := hide (HC.out _ _ _ _ hr1)
          clear hr1 hb1
          go_wp2_with fail
          refine (HC1.out).mono ?_
          rintro e2 w2 ⟨rfl, hr2, hb3⟩
          go_wp2_with fail
          go_ret
          exact ⟨_, rfl, hr2, hb2.trans hb3⟩
      · rw [if_neg hlt] at HS ⊢
        clear hlt
        go_enter Try.func80, Try.ntmps80
        go_wp2_with fail
        all_goals
          refine (HS.out).mono ?_
          rintro e1 w1 ⟨rfl, hr1, hb1⟩
          have hb2 : Below w.heap.size w w1 := (((Below.refl _ _).alloc (Nat.le_refl _) _).alloc (by simp) _).trans hb1
          have HC1 := hide (HC.out _ _ _ _ hr1)
          clear hr1 hb1
          go_wp2_with fail
          refine (HC1.out).mono ?_
          rintro e2 w2 ⟨rfl, hr2, hb3⟩
          go_wp2_with fail
          go_ret
          exact ⟨_, rfl, hr2, hb2.trans hb3⟩
    · have hs : exitsS ⟨op, d, a, b, t, e⟩ = [t] := by simp [exitsS, h12, h11]
      rw [hs]
      have b12 : (op == 12) = false := by simpa using h12
      have b11 : (op == 11) = false := by simpa using h11
      clear hs h12 h11
      go_enter Try.func80, Try.ntmps80
      go_wp2_with fail
      go_ret
      exact ⟨_, rfl, Row.lit (xs := [.int .i64 t]) (by simp) (by simp) (by simp [maxLen]), (by repeat (first | (with_reducible exact Below.refl _ _) | (with_reducible assumption) | (with_reducible refine Below.drew ?_) | (with_reducible refine below_drewN ?_ _) | (with_reducible refine Below.alloc ?_ (by (try simp only [World.size_alloc, World.size_setCell, World.size_drew, World.heap_drewN]); (first | done | omega | ((try simp only [World.size_alloc, World.size_setCell, World.size_drew, World.heap_drewN] at *); omega))) _) | (with_reducible refine Below.setCell ?_ (by (try simp only [World.size_alloc, World.size_setCell, World.size_drew, World.heap_drewN]); (first | done | omega | ((try simp only [World.size_alloc, World.size_setCell, World.size_drew, World.heap_drewN] at *); omega))) _) | (with_reducible refine Below.trans ?_ (Below.mono (by assumption) (by (try simp only [World.size_alloc, World.size_setCell, World.size_drew, World.heap_drewN]); (first | done | omega | ((try simp only [World.size_alloc, World.size_setCell, World.size_drew, World.heap_drewN] at *); omega)))))))⟩
end Go.Proofs.Ytmghkonmfbpjcaa
