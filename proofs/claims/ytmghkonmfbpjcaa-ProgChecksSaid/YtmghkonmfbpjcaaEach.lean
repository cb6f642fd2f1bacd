/- facts.each and facts.some: a function's yes or no at each node; is one of these so? Whatever the function. -/
import Derived.Test.YtmghkonmfbpjcaaReachR
import Derived.Test.YtmghkonmfbpjcaaCheck
import Derived.Test.YtmghkonmfbpjcaaFactP
namespace Go.Proofs.Ytmghkonmfbpjcaa
set_option linter.unusedVariables false
set_option linter.unusedSimpArgs false
open Go.RowKit
set_option maxHeartbeats 2000000
attribute [local irreducible] Row madeCells

/-- a function of a number that says yes or no; what lay below stands -/
def SaysAt (P : Program) (F : FuncId) (caps : Array Value) (w : World) (k : Int) (b : Bool) : Prop :=
  ∀ W, Below w.heap.size w W → Calls P F (#[.int .i64 k] ++ caps) W fun e W' => e = .returned (.bool b) ∧ Below W.heap.size W W'

theorem idxSome_any (F : FuncId) (caps : Array Value) (p : Int → Bool) (S : Option Addr) (xs : List Int) (cap : Nat) (w : World) (hl : xs.length ≤ maxLen) (hS : ValsAt w S (ints xs))
    (hE : ∀ W args, (callFunc F args).run Try.prog W = .ok (.enter F args) W) (hF : ∀ m ∈ xs, SaysAt Try.prog F caps w m (p m)) :
    Calls Try.prog 111 #[.slice S xs.length cap, .func (.func F) #[] caps] w (IdxPost (xs.any p) w) := by
  unfold maxLen at hl
  go_enter Try.func111, Try.ntmps111
  go_wp2
  go_loopw [8] (fun i wr => ∃ k : Nat, k ≤ xs.length ∧ i = .int .i64 k ∧ (xs.take k).any p = false ∧ Below w.heap.size w wr) (fun i _ => xs.length - (intOf i).toNat)
  case atStart => exact ⟨0, Nat.zero_le _, rfl, by simp, Below.refl _ _⟩
  case round =>
    obtain ⟨k, hk, rfl, hno, hbr⟩ := hrel
    have hzr := hbr.size
    have Hno := hide hno
    clear hno
    by_cases hlt : k < xs.length
    · obtain ⟨b, off, v, rfl, hbl, hkn, hn⟩ := hS.get (k := k) (by rw [ints_length]; exact hlt)
      obtain ⟨s, hs, hv⟩ : ∃ s, xs[k]? = some s ∧ Value.int .i64 s = v := by simpa [ints] using hkn
      subst hv
      clear hkn
      have Hkn := hide hs
      have hm : s ∈ xs := List.mem_of_getElem? hs
      have c0 := ((bcell hbr).1 _ _ hbl).trans hn
      have hp := hF s hm wr hbr
      have Hp := hide hp
      clear hp hs
      have hbw : b < wr.heap.size := by omega
      go_wp2_with fail
      refine (Hp.out).mono ?_
      rintro e w1 ⟨rfl, hb1⟩
      have hbr1 := hbr.trans (hb1.mono hzr)
      cases ho : p s
      · go_wp2_with fail
        go_roundw
        case rel => exact ⟨k + 1, by omega, by go_num, by rw [any_take_succ _ xs k s Hkn.out, Hno.out]; simp [ho], hbr1⟩
        case measure => simp [intOf]; omega
      · go_wp2_with fail
        go_ret
        exact ⟨k, rfl, by rw [any_of_take _ xs k s Hkn.out ho]; simp, hbr1⟩
    · go_wp2
      go_ret
      exact ⟨-1, rfl, by rw [← any_take_all _ xs k hlt, Hno.out]; rfl, hbr⟩
theorem anySome_any (F : FuncId) (caps : Array Value) (p : Int → Bool) (S : Option Addr) (xs : List Int) (cap : Nat) (w : World) (hl : xs.length ≤ maxLen) (hS : ValsAt w S (ints xs))
    (hE : ∀ W args, (callFunc F args).run Try.prog W = .ok (.enter F args) W) (hF : ∀ m ∈ xs, SaysAt Try.prog F caps w m (p m)) :
    Calls Try.prog 100 #[.slice S xs.length cap, .func (.func F) #[] caps] w fun e w' => e = .returned (.bool (xs.any p)) ∧ Below w.heap.size w w' := by
  have h := idxSome_any F caps p S xs cap w hl hS hE hF
  have H := hide h
  clear h hF hS
  generalize xs.any p = q at *
  go_enter Try.func100, Try.ntmps100
  go_wp2_with (go_at_call 111; refine (H.out).mono ?_; rintro e w1 ⟨r, rfl, hr, hb1⟩)
  go_ret
  exact ⟨by rw [← hr]; rfl, hb1⟩
theorem some_any (F : FuncId) (caps : Array Value) (p : Int → Bool) (S : Option Addr) (xs : List Int) (cap : Nat) (w : World) (hl : xs.length ≤ maxLen) (hS : ValsAt w S (ints xs))
    (hE : ∀ W args, (callFunc F args).run Try.prog W = .ok (.enter F args) W) (hF : ∀ m ∈ xs, SaysAt Try.prog F caps w m (p m)) :
    Calls Try.prog 71 #[.slice S xs.length cap, .func (.func F) #[] caps] w fun e w' => e = .returned (.bool (xs.any p)) ∧ Below w.heap.size w w' := by
  have H := hide (anySome_any F caps p S xs cap w hl hS hE hF)
  clear hF hS
  generalize xs.any p = q at *
  go_enter Try.func71, Try.ntmps71
  go_wp2_with (go_at_call 100; refine (H.out).mono ?_; rintro e w1 ⟨rfl, hb1⟩)
  go_ret
  exact ⟨rfl, hb1⟩

theorem each_any (F : FuncId) (caps : Array Value) (f : Nat → Bool) (regs : Int) (A : Option Addr) (n cap : Nat) (w : World) (hn : n ≤ 65536)
    (hE : ∀ W args, (callFunc F args).run Try.prog W = .ok (.enter F args) W) (hF : ∀ k : Nat, k < n → SaysAt Try.prog F caps w k (f k)) :
    Calls Try.prog 64 #[.agg #[.int .i64 regs, .slice A n cap], .func (.func F) #[] caps] w (BoolPost 4 (mk n f) w) := by
  obtain ⟨ib, hbi, hbz, hbs, hbb⟩ := info_parts infoBoolG
  have hmk := run_make1 (P := Try.prog) 25 4 ib _ 1 Try.underlying25 hbi hbz hbs hbb (by omega) rfl n (by omega)
  go_enter Try.func64, Try.ntmps64
  go_wp2_with fail
  go_loopg [13] (n) (fun gk i wr => ∃ k : Nat, k ≤ n ∧ i = .int .i64 k ∧ gk = n - k ∧ ∃ x : List Bool, x.length = n ∧ (∀ j, j < k → yn x j = f j) ∧ Row wr w.heap.size 4 (.slice (some ⟨w.heap.size + 1, 0, none⟩) n n) (bools x) ∧ Below w.heap.size w wr)
  case atStart => exact ⟨0, Nat.zero_le _, rfl, rfl, List.replicate n false, by simp, fun j hj => by omega, by rw [bools, List.map_replicate]; exact (by repeat (first | ((with_reducible refine Row.made1' ?_ ?_ ?_); exact (by (try simp only [World.size_alloc, World.size_setCell, World.size_drew, World.heap_drewN]); (first | done | omega | ((try simp only [World.size_alloc, World.size_setCell, World.size_drew, World.heap_drewN] at *); omega))); exact (by (try simp only [World.size_alloc, World.size_setCell, World.size_drew, World.heap_drewN]); (first | done | omega | ((try simp only [World.size_alloc, World.size_setCell, World.size_drew, World.heap_drewN] at *); omega))); exact (by (try simp only [World.size_alloc, World.size_setCell, World.size_drew, World.heap_drewN]); (first | done | omega | ((try simp only [World.size_alloc, World.size_setCell, World.size_drew, World.heap_drewN] at *); omega)))) | (with_reducible refine Row.drew ?_) | (with_reducible refine Row.drewN ?_ _) | (with_reducible refine Row.alloc ?_ _) | with_reducible assumption)), (by repeat (first | (with_reducible exact Below.refl _ _) | (with_reducible assumption) | (with_reducible refine Below.drew ?_) | (with_reducible refine below_drewN ?_ _) | (with_reducible refine Below.alloc ?_ (by (try simp only [World.size_alloc, World.size_setCell, World.size_drew, World.heap_drewN]); (first | done | omega | ((try simp only [World.size_alloc, World.size_setCell, World.size_drew, World.heap_drewN] at *); omega))) _) | (with_reducible refine Below.setCell ?_ (by (try simp only [World.size_alloc, World.size_setCell, World.size_drew, World.heap_drewN]); (first | done | omega | ((try simp only [World.size_alloc, World.size_setCell, World.size_drew, World.heap_drewN] at *); omega))) _) | (with_reducible refine Below.trans ?_ (Below.mono (by assumption) (by (try simp only [World.size_alloc, World.size_setCell, World.size_drew, World.heap_drewN]); (first | done | omega | ((try simp only [World.size_alloc, World.size_setCell, World.size_drew, World.heap_drewN] at *); omega)))))))⟩
  case round =>
    obtain ⟨k, hk, rfl, hgk, x, hxl, hxf, hR, hB⟩ := hrel
    have Hgk := hide hgk
    have Hxf := hide hxf
    have hxlt := (hR.lt _ rfl).2
    clear hgk hxf hmk
    by_cases hlt : k < n
    · have hp := hF k hlt wr hB
      have Hp := hide hp
      have HF := hide hF
      have HR := hide hR
      clear hp hF hR
      have u0 : (0 : Int) ≤ (k : Int) := by omega
      have u1 : (k : Int) < (n : Int) := by omega
      go_wp2_with fail
      refine (Hp.out).mono ?_
      rintro e w1 ⟨rfl, hb1⟩
      have hR1 := HR.out.below' hb1
      obtain ⟨g0, o0, cp0, e0, _, _, cx, fx⟩ := hR1.bool (k := k) (by rw [hxl]; exact hlt)
      injection e0 with e0 e1 e2
      injection e0 with e0
      injection e0 with e0 e3
      subst e0 e3
      simp only [Nat.zero_add] at cx fx
      clear e1 e2
      have hz1 := hb1.size
      have hx1 := Nat.lt_of_lt_of_le hxlt hz1
      have HR1 := hide hR1
      clear hR1
      go_wp2_with fail
      go_roundg (n - (k + 1))
      case measure => have := Hgk.out; omega
      case rel =>
        have hs := HR1.out.setb k (f k)
        rw [Nat.zero_add] at hs
        refine ⟨k + 1, by omega, by go_num, rfl, x.set k (f k), by simpa using hxl, fun j hj => ?_, hs, (hB.trans (hb1.mono hB.size)).setCell (by simp <;> omega) _⟩
        rw [yn_set _ _ _ _ (by rw [hxl]; exact hlt)]
        split
        · rename_i e; rw [e]
        · exact Hxf.out j (by omega)
    · have hkk : k = n := by omega
      subst hkk
      have hxe : x = mk k f := ext_yn (by rw [mk_len, hxl]) fun j hj => by rw [Hxf.out j (by omega), yn_mk (by omega)]
      subst hxe
      have HR := hide hR
      clear hR
      go_wp2_with fail
      go_ret
      exact ⟨_, rfl, HR.out, hB⟩
end Go.Proofs.Ytmghkonmfbpjcaa
