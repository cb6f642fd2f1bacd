/- FlowG HoldsR Holds SolveR. -/
import Derived.Test.YtmghkonmfbpjcabGB
import Derived.Test.YtmghkonmfbpjcabFlowOf
import Derived.Test.YtmghkonmfbpjcabGD
import Derived.Test.YtmghkonmfbpjcabGA
import Derived.Deep.LoopGhost
import Derived.Deep.RegionHeld3
import Derived.Deep.QuietTactic
import Derived.BigQuiet
set_option linter.unusedVariables false
set_option linter.unusedSimpArgs false
namespace Go.Proofs.Ytmghkonmfbpjcab
section
open Go.RowKit
set_option maxHeartbeats 2000000
theorem mem_asks {tS tI : TypeId} {B GA GB : Nat} {bk : Bool} {l : List Nd} {wr : World} {vs : Nat → Value} {xs : Nat → List Int} (h : Graph tS tI B GA GB bk l.length (PEk l l.length) wr vs xs)
 (hT : ∀ (k : Nat) (n : Nd), l[k]? = some n → ∀ m ∈ exitsL n, 0 ≤ m ∧ m < l.length) {a : Nat} (ha : a < l.length) (b : Int) : b ∈ xs a ↔ b ∈ edgesOf bk l a := by (
 rw [h.edges.asks a ha b]
 unfold edgesOf PEk
 rw [mem_sel]
 cases bk
 · (
 simp only [fst, snd, Bool.false_eq_true, ↓reduceIte]
 constructor
 · (
 rintro ⟨i, m, ⟨hi, n, hn, hm⟩, rfl, rfl⟩
 exact ⟨i, hi, by rw [aheadP_eq hn]; exact mem_exitsL.1 hm, rfl⟩)
 · (
 rintro ⟨i, hi, hp, rfl⟩
 have hn : l[i]? = some l[i] := List.getElem?_eq_getElem hi
 rw [aheadP_eq hn] at hp
 exact ⟨i, a, ⟨hi, _, hn, mem_exitsL.2 hp⟩, rfl, rfl⟩))
 · (
 simp only [fst, snd, ↓reduceIte]
 have hn : l[a]? = some l[a] := List.getElem?_eq_getElem ha
 constructor
 · (
 rintro ⟨i, m, ⟨hi, n, hn', hm⟩, hai, rfl⟩
 have hai' : i = a := by omega
 subst hai'
 have hr := hT _ _ hn' b hm
 obtain ⟨mm, rfl⟩ := Int.eq_ofNat_of_zero_le hr.1
 exact ⟨mm, by omega, by rw [nextP_eq hn']; exact mem_exitsL.1 hm, rfl⟩)
 · (
 rintro ⟨i, hi, hp, rfl⟩
 rw [nextP_eq hn] at hp
 exact ⟨a, i, ⟨ha, _, hn, mem_exitsL.2 hp⟩, rfl, rfl⟩)))
theorem graph_says (bk em : Bool) (G P Q T X : Option Addr) (g p q t xn gc pc qc tc xc : Nat) (gen pass plus lt x : List Bool) (l : List Nd) (B GA GB n : Nat) (vs : Nat → Value) (xs : Nat → List Int) (w W : World)
 (hG : ValsAt W G (bools gen)) (hP : ValsAt W P (bools pass)) (hQ : ValsAt W Q (bools plus)) (hT : ValsAt W T (bools lt)) (hX : ValsAt W X (bools x))
 (hg : gen.length = g) (hp : pass.length = p) (hq : plus.length = q) (ht : lt.length = t) (hx : x.length = xn)
 (eg : g = l.length) (ep : p = l.length) (eq_ : q = l.length) (et : t = l.length) (ex : xn = l.length) (hl : l.length ≤ 256)
 (hgr : Graph 25 3 B GA GB bk l.length (PEk l l.length) w vs xs) (hb : Below w.heap.size w W) (hn : n < l.length)
 (hE : ∀ (k : Nat) (n : Nd), l[k]? = some n → ∀ m ∈ exitsL n, 0 ≤ m ∧ m < l.length) :
 Calls Try.prog 81 #[.agg #[.slice (some ⟨GA, 0, none⟩) l.length l.length, .slice (some ⟨GB, 0, none⟩) l.length l.length], .agg #[.bool bk, .bool em, .slice G g gc, .slice P p pc, .slice Q q qc, .slice T t tc], .slice X xn xc, .int .i64 n] W
  fun e w' => e = .returned (.bool (flowS bk em gen pass plus lt l x n)) ∧ Below W.heap.size W w' := by (
 have hrow := (hgr.tab.row (i := n) (by omega)).below' hb
 obtain ⟨R, rc, hv, _, _⟩ := hrow.shape
 rw [ints_length] at hv
 have hcell := tabcell hgr.ra hn
 have hlt := rowlt hgr.ra
 have hc := ((bcell hb).1 _ 0 hlt)
 have hcell' : W.cell? ⟨GA, n, none⟩ = some (vs n) := ((bcell hb).1 _ _ hlt).trans hcell
 rw [hv] at hcell'
 rw [hv] at hrow
 have hlen := hgr.len n (by omega)
 have hmem := mem_asks hgr hE hn
 have h := says_any bk em G P Q T X R (some ⟨GB, 0, none⟩) g p q t xn gc pc qc tc xc rc l.length l.length gen pass plus lt x (xs n) GA l.length n W hG hP hQ hT hX hg hp hq ht hx hcell'
  (Nat.lt_of_lt_of_le hlt hb.size) hn (by omega) (by omega) hrow.vals (fun r hr => by
   obtain ⟨i, h1, _, rfl⟩ := mem_sel.1 ((hmem r).1 hr)
   omega) (by omega) (by omega) (by omega)
 rw [saysB_congr (rs' := edgesOf bk l n) hmem] at h
 exact h)
end
section
open Go.RowKit
set_option maxHeartbeats 2000000
def holdsB (S : List Bool → Nat → Bool) (n : Nat) (x : List Bool) : Bool := (List.range n).all fun i => yn x i == S x i
theorem range_take (n k : Nat) (h : k ≤ n) : (List.range n).take k = List.range k := by (
 rw [List.take_range, Nat.min_eq_left h])
theorem holdsB_false {S : List Bool → Nat → Bool} {n : Nat} {x : List Bool} {k : Nat} (hk : k < n) (h : (yn x k == S x k) = false) : holdsB S n x = false :=
 List.all_eq_false.2 ⟨k, List.mem_range.2 hk, by simp [h]⟩
theorem holdsB_true {S : List Bool → Nat → Bool} {n : Nat} {x : List Bool} (h : ∀ i, i < n → yn x i = S x i) : holdsB S n x = true := by (
 unfold holdsB
 rw [List.all_eq_true]
 intro i hi
 rw [h i (List.mem_range.1 hi)]
 simp)
theorem holdsB_iff {S : List Bool → Nat → Bool} {n : Nat} {x : List Bool} (hl : x.length = n) : holdsB S n x = true ↔ Ans S n x := by (
 unfold holdsB Ans
 rw [List.all_eq_true]
 constructor
 · (
 intro h
 exact ⟨hl, fun i hi => by simpa using h i (List.mem_range.2 hi)⟩)
 · (
 rintro ⟨_, h⟩ i hi
 rw [h i (List.mem_range.1 hi)]
 simp))
end
section
open Go.RowKit
set_option maxHeartbeats 2000000
theorem fchk_zero {regs : Int} {l : List Nd} {g p q t : Nat} (h : fchk regs l g p q t = 0) : Right regs l ∧ g = l.length ∧ p = l.length ∧ q = l.length ∧ t = l.length := by (
 unfold fchk at h
 split at h
 · rename_i h1; exact absurd h h1
 · (
 rename_i h1
 split at h
 · (
 rename_i h2
 refine ⟨right_of_chk (by simpa using h1), ?_⟩
 simp only [okLens, Bool.and_eq_true, beq_iff_eq] at h2
 omega)
 · cases h))
end
section
open Go.RowKit
set_option maxHeartbeats 2000000
attribute [local irreducible] Row madeCells
theorem infoBool : (Try.prog.info? 4).map (fun i => (i.zero, i.size, i.bytes)) = some (some (.bool false), 1, 1) := by kernel_rfl
end
end Go.Proofs.Ytmghkonmfbpjcab
