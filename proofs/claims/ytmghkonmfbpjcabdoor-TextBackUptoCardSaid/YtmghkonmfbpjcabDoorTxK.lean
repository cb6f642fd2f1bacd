/- What the library's functions of strings answer, in plain words; the map of the operations' names. -/
import Derived.Test.YtmghkonmfbpjcabDoorTxH
import Derived.Test.YtmghkonmfbpjcabDoorTxV
import Derived.Lib.SplitLaws
import Derived.Lib.AtoiAllCases
import Derived.Lib.AtoiErrMem
import Derived.Maps.OwnSet
import Derived.StringKeys
namespace Go.Proofs.YtmghkonmfbpjcabDoor
set_option linter.unusedVariables false
set_option linter.unusedSimpArgs false
open Go.RowKit
open Go.Lib

theorem idx_none {c : UInt8} : ∀ {s : List UInt8}, c ∉ s → Lib.index s [c] = -1
  | [], _ => by simp [Lib.index]
  | b :: l, h => by
    have hb : c ≠ b := fun e => h (by rw [e]; simp)
    have ih := idx_none (s := l) (c := c) fun e => h (by simp [e])
    rw [Lib.index]
    simp [List.isPrefixOf, hb, ih]
theorem idx_at {c : UInt8} {r : List UInt8} : ∀ {x : List UInt8}, c ∉ x → Lib.index (x ++ c :: r) [c] = x.length
  | [], _ => by rw [List.nil_append, Lib.index]; simp [List.isPrefixOf]
  | b :: l, h => by
    have hb : c ≠ b := fun e => h (by rw [e]; simp)
    have ih := idx_at (x := l) (c := c) (r := r) fun e => h (by simp [e])
    rw [List.cons_append, Lib.index]
    simp only [List.isPrefixOf, ih]
    simp [hb]
theorem at_first (c : UInt8) : ∀ (s : List UInt8), c ∈ s → ∃ x r, s = x ++ c :: r ∧ c ∉ x
  | [], h => by cases h
  | b :: l, h => by
    by_cases hb : b = c
    · exact ⟨[], l, by rw [hb]; rfl, by simp⟩
    · obtain ⟨x, r, h1, h2⟩ := at_first c l ((List.mem_cons.1 h).resolve_left fun e => hb e.symm)
      exact ⟨b :: x, r, by rw [h1]; rfl, by simp [h2]; exact fun e => hb e.symm⟩
theorem splB_cons {c : UInt8} {x r : List UInt8} (h : c ∉ x) : splB c (x ++ c :: r) = x :: splB c r := by
  have hj : joinB c (x :: splB c r) = x ++ c :: r := by
    unfold splB
    rw [joinB_cons c x (cutL_ne c r []), joinB_cutL]
    rfl
  rw [← hj]
  refine splB_joinB (by simp) fun y hy => ?_
  rcases List.mem_cons.1 hy with e | e
  · rw [e]; exact h
  · exact cutL_clean c r [] (by simp) y e
theorem splB_one {c : UInt8} {s : List UInt8} (h : c ∉ s) : splB c s = [s] := by
  have := splB_joinB (c := c) (p := [s]) (by simp) (fun x hx => by rw [List.mem_singleton.1 hx]; exact h)
  exact this
theorem splitK_splB (c : UInt8) : ∀ (k : Nat) (s : List UInt8), s.count c = k → Lib.splitK [c] 0 k s = splB c s
  | 0, s, h => by
    rw [splB_one (List.count_eq_zero.1 h)]
    rfl
  | k + 1, s, h => by
    obtain ⟨x, r, rfl, hx⟩ := at_first c s (List.count_pos_iff.1 (by omega))
    have hr : r.count c = k := by
      rw [List.count_append, List.count_eq_zero.2 hx, List.count_cons_self] at h
      omega
    rw [Lib.splitK, idx_at hx, splB_cons hx, ← splitK_splB c k r hr]
    rw [if_neg (by simp)]
    simp
/-- strings.Cut at one byte -/
theorem cut_none {c : UInt8} {s : List UInt8} (h : c ∉ s) : Lib.cut s [c] = (s, [], false) := by
  unfold Lib.cut
  rw [idx_none h]
  rfl
theorem cut_at {c : UInt8} {x r : List UInt8} (h : c ∉ x) : Lib.cut (x ++ c :: r) [c] = (x, r, true) := by
  unfold Lib.cut
  rw [idx_at h, if_pos (by omega)]
  simp
theorem splitB_splB (c : UInt8) (s : List UInt8) : Lib.splitB ⟨#[c]⟩ 0 (Lib.countB ⟨s.toArray⟩ ⟨#[c]⟩) ⟨s.toArray⟩ = (splB c s).map fun x => (⟨x.toArray⟩ : ByteArray) := by
  have h1 := Lib.splitB_data ⟨#[c]⟩ 0 (Lib.countB ⟨s.toArray⟩ ⟨#[c]⟩) ⟨s.toArray⟩
  have h2 : Lib.countB ⟨s.toArray⟩ ⟨#[c]⟩ = s.count c := Lib.count_one c s
  have h3 : Lib.splitK [c] 0 (Lib.countB ⟨s.toArray⟩ ⟨#[c]⟩) s = splB c s := splitK_splB c _ s h2.symm
  have h4 : (Lib.splitB ⟨#[c]⟩ 0 (Lib.countB ⟨s.toArray⟩ ⟨#[c]⟩) ⟨s.toArray⟩).map (fun b => b.data.toList) = splB c s := h1.trans h3
  rw [← h4, List.map_map]
  conv => lhs; rw [← List.map_id (Lib.splitB ⟨#[c]⟩ 0 (Lib.countB ⟨s.toArray⟩ ⟨#[c]⟩) ⟨s.toArray⟩)]
  refine List.map_congr_left fun b _ => ?_
  simp

theorem Split_b (s : List UInt8) (hs : s.length ≤ 4294967280) (w : World) (hT : Tv w) : Calls Tryd.prog 71 #[strB s, .string ⟨#[32]⟩] w fun e w' =>
    ∃ v, e = .returned v ∧ Row w' w.heap.size 9 v ((splB 32 s).map strB) ∧ Below w.heap.size w w' := by
  obtain ⟨m, hm⟩ := hT.mx
  refine (Tryd.strings_Split ⟨s.toArray⟩ ⟨#[32]⟩ m w (by show s.length < _; omega) hm (Nat.le_refl _)).mono ?_
  rintro e w' ⟨rfl, rfl⟩
  rw [splitB_splB]
  have hc : Lib.countB ⟨s.toArray⟩ ⟨#[32]⟩ + 1 = (splB 32 s).length := by
    have h1 := congrArg List.length (splitB_splB 32 s)
    rw [Lib.splitB_all ⟨#[32]⟩ (Nat.le_refl _) 0 _ ⟨s.toArray⟩ rfl, List.length_map] at h1
    exact h1
  have hcount : s.count 32 ≤ s.length := List.count_le_length
  have hc2 : Lib.countB ⟨s.toArray⟩ ⟨#[32]⟩ = s.count 32 := Lib.count_one 32 s
  rw [hc]
  refine ⟨_, rfl, ?_, (Below.refl _ _).alloc (Nat.le_refl _) _⟩
  have := Row.made (w := w) (base := w.heap.size) (e := 9) (cs := (((splB 32 s).map fun x => (⟨x.toArray⟩ : ByteArray)).map Value.string).toArray) (n := (splB 32 s).length) (Nat.le_refl _) (by simp) (by unfold maxLen; omega)
  rw [List.map_map] at this ⊢
  exact this
theorem Cut_b (s : List UInt8) (hs : s.length ≤ 4294967280) (w : World) (hT : Tv w) : Calls Tryd.prog 42 #[strB s, .string ⟨#[10]⟩] w fun e w' =>
    ∃ x r b, e = .returned (.tuple #[strB x, strB r, .bool b]) ∧ Below w.heap.size w w' ∧ ((b = true ∧ s = x ++ 10 :: r ∧ 10 ∉ x) ∨ (b = false ∧ 10 ∉ s ∧ x = s ∧ r = [])) := by
  obtain ⟨m, hm⟩ := hT.mx
  refine (Tryd.strings_Cut ⟨s.toArray⟩ ⟨#[10]⟩ m w (by show s.length < _; omega) hm).mono ?_
  rintro e w' ⟨rfl, n, rfl⟩
  show ∃ x r b, Ending.returned (.tuple #[.string ⟨(Lib.cut s [10]).1.toArray⟩, .string ⟨(Lib.cut s [10]).2.1.toArray⟩, .bool (Lib.cut s [10]).2.2]) = _ ∧ _
  by_cases h : (10 : UInt8) ∈ s
  · obtain ⟨x, r, rfl, hx⟩ := at_first 10 s h
    rw [cut_at hx]
    exact ⟨x, r, true, rfl, below_drewN (Below.refl _ _) n, .inl ⟨rfl, rfl, hx⟩⟩
  · rw [cut_none h]
    exact ⟨s, [], false, rfl, below_drewN (Below.refl _ _) n, .inr ⟨rfl, h, rfl, rfl⟩⟩
theorem Prefix_b (s p : List UInt8) (w : World) : Calls Tryd.prog 43 #[strB s, strB p] w fun e w' =>
    ∃ x b, e = .returned (.tuple #[strB x, .bool b]) ∧ w' = w ∧ ((b = true ∧ s = p ++ x) ∨ (b = false ∧ x = s ∧ ∀ y, s ≠ p ++ y)) := by
  refine (Tryd.strings_CutPrefix ⟨s.toArray⟩ ⟨p.toArray⟩ w).mono ?_
  rintro e w' ⟨rfl, rfl⟩
  show ∃ x b, Ending.returned (.tuple #[.string ⟨(Lib.trimPrefix s p).toArray⟩, .bool (Lib.hasPrefix s p)]) = _ ∧ _
  unfold Lib.trimPrefix
  cases h : Lib.hasPrefix s p with
  | true =>
    unfold Lib.hasPrefix at h
    obtain ⟨y, rfl⟩ := List.isPrefixOf_iff_prefix.1 h
    exact ⟨y, true, by simp, rfl, .inl ⟨rfl, rfl⟩⟩
  | false =>
    refine ⟨s, false, by simp, rfl, .inr ⟨rfl, rfl, fun y hy => ?_⟩⟩
    unfold Lib.hasPrefix at h
    have : p.isPrefixOf s = true := List.isPrefixOf_iff_prefix.2 ⟨y, hy.symm⟩
    rw [this] at h
    cases h
/-- strconv.Atoi, as far as the text asks: the number, where the word is a number's own -/
theorem Atoi_b (s : List UInt8) (hs : s.length ≤ 4294967280) (w : World) (hT : Tv w) : Calls Tryd.prog 44 #[strB s] w fun e w' =>
    ∃ v er, e = .returned (.tuple #[.int .i64 v, er]) ∧ Below w.heap.size w w' ∧ ((er = .nilIface ∧ i64ok v ∧ ∀ n, i64ok n → s = itoa n → v = n) ∨ ((∃ t q, er = .iface t q) ∧ ∀ n, i64ok n → s ≠ itoa n)) := by
  have key : ∀ n, i64ok n → s = itoa n → Lib.atoiAll s = .ok n := fun n hn e => by rw [e]; exact atoi_itoa hn.1 hn.2
  cases h : Lib.atoiAll s
  · rename_i v
    refine (Tryd.strconv_Atoi_ok ⟨s.toArray⟩ (by show s.length ≤ _; omega) v h w).mono ?_
    rintro e w' ⟨rfl, hw⟩
    refine ⟨v, _, rfl, ?_, .inl ⟨rfl, ?_, fun n hn e => ?_⟩⟩
    · rcases hw with rfl | ⟨t, rfl⟩
      · exact Below.refl _ _
      · exact Lib.bytesWorld_below _ _ _
    · exact Lib.atoiAll_bounds h
    · have := key n hn e
      rw [h] at this
      injection this
  · obtain ⟨tp, p, hv⟩ := hT.syn
    refine (Any.strconv_Atoi_syntax_var Tryd.laysC172 ⟨s.toArray⟩ (by show s.length ≤ _; omega) h tp p w hv).mono ?_
    rintro e w' ⟨N, rfl, _, _, hb⟩
    exact ⟨0, _, rfl, hb, .inr ⟨⟨_, _, rfl⟩, fun n hn e => by have := key n hn e; rw [h] at this; cases this⟩⟩
  · obtain ⟨tp, p, hv⟩ := hT.rng
    refine (Tryd.strconv_Atoi_range_var ⟨s.toArray⟩ (by show s.length ≤ _; omega) h tp p w hv).mono ?_
    rintro e w' ⟨N, rfl, _, _, hb⟩
    exact ⟨_, _, rfl, hb, .inr ⟨⟨_, _, rfl⟩, fun n hn e => by have := key n hn e; rw [h] at this; cases this⟩⟩
open Go.Maps
theorem lawStr : Keyed Tryd.prog 9 := string_keyed Tryd.underlying9
theorem zeroOp (w : World) : (zeroValue 3).run Tryd.prog w = .ok (.int .i64 0) w := by kernel_rfl
/-- the map of the operations' names, the first k of them -/
def opsD : Nat → DataW Unit
  | 0 => .map []
  | k + 1 => (opsD k).put (.string (opW k)) (.lit (.int .i64 k))
theorem opsD_map : ∀ k, IsMap (opsD k)
  | 0 => ⟨[], rfl⟩
  | k + 1 => (opsD_map k).put _ _
theorem opsD_has : ∀ (k : Nat) (p : List UInt8), k ≤ 13 → (Maps.has (opsD k) (.string p) = true ↔ ∃ j : Nat, j < k ∧ opW (j : Int) = p)
  | 0, p, _ => by
    constructor
    · intro h; cases h
    · rintro ⟨j, hj, _⟩; omega
  | k + 1, p, hk => by
    by_cases h : p = opW (k : Int)
    · rw [h]
      show Maps.has ((opsD k).put (.string (opW k)) _) _ = true ↔ _
      rw [has_put_same (opsD_map k) (by trivial)]
      exact ⟨fun _ => ⟨k, by omega, rfl⟩, fun _ => rfl⟩
    · show Maps.has ((opsD k).put (.string (opW k)) _) _ = true ↔ _
      rw [has_put_other (by intro e; injection e with e; exact h e), opsD_has k p (by omega)]
      constructor
      · rintro ⟨j, h1, h2⟩; exact ⟨j, by omega, h2⟩
      · rintro ⟨j, h1, h2⟩
        rcases Nat.lt_or_eq_of_le (Nat.lt_succ_iff.1 h1) with h3 | h3
        · exact ⟨j, h3, h2⟩
        · exact absurd (by rw [← h2, h3]) h
theorem opsD_at : ∀ (k : Nat) (j : Nat) (z : DataW Unit), k ≤ 13 → j < k → (opsD k).atKey (.string (opW j)) z = .lit (.int .i64 j)
  | 0, j, z, _, hj => by omega
  | k + 1, j, z, hk, hj => by
    show ((opsD k).put (.string (opW k)) _).atKey _ z = _
    by_cases h : j = k
    · rw [h, atKey_put_same (opsD_map k) (by trivial)]
    · rw [atKey_put_other (by intro e; injection e with e; have := opW_inj ⟨by omega, by omega⟩ ⟨by omega, by omega⟩ e; omega), opsD_at k j z (by omega) (by omega)]
theorem opsD_no (k : Nat) (p : List UInt8) (z : DataW Unit) (h : Maps.has (opsD k) (.string p) = false) : (opsD k).atKey (.string p) z = z := atKey_of_not_has h z
/-- the map of the operations' names lies here -/
def OpsM (g k : Nat) (w : World) : Prop := w.ownsMap Tryd.prog 9 (plainElem Tryd.prog 3) g k (opsD k)
theorem OpsM.lt {g k : Nat} {w : World} (h : OpsM g k w) : g < w.heap.size := World.ownsMap.lt h
theorem OpsM.below {g k : Nat} {w w' : World} (h : OpsM g k w) (hb : Below w.heap.size w w') : OpsM g k w' := by
  obtain ⟨es, clock, hh, F, r⟩ := h
  exact ⟨es, clock, (hb.block g (lt_of_heap hh)).trans hh, F, r⟩
theorem OpsM.far {g k : Nat} {w : World} (h : OpsM g k w) {p : Addr} (hp : g ≠ p.block) (u : Value) : OpsM g k (w.setCell p u) := by
  obtain ⟨es, clock, hh, F, r⟩ := h
  exact ⟨es, clock, (Below.heap_setCell w p u g hp).trans hh, F, r⟩
theorem OpsM.alloc {g k : Nat} {w : World} (h : OpsM g k w) (o : Obj) : OpsM g k (w.alloc o) := by
  obtain ⟨es, clock, hh, F, r⟩ := h
  exact ⟨es, clock, (Below.heap_alloc w o g (lt_of_heap hh)).trans hh, F, r⟩
theorem keyStr {p : List UInt8} (h : p.length ≤ 4294967280) : keyOf Tryd.prog 9 (strB p) = some (.string p) := Go.WideMaps.keyOf_string_mk Tryd.underlying9 (by show p.length ≤ _; unfold maxLen; omega)
end Go.Proofs.YtmghkonmfbpjcabDoor
