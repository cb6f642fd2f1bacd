/- The reference's cut. -/
import Derived.Test.YtmghkonmfbpjcabDoorTxE
import Derived.Test.YtmghkonmfbpjcabDoorRow
namespace Go.Proofs.YtmghkonmfbpjcabDoor
set_option linter.unusedVariables false
set_option linter.unusedSimpArgs false
open Go.RowKit
set_option maxHeartbeats 4000000
open Go.Lib

/-- the pieces between bytes c, behind what is read of the first -/
def cutL (c : UInt8) : List UInt8 → List UInt8 → List (List UInt8)
  | cur, [] => [cur]
  | cur, x :: r => if x = c then cur :: cutL c [] r else cutL c (cur ++ [x]) r
def splB (c : UInt8) (s : List UInt8) : List (List UInt8) := cutL c [] s
theorem cutL_ne (c : UInt8) : ∀ (r cur : List UInt8), cutL c cur r ≠ []
  | [], cur => by simp [cutL]
  | x :: r, cur => by
    unfold cutL
    split
    · simp
    · exact cutL_ne c r _
/-- joined again it is the text -/
theorem joinB_cutL (c : UInt8) : ∀ (r cur : List UInt8), joinB c (cutL c cur r) = cur ++ r
  | [], cur => by simp [cutL, joinB]
  | x :: r, cur => by
    unfold cutL
    split
    · rename_i h
      obtain ⟨y, ys, e⟩ : ∃ y ys, cutL c [] r = y :: ys := by
        cases e : cutL c [] r with
        | nil => exact absurd e (cutL_ne c r [])
        | cons y ys => exact ⟨y, ys, rfl⟩
      have := joinB_cutL c r []
      rw [e] at this ⊢
      show cur ++ c :: joinB c (y :: ys) = _
      rw [this, h]
      rfl
    · rw [joinB_cutL c r]
      simp
theorem cutL_clean (c : UInt8) : ∀ (r cur : List UInt8), c ∉ cur → ∀ x ∈ cutL c cur r, c ∉ x
  | [], cur, h, x, hx => by
    have : x = cur := by simpa [cutL] using hx
    rw [this]; exact h
  | y :: r, cur, h, x, hx => by
    unfold cutL at hx
    split at hx
    · rcases List.mem_cons.1 hx with e | e
      · rw [e]; exact h
      · exact cutL_clean c r [] (by simp) x e
    · rename_i hy
      exact cutL_clean c r _ (by simp [h]; exact fun e => hy e.symm) x hx
/-- the pieces of joined clean words are the words -/
theorem splB_joinB {c : UInt8} {p : List (List UInt8)} (hp : p ≠ []) (h : ∀ x ∈ p, c ∉ x) : splB c (joinB c p) = p := by
  have h1 := joinB_cutL c (joinB c p) []
  exact joinB_inj (cutL_ne c _ _) hp (fun x hx => cutL_clean c _ _ (by simp) x hx) h (by rw [List.nil_append] at h1; exact h1)

theorem ext_take (s : List UInt8) {f k : Nat} (h : f ≤ k) : (⟨s.toArray⟩ : ByteArray).extract f k = ⟨((s.take k).drop f).toArray⟩ := by
  apply ByteArray.ext
  simp
  exact List.drop_take.symm
theorem infoStr : (Tryd.prog.info? 9).map (fun i => (i.zero, i.size, i.bytes)) = some (some (.string ⟨#[]⟩), 1, 16) := by kernel_rfl
set_option maxRecDepth 100000 in
theorem cut_any (c : UInt8) (m : Nat) (hm : m ≤ 1000) (s : List UInt8) (hs : s.length ≤ 4294967280) (w : World) :
    Calls Tryd.prog 46 #[strB s, .int .u8 c.toNat, .int .i64 m] w fun e w' => ∃ v, e = .returned v ∧ Row w' w.heap.size 9 v (((splB c s).take m).map strB) ∧ Below w.heap.size w w' := by
  obtain ⟨i3, h3i, h3z, h3s, h3b⟩ := info_parts infoStr
  go_enter Tryd.func46, Tryd.ntmps46
  go_wp2_with fail
  go_loopg [7, 8, 9] (s.length + 1) (fun gk v fr i wr => ∃ (k from_ : Nat) (ps : List (List UInt8)), k ≤ s.length + 1 ∧ i = .int .i64 k ∧ fr = .int .i64 from_ ∧ gk = s.length + 1 - k ∧ ps.length ≤ m ∧ Row wr w.heap.size 9 v (ps.map strB) ∧ Below w.heap.size w wr
    ∧ ((k ≤ s.length ∧ from_ ≤ k ∧ splB c s = ps ++ cutL c ((s.take k).drop from_) (s.drop k)) ∨ (k = s.length + 1 ∧ splB c s = ps)))
  case atStart => exact ⟨0, 0, [], by omega, rfl, rfl, by omega, Nat.zero_le _, Row.nil_ _ _ _, Below.refl _ _, .inl ⟨by omega, by omega, by simp [splB]⟩⟩
  case round =>
    obtain ⟨k, fr, ps, hk, rfl, rfl, hgk, hpm, hR, hB, hst⟩ := hrel
    obtain ⟨A0, cp, rfl, _, _⟩ := hR.shape
    rw [List.length_map] at *
    have Hgk := hide hgk
    have hz := hB.size
    clear hgk
    rcases hst with ⟨h1, h2, h3⟩ | ⟨rfl, h3⟩
    · by_cases hfull : ps.length < m
      · by_cases hend : k = s.length
        · have d1 : decide ((k : Int) ≤ (s.length : Int)) = true := decide_eq_true (by omega)
          have d2 : decide ((ps.length : Int) < (m : Int)) = true := decide_eq_true (by omega)
          subst hend
          have hex := ext_take s h2
          rw [List.take_length] at hex
          have hfin : splB c s = ps ++ [s.drop fr] := by rw [h3, List.take_length, List.drop_length]; rfl
          generalize s.drop fr = pc at *
          go_wp2_with (at_builtin; refine wpList_append_row (v := .slice A0 ps.length cp) rfl (.tmp 33) (.tmp 38) _ rfl i3 _ 16 Tryd.underlying105 h3i h3z h3s h3b rfl rfl (hR.alloc _) (some ⟨wr.heap.size, 0, none⟩) 1 1 [strB pc] rfl rfl (vals_one _ _ _) (by simp [Value.oneCell']) (by simp [maxLen] <;> omega) (by simp <;> omega) (by simp <;> omega) ?_; intro v2 w2 hr2 hg2 hat2)
          have hB2 : Below w.heap.size w w2 := ((hB.alloc hz _).grown hg2 (by simp <;> omega) (fun q hq => (hR.lt q hq).1))
          go_roundg (s.length + 1 - (s.length + 1))
          case measure => have := Hgk.out; omega
          case rel => exact ⟨s.length + 1, s.length + 1, ps ++ [pc], by omega, by go_num, by go_num, rfl, by simp <;> omega, by simpa using hr2, hB2, .inr ⟨rfl, hfin⟩⟩
        · have d1 : decide ((k : Int) ≤ (s.length : Int)) = true := decide_eq_true (by omega)
          have d2 : decide ((ps.length : Int) < (m : Int)) = true := decide_eq_true (by omega)
          have d3 : ((k : Int) == (s.length : Int)) = false := by simp; omega
          obtain ⟨b, hb⟩ : ∃ b, s[k]? = some b := ⟨_, List.getElem?_eq_getElem (by omega)⟩
          have hks : k < (⟨s.toArray⟩ : ByteArray).size := by show k < s.length; omega
          have hbk : (⟨s.toArray⟩ : ByteArray)[k] = b := by
            have := (List.getElem?_eq_some_iff.1 hb).2
            exact this
          have hdrop : s.drop k = b :: s.drop (k + 1) := by rw [List.drop_eq_getElem_cons (by omega)]; congr 1
          have htake : (s.take (k + 1)).drop fr = (s.take k).drop fr ++ [b] := by
            rw [List.take_add_one, hb, List.drop_append_of_le_length (by rw [List.length_take]; omega)]
            rfl
          by_cases hbc : b = c
          · subst hbc
            have hex := ext_take s h2
            have hfin : splB b s = (ps ++ [(s.take k).drop fr]) ++ cutL b [] (s.drop (k + 1)) := by
              rw [h3, hdrop]
              conv => lhs; rw [cutL]
              rw [if_pos rfl]
              simp
            generalize (s.take k).drop fr = pc at *
            go_wp2_with (at_builtin; refine wpList_append_row (v := .slice A0 ps.length cp) rfl (.tmp 33) (.tmp 38) _ rfl i3 _ 16 Tryd.underlying105 h3i h3z h3s h3b rfl rfl (hR.alloc _) (some ⟨wr.heap.size, 0, none⟩) 1 1 [strB pc] rfl rfl (vals_one _ _ _) (by simp [Value.oneCell']) (by simp [maxLen] <;> omega) (by simp <;> omega) (by simp <;> omega) ?_; intro v2 w2 hr2 hg2 hat2)
            have hB2 : Below w.heap.size w w2 := ((hB.alloc hz _).grown hg2 (by simp <;> omega) (fun q hq => (hR.lt q hq).1))
            go_roundg (s.length + 1 - (k + 1))
            case measure => have := Hgk.out; omega
            case rel => exact ⟨k + 1, k + 1, ps ++ [pc], by omega, by go_num, by go_num, rfl, by simp <;> omega, by simpa using hr2, hB2, .inl ⟨by omega, by omega, by rw [hfin]; simp⟩⟩
          · have hcmp : ((b.toNat : Int) == (c.toNat : Int)) = false := by
              rw [beq_eq_false_iff_ne]
              intro h
              exact hbc (UInt8.toNat_inj.1 (by omega))
            have hfin : splB c s = ps ++ cutL c ((s.take (k + 1)).drop fr) (s.drop (k + 1)) := by
              rw [h3, hdrop, htake]
              conv => lhs; rw [cutL]
              rw [if_neg hbc]
            go_wp2_with fail
            go_roundg (s.length + 1 - (k + 1))
            case measure => have := Hgk.out; omega
            case rel => exact ⟨k + 1, fr, ps, by omega, by go_num, rfl, rfl, hpm, hR, hB, .inl ⟨by omega, by omega, hfin⟩⟩
      · have d1 : decide ((k : Int) ≤ (s.length : Int)) = true := decide_eq_true (by omega)
        have d2 : decide ((ps.length : Int) < (m : Int)) = false := decide_eq_false (by omega)
        go_wp2_with fail
        go_ret
        refine ⟨_, rfl, ?_, hB⟩
        rw [h3, List.take_append_of_le_length (by omega), List.take_of_length_le (by omega)]
        exact hR
    · have d1 : decide (((s.length + 1 : Nat) : Int) ≤ (s.length : Int)) = false := decide_eq_false (by omega)
      go_wp2_with fail
      go_ret
      refine ⟨_, rfl, ?_, hB⟩
      rw [List.take_of_length_le (by simpa using hpm)]
      exact hR
end Go.Proofs.YtmghkonmfbpjcabDoor
