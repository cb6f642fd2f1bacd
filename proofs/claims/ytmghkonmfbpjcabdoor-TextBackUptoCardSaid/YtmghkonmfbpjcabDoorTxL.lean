/- Plain law: a line read word by word. No program in sight. -/
import Derived.Test.YtmghkonmfbpjcabDoorTxH
namespace Go.Proofs.YtmghkonmfbpjcabDoor
set_option linter.unusedVariables false
set_option linter.unusedSimpArgs false
open Go.Lib

theorem parts_nodup (o : Int) : ((partsL o).map Prod.snd).Nodup := by
  unfold partsL
  repeat' split
  all_goals simp
/-- what is known of a line's words when j parts of the node have been read: the words that are left, the node so far -/
structure Rd (o : Int) (p0 : List UInt8) (ps : List (List UInt8)) (j : Nat) (r : List (List UInt8)) (n : Nd) : Prop where
  op : n.op = o
  ws : ps = p0 :: (((partsL o).take j).flatMap (partW n) ++ r)
  rest : ∀ i, 1 ≤ i → i < 6 → i ∉ ((partsL o).take j).map Prod.snd → n.fld i = 0
  fit : ∀ i, i < 6 → i64ok (n.fld i)
/-- how the first word was taken -/
def Fst (p0 : List UInt8) (o : Int) (is : Bool) : Prop := (0 ≤ o ∧ o ≤ 12) ∧ ((is = true ∧ p0 = opW o) ∨ (is = false ∧ ∀ m : Int, 0 ≤ m → m ≤ 12 → opW m ≠ p0))
theorem partW_len (n m : Nd) (p : List UInt8 × Nat) : (partW n p).length = (partW m p).length := by unfold partW; simp
theorem flatW_len (n m : Nd) : ∀ l : List (List UInt8 × Nat), (l.flatMap (partW n)).length = (l.flatMap (partW m)).length
  | [] => rfl
  | p :: l => by rw [List.flatMap_cons, List.flatMap_cons, List.length_append, List.length_append, partW_len n m p, flatW_len n m l]
theorem Rd.left {o : Int} {p0 : List UInt8} {s : List UInt8} {j : Nat} {r : List (List UInt8)} {n m : Nd} {is : Bool} (h : Rd o p0 (splB 32 s) j r n) (hf : Fst p0 o is) (hm : Shaped m) (hs : s = nodeL m) :
    is = true ∧ o = m.op ∧ r = ((partsL o).drop j).flatMap (partW m) := by
  have h1 : splB 32 s = wordsL m := by rw [hs]; exact splB_joinB (by simp [wordsL]) fun x hx => (words_clean hm.op x hx).1
  have h2 := h.ws
  rw [h1] at h2
  unfold wordsL at h2
  injection h2 with h3 h4
  obtain ⟨ho, ⟨hi, hp⟩ | ⟨hi, hp⟩⟩ := hf
  · have e : o = m.op := opW_inj ho hm.op (hp ▸ h3.symm)
    refine ⟨hi, e, ?_⟩
    rw [← e] at h4
    have h5 : (partsL o).flatMap (partW m) = ((partsL o).take j).flatMap (partW m) ++ ((partsL o).drop j).flatMap (partW m) := by rw [← List.flatMap_append, List.take_append_drop]
    rw [h5] at h4
    exact (List.append_inj h4 (flatW_len m n _)).2.symm
  · exact absurd h3 (hp m.op hm.op.1 hm.op.2)
theorem Rd.word {o : Int} {p0 : List UInt8} {s : List UInt8} {j : Nat} {r : List (List UInt8)} {n m : Nd} {is : Bool} {p : List UInt8 × Nat} (h : Rd o p0 (splB 32 s) j r n) (hf : Fst p0 o is) (hp : (partsL o)[j]? = some p) (hm : Shaped m) (hs : s = nodeL m) :
    r = (if p.1 = [] then [] else [p.1]) ++ itoa (m.fld p.2) :: ((partsL o).drop (j + 1)).flatMap (partW m) := by
  obtain ⟨hlt, he⟩ := List.getElem?_eq_some_iff.1 hp
  rw [(h.left hf hm hs).2.2, List.drop_eq_getElem_cons hlt, he, List.flatMap_cons]
  unfold partW
  simp
theorem Rd.next {o : Int} {p0 : List UInt8} {ps : List (List UInt8)} {j : Nat} {r r3 : List (List UInt8)} {n : Nd} {wd : List UInt8} {f : Nat} {k : Int} (h : Rd o p0 ps j r n) (hp : (partsL o)[j]? = some (wd, f)) (hk : i64ok k)
    (hr : r = (if wd = [] then [] else [wd]) ++ itoa k :: r3) : Rd o p0 ps (j + 1) r3 (n.put f k) := by
  obtain ⟨hlt, he⟩ := List.getElem?_eq_some_iff.1 hp
  have hw := partsL_words o _ (List.mem_of_getElem? hp)
  have ht : (partsL o).take (j + 1) = (partsL o).take j ++ [(wd, f)] := by rw [List.take_add_one, hp]; rfl
  have hnd := parts_nodup o
  have hfn : f ∉ ((partsL o).take j).map Prod.snd := by
    intro hm
    rw [← List.take_append_drop j (partsL o), List.drop_eq_getElem_cons hlt, he, List.map_append, List.nodup_append] at hnd
    exact hnd.2.2 f hm f (by simp) rfl
  have hput : ∀ i, i < 6 → (n.put f k).fld i = if i = f then k else n.fld i := fun i hi => n.fld_put f k hi hw.2.2
  refine ⟨?_, ?_, ?_, ?_⟩
  · have := hput 0 (by omega)
    rw [if_neg (by have := hw.2.1; simp only at this; omega)] at this
    exact this.trans h.op
  · rw [h.ws, hr, ht, List.flatMap_append]
    have e1 : ((partsL o).take j).flatMap (partW (n.put f k)) = ((partsL o).take j).flatMap (partW n) := by
      rw [List.flatMap_def, List.flatMap_def]
      congr 1
      refine List.map_congr_left fun p hp' => ?_
      have h6 := (partsL_words o p (List.mem_of_mem_take hp')).2.2
      unfold partW
      rw [hput _ h6, if_neg (fun e : p.2 = f => hfn (by rw [← e]; exact List.mem_map_of_mem hp'))]
    rw [e1]
    have e2 : ([(wd, f)] : List (List UInt8 × Nat)).flatMap (partW (n.put f k)) = (if wd = [] then [] else [wd]) ++ [itoa k] := by
      rw [List.flatMap_cons, List.flatMap_nil, List.append_nil]
      unfold partW
      rw [hput _ hw.2.2, if_pos rfl]
    rw [e2]
    simp
  · intro i h1 h6 hi
    rw [ht, List.map_append, List.mem_append, not_or] at hi
    rw [hput i h6, if_neg (fun e => hi.2 (by simp [e]))]
    exact h.rest i h1 h6 hi.1
  · intro i h6
    rw [hput i h6]
    split
    · exact hk
    · exact h.fit i h6
theorem Rd.done {o : Int} {p0 : List UInt8} {s : List UInt8} {n : Nd} (h : Rd o p0 (splB 32 s) (partsL o).length [] n) (hf : Fst p0 o true) : Shaped n ∧ s = nodeL n := by
  have hp : p0 = opW o := by
    rcases hf.2 with ⟨_, h⟩ | ⟨h, _⟩
    · exact h
    · cases h
  refine ⟨⟨by rw [h.op]; exact hf.1, fun i h1 h6 hi => h.rest i h1 h6 (by rw [List.take_length, ← h.op]; exact hi), h.fit⟩, ?_⟩
  have hw := h.ws
  rw [List.take_length, List.append_nil, hp, ← h.op] at hw
  have e : joinB 32 (splB 32 s) = s := by
    unfold splB
    rw [joinB_cutL]
    rfl
  rw [← e, hw]
  rfl
end Go.Proofs.YtmghkonmfbpjcabDoor
