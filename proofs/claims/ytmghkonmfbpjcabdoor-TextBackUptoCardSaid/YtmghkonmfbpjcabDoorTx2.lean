/- Plain law: a program as text, and that a text is read but one way. No program in sight. -/
import Derived.Test.YtmghkonmfbpjcabDoorTx1
import Derived.Test.YtmghkonmfbpjcabDoorGraphU
namespace Go.Proofs.YtmghkonmfbpjcabDoor
set_option linter.unusedVariables false
set_option linter.unusedSimpArgs false
open Go.Lib

def opNames : List (List UInt8) := [[115, 107, 105, 112], [115, 101, 116], [99, 111, 112, 121], [97, 100, 100], [115, 117, 98], [109, 117, 108], [97, 110, 100], [120, 111, 114], [108, 101, 115, 115], [105, 110], [111, 117, 116], [105, 102], [101, 110, 100]]
def opW (op : Int) : List UInt8 := opNames.getD op.toNat []
def toW : List UInt8 := [116, 111]
def elseW : List UInt8 := [101, 108, 115, 101]
def regsW : List UInt8 := [114, 101, 103, 115, 32]
/-- what is shown of a node: a word ahead, and which of its fields -/
def partsL (op : Int) : List (List UInt8 × Nat) :=
  if op = 0 then [(toW, 4)] else if op = 1 ∨ op = 2 then [([], 1), ([], 2), (toW, 4)] else if op = 9 then [([], 1), (toW, 4)] else if op = 10 then [([], 2), (toW, 4)]
  else if op = 11 then [([], 2), (toW, 4), (elseW, 5)] else if op = 12 then [([], 2)] else [([], 1), ([], 2), ([], 3), (toW, 4)]
def Nd.fld (n : Nd) : Nat → Int
  | 0 => n.op
  | 1 => n.d
  | 2 => n.a
  | 3 => n.b
  | 4 => n.t
  | _ => n.e
theorem Nd.fld_cell (n : Nd) {i : Nat} (h : i < 6) : n.cells[i]? = some (.int .i64 (n.fld i)) := by
  rcases i with _ | _ | _ | _ | _ | _ | i <;> first | rfl | omega
theorem Nd.fld_put (n : Nd) {i : Nat} (k : Nat) (x : Int) (hi : i < 6) (hk : k < 6) : (n.put k x).fld i = if i = k then x else n.fld i := by
  rcases k with _ | _ | _ | _ | _ | _ | k <;> (try omega) <;> rcases i with _ | _ | _ | _ | _ | _ | i <;> first | rfl | omega
theorem Nd.ext_fld {n m : Nd} (h : ∀ i, i < 6 → n.fld i = m.fld i) : n = m := by
  have h0 := h 0 (by omega)
  have h1 := h 1 (by omega)
  have h2 := h 2 (by omega)
  have h3 := h 3 (by omega)
  have h4 := h 4 (by omega)
  have h5 := h 5 (by omega)
  cases n
  cases m
  simp only [Nd.fld] at *
  subst h0 h1 h2 h3 h4 h5
  rfl
/-- one part of a node, as words -/
def partW (n : Nd) (p : List UInt8 × Nat) : List (List UInt8) := (if p.1 = [] then [] else [p.1]) ++ [itoa (n.fld p.2)]
/-- the words of a node's line -/
def wordsL (n : Nd) : List (List UInt8) := opW n.op :: (partsL n.op).flatMap (partW n)
def nodeL (n : Nd) : List UInt8 := joinB 32 (wordsL n)
def lineL (n : Nd) : List UInt8 := nodeL n ++ [10]
def linesL (l : List Nd) : List UInt8 := l.flatMap lineL
def showL (regs : Int) (l : List Nd) : List UInt8 := regsW ++ itoa regs ++ 10 :: linesL l
/-- a node that a line may show: of its fields those alone that are shown -/
structure Shaped (n : Nd) : Prop where
  op : 0 ≤ n.op ∧ n.op ≤ 12
  rest : ∀ i, 1 ≤ i → i < 6 → i ∉ (partsL n.op).map Prod.snd → n.fld i = 0
  fit : ∀ i, i < 6 → -9223372036854775808 ≤ n.fld i ∧ n.fld i ≤ 9223372036854775807
theorem opW_inj {a b : Int} (ha : 0 ≤ a ∧ a ≤ 12) (hb : 0 ≤ b ∧ b ≤ 12) (h : opW a = opW b) : a = b := by
  have key : ∀ i : Fin 13, ∀ j : Fin 13, opNames.getD i.val [] = opNames.getD j.val [] → i = j := by decide
  have := key ⟨a.toNat, by omega⟩ ⟨b.toNat, by omega⟩ h
  have := congrArg Fin.val this
  simp only at this
  omega
theorem opW_clean {a : Int} (ha : 0 ≤ a ∧ a ≤ 12) : (32 : UInt8) ∉ opW a ∧ (10 : UInt8) ∉ opW a ∧ opW a ≠ [] := by
  have key : ∀ i : Fin 13, (32 : UInt8) ∉ opNames.getD i.val [] ∧ (10 : UInt8) ∉ opNames.getD i.val [] ∧ opNames.getD i.val [] ≠ [] := by decide
  exact key ⟨a.toNat, by omega⟩
theorem partsL_words (op : Int) : ∀ p ∈ partsL op, (p.1 = [] ∨ p.1 = toW ∨ p.1 = elseW) ∧ 1 ≤ p.2 ∧ p.2 < 6 := by
  intro p hp
  unfold partsL at hp
  repeat' (split at hp)
  all_goals
    simp only [List.mem_cons, List.not_mem_nil, or_false] at hp
  all_goals
    rcases hp with rfl | rfl | rfl | rfl <;> simp
theorem itoa_clean (n : Int) (c : UInt8) (hc : c.toNat < 45) : c ∉ itoa n := fun h => by
  have := itoa_bytes n c h
  omega
theorem partW_clean {op : Int} {p : List UInt8 × Nat} (hp : p ∈ partsL op) (n : Nd) : ∀ x ∈ partW n p, (32 : UInt8) ∉ x ∧ (10 : UInt8) ∉ x := by
  intro x hx
  unfold partW at hx
  rcases List.mem_append.1 hx with e | e
  · rcases (partsL_words op p hp).1 with h | h | h
    · rw [if_pos h] at e; cases e
    · rw [h] at e
      have : x = toW := by simpa [toW] using e
      rw [this]; decide
    · rw [h] at e
      have : x = elseW := by simpa [elseW] using e
      rw [this]; decide
  · have : x = itoa (n.fld p.2) := by simpa using e
    rw [this]
    exact ⟨itoa_clean _ _ (by decide), itoa_clean _ _ (by decide)⟩
theorem words_clean {n : Nd} (hn : 0 ≤ n.op ∧ n.op ≤ 12) : ∀ x ∈ wordsL n, (32 : UInt8) ∉ x ∧ (10 : UInt8) ∉ x := by
  intro x hx
  rcases List.mem_cons.1 hx with e | e
  · rw [e]; exact ⟨(opW_clean hn).1, (opW_clean hn).2.1⟩
  · obtain ⟨p, hp, hx⟩ := List.mem_flatMap.1 e
    exact partW_clean hp n x hx
theorem joinB_clean {c : UInt8} (hc : c ≠ 32) : ∀ {p : List (List UInt8)}, (∀ x ∈ p, c ∉ x) → c ∉ joinB 32 p
  | [], _ => by simp [joinB]
  | [x], h => h x (by simp)
  | x :: y :: r, h => by
    have ih := joinB_clean hc (p := y :: r) fun z hz => h z (by simp [hz])
    show c ∉ x ++ 32 :: joinB 32 (y :: r)
    simp only [List.mem_append, List.mem_cons, not_or]
    exact ⟨h x (by simp), hc, ih⟩
theorem node_clean {n : Nd} (hn : 0 ≤ n.op ∧ n.op ≤ 12) : (10 : UInt8) ∉ nodeL n := joinB_clean (by decide) fun x hx => (words_clean hn x hx).2
theorem parts_inj {n m : Nd} : ∀ {ps : List (List UInt8 × Nat)}, ps.flatMap (partW n) = ps.flatMap (partW m) → ∀ p ∈ ps, n.fld p.2 = m.fld p.2
  | [], _, p, hp => by cases hp
  | q :: ps, h, p, hp => by
    rw [List.flatMap_cons, List.flatMap_cons] at h
    have hl : (partW n q).length = (partW m q).length := by unfold partW; simp
    obtain ⟨h1, h2⟩ := List.append_inj h hl
    rcases List.mem_cons.1 hp with e | e
    · subst e
      unfold partW at h1
      have := List.append_inj_right h1 rfl
      simp at this
      exact itoa_inj this
    · exact parts_inj h2 p e
/-- a line is a node's but one way -/
theorem node_inj {n m : Nd} (hn : Shaped n) (hm : Shaped m) (h : nodeL n = nodeL m) : n = m := by
  have hw := joinB_inj (by simp [wordsL]) (by simp [wordsL]) (fun x hx => (words_clean hn.op x hx).1) (fun x hx => (words_clean hm.op x hx).1) h
  unfold wordsL at hw
  injection hw with h1 h2
  have ho := opW_inj hn.op hm.op h1
  rw [← ho] at h2
  refine Nd.ext_fld fun i hi => ?_
  by_cases h0 : i = 0
  · subst h0; exact ho
  · by_cases hp : i ∈ (partsL n.op).map Prod.snd
    · obtain ⟨p, hp1, rfl⟩ := List.mem_map.1 hp
      exact parts_inj h2 p hp1
    · rw [hn.rest i (by omega) hi hp, hm.rest i (by omega) hi (by rw [← ho]; exact hp)]
theorem lines_inj : ∀ {l m : List Nd}, (∀ n ∈ l, Shaped n) → (∀ n ∈ m, Shaped n) → linesL l = linesL m → l = m
  | [], [], _, _, _ => rfl
  | [], m :: ms, _, _, h => by
    have : (linesL (m :: ms)) ≠ [] := by simp [linesL, lineL]
    exact absurd h.symm this
  | n :: ns, [], _, _, h => by
    have : (linesL (n :: ns)) ≠ [] := by simp [linesL, lineL]
    exact absurd h this
  | n :: ns, m :: ms, hl, hm, h => by
    have hn := hl n (by simp)
    have hm' := hm m (by simp)
    have h : nodeL n ++ 10 :: linesL ns = nodeL m ++ 10 :: linesL ms := by simpa [linesL, lineL] using h
    obtain ⟨e1, e2⟩ := head_inj (node_clean hn.op) (node_clean hm'.op) h
    rw [node_inj hn hm' e1, lines_inj (fun k hk => hl k (by simp [hk])) (fun k hk => hm k (by simp [hk])) e2]
/-- a right program's nodes are so -/
theorem right_shaped {regs : Int} {l : List Nd} (hR : Right regs l) : ∀ n ∈ l, (∀ i, i < 6 → -9223372036854775808 ≤ n.fld i ∧ n.fld i ≤ 9223372036854775807) → Shaped n := fun n hn hf => by
  have ho := hR.ok n hn
  have hb := hR.frm n hn
  have hop : 0 ≤ n.op ∧ n.op ≤ 12 := by simpa [opOk, inB] using ho
  refine ⟨hop, fun i h1 h6 hi => ?_, hf⟩
  simp only [badF, Bool.or_eq_false_iff, Bool.not_eq_false', okF, Bool.or_eq_true, beq_iff_eq] at hb
  obtain ⟨⟨⟨⟨b1, b2⟩, b3⟩, b4⟩, b5⟩ := hb
  have hcase : n.op = 0 ∨ n.op = 1 ∨ n.op = 2 ∨ n.op = 3 ∨ n.op = 4 ∨ n.op = 5 ∨ n.op = 6 ∨ n.op = 7 ∨ n.op = 8 ∨ n.op = 9 ∨ n.op = 10 ∨ n.op = 11 ∨ n.op = 12 := by omega
  have hi' : i = 1 ∨ i = 2 ∨ i = 3 ∨ i = 4 ∨ i = 5 := by omega
  rcases hcase with e | e | e | e | e | e | e | e | e | e | e | e | e <;> rcases hi' with rfl | rfl | rfl | rfl | rfl <;>
    simp [e, partsL, hasD, hasA, hasB, hasE, shT, opOk, isSet, inB] at b1 b2 b3 b4 b5 hi <;> simp [Nd.fld, *]
theorem show_inj {r1 r2 : Int} {l m : List Nd} (hl : ∀ n ∈ l, Shaped n) (hm : ∀ n ∈ m, Shaped n) (h : showL r1 l = showL r2 m) : r1 = r2 ∧ l = m := by
  unfold showL at h
  rw [List.append_assoc, List.append_assoc] at h
  have h1 := List.append_cancel_left h
  obtain ⟨e1, e2⟩ := head_inj (itoa_clean r1 10 (by decide)) (itoa_clean r2 10 (by decide)) h1
  exact ⟨itoa_inj e1, lines_inj hl hm e2⟩
end Go.Proofs.YtmghkonmfbpjcabDoor
