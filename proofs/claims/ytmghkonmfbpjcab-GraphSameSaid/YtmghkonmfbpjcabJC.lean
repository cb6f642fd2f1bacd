/- RunP; RunQ; RunV; SimP; Alike: merged texts. -/
import Derived.Test.YtmghkonmfbpjcabTRow
/- Plain law: what a program does, step by step; the counts of the terms, in order. No program in sight. -/
namespace Go.Proofs.Ytmghkonmfbpjcab
set_option linter.unusedVariables false
set_option linter.unusedSimpArgs false
open Go.RowKit

/-- does a term stand ahead of another one? -/
def ltT (a b : Tm) : Bool := decide (a.op < b.op ∨ a.op = b.op ∧ (a.a < b.a ∨ a.a = b.a ∧ a.b < b.b))
theorem ltT_irrefl (a : Tm) : ltT a a = false := by simp [ltT]
theorem ltT_trans {a b c : Tm} (h1 : ltT a b = true) (h2 : ltT b c = true) : ltT a c = true := by
  simp only [ltT, decide_eq_true_eq] at *
  omega
theorem ltT_total {a b : Tm} (h : a ≠ b) : ltT a b = true ∨ ltT b a = true := by
  obtain ⟨a0, a1, a2⟩ := a
  obtain ⟨b0, b1, b2⟩ := b
  simp only [ltT, decide_eq_true_eq]
  by_cases h0 : a0 = b0
  · by_cases h1 : a1 = b1
    · have h2 : a2 ≠ b2 := fun h2 => h (by rw [h0, h1, h2])
      omega
    · omega
  · omega
theorem ltT_ne {a b : Tm} (h : ltT a b = true) : a ≠ b := fun e => by rw [e, ltT_irrefl] at h; cases h

/-- one count more -/
def onceL : List (Tm × Int) → Tm → List (Tm × Int)
  | [], t => [(t, 1)]
  | (u, n) :: l, t => if ltT u t then (u, n) :: onceL l t else if u = t then (u, n + 1) :: l else (t, 1) :: (u, n) :: l
def countsL (ts : List Tm) : List (Tm × Int) := ts.foldl onceL []
theorem countsL_snoc (ts : List Tm) (t : Tm) : countsL (ts ++ [t]) = onceL (countsL ts) t := by simp [countsL]
/-- in order, each term once -/
def Asc (l : List (Tm × Int)) : Prop := l.Pairwise fun x y => ltT x.1 y.1 = true
theorem onceL_mem : ∀ (l : List (Tm × Int)) (t : Tm) (x : Tm × Int), x ∈ onceL l t → x.1 = t ∨ x ∈ l
  | [], t, x, h => by simp [onceL] at h; exact .inl (by rw [h])
  | (u, n) :: l, t, x, h => by
    unfold onceL at h
    split at h
    · rcases List.mem_cons.1 h with h | h
      · exact .inr (by simp [h])
      · exact (onceL_mem l t x h).imp id fun h => by simp [h]
    · split at h
      · rename_i hu
        rcases List.mem_cons.1 h with h | h
        · exact .inl (by rw [h]; exact hu)
        · exact .inr (by simp [h])
      · rcases List.mem_cons.1 h with h | h
        · exact .inl (by rw [h])
        · exact .inr h
theorem onceL_asc : ∀ (l : List (Tm × Int)) (t : Tm), Asc l → Asc (onceL l t)
  | [], t, _ => by simp [onceL, Asc]
  | (u, n) :: l, t, h => by
    obtain ⟨h1, h2⟩ := List.pairwise_cons.1 h
    unfold onceL
    split
    · rename_i hu
      refine List.pairwise_cons.2 ⟨fun y hy => ?_, onceL_asc l t h2⟩
      rcases onceL_mem l t y hy with e | e
      · rw [e]; exact hu
      · exact h1 y e
    · rename_i hu
      split
      · exact List.pairwise_cons.2 ⟨h1, h2⟩
      · rename_i hne
        have htu : ltT t u = true := (ltT_total hne).resolve_left (by simpa using hu)
        exact List.pairwise_cons.2 ⟨fun y hy => by
          rcases List.mem_cons.1 hy with e | e
          · rw [e]; exact htu
          · exact ltT_trans htu (h1 y e), h⟩
theorem countsL_asc (ts : List Tm) : Asc (countsL ts) := by
  have : ∀ (ts : List Tm) (l : List (Tm × Int)), Asc l → Asc (ts.foldl onceL l) := fun ts => by
    induction ts with
    | nil => exact fun l h => h
    | cons t ts ih => exact fun l h => ih _ (onceL_asc l t h)
  exact this ts [] (by simp [Asc])
/-- the count of one term -/
def cntOf (l : List (Tm × Int)) (t : Tm) : Int := match l.find? (fun x => x.1 == t) with | some x => x.2 | none => 0
theorem cntOf_cons (u : Tm) (n : Int) (l : List (Tm × Int)) (t : Tm) : cntOf ((u, n) :: l) t = if u = t then n else cntOf l t := by
  unfold cntOf
  rw [List.find?_cons]
  by_cases h : u = t
  · simp [h]
  · have : (u == t) = false := by simpa using h
    simp [this, h]
theorem onceL_cnt : ∀ (l : List (Tm × Int)) (t v : Tm), Asc l → cntOf (onceL l t) v = if v = t then cntOf l v + 1 else cntOf l v
  | [], t, v, _ => by
    rw [onceL, cntOf_cons]
    by_cases h : t = v
    · subst h; simp [cntOf]
    · rw [if_neg h, if_neg (Ne.symm h)]
  | (u, n) :: l, t, v, h => by
    obtain ⟨h1, h2⟩ := List.pairwise_cons.1 h
    have ih := onceL_cnt l t v h2
    unfold onceL
    split
    · rename_i hu
      rw [cntOf_cons, cntOf_cons, ih]
      by_cases huv : u = v
      · subst huv
        rw [if_pos rfl, if_pos rfl, if_neg (ltT_ne hu)]
      · rw [if_neg huv, if_neg huv]
    · rename_i hu
      split
      · rename_i hut
        subst hut
        rw [cntOf_cons, cntOf_cons]
        by_cases huv : u = v
        · subst huv; simp
        · rw [if_neg huv, if_neg huv, if_neg (Ne.symm huv)]
      · rename_i hne
        have htu : ltT t u = true := (ltT_total hne).resolve_left (by simpa using hu)
        rw [cntOf_cons]
        by_cases htv : t = v
        · subst htv
          rw [if_pos rfl, if_pos rfl]
          have h0 : cntOf ((u, n) :: l) t = 0 := by
            unfold cntOf
            rw [List.find?_eq_none.2]
            intro y hy
            have hy2 : ltT t y.1 = true := by
              rcases List.mem_cons.1 hy with e | e
              · rw [e]; exact htu
              · exact ltT_trans htu (h1 y e)
            have := ltT_ne hy2
            simpa using Ne.symm this
          rw [h0]; rfl
        · rw [if_neg htv, if_neg (Ne.symm htv)]
theorem countsL_cnt (ts : List Tm) (v : Tm) : cntOf (countsL ts) v = (ts.count v : Int) := by
  have h : ∀ (ts : List Tm) (l : List (Tm × Int)), Asc l → cntOf (ts.foldl onceL l) v = cntOf l v + (ts.count v : Int) := fun ts => by
    induction ts with
    | nil => intro l _; simp
    | cons t ts ih =>
      intro l hl
      rw [List.foldl_cons, ih _ (onceL_asc l t hl), onceL_cnt l t v hl, List.count_cons]
      by_cases h : v = t
      · subst h; simp; omega
      · have : (t == v) = false := by simpa using Ne.symm h
        rw [if_neg h, this]; simp
  rw [countsL, h ts [] (by simp [Asc])]
  simp [cntOf]
theorem onceL_pos : ∀ (l : List (Tm × Int)) (t : Tm), (∀ x ∈ l, 0 < x.2) → ∀ x ∈ onceL l t, 0 < x.2
  | [], t, _, x, hx => by simp [onceL] at hx; rw [hx]; show (0 : Int) < 1; decide
  | (u, n) :: l, t, h, x, hx => by
    have hn : 0 < n := h (u, n) (by simp)
    have hl : ∀ y ∈ l, 0 < y.2 := fun y hy => h y (by simp [hy])
    unfold onceL at hx
    split at hx
    · rcases List.mem_cons.1 hx with e | e
      · rw [e]; exact hn
      · exact onceL_pos l t hl x e
    · split at hx
      · rcases List.mem_cons.1 hx with e | e
        · rw [e]; show 0 < n + 1; omega
        · exact hl x e
      · rcases List.mem_cons.1 hx with e | e
        · rw [e]; show (0 : Int) < 1; omega
        · exact h x e
theorem countsL_pos (ts : List Tm) : ∀ x ∈ countsL ts, 0 < x.2 := by
  have : ∀ (ts : List Tm) (l : List (Tm × Int)), (∀ x ∈ l, 0 < x.2) → ∀ x ∈ ts.foldl onceL l, 0 < x.2 := fun ts => by
    induction ts with
    | nil => exact fun l h => h
    | cons t ts ih => exact fun l h => ih _ (onceL_pos l t h)
  exact this ts [] (by simp)
theorem cntOf_mem {l : List (Tm × Int)} (h : Asc l) {x : Tm × Int} (hx : x ∈ l) : cntOf l x.1 = x.2 := by
  induction l with
  | nil => cases hx
  | cons y l ih =>
    obtain ⟨h1, h2⟩ := List.pairwise_cons.1 h
    obtain ⟨u, n⟩ := y
    rw [cntOf_cons]
    rcases List.mem_cons.1 hx with e | e
    · subst e; simp
    · rw [if_neg (ltT_ne (h1 x e)), ih h2 e]
theorem cntOf_none {l : List (Tm × Int)} {t : Tm} (h : ∀ x ∈ l, x.1 ≠ t) : cntOf l t = 0 := by
  unfold cntOf
  rw [List.find?_eq_none.2 fun x hx => by simpa using h x hx]
/-- lists in order with the same counts, none of them nought, are one -/
theorem asc_unique : ∀ (l m : List (Tm × Int)), Asc l → Asc m → (∀ x ∈ l, 0 < x.2) → (∀ x ∈ m, 0 < x.2) → (∀ t, cntOf l t = cntOf m t) → l = m
  | [], [], _, _, _, _, _ => rfl
  | [], (u, n) :: m, _, _, _, hp, h => by
    have := h u
    rw [cntOf_cons, if_pos rfl] at this
    have hn := hp (u, n) (by simp)
    simp [cntOf] at this
    simp only at hn
    omega
  | (u, n) :: l, [], _, _, hp, _, h => by
    have := h u
    rw [cntOf_cons, if_pos rfl] at this
    have hn := hp (u, n) (by simp)
    simp [cntOf] at this
    simp only at hn
    omega
  | (u, n) :: l, (v, k) :: m, hl, hm, hpl, hpm, h => by
    obtain ⟨hl1, hl2⟩ := List.pairwise_cons.1 hl
    obtain ⟨hm1, hm2⟩ := List.pairwise_cons.1 hm
    have hn : 0 < n := hpl (u, n) (by simp)
    have hk : 0 < k := hpm (v, k) (by simp)
    have huv : u = v := by
      by_cases e : u = v
      · exact e
      · rcases ltT_total e with e1 | e1
        · have := h u
          rw [cntOf_cons, if_pos rfl, cntOf_none (fun x hx => ?_)] at this
          · omega
          · rcases List.mem_cons.1 hx with e2 | e2
            · rw [e2]; exact Ne.symm e
            · exact Ne.symm (ltT_ne (ltT_trans e1 (hm1 x e2)))
        · have := h v
          rw [cntOf_none (l := (u, n) :: l) (fun x hx => ?_), cntOf_cons, if_pos rfl] at this
          · omega
          · rcases List.mem_cons.1 hx with e2 | e2
            · rw [e2]; exact e
            · exact Ne.symm (ltT_ne (ltT_trans e1 (hl1 x e2)))
    subst huv
    have hnk : n = k := by
      have := h u
      rwa [cntOf_cons, cntOf_cons, if_pos rfl, if_pos rfl] at this
    subst hnk
    rw [asc_unique l m hl2 hm2 (fun x hx => hpl x (by simp [hx])) (fun x hx => hpm x (by simp [hx])) fun t => ?_]
    have := h t
    rw [cntOf_cons, cntOf_cons] at this
    by_cases e : u = t
    · subst e
      rw [cntOf_none fun x hx => Ne.symm (ltT_ne (hl1 x hx)), cntOf_none fun x hx => Ne.symm (ltT_ne (hm1 x hx))]
    · rwa [if_neg e, if_neg e] at this
theorem onceL_len (l : List (Tm × Int)) (t : Tm) : (onceL l t).length ≤ l.length + 1 := by
  induction l with
  | nil => simp [onceL]
  | cons x l ih =>
    obtain ⟨u, n⟩ := x
    unfold onceL
    split
    · simp; omega
    · split <;> simp
theorem countsL_len (ts : List Tm) : (countsL ts).length ≤ ts.length := by
  have : ∀ (ts : List Tm) (l : List (Tm × Int)), (ts.foldl onceL l).length ≤ l.length + ts.length := fun ts => by
    induction ts with
    | nil => simp
    | cons t ts ih =>
      intro l
      rw [List.foldl_cons]
      have := ih (onceL l t)
      have := onceL_len l t
      simp; omega
  have := this ts []
  simpa [countsL] using this
end Go.Proofs.Ytmghkonmfbpjcab

/- Plain law: what a program does, step by step. No program in sight. -/
namespace Go.Proofs.Ytmghkonmfbpjcab
set_option linter.unusedVariables false
set_option linter.unusedSimpArgs false
open Go.RowKit

/-- what a term comes to -/
def reckV (op x y : Int) : Int := if op = 3 then wrap64 (x + y) else if op = 4 then wrap64 (x - y) else if op = 5 then wrap64 (x * y) else if op = 6 then bits .and .i64 x y else if op = 7 then bits .xor .i64 x y else if x < y then 1 else 0
/-- a register -/
def rg (r : List Int) (k : Int) : Int := r.getD k.toNat 0
theorem rg_get {r : List Int} {k : Nat} {z : Int} (h : r[k]? = some z) : rg r (k : Int) = z := by simp [rg, List.getD_eq_getElem?_getD, h]
/-- in the midst of a run -/
structure Rn where
  regs : List Int
  read : Nat
  out : List Int
  ret : Int
  ended : Bool
  steps : Nat
  pos : Nat
  ts : List Tm
def stepR (l : List Nd) (inp : List Int) (s : Rn) : Rn :=
  let n := nd l s.pos
  if n.op = 1 then { s with steps := s.steps + 1, pos := n.t.toNat, regs := s.regs.set n.d.toNat n.a }
  else if n.op = 2 then { s with steps := s.steps + 1, pos := n.t.toNat, regs := s.regs.set n.d.toNat (rg s.regs n.a) }
  else if hasB n.op = true then { s with steps := s.steps + 1, pos := n.t.toNat, regs := s.regs.set n.d.toNat (reckV n.op (rg s.regs n.a) (rg s.regs n.b)), ts := s.ts ++ [n.tm] }
  else if n.op = 9 then (if s.read < inp.length then { s with steps := s.steps + 1, pos := n.t.toNat, regs := s.regs.set n.d.toNat (inp.getD s.read 0), read := s.read + 1 } else { s with steps := s.steps + 1, pos := n.t.toNat, regs := s.regs.set n.d.toNat 0 })
  else if n.op = 10 then { s with steps := s.steps + 1, pos := n.t.toNat, out := s.out ++ [rg s.regs n.a] }
  else if n.op = 11 then (if rg s.regs n.a = 0 then { s with steps := s.steps + 1, pos := n.e.toNat } else { s with steps := s.steps + 1, pos := n.t.toNat })
  else if n.op = 12 then { s with steps := s.steps + 1, pos := n.t.toNat, ret := rg s.regs n.a, ended := true }
  else { s with steps := s.steps + 1, pos := n.t.toNat }
theorem stepR_steps (l : List Nd) (inp : List Int) (s : Rn) : (stepR l inp s).steps = s.steps + 1 := by
  unfold stepR
  simp only
  repeat' split
  all_goals rfl
def goR (l : List Nd) (inp : List Int) : Nat → Rn → Rn
  | 0, s => s
  | k + 1, s => if s.ended = true then s else goR l inp k (stepR l inp s)
theorem goR_ended {l : List Nd} {inp : List Int} {s : Rn} (h : s.ended = true) : ∀ k, goR l inp k s = s
  | 0 => rfl
  | k + 1 => by rw [goR, if_pos h]
theorem goR_step {l : List Nd} {inp : List Int} {s : Rn} (h : s.ended = false) (k : Nat) : goR l inp (k + 1) s = goR l inp k (stepR l inp s) := by rw [goR, if_neg (by rw [h]; simp)]
def startR (regs : Int) : Rn := ⟨List.replicate regs.toNat 0, 0, [], 0, false, 0, 0, []⟩
/-- a run -/
def runR (regs : Int) (l : List Nd) (inp : List Int) (fuel : Nat) : Rn := goR l inp fuel (startR regs)
/-- what is so in the midst of a run -/
structure RnOk (regs : Int) (l : List Nd) (inp : List Int) (s : Rn) : Prop where
  regs : s.regs.length = regs.toNat
  pos : s.pos < l.length
  read : s.read ≤ inp.length
  out : s.out.length ≤ s.steps
  ts : s.ts.length ≤ s.steps
  key : ∀ t ∈ s.ts, ∃ n ∈ l, hasB n.op = true ∧ t = n.tm
theorem RnOk.start {regs : Int} {l : List Nd} {inp : List Int} (hR : Right regs l) : RnOk regs l inp (startR regs) :=
  ⟨by simp [startR], hR.lo, Nat.zero_le _, Nat.le_refl _, Nat.le_refl _, fun t ht => by cases ht⟩
theorem Right.pos_ {regs : Int} {l : List Nd} (hR : Right regs l) {n : Nd} (hn : n ∈ l) : n.t.toNat < l.length := by
  by_cases h12 : n.op = 12
  · have h := hR.frm n hn
    have h0 : n.t = 0 := by
      simp only [badF, okF, shT, h12, Bool.or_eq_false_iff, Bool.not_eq_false', Bool.or_eq_true, beq_iff_eq] at h
      rcases h.1.2 with e | e
      · simp at e
      · exact e
    have := hR.lo
    rw [h0]
    show 0 < l.length
    omega
  · have := hR.then_ hn h12
    omega
theorem RnOk.step {regs : Int} {l : List Nd} {inp : List Int} {s : Rn} (hR : Right regs l) (h : RnOk regs l inp s) : RnOk regs l inp (stepR l inp s) := by
  obtain ⟨h1, h2, h3, h4, h5, h6⟩ := h
  have hg : l[s.pos]? = some (nd l s.pos) := by rw [nd, List.getD_eq_getElem?_getD, List.getElem?_eq_getElem h2]; rfl
  have hn := List.mem_of_getElem? hg
  have hp := hR.pos_ hn
  generalize nd l s.pos = n at hg hn hp
  have hnd : nd l s.pos = n := nd_get hg
  unfold stepR
  simp only [hnd]
  split
  · exact ⟨by simpa using h1, hp, h3, Nat.le_succ_of_le h4, Nat.le_succ_of_le h5, h6⟩
  split
  · exact ⟨by simpa using h1, hp, h3, Nat.le_succ_of_le h4, Nat.le_succ_of_le h5, h6⟩
  split
  · rename_i hB
    refine ⟨by simpa using h1, hp, h3, Nat.le_succ_of_le h4, by simp; omega, fun t ht => ?_⟩
    rcases List.mem_append.1 ht with e | e
    · exact h6 t e
    · exact ⟨n, hn, hB, by simpa using e⟩
  split
  · split
    · exact ⟨by simpa using h1, hp, by show s.read + 1 ≤ _; omega, Nat.le_succ_of_le h4, Nat.le_succ_of_le h5, h6⟩
    · exact ⟨by simpa using h1, hp, h3, Nat.le_succ_of_le h4, Nat.le_succ_of_le h5, h6⟩
  split
  · exact ⟨h1, hp, h3, by simp; omega, Nat.le_succ_of_le h5, h6⟩
  split
  · rename_i h11
    split
    · have := hR.else_ hn h11
      exact ⟨h1, by show n.e.toNat < _; omega, h3, Nat.le_succ_of_le h4, Nat.le_succ_of_le h5, h6⟩
    · exact ⟨h1, hp, h3, Nat.le_succ_of_le h4, Nat.le_succ_of_le h5, h6⟩
  split
  · exact ⟨h1, hp, h3, Nat.le_succ_of_le h4, Nat.le_succ_of_le h5, h6⟩
  · exact ⟨h1, hp, h3, Nat.le_succ_of_le h4, Nat.le_succ_of_le h5, h6⟩
end Go.Proofs.Ytmghkonmfbpjcab

/- Plain law: with more fuel a run that ended is the same; one that did not tells what it told, and maybe more. No program in sight. -/
namespace Go.Proofs.Ytmghkonmfbpjcab
set_option linter.unusedVariables false
set_option linter.unusedSimpArgs false
open Go.RowKit

theorem stepR_out (l : List Nd) (inp : List Int) (s : Rn) : ∃ x, (stepR l inp s).out = s.out ++ x := by
  unfold stepR
  simp only
  split
  · exact ⟨[], by simp⟩
  split
  · exact ⟨[], by simp⟩
  split
  · exact ⟨[], by simp⟩
  split
  · split
    · exact ⟨[], by simp⟩
    · exact ⟨[], by simp⟩
  split
  · exact ⟨_, rfl⟩
  split
  · split
    · exact ⟨[], by simp⟩
    · exact ⟨[], by simp⟩
  split
  · exact ⟨[], by simp⟩
  · exact ⟨[], by simp⟩
theorem goR_add (l : List Nd) (inp : List Int) : ∀ (k m : Nat) (s : Rn), goR l inp (k + m) s = goR l inp m (goR l inp k s)
  | 0, m, s => by rw [Nat.zero_add]; rfl
  | k + 1, m, s => by
    rw [show k + 1 + m = (k + m) + 1 by omega]
    by_cases h : s.ended = true
    · rw [goR_ended h, goR_ended h, goR_ended h]
    · have h : s.ended = false := by simpa using h
      rw [goR_step h, goR_step h]
      exact goR_add l inp k m _
theorem goR_out (l : List Nd) (inp : List Int) : ∀ (k : Nat) (s : Rn), ∃ x, (goR l inp k s).out = s.out ++ x
  | 0, s => ⟨[], by simp [goR]⟩
  | k + 1, s => by
    by_cases h : s.ended = true
    · rw [goR_ended h]; exact ⟨[], by simp⟩
    · have h : s.ended = false := by simpa using h
      rw [goR_step h]
      obtain ⟨x, hx⟩ := goR_out l inp k (stepR l inp s)
      obtain ⟨y, hy⟩ := stepR_out l inp s
      exact ⟨y ++ x, by rw [hx, hy, List.append_assoc]⟩
theorem goR_ge (l : List Nd) (inp : List Int) : ∀ (k : Nat) (s : Rn), s.steps ≤ (goR l inp k s).steps
  | 0, s => Nat.le_refl _
  | k + 1, s => by
    by_cases h : s.ended = true
    · rw [goR_ended h]; exact Nat.le_refl _
    · have h : s.ended = false := by simpa using h
      rw [goR_step h]
      have := goR_ge l inp k (stepR l inp s)
      rw [stepR_steps] at this
      omega
theorem goR_steps (l : List Nd) (inp : List Int) : ∀ (k : Nat) (s : Rn), (goR l inp k s).ended = false → (goR l inp k s).steps = s.steps + k
  | 0, s, _ => rfl
  | k + 1, s, h => by
    by_cases h0 : s.ended = true
    · rw [goR_ended h0, h0] at h; cases h
    · have h0 : s.ended = false := by simpa using h0
      rw [goR_step h0] at h ⊢
      rw [goR_steps l inp k _ h, stepR_steps]
      omega
theorem more_ended {regs : Int} {l : List Nd} {inp : List Int} {n : Nat} (h : (runR regs l inp n).ended = true) (m : Nat) : runR regs l inp (n + m) = runR regs l inp n := by
  unfold runR at *
  rw [goR_add, goR_ended h]
theorem more_not {regs : Int} {l : List Nd} {inp : List Int} {n : Nat} (h : (runR regs l inp n).ended = false) (m : Nat) :
    (runR regs l inp n).steps = n ∧ (∃ x, (runR regs l inp (n + m)).out = (runR regs l inp n).out ++ x) ∧ n ≤ (runR regs l inp (n + m)).steps := by
  unfold runR at *
  have h1 := goR_steps l inp n _ h
  have h2 : (goR l inp n (startR regs)).steps = n := by rw [h1]; show 0 + n = n; omega
  refine ⟨h2, ?_, ?_⟩
  · rw [goR_add]; exact goR_out l inp m _
  · rw [goR_add]
    have := goR_ge l inp m (goR l inp n (startR regs))
    omega
/-- which of n things a raw number speaks of -/
def chV (c n : Int) : Int := (if c < 0 then -(c + 1) else c) % n
theorem chV_in (c : Int) {n : Int} (hn : 0 < n) : 0 ≤ chV c n ∧ chV c n < n := ⟨Int.emod_nonneg _ (by omega), Int.emod_lt_of_pos _ hn⟩
theorem Right.chk {regs : Int} {l : List Nd} (h : Right regs l) : chk regs l = 0 := by
  obtain ⟨h1, h2, h3, h4, h5, h6, h7⟩ := h
  unfold Go.Proofs.Ytmghkonmfbpjcab.chk
  rw [if_neg (by omega), if_neg, if_neg, if_neg]
  · simp only [List.any_eq_true, not_exists, not_and]
    intro n hn; rw [h7 n hn]; simp
  · simp only [List.any_eq_true, not_exists, not_and]
    intro n hn; rw [h6 n hn]; simp
  · simp only [List.any_eq_true, not_exists, not_and]
    intro n hn; rw [h5 n hn]; simp
end Go.Proofs.Ytmghkonmfbpjcab

/- Plain law: one program does what another one does, a step of the one being some steps of the other. No program in sight. -/
namespace Go.Proofs.Ytmghkonmfbpjcab
set_option linter.unusedVariables false
set_option linter.unusedSimpArgs false
open Go.RowKit

/-- each step of l is 1 .. K steps of m -/
structure Sim (l m : List Nd) (inp : List Int) (K : Nat) (Rel : Rn → Rn → Prop) : Prop where
  one : 1 ≤ K
  same : ∀ {s t}, Rel s t → s.out = t.out ∧ s.ret = t.ret ∧ s.ended = t.ended
  step : ∀ {s t}, Rel s t → s.ended = false → ∃ k, 1 ≤ k ∧ k ≤ K ∧ Rel (stepR l inp s) (goR m inp k t)
theorem Sim.run {l m : List Nd} {inp : List Int} {K : Nat} {Rel : Rn → Rn → Prop} (h : Sim l m inp K Rel) : ∀ (n : Nat) {s t : Rn}, Rel s t → ∃ k, n ≤ k ∧ k ≤ K * n ∧ Rel (goR l inp n s) (goR m inp k t)
  | 0, s, t, hr => ⟨0, Nat.le_refl _, by simp, hr⟩
  | n + 1, s, t, hr => by
    by_cases he : s.ended = true
    · refine ⟨n + 1, Nat.le_refl _, Nat.le_mul_of_pos_left _ h.one, ?_⟩
      rw [goR_ended he, goR_ended (by rw [← (h.same hr).2.2]; exact he)]
      exact hr
    · have he : s.ended = false := by simpa using he
      obtain ⟨k, h1, h2, h3⟩ := h.step hr he
      obtain ⟨j, h4, h5, h6⟩ := h.run n h3
      refine ⟨k + j, by omega, ?_, ?_⟩
      · rw [Nat.mul_succ]; omega
      · rw [goR_step he, goR_add]; exact h6
/-- what 'does' asks -/
theorem Sim.does {l m : List Nd} {inp : List Int} {K : Nat} {Rel : Rn → Rn → Prop} (h : Sim l m inp K Rel) {s t : Rn} (hr : Rel s t) (n N : Nat) (hN : K * n ≤ N) :
    ((goR m inp n t).ended = true → (goR l inp n s).ended = true ∧ (goR l inp n s).ret = (goR m inp n t).ret ∧ (goR l inp n s).out = (goR m inp n t).out) ∧ (∃ x, (goR l inp n s).out = (goR m inp n t).out ++ x) ∧
    ((goR l inp n s).ended = true → (goR m inp N t).ended = true ∧ (goR l inp n s).ret = (goR m inp N t).ret ∧ (goR l inp n s).out = (goR m inp N t).out) ∧ (∃ x, (goR m inp N t).out = (goR l inp n s).out ++ x) := by
  obtain ⟨k, h1, h2, h3⟩ := h.run n hr
  obtain ⟨e1, e2, e3⟩ := h.same h3
  have a1 : goR m inp k t = goR m inp (k - n) (goR m inp n t) := by rw [← goR_add]; congr 1; omega
  have a2 : goR m inp N t = goR m inp (N - k) (goR m inp k t) := by rw [← goR_add]; congr 1; omega
  refine ⟨fun hb => ?_, ?_, fun ha => ?_, ?_⟩
  · rw [goR_ended hb] at a1
    rw [e1, e2, e3, a1]
    exact ⟨hb, rfl, rfl⟩
  · rw [e1, a1]
    exact goR_out m inp _ _
  · rw [e3] at ha
    rw [goR_ended ha] at a2
    rw [a2, e1, e2]
    exact ⟨ha, rfl, rfl⟩
  · rw [a2, e1]
    exact goR_out m inp _ _
end Go.Proofs.Ytmghkonmfbpjcab

/- Plain law: runs that are alike but for where they stand. No program in sight. -/
namespace Go.Proofs.Ytmghkonmfbpjcab
set_option linter.unusedVariables false
set_option linter.unusedSimpArgs false
open Go.RowKit

/-- two runs that are alike but for where they stand, and for how many steps they made -/
structure Alike (s t : Rn) : Prop where
  regs : s.regs = t.regs
  read : s.read = t.read
  out : s.out = t.out
  ret : s.ret = t.ret
  ended : s.ended = t.ended
  ts : s.ts = t.ts
theorem Alike.step {l m : List Nd} {inp : List Int} {s t : Rn} {n n' : Nd} (h : Alike s t) (hn : nd l s.pos = n) (hm : nd m t.pos = n') (h1 : n'.op = n.op) (h2 : n'.d = n.d) (h3 : n'.a = n.a) (h4 : n'.b = n.b) :
    Alike (stepR l inp s) (stepR m inp t) ∧ ((stepR l inp s).pos = n.t.toNat ∧ (stepR m inp t).pos = n'.t.toNat ∨ n.op = 11 ∧ (stepR l inp s).pos = n.e.toNat ∧ (stepR m inp t).pos = n'.e.toNat) ∧ ((stepR l inp s).ended = false → n.op ≠ 12) := by
  obtain ⟨sr, sd, so, st, se, ss, sp, sts⟩ := s
  obtain ⟨tr, td, to, tt, te, tss, tp, tts⟩ := t
  obtain ⟨e1, e2, e3, e4, e5, e6⟩ := h
  simp only at e1 e2 e3 e4 e5 e6 hn hm
  subst e1 e2 e3 e4 e5 e6
  have ht : n'.tm = n.tm := by simp [Nd.tm, h1, h3, h4]
  have hB : ∀ o : Int, hasB o = true → o ≠ 12 := fun o h e => by rw [e] at h; exact absurd h (by decide)
  unfold stepR
  simp only [hn, hm, h1, h2, h3, h4, ht]
  repeat' split
  all_goals first
    | exact ⟨⟨rfl, rfl, rfl, rfl, rfl, rfl⟩, .inl ⟨rfl, rfl⟩, fun _ => by omega⟩
    | exact ⟨⟨rfl, rfl, rfl, rfl, rfl, rfl⟩, .inl ⟨rfl, rfl⟩, fun _ => hB _ (by assumption)⟩
    | exact ⟨⟨rfl, rfl, rfl, rfl, rfl, rfl⟩, .inr ⟨by assumption, rfl, rfl⟩, fun _ => by omega⟩
    | exact ⟨⟨rfl, rfl, rfl, rfl, rfl, rfl⟩, .inl ⟨rfl, rfl⟩, fun h => by simp at h⟩
theorem stepR_skip {m : List Nd} {inp : List Int} {t : Rn} {j : Int} (hm : nd m t.pos = ⟨0, 0, 0, 0, j, 0⟩) : stepR m inp t = { t with steps := t.steps + 1, pos := j.toNat } := by
  unfold stepR
  rw [hm]
  rfl
end Go.Proofs.Ytmghkonmfbpjcab
