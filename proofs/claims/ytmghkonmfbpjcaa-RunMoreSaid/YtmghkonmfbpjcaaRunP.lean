/- Plain law: what a program does, step by step; the counts of the terms, in order. No program in sight. -/
import Derived.Test.YtmghkonmfbpjcaaPgP
namespace Go.Proofs.Ytmghkonmfbpjcaa
set_option linter.unusedVariables false
set_option linter.unusedSimpArgs false
open Go.RowKit

/-- does a term stand ahead of another one? -/
def ltT (a b : Tm) : Bool := decide (a.op < b.op ∨ a.op = b.op ∧ (a.a < b.a ∨ a.a = b.a ∧ a.b < b.b))
theorem ltT_irrefl (a : Tm) : ltT a a = false := by simp [ltT]
theorem ltT_trans {a b c : Tm} (h1 : ltT a b = true) (h2 : ltT b c = true) : ltT a c = true := by
  simp only [ltT, decide_eq_true_eq] at *
  omega
theorem ltT_total {a b : Tm} (h : a ≠ b) : ltT a b = true ∨ ltT b a = true := by
  obtain ⟨a0, a1, a2⟩ := a
  obtain ⟨b0, b1, b2⟩ := b
  simp only [ltT, decide_eq_true_eq]
  by_cases h0 : a0 = b0
  · by_cases h1 : a1 = b1
    · have h2 : a2 ≠ b2 := fun h2 => h (by rw [h0, h1, h2])
      omega
    · omega
  · omega
theorem ltT_ne {a b : Tm} (h : ltT a b = true) : a ≠ b := fun e => by rw [e, ltT_irrefl] at h; cases h

/-- one count more -/
def onceL : List (Tm × Int) → Tm → List (Tm × Int)
  | [], t => [(t, 1)]
  | (u, n) :: l, t => if ltT u t then (u, n) :: onceL l t else if u = t then (u, n + 1) :: l else (t, 1) :: (u, n) :: l
def countsL (ts : List Tm) : List (Tm × Int) := ts.foldl onceL []
theorem countsL_snoc (ts : List Tm) (t : Tm) : countsL (ts ++ [t]) = onceL (countsL ts) t := by simp [countsL]
/-- in order, each term once -/
def Asc (l : List (Tm × Int)) : Prop := l.Pairwise fun x y => ltT x.1 y.1 = true
theorem onceL_mem : ∀ (l : List (Tm × Int)) (t : Tm) (x : Tm × Int), x ∈ onceL l t → x.1 = t ∨ x ∈ l
  | [], t, x, h => by simp [onceL] at h; exact .inl (by rw [h])
  | (u, n) :: l, t, x, h => by
    unfold onceL at h
    split at h
    · rcases List.mem_cons.1 h with h | h
      · exact .inr (by simp [h])
      · exact (onceL_mem l t x h).imp id fun h => by simp [h]
    · split at h
      · rename_i hu
        rcases List.mem_cons.1 h with h | h
        · exact .inl (by rw [h]; exact hu)
        · exact .inr (by simp [h])
      · rcases List.mem_cons.1 h with h | h
        · exact .inl (by rw [h])
        · exact .inr h
theorem onceL_asc : ∀ (l : List (Tm × Int)) (t : Tm), Asc l → Asc (onceL l t)
  | [], t, _ => by simp [onceL, Asc]
  | (u, n) :: l, t, h => by
    obtain ⟨h1, h2⟩ := List.pairwise_cons.1 h
    unfold onceL
    split
    · rename_i hu
      refine List.pairwise_cons.2 ⟨fun y hy => ?_, onceL_asc l t h2⟩
      rcases onceL_mem l t y hy with e | e
      · rw [e]; exact hu
      · exact h1 y e
    · rename_i hu
      split
      · exact List.pairwise_cons.2 ⟨h1, h2⟩
      · rename_i hne
        have htu : ltT t u = true := (ltT_total hne).resolve_left (by simpa using hu)
        exact List.pairwise_cons.2 ⟨fun y hy => by
          rcases List.mem_cons.1 hy with e | e
          · rw [e]; exact htu
          · exact ltT_trans htu (h1 y e), h⟩
theorem countsL_asc (ts : List Tm) : Asc (countsL ts) := by
  have : ∀ (ts : List Tm) (l : List (Tm × Int)), Asc l → Asc (ts.foldl onceL l) := fun ts => by
    induction ts with
    | nil => exact fun l h => h
    | cons t ts ih => exact fun l h => ih _ (onceL_asc l t h)
  exact this ts [] (by simp [Asc])
/-- the count of one term -/
def cntOf (l : List (Tm × Int)) (t : Tm) : Int := match l.find? (fun x => x.1 == t) with | some x => x.2 | none => 0
theorem cntOf_cons (u : Tm) (n : Int) (l : List (Tm × Int)) (t : Tm) : cntOf ((u, n) :: l) t = if u = t then n else cntOf l t := by
  unfold cntOf
  rw [List.find?_cons]
  by_cases h : u = t
  · simp [h]
  · have : (u == t) = false := by simpa using h
    simp [this, h]
theorem onceL_cnt : ∀ (l : List (Tm × Int)) (t v : Tm), Asc l → cntOf (onceL l t) v = if v = t then cntOf l v + 1 else cntOf l v
  | [], t, v, _ => by
    rw [onceL, cntOf_cons]
    by_cases h : t = v
    · subst h; simp [cntOf]
    · rw [if_neg h, if_neg (Ne.symm h)]
  | (u, n) :: l, t, v, h => by
    obtain ⟨h1, h2⟩ := List.pairwise_cons.1 h
    have ih := onceL_cnt l t v h2
    unfold onceL
    split
    · rename_i hu
      rw [cntOf_cons, cntOf_cons, ih]
      by_cases huv : u = v
      · subst huv
        rw [if_pos rfl, if_pos rfl, if_neg (ltT_ne hu)]
      · rw [if_neg huv, if_neg huv]
    · rename_i hu
      split
      · rename_i hut
        subst hut
        rw [cntOf_cons, cntOf_cons]
        by_cases huv : u = v
        · subst huv; simp
        · rw [if_neg huv, if_neg huv, if_neg (Ne.symm huv)]
      · rename_i hne
        have htu : ltT t u = true := (ltT_total hne).resolve_left (by simpa using hu)
        rw [cntOf_cons]
        by_cases htv : t = v
        · subst htv
          rw [if_pos rfl, if_pos rfl]
          have h0 : cntOf ((u, n) :: l) t = 0 := by
            unfold cntOf
            rw [List.find?_eq_none.2]
            intro y hy
            have hy2 : ltT t y.1 = true := by
              rcases List.mem_cons.1 hy with e | e
              · rw [e]; exact htu
              · exact ltT_trans htu (h1 y e)
            have := ltT_ne hy2
            simpa using Ne.symm this
          rw [h0]; rfl
        · rw [if_neg htv, if_neg (Ne.symm htv)]
theorem countsL_cnt (ts : List Tm) (v : Tm) : cntOf (countsL ts) v = (ts.count v : Int) := by
  have h : ∀ (ts : List Tm) (l : List (Tm × Int)), Asc l → cntOf (ts.foldl onceL l) v = cntOf l v + (ts.count v : Int) := fun ts => by
    induction ts with
    | nil => intro l _; simp
    | cons t ts ih =>
      intro l hl
      rw [List.foldl_cons, ih _ (onceL_asc l t hl), onceL_cnt l t v hl, List.count_cons]
      by_cases h : v = t
      · subst h; simp; omega
      · have : (t == v) = false := by simpa using Ne.symm h
        rw [if_neg h, this]; simp
  rw [countsL, h ts [] (by simp [Asc])]
  simp [cntOf]
theorem onceL_pos : ∀ (l : List (Tm × Int)) (t : Tm), (∀ x ∈ l, 0 < x.2) → ∀ x ∈ onceL l t, 0 < x.2
  | [], t, _, x, hx => by simp [onceL] at hx; rw [hx]; show (0 : Int) < 1; decide
  | (u, n) :: l, t, h, x, hx => by
    have hn : 0 < n := h (u, n) (by simp)
    have hl : ∀ y ∈ l, 0 < y.2 := fun y hy => h y (by simp [hy])
    unfold onceL at hx
    split at hx
    · rcases List.mem_cons.1 hx with e | e
      · rw [e]; exact hn
      · exact onceL_pos l t hl x e
    · split at hx
      · rcases List.mem_cons.1 hx with e | e
        · rw [e]; show 0 < n + 1; omega
        · exact hl x e
      · rcases List.mem_cons.1 hx with e | e
        · rw [e]; show (0 : Int) < 1; omega
        · exact h x e
theorem countsL_pos (ts : List Tm) : ∀ x ∈ countsL ts, 0 < x.2 := by
  have : ∀ (ts : List Tm) (l : List (Tm × Int)), (∀ x ∈ l, 0 < x.2) → ∀ x ∈ ts.foldl onceL l, 0 < x.2 := fun ts => by
    induction ts with
    | nil => exact fun l h => h
    | cons t ts ih => exact fun l h => ih _ (onceL_pos l t h)
  exact this ts [] (by simp)
theorem cntOf_mem {l : List (Tm × Int)} (h : Asc l) {x : Tm × Int} (hx : x ∈ l) : cntOf l x.1 = x.2 := by
  induction l with
  | nil => cases hx
  | cons y l ih =>
    obtain ⟨h1, h2⟩ := List.pairwise_cons.1 h
    obtain ⟨u, n⟩ := y
    rw [cntOf_cons]
    rcases List.mem_cons.1 hx with e | e
    · subst e; simp
    · rw [if_neg (ltT_ne (h1 x e)), ih h2 e]
theorem cntOf_none {l : List (Tm × Int)} {t : Tm} (h : ∀ x ∈ l, x.1 ≠ t) : cntOf l t = 0 := by
  unfold cntOf
  rw [List.find?_eq_none.2 fun x hx => by simpa using h x hx]
/-- lists in order with the same counts, none of them nought, are one -/
theorem asc_unique : ∀ (l m : List (Tm × Int)), Asc l → Asc m → (∀ x ∈ l, 0 < x.2) → (∀ x ∈ m, 0 < x.2) → (∀ t, cntOf l t = cntOf m t) → l = m
  | [], [], _, _, _, _, _ => rfl
  | [], (u, n) :: m, _, _, _, hp, h => by
    have := h u
    rw [cntOf_cons, if_pos rfl] at this
    have hn := hp (u, n) (by simp)
    simp [cntOf] at this
    simp only at hn
    omega
  | (u, n) :: l, [], _, _, hp, _, h => by
    have := h u
    rw [cntOf_cons, if_pos rfl] at this
    have hn := hp (u, n) (by simp)
    simp [cntOf] at this
    simp only at hn
    omega
  | (u, n) :: l, (v, k) :: m, hl, hm, hpl, hpm, h => by
    obtain ⟨hl1, hl2⟩ := List.pairwise_cons.1 hl
    obtain ⟨hm1, hm2⟩ := List.pairwise_cons.1 hm
    have hn : 0 < n := hpl (u, n) (by simp)
    have hk : 0 < k := hpm (v, k) (by simp)
    have huv : u = v := by
      by_cases e : u = v
      · exact e
      · rcases ltT_total e with e1 | e1
        · have := h u
          rw [cntOf_cons, if_pos rfl, cntOf_none (fun x hx => ?_)] at this
          · omega
          · rcases List.mem_cons.1 hx with e2 | e2
            · rw [e2]; exact Ne.symm e
            · exact Ne.symm (ltT_ne (ltT_trans e1 (hm1 x e2)))
        · have := h v
          rw [cntOf_none (l := (u, n) :: l) (fun x hx => ?_), cntOf_cons, if_pos rfl] at this
          · omega
          · rcases List.mem_cons.1 hx with e2 | e2
            · rw [e2]; exact e
            · exact Ne.symm (ltT_ne (ltT_trans e1 (hl1 x e2)))
    subst huv
    have hnk : n = k := by
      have := h u
      rwa [cntOf_cons, cntOf_cons, if_pos rfl, if_pos rfl] at this
    subst hnk
    rw [asc_unique l m hl2 hm2 (fun x hx => hpl x (by simp [hx])) (fun x hx => hpm x (by simp [hx])) fun t => ?_]
    have := h t
    rw [cntOf_cons, cntOf_cons] at this
    by_cases e : u = t
    · subst e
      rw [cntOf_none fun x hx => Ne.symm (ltT_ne (hl1 x hx)), cntOf_none fun x hx => Ne.symm (ltT_ne (hm1 x hx))]
    · rwa [if_neg e, if_neg e] at this
theorem onceL_len (l : List (Tm × Int)) (t : Tm) : (onceL l t).length ≤ l.length + 1 := by
  induction l with
  | nil => simp [onceL]
  | cons x l ih =>
    obtain ⟨u, n⟩ := x
    unfold onceL
    split
    · simp; omega
    · split <;> simp
theorem countsL_len (ts : List Tm) : (countsL ts).length ≤ ts.length := by
  have : ∀ (ts : List Tm) (l : List (Tm × Int)), (ts.foldl onceL l).length ≤ l.length + ts.length := fun ts => by
    induction ts with
    | nil => simp
    | cons t ts ih =>
      intro l
      rw [List.foldl_cons]
      have := ih (onceL l t)
      have := onceL_len l t
      simp; omega
  have := this ts []
  simpa [countsL] using this
end Go.Proofs.Ytmghkonmfbpjcaa
