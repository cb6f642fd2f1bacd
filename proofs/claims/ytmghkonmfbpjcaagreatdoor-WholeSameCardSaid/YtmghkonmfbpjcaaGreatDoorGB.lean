/- RunP CRow ArgR ArgW WpA Info Ops RefG Check Check2 FlowS RefS FlowP Least FactP FactQ GraphP GraphT. -/
import Derived.Test.YtmghkonmfbpjcaaGreatDoorGA
import Derived.Test.YtmghkonmfbpjcaaGreatDoorProg
import Derived.Maps.OwnSet
import Derived.Deep.DeepCutAuto
import Derived.Deep.RegionWith
import Derived.RegionTactic
import Derived.WalkLawsBesides
import Derived.Deep.QuietTactic
import Derived.BigQuiet
import Derived.Deep.LoopGhost
import Derived.Deep.CutRange
set_option linter.unusedVariables false
set_option linter.unusedSimpArgs false
namespace Go.Proofs.YtmghkonmfbpjcaaGreatDoor
section
open Go.RowKit
def ltT (a b : Tm) : Bool := decide (a.op < b.op ∨ a.op = b.op ∧ (a.a < b.a ∨ a.a = b.a ∧ a.b < b.b))
theorem ltT_irrefl (a : Tm) : ltT a a = false := by simp [ltT]
theorem ltT_trans {a b c : Tm} (h1 : ltT a b = true) (h2 : ltT b c = true) : ltT a c = true := by (
 simp only [ltT, decide_eq_true_eq] at *
 omega)
theorem ltT_total {a b : Tm} (h : a ≠ b) : ltT a b = true ∨ ltT b a = true := by (
 obtain ⟨a0, a1, a2⟩ := a
 obtain ⟨b0, b1, b2⟩ := b
 simp only [ltT, decide_eq_true_eq]
 by_cases h0 : a0 = b0
 · (
 by_cases h1 : a1 = b1
 · (
 have h2 : a2 ≠ b2 := fun h2 => h (by rw [h0, h1, h2])
 omega)
 · omega)
 · omega)
theorem ltT_ne {a b : Tm} (h : ltT a b = true) : a ≠ b := fun e => by rw [e, ltT_irrefl] at h; cases h
def onceL : List (Tm × Int) → Tm → List (Tm × Int)
 | [], t => [(t, 1)]
 | (u, n) :: l, t => if ltT u t then (u, n) :: onceL l t else if u = t then (u, n + 1) :: l else (t, 1) :: (u, n) :: l
def countsL (ts : List Tm) : List (Tm × Int) := ts.foldl onceL []
def Asc (l : List (Tm × Int)) : Prop := l.Pairwise fun x y => ltT x.1 y.1 = true
theorem onceL_mem : ∀ (l : List (Tm × Int)) (t : Tm) (x : Tm × Int), x ∈ onceL l t → x.1 = t ∨ x ∈ l
 | [], t, x, h => by simp [onceL] at h; exact .inl (by rw [h])
 | (u, n) :: l, t, x, h => by (
 unfold onceL at h
 split at h
 · (
 rcases List.mem_cons.1 h with h | h
 · exact .inr (by simp [h])
 · exact (onceL_mem l t x h).imp id fun h => by simp [h])
 · (
 split at h
 · (
 rename_i hu
 rcases List.mem_cons.1 h with h | h
 · exact .inl (by rw [h]; exact hu)
 · exact .inr (by simp [h]))
 · (
 rcases List.mem_cons.1 h with h | h
 · exact .inl (by rw [h])
 · exact .inr h)))
theorem onceL_asc : ∀ (l : List (Tm × Int)) (t : Tm), Asc l → Asc (onceL l t)
 | [], t, _ => by simp [onceL, Asc]
 | (u, n) :: l, t, h => by (
 obtain ⟨h1, h2⟩ := List.pairwise_cons.1 h
 unfold onceL
 split
 · (
 rename_i hu
 refine List.pairwise_cons.2 ⟨fun y hy => ?_, onceL_asc l t h2⟩
 rcases onceL_mem l t y hy with e | e
 · rw [e]; exact hu
 · exact h1 y e)
 · (
 rename_i hu
 split
 · exact List.pairwise_cons.2 ⟨h1, h2⟩
 · (
 rename_i hne
 have htu : ltT t u = true := (ltT_total hne).resolve_left (by simpa using hu)
 exact List.pairwise_cons.2 ⟨fun y hy => by
  rcases List.mem_cons.1 hy with e | e
  · rw [e]; exact htu
  · exact ltT_trans htu (h1 y e), h⟩)))
theorem countsL_asc (ts : List Tm) : Asc (countsL ts) := by (
 have : ∀ (ts : List Tm) (l : List (Tm × Int)), Asc l → Asc (ts.foldl onceL l) := fun ts => by (
 induction ts with
 | nil => exact fun l h => h
 | cons t ts ih => exact fun l h => ih _ (onceL_asc l t h))
 exact this ts [] (by simp [Asc]))
def cntOf (l : List (Tm × Int)) (t : Tm) : Int := match l.find? (fun x => x.1 == t) with | some x => x.2 | none => 0
theorem cntOf_cons (u : Tm) (n : Int) (l : List (Tm × Int)) (t : Tm) : cntOf ((u, n) :: l) t = if u = t then n else cntOf l t := by (
 unfold cntOf
 rw [List.find?_cons]
 by_cases h : u = t
 · simp [h]
 · (
 have : (u == t) = false := by simpa using h
 simp [this, h]))
theorem onceL_cnt : ∀ (l : List (Tm × Int)) (t v : Tm), Asc l → cntOf (onceL l t) v = if v = t then cntOf l v + 1 else cntOf l v
 | [], t, v, _ => by (
 rw [onceL, cntOf_cons]
 by_cases h : t = v
 · subst h; simp [cntOf]
 · rw [if_neg h, if_neg (Ne.symm h)])
 | (u, n) :: l, t, v, h => by (
 obtain ⟨h1, h2⟩ := List.pairwise_cons.1 h
 have ih := onceL_cnt l t v h2
 unfold onceL
 split
 · (
 rename_i hu
 rw [cntOf_cons, cntOf_cons, ih]
 by_cases huv : u = v
 · (
 subst huv
 rw [if_pos rfl, if_pos rfl, if_neg (ltT_ne hu)])
 · rw [if_neg huv, if_neg huv])
 · (
 rename_i hu
 split
 · (
 rename_i hut
 subst hut
 rw [cntOf_cons, cntOf_cons]
 by_cases huv : u = v
 · subst huv; simp
 · rw [if_neg huv, if_neg huv, if_neg (Ne.symm huv)])
 · (
 rename_i hne
 have htu : ltT t u = true := (ltT_total hne).resolve_left (by simpa using hu)
 rw [cntOf_cons]
 by_cases htv : t = v
 · (
 subst htv
 rw [if_pos rfl, if_pos rfl]
 have h0 : cntOf ((u, n) :: l) t = 0 := by (
 unfold cntOf
 rw [List.find?_eq_none.2]
 intro y hy
 have hy2 : ltT t y.1 = true := by (
 rcases List.mem_cons.1 hy with e | e
 · rw [e]; exact htu
 · exact ltT_trans htu (h1 y e))
 have := ltT_ne hy2
 simpa using Ne.symm this)
 rw [h0]; rfl)
 · rw [if_neg htv, if_neg (Ne.symm htv)])))
theorem countsL_cnt (ts : List Tm) (v : Tm) : cntOf (countsL ts) v = (ts.count v : Int) := by (
 have h : ∀ (ts : List Tm) (l : List (Tm × Int)), Asc l → cntOf (ts.foldl onceL l) v = cntOf l v + (ts.count v : Int) := fun ts => by (
 induction ts with
 | nil => intro l _; simp
 | cons t ts ih =>
  intro l hl
  rw [List.foldl_cons, ih _ (onceL_asc l t hl), onceL_cnt l t v hl, List.count_cons]
  by_cases h : v = t
  · subst h; simp; omega
  · (
 have : (t == v) = false := by simpa using Ne.symm h
 rw [if_neg h, this]; simp))
 rw [countsL, h ts [] (by simp [Asc])]
 simp [cntOf])
theorem onceL_pos : ∀ (l : List (Tm × Int)) (t : Tm), (∀ x ∈ l, 0 < x.2) → ∀ x ∈ onceL l t, 0 < x.2
 | [], t, _, x, hx => by simp [onceL] at hx; rw [hx]; show (0 : Int) < 1; decide
 | (u, n) :: l, t, h, x, hx => by (
 have hn : 0 < n := h (u, n) (by simp)
 have hl : ∀ y ∈ l, 0 < y.2 := fun y hy => h y (by simp [hy])
 unfold onceL at hx
 split at hx
 · (
 rcases List.mem_cons.1 hx with e | e
 · rw [e]; exact hn
 · exact onceL_pos l t hl x e)
 · (
 split at hx
 · (
 rcases List.mem_cons.1 hx with e | e
 · rw [e]; show 0 < n + 1; omega
 · exact hl x e)
 · (
 rcases List.mem_cons.1 hx with e | e
 · rw [e]; show (0 : Int) < 1; omega
 · exact h x e)))
theorem countsL_pos (ts : List Tm) : ∀ x ∈ countsL ts, 0 < x.2 := by (
 have : ∀ (ts : List Tm) (l : List (Tm × Int)), (∀ x ∈ l, 0 < x.2) → ∀ x ∈ ts.foldl onceL l, 0 < x.2 := fun ts => by (
 induction ts with
 | nil => exact fun l h => h
 | cons t ts ih => exact fun l h => ih _ (onceL_pos l t h))
 exact this ts [] (by simp))
theorem cntOf_mem {l : List (Tm × Int)} (h : Asc l) {x : Tm × Int} (hx : x ∈ l) : cntOf l x.1 = x.2 := by (
 induction l with
 | nil => cases hx
 | cons y l ih =>
  obtain ⟨h1, h2⟩ := List.pairwise_cons.1 h
  obtain ⟨u, n⟩ := y
  rw [cntOf_cons]
  rcases List.mem_cons.1 hx with e | e
  · subst e; simp
  · rw [if_neg (ltT_ne (h1 x e)), ih h2 e])
theorem cntOf_none {l : List (Tm × Int)} {t : Tm} (h : ∀ x ∈ l, x.1 ≠ t) : cntOf l t = 0 := by (
 unfold cntOf
 rw [List.find?_eq_none.2 fun x hx => by simpa using h x hx])
theorem asc_unique : ∀ (l m : List (Tm × Int)), Asc l → Asc m → (∀ x ∈ l, 0 < x.2) → (∀ x ∈ m, 0 < x.2) → (∀ t, cntOf l t = cntOf m t) → l = m
 | [], [], _, _, _, _, _ => rfl
 | [], (u, n) :: m, _, _, _, hp, h => by (
 have := h u
 rw [cntOf_cons, if_pos rfl] at this
 have hn := hp (u, n) (by simp)
 simp [cntOf] at this
 simp only at hn
 omega)
 | (u, n) :: l, [], _, _, hp, _, h => by (
 have := h u
 rw [cntOf_cons, if_pos rfl] at this
 have hn := hp (u, n) (by simp)
 simp [cntOf] at this
 simp only at hn
 omega)
 | (u, n) :: l, (v, k) :: m, hl, hm, hpl, hpm, h => by (
 obtain ⟨hl1, hl2⟩ := List.pairwise_cons.1 hl
 obtain ⟨hm1, hm2⟩ := List.pairwise_cons.1 hm
 have hn : 0 < n := hpl (u, n) (by simp)
 have hk : 0 < k := hpm (v, k) (by simp)
 have huv : u = v := by (
 by_cases e : u = v
 · exact e
 · (
 rcases ltT_total e with e1 | e1
 · (
 have := h u
 rw [cntOf_cons, if_pos rfl, cntOf_none (fun x hx => ?_)] at this
 · omega
 · (
 rcases List.mem_cons.1 hx with e2 | e2
 · rw [e2]; exact Ne.symm e
 · exact Ne.symm (ltT_ne (ltT_trans e1 (hm1 x e2)))))
 · (
 have := h v
 rw [cntOf_none (l := (u, n) :: l) (fun x hx => ?_), cntOf_cons, if_pos rfl] at this
 · omega
 · (
 rcases List.mem_cons.1 hx with e2 | e2
 · rw [e2]; exact e
 · exact Ne.symm (ltT_ne (ltT_trans e1 (hl1 x e2)))))))
 subst huv
 have hnk : n = k := by (
 have := h u
 rwa [cntOf_cons, cntOf_cons, if_pos rfl, if_pos rfl] at this)
 subst hnk
 rw [asc_unique l m hl2 hm2 (fun x hx => hpl x (by simp [hx])) (fun x hx => hpm x (by simp [hx])) fun t => ?_]
 have := h t
 rw [cntOf_cons, cntOf_cons] at this
 by_cases e : u = t
 · (
 subst e
 rw [cntOf_none fun x hx => Ne.symm (ltT_ne (hl1 x hx)), cntOf_none fun x hx => Ne.symm (ltT_ne (hm1 x hx))])
 · rwa [if_neg e, if_neg e] at this)
end
section
open Go.RowKit
abbrev Ct := Tm × Int
def Ct.cells (n : Ct) : List Value := [.int .i64 n.1.op, .int .i64 n.1.a, .int .i64 n.1.b, .int .i64 n.2]
def Ct.lies (n : Ct) (w : World) (b off : Nat) : Prop :=
 w.cell? ⟨b, off, none⟩ = some (.int .i64 n.1.op) ∧ w.cell? ⟨b, off + 1, none⟩ = some (.int .i64 n.1.a) ∧ w.cell? ⟨b, off + 2, none⟩ = some (.int .i64 n.1.b) ∧ w.cell? ⟨b, off + 3, none⟩ = some (.int .i64 n.2)
def CtsAt (w : World) (A : Option Addr) (l : List Ct) : Prop :=
 l ≠ [] → ∃ b off, A = some ⟨b, off, none⟩ ∧ b < w.heap.size ∧ ∀ (i : Nat) (n : Ct), l[i]? = some n → n.lies w b (off + i * 4)
theorem Ct.lies.below {n : Ct} {B : Nat} {w w' : World} {b off : Nat} (h : n.lies w b off) (hb : Below B w w') (hl : b < B) : n.lies w' b off := by (
 obtain ⟨hc, _⟩ := bcell hb
 obtain ⟨h0, h1, h2, h3⟩ := h
 exact ⟨(hc _ _ hl).trans h0, (hc _ _ hl).trans h1, (hc _ _ hl).trans h2, (hc _ _ hl).trans h3⟩)
theorem CtsAt.below {w w' : World} {A : Option Addr} {l : List Ct} (h : CtsAt w A l) (hb : Below w.heap.size w w') : CtsAt w' A l := fun hn => by (
 obtain ⟨b, off, e, hl, hc⟩ := h hn
 exact ⟨b, off, e, Nat.lt_of_lt_of_le hl hb.size, fun i n hi => (hc i n hi).below hb hl⟩)
theorem CtsAt.mk {w : World} {b off : Nat} {l : List Ct} (hb : b < w.heap.size) (h : ∀ (i : Nat) (n : Ct), l[i]? = some n → n.lies w b (off + i * 4)) : CtsAt w (some ⟨b, off, none⟩) l :=
 fun _ => ⟨b, off, rfl, hb, h⟩
theorem CtsAt.get {w : World} {A : Option Addr} {l : List Ct} (h : CtsAt w A l) {k : Nat} (hk : k < l.length) :
 ∃ b off n, A = some ⟨b, off, none⟩ ∧ b < w.heap.size ∧ l[k]? = some n ∧ n.lies w b (off + k * 4) := by (
 obtain ⟨b, off, e, hb, hc⟩ := h (by intro h0; subst h0; simp at hk)
 exact ⟨b, off, l[k], e, hb, List.getElem?_eq_getElem hk, hc k _ (List.getElem?_eq_getElem hk)⟩)
def ccells : List Ct → List Value
 | [] => []
 | n :: l => n.cells ++ ccells l
theorem Ct.cells_len (n : Ct) : n.cells.length = 4 := rfl
theorem ccells_len (l : List Ct) : (ccells l).length = l.length * 4 := by (
 induction l with
 | nil => rfl
 | cons n l ih => simp only [ccells, List.length_append, Ct.cells_len, ih, List.length_cons]; omega)
theorem ccells_append (a b : List Ct) : ccells (a ++ b) = ccells a ++ ccells b := by (
 induction a with
 | nil => rfl
 | cons n a ih => simp only [List.cons_append, ccells, ih, List.append_assoc])
theorem ccells_get : ∀ (l : List Ct) (i j : Nat), j < 4 → (ccells l)[i * 4 + j]? = (l[i]?).bind fun n => n.cells[j]?
 | [], i, j, hj => by simp [ccells]
 | n :: l, 0, j, hj => by (
 simp only [ccells, Nat.zero_mul, Nat.zero_add, List.getElem?_cons_zero, Option.bind_some]
 rw [List.getElem?_append_left (by rw [Ct.cells_len]; exact hj)])
 | n :: l, i + 1, j, hj => by (
 simp only [ccells, List.getElem?_cons_succ]
 rw [List.getElem?_append_right (by rw [Ct.cells_len]; omega), Ct.cells_len, show (i + 1) * 4 + j - 4 = i * 4 + j by omega]
 exact ccells_get l i j hj)
theorem ccells_one (l : List Ct) : ∀ u ∈ ccells l, u.oneCell' = true := by (
 induction l with
 | nil => intro u hu; cases hu
 | cons n l ih =>
  intro u hu
  simp only [ccells, List.mem_append] at hu
  rcases hu with hu | hu
  · (
 simp only [Ct.cells, List.mem_cons, List.not_mem_nil, or_false] at hu
 rcases hu with rfl | rfl | rfl | rfl <;> rfl)
  · exact ih u hu)
theorem clies_iff {n : Ct} {w : World} {b off : Nat} : n.lies w b off ↔ ∀ j, j < 4 → w.cell? ⟨b, off + j, none⟩ = n.cells[j]? := by (
 constructor
 · (
 rintro ⟨h0, h1, h2, h3⟩ j hj
 match j, hj with
 | 0, _ => exact h0
 | 1, _ => exact h1
 | 2, _ => exact h2
 | 3, _ => exact h3)
 · (
 intro h
 exact ⟨h 0 (by omega), h 1 (by omega), h 2 (by omega), h 3 (by omega)⟩))
theorem CtsAt.cell {w : World} {b off : Nat} {l : List Ct} (h : CtsAt w (some ⟨b, off, none⟩) l) (k : Nat) (hk : k < l.length * 4) : w.cell? ⟨b, off + k, none⟩ = (ccells l)[k]? := by (
 have hd : k / 4 < l.length := by omega
 obtain ⟨b', off', n, e, _, hn, hl⟩ := h.get hd
 injection e with e
 injection e with e1 e2
 subst e1 e2
 have h3' : k % 4 < 4 := Nat.mod_lt _ (by omega)
 have := clies_iff.1 hl (k % 4) h3'
 rw [show off + k / 4 * 4 + k % 4 = off + k by omega] at this
 have hg := ccells_get l (k / 4) (k % 4) h3'
 rw [show k / 4 * 4 + k % 4 = k by omega, hn] at hg
 rw [this, hg]
 rfl)
def CRow (w : World) (base : Nat) (e : TypeId) (v : Value) (l : List Ct) : Prop := w.ownsRow base e 4 v l.length (ccells l)
section
variable {w w' : World} {base : Nat} {e : TypeId} {v : Value} {l : List Ct}
theorem CRow.nil_ (w : World) (base : Nat) (e : TypeId) : CRow w base e (.slice none 0 0) [] := ⟨rfl, .inl ⟨rfl, rfl⟩⟩
theorem CRow.open (h : CRow w base e v l) : (v = .slice none 0 0 ∧ l = []) ∨ ∃ g cap cur, v = .slice (some ⟨g, 0, none⟩) l.length cap ∧ base ≤ g ∧ w.heap[g]? = some (.cells cur e (0, 0)) ∧ l.length ≤ cap ∧ cap ≤ maxLen ∧ cur.size = cap * 4 ∧
 ∀ k, k < l.length * 4 → cur[k]? = (ccells l)[k]? := by (
 obtain ⟨hl, ⟨hv, hn⟩ | ⟨g, cap, cur, hv, hb, hh, h1, h2, h3, h4⟩⟩ := h
 · exact .inl ⟨hv, List.eq_nil_of_length_eq_zero hn⟩
 · (
 refine .inr ⟨g, cap, cur, hv, hb, hh, h1, h2, h3, fun k hk => ?_⟩
 rw [← h4, List.getElem?_take, if_pos hk, Array.getElem?_toList]))
theorem CRow.close {g cap : Nat} {cur : Array Value} (hb : base ≤ g) (hh : w.heap[g]? = some (.cells cur e (0, 0))) (h1 : l.length ≤ cap) (h2 : cap ≤ maxLen) (h3 : cur.size = cap * 4)
 (h4 : ∀ k, k < l.length * 4 → cur[k]? = (ccells l)[k]?) : CRow w base e (.slice (some ⟨g, 0, none⟩) l.length cap) l := by (
 refine ⟨ccells_len l, .inr ⟨g, cap, cur, rfl, hb, hh, h1, h2, h3, ?_⟩⟩
 refine List.ext_getElem? fun k => ?_
 rw [List.getElem?_take]
 split
 · (
 rename_i hk
 rw [Array.getElem?_toList]
 exact h4 k hk)
 · (
 rename_i hk
 rw [List.getElem?_eq_none (by rw [ccells_len]; omega)]))
theorem CRow.lt (h : CRow w base e v l) : ∀ k, v.ownBlock = some k → base ≤ k ∧ k < w.heap.size := by (
 rintro k hk
 rcases h.open with ⟨rfl, _⟩ | ⟨g, cap, cur, rfl, hb, hh, _⟩
 · simp [Value.ownBlock] at hk
 · (
 simp [Value.ownBlock] at hk
 subst hk
 exact ⟨hb, lt_of_heap hh⟩))
theorem CRow.of_block (h : CRow w base e v l) (hk : ∀ k, v.ownBlock = some k → w'.heap[k]? = w.heap[k]?) : CRow w' base e v l := by (
 obtain ⟨hl, ⟨hv, hn⟩ | ⟨g, cap, cur, hv, hb, hh, r⟩⟩ := h
 · exact ⟨hl, .inl ⟨hv, hn⟩⟩
 · exact ⟨hl, .inr ⟨g, cap, cur, hv, hb, (hk g (by rw [hv]; rfl)).trans hh, r⟩⟩)
theorem CRow.kept {row : Option Nat} (h : CRow w base e v l) (hg : w.grownBy w' row) (hne : v.ownBlock = none ∨ v.ownBlock ≠ row) : CRow w' base e v l :=
 h.of_block fun k hk => hg.block k (h.lt k hk).2 (by
  rcases hne with hn | hn
  · rw [hn] at hk; cases hk
  · rw [← hk]; exact hn)
theorem CRow.below' (h : CRow w base e v l) (hb : Below w.heap.size w w') : CRow w' base e v l := h.of_block fun k hk => hb.block k (h.lt k hk).2
theorem CRow.alloc (h : CRow w base e v l) (o : Obj) : CRow (w.alloc o) base e v l := h.of_block fun k hk => Below.heap_alloc w o k (h.lt k hk).2
theorem CRow.drew (h : CRow w base e v l) : CRow w.drew base e v l := h
theorem CRow.drewN (h : CRow w base e v l) (n : Nat) : CRow (w.drewN n) base e v l := h
theorem CRow.far (h : CRow w base e v l) {p : Addr} (hp : v.ownBlock ≠ some p.block) (u : Value) : CRow (w.setCell p u) base e v l :=
 h.of_block fun k hk => Below.heap_setCell w p u k (by rintro rfl; exact hp hk)
theorem CRow.mono {base' : Nat} (h : CRow w base e v l) (hb : base' ≤ base) : CRow w base' e v l := by (
 obtain ⟨hl, h | ⟨g, cap, cur, hv, hg, r⟩⟩ := h
 · exact ⟨hl, .inl h⟩
 · exact ⟨hl, .inr ⟨g, cap, cur, hv, Nat.le_trans hb hg, r⟩⟩)
theorem CRow.shape (h : CRow w base e v l) : ∃ A cap, v = .slice A l.length cap ∧ l.length ≤ cap ∧ cap ≤ maxLen := by (
 rcases h.open with ⟨rfl, rfl⟩ | ⟨g, cap, cur, rfl, _, _, hc, hm, _⟩
 · exact ⟨none, 0, rfl, Nat.le_refl _, Nat.zero_le _⟩
 · exact ⟨_, cap, rfl, hc, hm⟩)
theorem CRow.nodes {A : Option Addr} {n cap : Nat} (h : CRow w base e (.slice A n cap) l) : CtsAt w A l := fun hn => by (
 rcases h.open with ⟨_, rfl⟩ | ⟨g, cap, cur, hv, hb, hh, _, _, _, hc⟩
 · exact absurd rfl hn
 · (
 injection hv with hA
 subst hA
 refine ⟨g, 0, rfl, lt_of_heap hh, fun i n hi => clies_iff.2 fun j hj => ?_⟩
 have hlt : i < l.length := (List.getElem?_eq_some_iff.1 hi).1
 have := hc (i * 4 + j) (by omega)
 rw [ccells_get l i j hj, hi] at this
 rw [Nat.zero_add]
 simp only [World.cell?, hh, this]
 simp))
theorem CRow.ne_blk {g : Nat} {t : TypeId} {cs : Array Value} (h : CRow w base e v l) (hg : Blk w g t cs) (hne : e ≠ t) : v.ownBlock ≠ some g := by (
 rcases h.open with ⟨rfl, _⟩ | ⟨g', cap, cur, rfl, _, hh, _⟩
 · simp [Value.ownBlock]
 · (
 intro he
 simp [Value.ownBlock] at he
 subst he
 have hB : Blk w g' e cur := by unfold Blk; exact hh
 exact hB.ne_ hg hne rfl))
theorem CRow.ne_row {base' : Nat} {e' : TypeId} {u : Value} {ys : List Value} (h : CRow w base e v l) (h' : Row w base' e' u ys) (hne : e ≠ e') : v.ownBlock = none ∨ v.ownBlock ≠ u.ownBlock := by (
 rcases h' with ⟨rfl, _⟩ | ⟨g', o, cap, cur, rfl, _, hh, _⟩
 · (
 rcases hv : v.ownBlock with _ | k
 · exact .inl rfl
 · exact .inr (by simp [Value.ownBlock]))
 · exact .inr (h.ne_blk (cs := cur) (t := e') (by unfold Blk; exact hh) hne))
theorem run_append_counts {P : Program} (t ty : TypeId) (i : TypeInfo) (z : Value) (bytes : Nat) (ht : P.underlying t = some (.slice e)) (hi : P.info? e = some i) (hz : i.zero = some z)
 (hsize : i.size = 4) (hby : i.bytes = bytes) (hzs : z.cells.size = 4) (hr : CRow w base e v l) (A : Option Addr) (c : Nat) (news : List Ct) (hn : CtsAt w A news)
 (h3'3 : l.length + news.length ≤ maxLen) (hbytes : (l.length + news.length) * bytes ≤ 140737488355328) (hbase : base ≤ w.heap.size) :
 ∃ v' w', (Builtin.append_ #[t, t] ty #[v, .slice A news.length c]).run P w = .ok v' w' ∧ CRow w' base e v' (l ++ news) ∧ w.grownBy w' v.ownBlock ∧ (v'.ownBlock = v.ownBlock ∨ ∀ k, v'.ownBlock = some k → w.heap.size ≤ k) := by (
 by_cases hne : news = []
 · (
 subst hne
 refine ⟨v, w, ?_, by simpa using hr, World.grownBy.refl w _, .inl rfl⟩
 rcases hr.open with ⟨rfl, rfl⟩ | ⟨g, cap, cur, rfl, _, _, hnc, _⟩
 · rcases A with _ | A <;> simp [Builtin.append_, run_underlying ht, sizeOf, typeInfo, hi, hsize, Builtin.lenOf, Builtin.firstCells, loadCells, loadCellsFrom]
 · rcases A with _ | A <;> simp [Builtin.append_, run_underlying ht, sizeOf, typeInfo, hi, hsize, Builtin.lenOf, Builtin.firstCells, loadCells, loadCellsFrom, hnc, storeCells])
 · (
 obtain ⟨b, off, rfl, hb, hcell⟩ := hn hne
 have hnews : ∀ j u, (ccells news)[j]? = some u → w.cell? ((⟨b, off, none⟩ : Addr).add j) = some u := fun j u hj => by (
 rw [Addr.add_lit, ← hj]
 exact CtsAt.cell hn j (by rw [← ccells_len]; exact (List.getElem?_eq_some_iff.1 hj).1))
 obtain ⟨v', w', hrun, h2, h3, h4, h5⟩ := run_append_own_at (P := P) w base t ty e i z 4 bytes ht hi hz hsize hby hzs (by omega) v l.length (ccells l) hr ⟨b, off, none⟩ news.length c (ccells news) (ccells_len _) hnews (ccells_one _) h3'3 hbytes hbase
 refine ⟨v', w', hrun, ?_, h3, h5.imp id fun h k hk => by rw [h] at hk; injection hk with hk; omega⟩
 show w'.ownsRow base e 4 v' (l ++ news).length (ccells (l ++ news))
 rw [List.length_append, ccells_append]
 exact h2))
theorem wp_append_counts {P : Program} {o : Oper} {a : Act} {K : Act → World → Prop} {Q : Exit → Act → World → Prop} (s x : Operand) (t : TypeId)
 (ho : o.op = .call { callee := .builtin .append, args := #[s, x], argTypes := #[t, t] })
 (i : TypeInfo) (z : Value) (bytes : Nat) (ht : P.underlying t = some (.slice e)) (hi : P.info? e = some i) (hz : i.zero = some z)
 (hsize : i.size = 4) (hby : i.bytes = bytes) (hzs : z.cells.size = 4) (hs : a.eval s = v) (hr : CRow w base e v l) (A : Option Addr) (n c : Nat) (news : List Ct) (hx : a.eval x = .slice A n c)
 (hnl : n = news.length) (hn : CtsAt w A news)
 (h3'3 : l.length + news.length ≤ maxLen) (hbytes : (l.length + news.length) * bytes ≤ 140737488355328) (hbase : base ≤ w.heap.size)
 (h : ∀ v' w', CRow w' base e v' (l ++ news) → w.grownBy w' v.ownBlock → (v'.ownBlock = v.ownBlock ∨ ∀ k, v'.ownBlock = some k → w.heap.size ≤ k) → K (a.put o.dst v') w') : o.wp P a w K Q := by (
 subst hnl
 obtain ⟨v', w', hrun, h2, h3, h4⟩ := run_append_counts (P := P) t o.type i z bytes ht hi hz hsize hby hzs hr A c news hn h3'3 hbytes hbase
 unfold Oper.wp execOp
 simp only [ho, resolve, invoke, builtin, Sem.run_bind, Sem.run_pure, Result.andThen_ok, List.map_toArray, List.map_cons, List.map_nil, hs, hx, hrun]
 exact h v' w' h2 h3 h4)
theorem step_append_counts {P : Program} {ops : Array Oper} {o : Oper} {a : Act} {K : Act → World → Prop} {Q : Exit → Act → World → Prop} {E : Prop} (hgd : o.guard = none) (s x : Operand) (t : TypeId)
 (ho : o.op = .call { callee := .builtin .append, args := #[s, x], argTypes := #[t, t] })
 (i : TypeInfo) (z : Value) (bytes : Nat) (ht : P.underlying t = some (.slice e)) (hi : P.info? e = some i) (hz : i.zero = some z)
 (hsize : i.size = 4) (hby : i.bytes = bytes) (hzs : z.cells.size = 4) (hs : a.eval s = v) (hr : CRow w base e v l) (A : Option Addr) (n c : Nat) (news : List Ct) (hx : a.eval x = .slice A n c)
 (hnl : n = news.length) (hn : CtsAt w A news)
 (h3'3 : l.length + news.length ≤ maxLen) (hbytes : (l.length + news.length) * bytes ≤ 140737488355328) (hbase : base ≤ w.heap.size)
 (h : ∀ v' w', CRow w' base e v' (l ++ news) → w.grownBy w' v.ownBlock → (v'.ownBlock = v.ownBlock ∨ ∀ k, v'.ownBlock = some k → w.heap.size ≤ k) → K (a.put o.dst v') w') :
 if Region.wanted o (yielded ops a.tmps) = true then Oper.wp P o a w K Q else E := by (
 have hw : Region.wanted o (yielded ops a.tmps) = true := by simp [Region.wanted, hgd]
 rw [if_pos hw]
 exact wp_append_counts s x t ho i z bytes ht hi hz hsize hby hzs hs hr A n c news hx hnl hn h3'3 hbytes hbase h)
theorem counts_one' {w : World} {n : Ct} {t : TypeId} {g : Nat} (h : g = w.heap.size) : CtsAt (w.alloc (.cells #[.int .i64 n.1.op, .int .i64 n.1.a, .int .i64 n.1.b, .int .i64 n.2] t)) (some ⟨g, 0, none⟩) [n] := by (
 subst h
 refine CtsAt.mk (by simp) fun i m hi => ?_
 rcases i with _ | i
 · (
 simp at hi
 subst hi
 simp [Ct.lies])
 · simp at hi)
end
end
section
open Go.RowKit Go.ChangeShapes Go.WideShapes Go.Deep
section
variable {H : Type} {enc : TypeId × Value → H} {P : Program} {w : World} {base : Nat} {spare : Nat → Bool} {held : Bool}
theorem open_ints {t e : TypeId} {fuel : Nat} {cs : List Value} {x : DataW H × List MemPlace} (ht : P.underlying t = some (.slice e)) (he : P.underlying e = some (.int .i64)) (hc : P.cellsOf e = 1)
 (h : DataW.trod enc P w base spare held fuel t cs = some x) :
 ∃ (S : Option Addr) (c : Nat) (l : List Int), cs = [.slice S l.length c] ∧ l.length ≤ c ∧ c ≤ maxLen ∧ ValsAt w S (ints l) := by (
 rcases open_slice1 ht hc h with ⟨rfl, _⟩ | ⟨a, len, cap, m, n, V, D, Pl, rfl, _, hl, hm, hmm, _, hx⟩
 · exact ⟨none, 0, [], rfl, Nat.le_refl _, by simp, ValsAt.nil⟩
 have hlm : len ≤ m := by rw [hmm]; split <;> omega
 obtain ⟨Z, hZ⟩ := choose_lt (α := Int) (n := len) (p := fun i z => w.cell? (a.add i) = some (.int .i64 z)) (fun i hi => by
  obtain ⟨h1, h2⟩ := hx i (by omega)
  obtain ⟨z, hz, _⟩ := DataW.trod_int he h2
  simp at hz
  exact ⟨z, hz ▸ h1⟩)
 refine ⟨some a, cap, (List.range len).map Z, by simp, by simpa using hl, hm, ?_⟩
 intro hn
 have hpos : 0 < len := by (
 rcases Nat.eq_zero_or_pos len with h0 | h0
 · subst h0; exact absurd rfl hn
 · exact h0)
 have h0 := hZ 0 hpos
 have hsp : a.spot = none := World.cell?_spot (a := a) (by simpa [Addr.add] using h0)
 obtain ⟨b, off, sp⟩ := a
 simp only at hsp
 subst hsp
 refine ⟨b, off, rfl, World.block_lt_of_cell? w ⟨b, off + 0, none⟩ (by rw [add_flat] at h0; exact h0), fun i v hi => ?_⟩
 rw [ints_get] at hi
 by_cases hil : i < len
 · (
 simp [hil] at hi
 subst hi
 have := hZ i hil
 rwa [add_flat] at this)
 · simp [hil] at hi)
end
section
variable {H : Type} {enc : TypeId × Value → H} {w : World} {base : Nat} {spare : Nat → Bool} {held : Bool} {r : Reach} {b0 : Nat} {v : Value} {d : DataW H} {p : List MemPlace}
set_option maxRecDepth 100000 in
theorem ints_in (hv : Value.okWide Tryz.prog w r b0 25 v) (h : DataW.Trod enc Tryz.prog w base spare held 25 v d p) :
 ∃ (S : Option Addr) (c : Nat) (l : List Int), v = .slice S l.length c ∧ l.length ≤ c ∧ c ≤ maxLen ∧ ValsAt w S (ints l) := by (
 obtain ⟨a, len, cap, rfl⟩ := okWide_slice Tryz.underlying25 hv
 obtain ⟨fuel, hf⟩ := h
 obtain ⟨S, c, l, e, hx⟩ := open_ints Tryz.underlying25 Tryz.underlying3 (by kernel_rfl) hf
 simp [Value.cells] at e
 obtain ⟨rfl, rfl, rfl⟩ := e
 exact ⟨_, _, l, rfl, hx⟩)
end
end
section
open Go.RowKit Go.ChangeShapes Go.WideShapes Go.Deep
section
variable {H : Type} {enc : TypeId × Value → H} {P : Program} {w : World} {base : Nat} {spare : Nat → Bool} {held : Bool}
theorem open_ints_wf {t e : TypeId} {fuel : Nat} {cs : List Value} {x : DataW H × List MemPlace} (ht : P.underlying t = some (.slice e)) (he : P.underlying e = some (.int .i64)) (hc : P.cellsOf e = 1)
    (h : DataW.trod enc P w base spare held fuel t cs = some x) :
    ∃ (S : Option Addr) (c : Nat) (l : List Int), cs = [.slice S l.length c] ∧ l.length ≤ c ∧ c ≤ maxLen ∧ ValsAt w S (ints l) ∧ ∀ n ∈ l, (Lit.int .i64 n).wf = true := by
  rcases open_slice1 ht hc h with ⟨rfl, _⟩ | ⟨a, len, cap, m, n, V, D, Pl, rfl, _, hl, hm, hmm, _, hx⟩
  · exact ⟨none, 0, [], rfl, Nat.le_refl _, by simp, ValsAt.nil, fun n hn => by cases hn⟩
  have hlm : len ≤ m := by rw [hmm]; split <;> omega
  obtain ⟨Z, hZ⟩ := choose_lt (α := Int) (n := len) (p := fun i z => w.cell? (a.add i) = some (.int .i64 z) ∧ (Lit.int .i64 z).wf = true) (fun i hi => by
    obtain ⟨h1, h2⟩ := hx i (by omega)
    obtain ⟨z, hz, hw⟩ := DataW.trod_int he h2
    simp at hz
    exact ⟨z, hz ▸ h1, hw.2⟩)
  refine ⟨some a, cap, (List.range len).map Z, by simp, by simpa using hl, hm, ?_, ?_⟩
  rotate_left
  · intro n hn
    obtain ⟨k, hk, rfl⟩ := List.mem_map.1 hn
    exact (hZ k (by simpa using hk)).2
  intro hn
  have hpos : 0 < len := by
    rcases Nat.eq_zero_or_pos len with h0 | h0
    · subst h0; exact absurd rfl hn
    · exact h0
  have h0 := (hZ 0 hpos).1
  have hsp : a.spot = none := World.cell?_spot (a := a) (by simpa [Addr.add] using h0)
  obtain ⟨b, off, sp⟩ := a
  simp only at hsp
  subst hsp
  refine ⟨b, off, rfl, World.block_lt_of_cell? w ⟨b, off + 0, none⟩ (by rw [add_flat] at h0; exact h0), fun i v hi => ?_⟩
  rw [ints_get] at hi
  by_cases hil : i < len
  · simp [hil] at hi
    subst hi
    have := (hZ i hil).1
    rwa [add_flat] at this
  · simp [hil] at hi
end
section
variable {H : Type} {enc : TypeId × Value → H} {w : World} {base : Nat} {spare : Nat → Bool} {held : Bool} {r : Reach} {b0 : Nat} {v : Value} {d : DataW H} {p : List MemPlace}
set_option maxRecDepth 100000 in
theorem ints_in_wf (hv : Value.okWide Tryz.prog w r b0 25 v) (h : DataW.Trod enc Tryz.prog w base spare held 25 v d p) :
    ∃ (S : Option Addr) (c : Nat) (l : List Int), v = .slice S l.length c ∧ l.length ≤ c ∧ c ≤ maxLen ∧ ValsAt w S (ints l) ∧ ∀ n ∈ l, (Lit.int .i64 n).wf = true := by
  obtain ⟨a, len, cap, rfl⟩ := okWide_slice Tryz.underlying25 hv
  obtain ⟨fuel, hf⟩ := h
  obtain ⟨S, c, l, e, hx⟩ := open_ints_wf Tryz.underlying25 Tryz.underlying3 (by kernel_rfl) hf
  simp [Value.cells] at e
  obtain ⟨rfl, rfl, rfl⟩ := e
  exact ⟨_, _, l, rfl, hx⟩
end
theorem wf_i64 {n : Int} (h : (Lit.int .i64 n).wf = true) : i64ok n := by
  unfold Lit.wf at h
  rw [Bool.and_eq_true] at h
  exact ⟨of_decide_eq_true h.1, of_decide_eq_true h.2⟩
end
section
open Go.RowKit
set_option maxHeartbeats 4000000
open Go.Maps
def passV (n : Int) : Value := if n = 1 then .func (.func 14) #[] #[] else if n = 2 then .func (.func 57) #[] #[] else if n = 3 then .func (.func 58) #[] #[] else if n = 4 then .func (.func 34) #[] #[] else .nilFunc
def fnElem (v : Value) : Option (DataW Unit × List MemPlace) :=
  match v with
  | .func (.func k) a b => if a.size = 0 ∧ b.size = 0 then some (.lit (.int .i64 k), []) else none
  | .nilFunc => some (.nil, [])
  | _ => none
theorem fnElem_lit {v : Value} {k : Nat} {ps : List MemPlace} (h : fnElem v = some (.lit (.int .i64 k), ps)) : v = .func (.func k) #[] #[] := by
  unfold fnElem at h
  split at h
  · rename_i k' a b
    split at h
    · rename_i hs
      simp only [Option.some.injEq, Prod.mk.injEq, DataW.lit.injEq, Lit.int.injEq, true_and] at h
      have hk : k' = k := Int.ofNat.inj h.1
      rw [hk, Array.eq_empty_of_size_eq_zero hs.1, Array.eq_empty_of_size_eq_zero hs.2]
    · cases h
  · injection h with h
    injection h with h _
    cases h
  · cases h
theorem fnElem_nil {v : Value} {ps : List MemPlace} (h : fnElem v = some (.nil, ps)) : v = .nilFunc := by
  unfold fnElem at h
  split at h
  · split at h
    · injection h with h
      injection h with h _
      cases h
    · cases h
  · rfl
  · cases h
theorem zeroFn (w : World) : (zeroValue 46).run Tryz.prog w = .ok .nilFunc w := by kernel_rfl
theorem intKey : Keyed Tryz.prog 3 := int_keyed Tryz.underlying3
set_option maxRecDepth 100000 in
theorem pass_any (n : Int) (hn : (Lit.int .i64 n).wf = true) (w : World) : Calls Tryz.prog 19 #[.int .i64 n] w fun e w' => e = .returned (passV n) ∧ Below w.heap.size w w' := by
  have hmm := @run_makeMap Tryz.prog
  have h0 := World.ownsMap_made (H := Unit) w Tryz.prog 3 fnElem
  obtain ⟨w1, r1, o1, g1⟩ := h0.update intKey Tryz.underlying99 (by unfold maxLen; omega) (key := .int .i64 1) (keyOf_int_mk Tryz.underlying3 (by decide)) (val := .func (.func 14) #[] #[]) rfl
  obtain ⟨w2, r2, o2, g2⟩ := o1.update intKey Tryz.underlying99 (by unfold maxLen; omega) (key := .int .i64 2) (keyOf_int_mk Tryz.underlying3 (by decide)) (val := .func (.func 57) #[] #[]) rfl
  obtain ⟨w3, r3, o3, g3⟩ := o2.update intKey Tryz.underlying99 (by unfold maxLen; omega) (key := .int .i64 3) (keyOf_int_mk Tryz.underlying3 (by decide)) (val := .func (.func 58) #[] #[]) rfl
  obtain ⟨w4, r4, o4, g4⟩ := o3.update intKey Tryz.underlying99 (by unfold maxLen; omega) (key := .int .i64 4) (keyOf_int_mk Tryz.underlying3 (by decide)) (val := .func (.func 34) #[] #[]) rfl
  obtain ⟨v, ps, r5, hv⟩ := o4.lookup intKey Tryz.underlying99 (zeroFn _) (zd := .nil) (zp := []) rfl (keyOf_int_mk Tryz.underlying3 hn)
  have hB : Below w.heap.size w w4 := by
    have b0 : Below w.heap.size w (w.alloc (.map #[] 0)) := (Below.refl _ _).alloc (Nat.le_refl _) _
    have b1 := b0.grown g1 (by simp) (fun q hq => by cases hq; exact Nat.le_refl _)
    have b2 := b1.grown g2 b1.size (fun q hq => by cases hq; exact Nat.le_refl _)
    have b3 := b2.grown g3 b2.size (fun q hq => by cases hq; exact Nat.le_refl _)
    exact b3.grown g4 b3.size (fun q hq => by cases hq; exact Nat.le_refl _)
  have hp : v = passV n := by
    unfold passV
    by_cases h4 : n = 4
    · subst h4
      rw [atKey_put_same (by exact ⟨_, rfl⟩) (by trivial)] at hv
      exact fnElem_lit hv
    rw [atKey_put_other (by intro e; injection e with _ e; exact h4 e)] at hv
    by_cases h3 : n = 3
    · subst h3
      rw [atKey_put_same (by exact ⟨_, rfl⟩) (by trivial)] at hv
      exact fnElem_lit hv
    rw [atKey_put_other (by intro e; injection e with _ e; exact h3 e)] at hv
    by_cases h2 : n = 2
    · subst h2
      rw [atKey_put_same (by exact ⟨_, rfl⟩) (by trivial)] at hv
      exact fnElem_lit hv
    rw [atKey_put_other (by intro e; injection e with _ e; exact h2 e)] at hv
    by_cases h1 : n = 1
    · subst h1
      rw [atKey_put_same (by exact ⟨_, rfl⟩) (by trivial)] at hv
      exact fnElem_lit hv
    rw [atKey_put_other (by intro e; injection e with _ e; exact h1 e)] at hv
    rw [if_neg h1, if_neg h2, if_neg h3, if_neg h4]
    exact fnElem_nil hv
  have HB := hide hB
  have Hp := hide hp
  clear hB hp hv o1 o2 o3 o4 h0 g1 g2 g3 g4
  go_enter Tryz.func19, Tryz.ntmps19
  go_wp2_with fail
  go_ret
  exact ⟨by rw [Hp.out]; rfl, HB.out⟩
end
section
theorem infoInt : (Tryz.prog.info? 3).map (fun i => (i.zero, i.size, i.bytes)) = some (some (.int .i64 0), 1, 8) := by kernel_rfl
end
section
open Go.RowKit
set_option maxHeartbeats 800000
theorem of_any (op : Int) (w : World) :
    Calls Tryz.prog 53 #[.int .i64 op] w fun e w' => e = .returned (.tuple #[.agg #[.bool (hasD op), .bool (hasA op), .bool (hasB op), .bool (isSet op), .bool (shT op), .bool (hasE op)], .bool (opOk op)]) ∧ Below w.heap.size w w' := by
  go_enter Tryz.func53, Tryz.ntmps53
  go_wp2
  all_goals go_tidy
  all_goals refine bodyPost_ret (v := .tuple #[.agg #[.bool (hasD op), .bool (hasA op), .bool (hasB op), .bool (isSet op), .bool (shT op), .bool (hasE op)], .bool (opOk op)]) ?_ rfl ⟨rfl, (by (with_reducible repeat first | apply Qa | assumption | apply Qb | apply Qc | apply Qd | apply Qe | refine Qf ?_ (by assumption) ?_); all_goals (try simp only [Sz]); first | done | omega | (try simp only [Sz] at *); omega)⟩
  all_goals simp only [beq_iff_eq, beq_eq_false_iff_ne, ne_eq, Bool.or_eq_true, not_or] at *
  all_goals first
    | (rename_i h; subst h; simp [results, Tryz.results53, go_sem]; exact ⟨⟨rfl, rfl, rfl, rfl, rfl, rfl⟩, rfl⟩)
    | (have h13 : opOk op = false := by
         simp [opOk, inB]
         omega
       have h14 : hasD op = false ∧ hasA op = false ∧ hasB op = false ∧ isSet op = false ∧ hasE op = false := by
         simp [hasD, hasA, hasB, isSet, hasE, inB]
         omega
       simp [results, Tryz.results53, go_sem, shT, h13, h14])
end
section
open Go.RowKit
set_option maxHeartbeats 2000000
def RowPost (B : Nat) (t : TypeId) (xs : List Value) (w : World) (e : Ending) (w' : World) : Prop := ∃ v, e = .returned v ∧ Row w' B t v xs ∧ Below w.heap.size w w'
end
section
open Go.RowKit
set_option maxHeartbeats 1000000
theorem check1_any (n : Nd) (w : World) :
 Calls Tryz.prog 52 #[.agg n.cells.toArray] w fun e w' => e = .returned (.bool (!opOk n.op)) ∧ Below w.heap.size w w' := by (
 unfold Nd.cells
 go_enter Tryz.func52, Tryz.ntmps52
 go_wp2_with (go_at_call 53; refine (of_any _ _).mono ?_; rintro e w1 ⟨rfl, hbw1⟩; obtain ⟨hcw1, hfw1⟩ := bcell hbw1; have hzw1 := hbw1.size; simp only [Sz] at hzw1 hcw1 hfw1; (try have hyw1 := Nat.lt_of_succ_le hzw1); (try have hxw1 := Nat.lt_of_succ_lt hyw1))
 go_ret
 exact ⟨rfl, (by (with_reducible repeat first | apply Qa | assumption | apply Qb | apply Qc | apply Qd | apply Qe | refine Qf ?_ (by assumption) ?_); all_goals (try simp only [Sz]); first | done | omega | (try simp only [Sz] at *); omega)⟩)
theorem check2_any (n regs : Int) (has : Bool) (g : Nat) (w : World) (h0 : w.cell? ⟨g, 0, none⟩ = some (.int .i64 regs)) :
 Calls Tryz.prog 54 #[.int .i64 n, .bool has, .pointer (some ⟨g, 0, none⟩)] w fun e w' => e = .returned (.bool (okR regs n has)) ∧ w = w' := by (
 cases has <;> go_enter Tryz.func54, Tryz.ntmps54 <;> go_wp2
 all_goals go_tidy
 all_goals go_ret
 all_goals exact ⟨by simp_all [okR]; try omega, rfl⟩)
theorem check3_any (n : Int) (A : Option Addr) (len cap : Nat) (has : Bool) (g : Nat) (w : World) (h0 : w.cell? ⟨g, 1, none⟩ = some (.slice A len cap)) :
 Calls Tryz.prog 55 #[.int .i64 n, .bool has, .pointer (some ⟨g, 0, none⟩)] w fun e w' => e = .returned (.bool (okN len n has)) ∧ w = w' := by (
 cases has <;> go_enter Tryz.func55, Tryz.ntmps55 <;> go_wp2
 all_goals go_tidy
 all_goals go_ret
 all_goals exact ⟨by simp_all [okN]; try omega, rfl⟩)
theorem check4_any (n : Int) (has : Bool) (w : World) :
 Calls Tryz.prog 56 #[.int .i64 n, .bool has] w fun e w' => e = .returned (.bool (okF n has)) ∧ w = w' := by (
 cases has <;> go_enter Tryz.func56, Tryz.ntmps56 <;> go_wp2
 all_goals go_tidy
 all_goals go_ret
 all_goals exact ⟨by simp_all [okF], rfl⟩)
def IdxPost (q : Bool) (w : World) (e : Ending) (w' : World) : Prop := ∃ r : Int, e = .returned (.int .i64 r) ∧ decide (0 ≤ r) = q ∧ Below w.heap.size w w'
theorem idxNodes_any (A : Option Addr) (l : List Nd) (cap : Nat) (w : World) (hl : l.length ≤ maxLen) (hA : NodesAt w A l) :
 Calls Tryz.prog 103 #[.slice A l.length cap, .func (.func 52) #[] #[]] w
  (IdxPost (l.any fun n => !opOk n.op) w) := by (
 unfold maxLen at hl
 go_enter Tryz.func103, Tryz.ntmps103
 go_wp2
 go_loopw [8] (fun i wr => ∃ k : Nat, k ≤ l.length ∧ i = .int .i64 k ∧ (l.take k).any (fun n => !opOk n.op) = false ∧ Below w.heap.size w wr) (fun i _ => l.length - (intOf i).toNat)
 case atStart => exact ⟨0, Nat.zero_le _, rfl, by simp, Below.refl _ _⟩
 case round => (
 obtain ⟨k, hk, rfl, hno, hbr⟩ := hrel
 have hzr := hbr.size
 have Hno := hide hno
 clear hno
 by_cases hlt : k < l.length
 · (
 obtain ⟨b, off, n, rfl, hbl, hkn, hn⟩ := hA.get hlt
 have Hkn := hide hkn
 clear hkn
 obtain ⟨c0, c1, c2, c3, c4, c5⟩ := hn.below hbr hbl
 have hp := check1_any n wr
 simp only [Nd.cells] at hp
 have Hp := hide hp
 clear hp
 have hbw : b < wr.heap.size := by omega
 cases ho : opOk n.op
 · (
 rw [ho] at Hp
 go_wp2_with (go_at_call 52; refine (Hp.out).mono ?_; rintro e w1 ⟨rfl, hb1⟩)
 go_ret
 exact ⟨k, rfl, by rw [any_of_take _ l k n Hkn.out (by simp [ho])]; simp, (by (with_reducible repeat first | apply Qa | assumption | apply Qb | apply Qc | apply Qd | apply Qe | refine Qf ?_ (by assumption) ?_); all_goals (try simp only [Sz]); first | done | omega | (try simp only [Sz] at *); omega)⟩)
 · (
 rw [ho] at Hp
 go_wp2_with (go_at_call 52; refine (Hp.out).mono ?_; rintro e w1 ⟨rfl, hb1⟩)
 go_roundw
 case rel => exact ⟨k + 1, by omega, by go_num, by rw [any_take_succ _ l k n Hkn.out, Hno.out]; simp [ho], (by (with_reducible repeat first | apply Qa | assumption | apply Qb | apply Qc | apply Qd | apply Qe | refine Qf ?_ (by assumption) ?_); all_goals (try simp only [Sz]); first | done | omega | (try simp only [Sz] at *); omega)⟩
 case measure => simp [intOf]; omega))
 · (
 go_wp2
 go_ret
 exact ⟨-1, rfl, by rw [← any_take_all _ l k hlt, Hno.out]; rfl, hbr⟩)))
theorem anyNodes_any (A : Option Addr) (l : List Nd) (cap : Nat) (w : World) (hl : l.length ≤ maxLen) (hA : NodesAt w A l) :
 Calls Tryz.prog 51 #[.slice A l.length cap, .func (.func 52) #[] #[]] w
  fun e w' => e = .returned (.bool (l.any fun n => !opOk n.op)) ∧ Below w.heap.size w w' := by (
 have h := idxNodes_any A l cap w hl hA
 have H := hide h
 clear h
 generalize (l.any fun n => !opOk n.op) = q at *
 go_enter Tryz.func51, Tryz.ntmps51
 go_wp2_with (go_at_call 103; refine (H.out).mono ?_; rintro e w1 ⟨r, rfl, hr, hb1⟩)
 go_ret
 exact ⟨by rw [← hr]; rfl, hb1⟩)
end
section
open Go.RowKit
set_option maxHeartbeats 1000000
set_option maxRecDepth 100000 in
theorem Check_any (regs : Int) (A : Option Addr) (l : List Nd) (cap : Nat) (w : World) (hl : l.length ≤ maxLen) (hA : NodesAt w A l) :
    Calls Tryz.prog 18 #[.agg #[.int .i64 regs, .slice A l.length cap]] w
      fun e w' => e = .returned (.int .i64 (chk regs l)) ∧ Below w.heap.size w w' := by
  unfold maxLen at hl
  by_cases h2 : (l.length : Int) < 1 ∨ 256 < (l.length : Int) ∨ regs < 1 ∨ 64 < regs
  · have hf : chk regs l = 2 := by rw [chk, if_pos h2]
    rw [hf]
    clear hf
    go_enter Tryz.func18, Tryz.ntmps18
    go_wp2_with fail
    all_goals go_tidy
    all_goals go_ret
    all_goals exact ⟨rfl, (by (with_reducible repeat first | apply Qa | assumption | apply Qb | apply Qc | apply Qd | apply Qe | refine Qf ?_ (by assumption) ?_); all_goals (try simp only [Sz]); first | done | omega | (try simp only [Sz] at *); omega)⟩
  · have k1 : 1 ≤ (l.length : Int) := by omega
    have k2 : (l.length : Int) ≤ 256 := by omega
    have k3 : 1 ≤ regs := by omega
    have k4 : regs ≤ 64 := by omega
    have hany := anyNodes_any A l cap
    cases h4 : (l.any fun n => !opOk n.op)
    case true =>
      have hf : chk regs l = 4 := by rw [chk, if_neg h2, if_pos h4]
      rw [hf]
      have H4 := hide h4
      clear hf h4 h2 hany
      go_enter Tryz.func18, Tryz.ntmps18
      go_wp2_with (go_at_call 51; refine (anyNodes_any _ _ _ _ hl (hA.below (by (with_reducible repeat first | apply Qa | assumption | apply Qb | apply Qc | apply Qd | apply Qe | refine Qf ?_ (by assumption) ?_); all_goals (try simp only [Sz]); first | done | omega | (try simp only [Sz] at *); omega))).mono ?_; rw [H4.out]; rintro e w1 ⟨rfl, hb1⟩)
      all_goals go_tidy
      all_goals go_ret
      all_goals exact ⟨rfl, (by (with_reducible repeat first | apply Qa | assumption | apply Qb | apply Qc | apply Qd | apply Qe | refine Qf ?_ (by assumption) ?_); all_goals (try simp only [Sz]); first | done | omega | (try simp only [Sz] at *); omega)⟩
    case false =>
      have H4 := hide h4
      have hf : chk regs l = if (l.any (badR regs l.length)) = true then 3 else if (l.any badF) = true then 1 else 0 := by rw [chk, if_neg h2, if_neg (by simp [h4])]
      have Hf := hide hf
      clear hf h4 h2 hany
      have d1 : decide ((l.length : Int) < 1) = false := by simp; omega
      have d2 : decide (256 < (l.length : Int)) = false := by simp; omega
      have d3 : decide (regs < 1) = false := by simp; omega
      have d4 : decide (64 < regs) = false := by simp; omega
      go_enter Tryz.func18, Tryz.ntmps18
      go_wp2_with (go_at_call 51; refine (anyNodes_any _ _ _ _ hl (hA.below (by (with_reducible repeat first | apply Qa | assumption | apply Qb | apply Qc | apply Qd | apply Qe | refine Qf ?_ (by assumption) ?_); all_goals (try simp only [Sz]); first | done | omega | (try simp only [Sz] at *); omega))).mono ?_; rw [H4.out]; rintro e w1 ⟨rfl, hb1⟩; obtain ⟨hc1, hf1⟩ := bcell hb1; have hz1 := hb1.size; simp only [World.size_alloc] at hz1 hc1 hf1)
      go_loopw [42] (fun i wr => ∃ k : Nat, k ≤ l.length ∧ i = .int .i64 k ∧ (l.take k).any (badR regs l.length) = false ∧ Below w1.heap.size w1 wr) (fun i _ => l.length - (intOf i).toNat)
      case atStart => exact ⟨0, Nat.zero_le _, rfl, by simp, Below.refl _ _⟩
      case round =>
        obtain ⟨k, hk, rfl, hno, hbr⟩ := hrel
        have hzr := hbr.size
        have Hno := hide hno
        clear hno
        obtain ⟨hcr, hfr⟩ := bcell hbr
        have hbA : Below w.heap.size w wr := (by (with_reducible repeat first | apply Qa | assumption | apply Qb | apply Qc | apply Qd | apply Qe | refine Qf ?_ (by assumption) ?_); all_goals (try simp only [Sz]); first | done | omega | (try simp only [Sz] at *); omega)
        have g0 : wr.cell? ⟨w.heap.size, 0, none⟩ = some (.int .i64 regs) := by rw [hcr _ _ (by omega), hc1 _ _ (by omega)]; simp
        have g1 : wr.cell? ⟨w.heap.size, 1, none⟩ = some (.slice A l.length cap) := by rw [hcr _ _ (by omega), hc1 _ _ (by omega)]; simp
        have gl : w.heap.size < wr.heap.size := by omega
        clear hc1 hf1 hcr hfr
        by_cases hlt : k < l.length
        · obtain ⟨b, off, n, rfl, hbl, hkn, hn⟩ := hA.get hlt
          have Hkn := hide hkn
          clear hkn
          obtain ⟨c0, c1, c2, c3, c4, c5⟩ := hn.below hbA hbl
          have hbw : b < wr.heap.size := by omega
          go_wp2_with (first
            | (go_at_call 53; refine (of_any _ _).mono ?_; rintro e w2 ⟨rfl, hbw2⟩; obtain ⟨hcw2, hfw2⟩ := bcell hbw2; have hzw2 := hbw2.size; simp only [Sz] at hzw2 hcw2 hfw2; (try have hyw2 := Nat.lt_of_succ_le hzw2); (try have hxw2 := Nat.lt_of_succ_lt hyw2); have gl2 : w.heap.size < w2.heap.size := (by omega))
            | (go_at_call 54; refine (check2_any _ regs _ _ _ (by go_simp)).mono ?_; rintro e w' ⟨rfl, rfl⟩)
            | (go_at_call 55; refine (check3_any _ (some ⟨b, off, none⟩) l.length cap _ _ _ (by go_simp)).mono ?_; rintro e w' ⟨rfl, rfl⟩))
          all_goals go_tidy
          all_goals try simp only [Bool.not_eq_true] at *
          all_goals first
            | (go_ret
               exact ⟨by rw [Hf.out, if_pos (any_of_take _ l k n Hkn.out (by simp [badR, *]))]; rfl, (by (with_reducible repeat first | apply Qa | assumption | apply Qb | apply Qc | apply Qd | apply Qe | refine Qf ?_ (by assumption) ?_); all_goals (try simp only [Sz]); first | done | omega | (try simp only [Sz] at *); omega)⟩)
            | (go_roundw
               case rel => exact ⟨k + 1, by omega, by go_num, by rw [any_take_succ _ l k n Hkn.out, Hno.out]; simp [badR, *], (by (with_reducible repeat first | apply Qa | assumption | apply Qb | apply Qc | apply Qd | apply Qe | refine Qf ?_ (by assumption) ?_); all_goals (try simp only [Sz]); first | done | omega | (try simp only [Sz] at *); omega)⟩
               case measure => simp [intOf]; omega)
        · have hR : l.any (badR regs l.length) = false := by rw [← any_take_all _ l k hlt, Hno.out]
          have Hf2 := hide (Hf.out.trans (if_neg (by simp [hR])))
          clear hR Hno Hf hbr hzr hb1 hz1
          go_wp2_with fail
          go_loopw [99] (fun i w2 => ∃ k : Nat, k ≤ l.length ∧ i = .int .i64 k ∧ (l.take k).any badF = false ∧ Below w.heap.size w w2) (fun i _ => l.length - (intOf i).toNat)
          case atStart => exact ⟨0, Nat.zero_le _, rfl, by simp, hbA⟩
          case round =>
            clear g0 g1 hbA hlt hk gl
            obtain ⟨k, hk, rfl, hno, hbr⟩ := hrel
            have hzr := hbr.size
            have Hno := hide hno
            clear hno
            by_cases hlt : k < l.length
            · obtain ⟨b, off, n, rfl, hbl, hkn, hn⟩ := hA.get hlt
              have Hkn := hide hkn
              clear hkn
              obtain ⟨c0, c1, c2, c3, c4, c5⟩ := hn.below hbr hbl
              have hbw := Nat.lt_of_lt_of_le hbl hzr
              go_wp2_with (first
                | (go_at_call 53; refine (of_any _ _).mono ?_; rintro e w2 ⟨rfl, hbw2⟩; obtain ⟨hcw2, hfw2⟩ := bcell hbw2; have hzw2 := hbw2.size; simp only [Sz] at hzw2 hcw2 hfw2; (try have hyw2 := Nat.lt_of_succ_le hzw2); (try have hxw2 := Nat.lt_of_succ_lt hyw2))
                | (go_at_call 56; refine (check4_any _ _ _).mono ?_; rintro e w' ⟨rfl, rfl⟩))
              all_goals go_tidy
              all_goals try simp only [Bool.not_eq_true] at *
              all_goals first
                | (go_ret
                   exact ⟨by rw [Hf2.out, if_pos (any_of_take _ l k n Hkn.out (by simp [badF, *]))]; rfl, (by (with_reducible repeat first | apply Qa | assumption | apply Qb | apply Qc | apply Qd | apply Qe | refine Qf ?_ (by assumption) ?_); all_goals (try simp only [Sz]); first | done | omega | (try simp only [Sz] at *); omega)⟩)
                | (go_roundw
                   case rel => exact ⟨k + 1, by omega, by go_num, by rw [any_take_succ _ l k n Hkn.out, Hno.out]; simp [badF, *], (by (with_reducible repeat first | apply Qa | assumption | apply Qb | apply Qc | apply Qd | apply Qe | refine Qf ?_ (by assumption) ?_); all_goals (try simp only [Sz]); first | done | omega | (try simp only [Sz] at *); omega)⟩
                   case measure => simp [intOf]; omega)
            · have hR : l.any badF = false := by rw [← any_take_all _ l k hlt, Hno.out]
              have Hf3 := hide (Hf2.out.trans (if_neg (by simp [hR])))
              clear hR Hno Hf2
              go_wp2_with fail
              go_ret
              exact ⟨by rw [Hf3.out]; rfl, hbr⟩
end
section
open Go.RowKit
set_option maxHeartbeats 2000000
def askOne (plus lt x : List Bool) (m : Nat) : Bool := yn plus m || yn lt m && yn x m
theorem says1_any (bk em : Bool) (G P Q T X : Option Addr) (g p q t xn gc pc qc tc xc : Nat) (plus lt x : List Bool) (f h : Nat) (m : Nat) (w : World)
 (hQ : ValsAt w Q (bools plus)) (hT : ValsAt w T (bools lt)) (hX : ValsAt w X (bools x)) (hq : plus.length = q) (ht : lt.length = t) (hx : x.length = xn)
 (hF : Blk w f 136 #[.bool bk, .bool em, .slice G g gc, .slice P p pc, .slice Q q qc, .slice T t tc]) (hH : Blk w h 70 #[.slice X xn xc])
 (m1 : m < q) (m2 : m < t) (m3 : m < xn) (hbig : q ≤ 65536 ∧ t ≤ 65536 ∧ xn ≤ 65536) :
 Calls Tryz.prog 157 #[.int .i64 m, .pointer (some ⟨f, 0, none⟩), .pointer (some ⟨h, 0, none⟩)] w fun e w' => e = .returned (.bool (askOne plus lt x m)) ∧ w = w' := by (
 obtain ⟨b1, b2, b3⟩ := hbig
 obtain ⟨qb, qo, rfl, _, cq⟩ := hQ.bool (k := m) (by omega)
 obtain ⟨tb, to_, rfl, _, ct⟩ := hT.bool (k := m) (by omega)
 obtain ⟨xb, xo, rfl, _, cx⟩ := hX.bool (k := m) (by omega)
 have f4 := hF.cell 4
 have f5 := hF.cell 5
 have h0 := hH.cell 0
 simp only [Yl] at f4 f5 h0
 clear hF hH hQ hT hX hq ht hx
 unfold askOne
 cases h1 : yn plus m <;> cases h2 : yn lt m <;> cases h3 : yn x m <;> rw [h1] at cq <;> rw [h2] at ct <;> rw [h3] at cx <;> go_enter Tryz.func157, Tryz.ntmps157 <;> go_wp2
 all_goals go_tidy
 all_goals go_ret
 all_goals exact ⟨rfl, rfl⟩)
theorem all_take_succ {α : Type} (p : α → Bool) (l : List α) (k : Nat) (x : α) (h : l[k]? = some x) : (l.take (k + 1)).all p = ((l.take k).all p && p x) := by (
 rw [List.take_add_one, h]; simp)
theorem all_of_take {α : Type} (p : α → Bool) (l : List α) (k : Nat) (x : α) (h : l[k]? = some x) (hp : p x = false) : l.all p = false :=
 List.all_eq_false.2 ⟨x, List.mem_of_getElem? h, by simp [hp]⟩
theorem all_take_all {α : Type} (p : α → Bool) (l : List α) (k : Nat) (h : ¬ k < l.length) : (l.take k).all p = l.all p := by (
 rw [List.take_of_length_le (by omega)])
theorem all_any (bk em : Bool) (G P Q T X R : Option Addr) (g p q t xn gc pc qc tc xc rc : Nat) (plus lt x : List Bool) (f h : Nat) (rs : List Int) (w : World)
 (hQ : ValsAt w Q (bools plus)) (hT : ValsAt w T (bools lt)) (hX : ValsAt w X (bools x)) (hq : plus.length = q) (ht : lt.length = t) (hx : x.length = xn)
 (hF : Blk w f 136 #[.bool bk, .bool em, .slice G g gc, .slice P p pc, .slice Q q qc, .slice T t tc]) (hH : Blk w h 70 #[.slice X xn xc])
 (hR : ValsAt w R (ints rs)) (hrs : ∀ r ∈ rs, 0 ≤ r ∧ r < q ∧ r < t ∧ r < xn) (hbig : q ≤ 65536 ∧ t ≤ 65536 ∧ xn ≤ 65536) (hrl : rs.length ≤ 65536) :
 Calls Tryz.prog 156 #[.slice R rs.length rc, .func (.func 157) #[] #[.pointer (some ⟨f, 0, none⟩), .pointer (some ⟨h, 0, none⟩)]] w
  fun e w' => e = .returned (.bool (rs.all fun r => askOne plus lt x r.toNat)) ∧ w = w' := by (
 have hone := fun (m : Nat) (m1 : m < q) (m2 : m < t) (m3 : m < xn) => says1_any bk em G P Q T X g p q t xn gc pc qc tc xc plus lt x f h m w hQ hT hX hq ht hx hF hH m1 m2 m3 hbig
 have Hone := hide hone
 clear hone hQ hT hX hq ht hx hF hH hbig
 go_enter Tryz.func156, Tryz.ntmps156
 go_wp2
 go_loop [9] (fun i => ∃ k : Nat, k ≤ rs.length ∧ i = .int .i64 k ∧ (rs.take k).all (fun r => askOne plus lt x r.toNat) = true) (fun i => rs.length - (intOf i).toNat)
 case atStart => exact ⟨0, Nat.zero_le _, rfl, by simp⟩
 case round => (
 obtain ⟨k, hk, rfl, hno⟩ := hrel
 have Hno := hide hno
 clear hno
 by_cases hlt : k < rs.length
 · (
 obtain ⟨b, off, v, rfl, hbl, hkn, hn⟩ := hR.get (k := k) (by rw [ints_length]; exact hlt)
 rw [ints_get] at hkn
 obtain ⟨r, hr, rfl⟩ : ∃ r, rs[k]? = some r ∧ .int .i64 r = v := by simpa using hkn
 have hrr := hrs r (List.mem_of_getElem? hr)
 obtain ⟨m, rfl⟩ := Int.eq_ofNat_of_zero_le hrr.1
 have Hr := hide hr
 clear hkn hr
 have hp := Hone.out m (by omega) (by omega) (by omega)
 have Hp := hide hp
 clear hp
 cases ho : askOne plus lt x m
 · (
 rw [ho] at Hp
 go_wp2_with (go_at_call 157; refine (Hp.out).mono ?_; rintro e w1 ⟨rfl, rfl⟩)
 go_ret
 exact ⟨by rw [all_of_take _ rs k m Hr.out (by simpa using ho)]; rfl, rfl⟩)
 · (
 rw [ho] at Hp
 go_wp2_with (go_at_call 157; refine (Hp.out).mono ?_; rintro e w1 ⟨rfl, rfl⟩)
 go_round
 case rel => exact ⟨k + 1, by omega, by go_num, by rw [all_take_succ _ rs k m Hr.out, Hno.out]; simpa using ho⟩
 case measure => simp [intOf]; omega))
 · (
 go_wp2
 go_ret
 exact ⟨by rw [← all_take_all _ rs k hlt, Hno.out]; rfl, rfl⟩)))
def saysB (em : Bool) (gen pass plus lt x : List Bool) (rs : List Int) (n : Nat) : Bool :=
 if yn gen n then true else if yn pass n then (if rs.length = 0 then em else rs.all fun r => askOne plus lt x r.toNat) else false
theorem says_any (bk em : Bool) (G P Q T X R GB : Option Addr) (g p q t xn gc pc qc tc xc rc gb gbc : Nat) (gen pass plus lt x : List Bool) (rs : List Int) (GA nn n : Nat) (w : World)
 (hG : ValsAt w G (bools gen)) (hP : ValsAt w P (bools pass)) (hQ : ValsAt w Q (bools plus)) (hT : ValsAt w T (bools lt)) (hX : ValsAt w X (bools x))
 (hg : gen.length = g) (hp : pass.length = p) (hq : plus.length = q) (ht : lt.length = t) (hx : x.length = xn)
 (hA : w.cell? ⟨GA, n, none⟩ = some (.slice R rs.length rc)) (hAl : GA < w.heap.size) (hn1 : n < nn) (hn2 : n < g) (hn3 : n < p)
 (hR : ValsAt w R (ints rs)) (hrs : ∀ r ∈ rs, 0 ≤ r ∧ r < q ∧ r < t ∧ r < xn) (hbig : q ≤ 65536 ∧ t ≤ 65536 ∧ xn ≤ 65536) (hbig2 : g ≤ 65536 ∧ p ≤ 65536 ∧ nn ≤ 65536) (hrl : rs.length ≤ 65536) :
 Calls Tryz.prog 129 #[.agg #[.slice (some ⟨GA, 0, none⟩) nn nn, .slice GB gb gbc], .agg #[.bool bk, .bool em, .slice G g gc, .slice P p pc, .slice Q q qc, .slice T t tc], .slice X xn xc, .int .i64 n] w
  fun e w' => e = .returned (.bool (saysB em gen pass plus lt x rs n)) ∧ Below w.heap.size w w' := by (
 obtain ⟨b1, b2, b3⟩ := hbig
 obtain ⟨b4, b5, b6⟩ := hbig2
 obtain ⟨gb_, go_, rfl, hgl, cg⟩ := hG.bool (k := n) (by omega)
 obtain ⟨pb_, po_, rfl, hpl, cp⟩ := hP.bool (k := n) (by omega)
 have Hg := hide hg
 have Hp := hide hp
 have Hq := hide hq
 have Ht := hide ht
 have Hx := hide hx
 clear hg hp hq ht hx
 have g1 := Nat.lt_succ_of_lt hgl
 have g2 := Nat.lt_succ_of_lt g1
 have p1 := Nat.lt_succ_of_lt hpl
 have p2 := Nat.lt_succ_of_lt p1
 have a1 := Nat.lt_succ_of_lt hAl
 have a2 := Nat.lt_succ_of_lt a1
 simp only [Nat.succ_eq_add_one] at g1 g2 p1 p2 a1 a2
 unfold saysB
 cases h1 : yn gen n
 case true => (
 rw [h1] at cg
 go_enter Tryz.func129, Tryz.ntmps129
 go_wp2
 go_ret
 exact ⟨rfl, (by (with_reducible repeat first | apply Qa | assumption | apply Qb | apply Qc | apply Qd | apply Qe | refine Qf ?_ (by assumption) ?_); all_goals (try simp only [Sz]); first | done | omega | (try simp only [Sz] at *); omega)⟩)
 case false => (
 rw [h1] at cg
 cases h2 : yn pass n
 case false => (
 rw [h2] at cp
 go_enter Tryz.func129, Tryz.ntmps129
 go_wp2
 go_ret
 exact ⟨rfl, (by (with_reducible repeat first | apply Qa | assumption | apply Qb | apply Qc | apply Qd | apply Qe | refine Qf ?_ (by assumption) ?_); all_goals (try simp only [Sz]); first | done | omega | (try simp only [Sz] at *); omega)⟩)
 case true => (
 rw [h2] at cp
 by_cases h3 : rs.length = 0
 · (
 have h3' : rs = [] := List.eq_nil_of_length_eq_zero h3
 subst h3'
 clear h3
 simp only [List.length_nil] at hA
 go_enter Tryz.func129, Tryz.ntmps129
 go_wp2
 go_ret
 exact ⟨rfl, (by (with_reducible repeat first | apply Qa | assumption | apply Qb | apply Qc | apply Qd | apply Qe | refine Qf ?_ (by assumption) ?_); all_goals (try simp only [Sz]); first | done | omega | (try simp only [Sz] at *); omega)⟩)
 · (
 have h3' : ((rs.length : Int) == 0) = false := beq_eq_false_iff_ne.2 (by omega)
 rw [if_neg h3]
 clear h3
 go_enter Tryz.func129, Tryz.ntmps129
 go_wp2_with (go_at_call 156; refine (all_any bk em _ _ Q T X R g p q t xn gc pc qc tc xc rc plus lt x (w.heap.size + 1) (w.heap.size + 2) rs _ (hQ.below (by (with_reducible repeat first | apply Qa | assumption | apply Qb | apply Qc | apply Qd | apply Qe | refine Qf ?_ (by assumption) ?_); all_goals (try simp only [Sz]); first | done | omega | (try simp only [Sz] at *); omega)) (hT.below (by (with_reducible repeat first | apply Qa | assumption | apply Qb | apply Qc | apply Qd | apply Qe | refine Qf ?_ (by assumption) ?_); all_goals (try simp only [Sz]); first | done | omega | (try simp only [Sz] at *); omega)) (hX.below (by (with_reducible repeat first | apply Qa | assumption | apply Qb | apply Qc | apply Qd | apply Qe | refine Qf ?_ (by assumption) ?_); all_goals (try simp only [Sz]); first | done | omega | (try simp only [Sz] at *); omega)) Hq.out Ht.out Hx.out (by repeat (first | ((with_reducible refine Blk.new' ?_); exact (by (try simp only [Sz]); first | done | omega | (try simp only [Sz] at *); omega)) | (with_reducible refine Blk.drew ?_) | (with_reducible refine Blk.drewN ?_ _) | (with_reducible refine Blk.alloc ?_ _) | with_reducible assumption)) (by repeat (first | ((with_reducible refine Blk.new' ?_); exact (by (try simp only [Sz]); first | done | omega | (try simp only [Sz] at *); omega)) | (with_reducible refine Blk.drew ?_) | (with_reducible refine Blk.drewN ?_ _) | (with_reducible refine Blk.alloc ?_ _) | with_reducible assumption)) (hR.below (by (with_reducible repeat first | apply Qa | assumption | apply Qb | apply Qc | apply Qd | apply Qe | refine Qf ?_ (by assumption) ?_); all_goals (try simp only [Sz]); first | done | omega | (try simp only [Sz] at *); omega)) hrs ⟨b1, b2, b3⟩ hrl).mono ?_; rintro e w' ⟨rfl, rfl⟩)
 go_ret
 exact ⟨rfl, (by (with_reducible repeat first | apply Qa | assumption | apply Qb | apply Qc | apply Qd | apply Qe | refine Qf ?_ (by assumption) ?_); all_goals (try simp only [Sz]); first | done | omega | (try simp only [Sz] at *); omega)⟩))))
end
section
open Go.RowKit
set_option maxHeartbeats 2000000
def edgesOf (bk : Bool) (l : List Nd) (n : Nat) : List Int := sel (if bk then nextP l n else aheadP l n) l.length
def allB (em : Bool) (plus lt x : List Bool) (rs : List Int) (k : Nat) : Bool := (decide (0 < rs.length) || em) && (rs.take k).all fun r => askOne plus lt x r.toNat
end
section
open Go.RowKit
theorem askOne_mono {plus lt x y : List Bool} (h : leB x y) {m : Nat} (ha : askOne plus lt x m = true) : askOne plus lt y m = true := by (
 simp only [askOne, Bool.or_eq_true, Bool.and_eq_true] at *
 rcases ha with ha | ⟨h1, h2⟩
 · exact .inl ha
 · exact .inr ⟨h1, h m h2⟩)
theorem saysB_mono {em : Bool} {gen pass plus lt x y : List Bool} {rs : List Int} {n : Nat} (h : leB x y) (hs : saysB em gen pass plus lt x rs n = true) : saysB em gen pass plus lt y rs n = true := by (
 unfold saysB at *
 split at hs
 · rename_i h1; rw [if_pos h1]
 · (
 rename_i h1
 rw [if_neg h1]
 split at hs
 · (
 rename_i h2
 rw [if_pos h2]
 split at hs
 · rename_i h3; rw [if_pos h3]; exact hs
 · (
 rename_i h3
 rw [if_neg h3]
 rw [List.all_eq_true] at *
 exact fun r hr => askOne_mono h (hs r hr)))
 · cases hs))
theorem saysB_congr {em : Bool} {gen pass plus lt x : List Bool} {rs rs' : List Int} {n : Nat} (h : ∀ m, m ∈ rs ↔ m ∈ rs') : saysB em gen pass plus lt x rs n = saysB em gen pass plus lt x rs' n := by (
 unfold saysB
 have h0 : (rs.length = 0) = (rs'.length = 0) := by (
 simp only [List.length_eq_zero_iff, List.eq_nil_iff_forall_not_mem, h])
 have h1 : (rs.all fun r => askOne plus lt x r.toNat) = (rs'.all fun r => askOne plus lt x r.toNat) := by (
 rw [Bool.eq_iff_iff, List.all_eq_true, List.all_eq_true]
 simp only [h])
 simp only [h0, h1])
theorem saysB_local {em : Bool} {gen pass plus lt x y : List Bool} {rs : List Int} {n : Nat} (h : ∀ m ∈ rs, yn x m.toNat = yn y m.toNat) : saysB em gen pass plus lt x rs n = saysB em gen pass plus lt y rs n := by (
 unfold saysB
 have h1 : (rs.all fun r => askOne plus lt x r.toNat) = (rs.all fun r => askOne plus lt y r.toNat) := by (
 rw [Bool.eq_iff_iff, List.all_eq_true, List.all_eq_true]
 refine forall_congr' fun m => forall_congr' fun hm => ?_
 unfold askOne
 rw [h m hm])
 rw [h1])
def flowS (bk em : Bool) (gen pass plus lt : List Bool) (l : List Nd) (x : List Bool) (n : Nat) : Bool := saysB em gen pass plus lt x (edgesOf bk l n) n
theorem flowS_mono (bk em : Bool) (gen pass plus lt : List Bool) (l : List Nd) : Mono (flowS bk em gen pass plus lt l) := fun _ _ _ h hs => saysB_mono h hs
end
section
open Go.RowKit
section
variable (S : List Bool → Nat → Bool) (n : Nat)
def Closed (x : List Bool) : Prop := x.length = n ∧ ∀ i, i < n → S x i = true → yn x i = true
def Under (x : List Bool) : Prop := x.length = n ∧ ∀ z, Closed S n z → leB x z
def Least (x : List Bool) : Prop := Ans S n x ∧ Under S n x
variable {S n}
theorem Under.start {x : List Bool} (hl : x.length = n) (h : ∀ i, yn x i = false) : Under S n x := ⟨hl, fun z hz i hi => by rw [h i] at hi; cases hi⟩
theorem Under.put (hm : Mono S) {x : List Bool} (h : Under S n x) {k : Nat} (hk : k < n) : Under S n (x.set k (S x k)) := by (
 refine ⟨by simpa using h.1, fun z hz i hi => ?_⟩
 rw [yn_set _ _ _ _ (by rw [h.1]; exact hk)] at hi
 by_cases hik : i = k
 · (
 subst hik
 rw [if_pos rfl] at hi
 exact hz.2 i hk (hm x z i (h.2 z hz) hi))
 · (
 rw [if_neg hik] at hi
 exact h.2 z hz i hi))
theorem leB_put {x : List Bool} {k : Nat} (hk : k < x.length) (hp : yn x k = true → S x k = true) : leB x (x.set k (S x k)) := fun i hi => by (
 rw [yn_set _ _ _ _ hk]
 split
 · rename_i h; subst h; exact hp hi
 · exact hi)
theorem Post.put (hm : Mono S) {x : List Bool} (h : Post S n x) {k : Nat} (hk : k < n) : Post S n (x.set k (S x k)) := by (
 have hkx : k < x.length := by rw [h.1]; exact hk
 have hle := leB_put (S := S) hkx (h.2 k hk)
 refine ⟨by simpa using h.1, fun i hi hs => ?_⟩
 rw [yn_set _ _ _ _ hkx] at hs
 by_cases hik : i = k
 · (
 subst hik
 rw [if_pos rfl] at hs
 exact hm _ _ _ hle hs)
 · (
 rw [if_neg hik] at hs
 exact hm _ _ _ hle (h.2 i hi hs)))
theorem cnt_put {x : List Bool} {k : Nat} (hk : k < x.length) (h0 : yn x k = false) : cnt (x.set k true) = cnt x + 1 := by (
 unfold cnt
 rw [List.count_set hk]
 have h1 : x[k] = false := by simpa [yn, hk] using h0
 simp [h1])
theorem Least.unique {x y : List Bool} (hx : Least S n x) (hy : Least S n y) : x = y := by (
 refine ext_yn (hx.1.1.trans hy.1.1.symm) fun i hi => ?_
 rw [Bool.eq_iff_iff]
 exact ⟨hx.2.2 y ⟨hy.1.1, fun j hj h => by rw [hy.1.2 j hj]; exact h⟩ i, hy.2.2 x ⟨hx.1.1, fun j hj h => by rw [hx.1.2 j hj]; exact h⟩ i⟩)
def Turning (S : List Bool → Nat → Bool) (n c k : Nat) (x : List Bool) : Prop := Post S n x ∧ Under S n x ∧ (c < cnt x ∨ (c ≤ cnt x ∧ ∀ i, k ≤ i → i < n → yn x i = S x i) ∨ Ans S n x)
theorem set_yn {x : List Bool} {k : Nat} {b : Bool} (hk : k < x.length) (h : yn x k = b) : x.set k b = x := ext_yn (by simp) fun i _ => by (
 rw [yn_set _ _ _ _ hk]
 split
 · rename_i h'; subst h'; exact h.symm
 · rfl)
theorem Turning.step (hm : Mono S) {c k : Nat} {x : List Bool} (h : Turning S n c (k + 1) x) (hk : k < n) : Turning S n c k (x.set k (S x k)) := by (
 obtain ⟨hp, hu, hr⟩ := h
 have hkx : k < x.length := by rw [hp.1]; exact hk
 refine ⟨hp.put hm hk, hu.put hm hk, ?_⟩
 by_cases he : yn x k = S x k
 · (
 rw [set_yn hkx he]
 refine hr.imp id fun h => h.imp (fun ⟨hc, h⟩ => ⟨hc, fun i hi hin => ?_⟩) id
 rcases Nat.lt_or_ge k i with hlt | hge
 · exact h i hlt hin
 · (
 obtain rfl : i = k := by omega
 exact he))
 · (
 cases hx : yn x k with
 | true => exact absurd (hx.trans (hp.2 k hk hx).symm) he
 | false =>
  cases hs : S x k with
  | false => exact absurd (hx.trans hs.symm) he
  | true =>
   rw [cnt_put hkx hx]
   rcases hr with hc | ⟨hc, _⟩ | ha
   · exact .inl (by omega)
   · exact .inl (by omega)
   · exact absurd (ha.2 k hk) he))
def Turned (S : List Bool → Nat → Bool) (n c : Nat) (x : List Bool) : Prop := Post S n x ∧ Under S n x ∧ (c ≤ cnt x ∨ Ans S n x)
theorem Turned.start {x : List Bool} (hl : x.length = n) (h : ∀ i, yn x i = false) : Turned S n 0 x := ⟨⟨hl, fun i _ hi => by rw [h i] at hi; cases hi⟩, Under.start hl h, .inl (Nat.zero_le _)⟩
theorem Turned.begin_ {c : Nat} {x : List Bool} (h : Turned S n c x) : Turning S n c n x := ⟨h.1, h.2.1, h.2.2.elim (fun h => .inr (.inl ⟨h, fun i hi hin => absurd hin (by omega)⟩)) fun h => .inr (.inr h)⟩
theorem Turning.end_ {c : Nat} {x : List Bool} (h : Turning S n c 0 x) : Turned S n (c + 1) x :=
 ⟨h.1, h.2.1, h.2.2.elim (fun h => .inl (by omega)) fun h => .inr (h.elim (fun h => ⟨‹Turning S n c 0 x›.1.1, fun i hi => h.2 i (Nat.zero_le _) hi⟩) id)⟩
theorem Turned.least {x : List Bool} (h : Turned S n (n + 1) x) : Least S n x := by (
 refine ⟨h.2.2.resolve_left fun hc => ?_, h.2.1⟩
 have := cnt_le x
 rw [h.1.1] at this
 omega)
end
def sweep (S : List Bool → Nat → Bool) : Nat → List Bool → List Bool
 | 0, x => x
 | k + 1, x => sweep S k (x.set k (S x k))
def sweeps (S : List Bool → Nat → Bool) (n : Nat) : Nat → List Bool
 | 0 => List.replicate n false
 | c + 1 => sweep S n (sweeps S n c)
theorem Turning.sweep {S : List Bool → Nat → Bool} (hm : Mono S) {n c : Nat} : ∀ (k : Nat) (x : List Bool), k ≤ n → Turning S n c k x → Turning S n c 0 (sweep S k x)
 | 0, x, _, h => h
 | k + 1, x, hk, h => Turning.sweep hm k _ (by omega) (h.step hm (by omega))
theorem sweeps_turned {S : List Bool → Nat → Bool} (hm : Mono S) (n : Nat) : ∀ c, Turned S n c (sweeps S n c)
 | 0 => Turned.start (by simp [sweeps]) (fun i => by simp [sweeps, yn, List.getD_eq_getElem?_getD, List.getElem?_replicate]; split <;> simp)
 | c + 1 => (Turning.sweep hm n _ (Nat.le_refl _) (sweeps_turned hm n c).begin_).end_
def leastL (S : List Bool → Nat → Bool) (n : Nat) : List Bool := sweeps S n (n + 1)
theorem leastL_least {S : List Bool → Nat → Bool} (hm : Mono S) (n : Nat) : Least S n (leastL S n) := (sweeps_turned hm n (n + 1)).least
theorem closed_under {S : List Bool → Nat → Bool} (hm : Mono S) {n : Nat} {x : List Bool} (hc : Closed S n x) (hu : Under S n x) : x = leastL S n := by (
 have hl := leastL_least hm n
 refine ext_yn (hc.1.trans hl.1.1.symm) fun i hi => ?_
 rw [Bool.eq_iff_iff]
 exact ⟨hu.2 _ ⟨hl.1.1, fun j hj h => by rw [hl.1.2 j hj]; exact h⟩ i, hl.2.2 x hc i⟩)
end
section
open Go.RowKit
def mk (n : Nat) (f : Nat → Bool) : List Bool := (List.range n).map f
theorem mk_len (n : Nat) (f : Nat → Bool) : (mk n f).length = n := by simp [mk]
theorem yn_mk {n : Nat} {f : Nat → Bool} {k : Nat} (hk : k < n) : yn (mk n f) k = f k := by simp [yn, mk, hk]
section
variable {S S' : List Bool → Nat → Bool} {n : Nat}
def selfT (S : List Bool → Nat → Bool) (n : Nat) (x : List Bool) (k : Nat) : Bool := S (mk n fun j => yn x j || j == k) k
def Sweep (S : List Bool → Nat → Bool) (n c k : Nat) (x : List Bool) : Prop :=
 Above S n x ∧ (∀ i, i < n → S x i = true → yn x i = true) ∧ ((∀ i, i < n → yn x i = true → S x i = true) ∨ cnt x + c + 1 ≤ n ∨ (cnt x + c ≤ n ∧ ∀ i, i < k → yn x i = true → S x i = true))
theorem Sweep.start {x : List Bool} (hl : x.length = n) (h : ∀ i, i < n → yn x i = true) : Sweep S n 0 0 x :=
 ⟨Above.start hl h, fun i hi _ => h i hi, .inr (.inr ⟨by have := cnt_le x; omega, fun i hi => by omega⟩)⟩
theorem Sweep.step (hm : Mono S) {c k : Nat} {x : List Bool} (h : Sweep S n c k x) (hk : k < n) {b : Bool} (hb : b = S x k) : Sweep S n c (k + 1) (x.set k b) := by (
 subst hb
 obtain ⟨ha, hd, hs⟩ := h
 have hkx : k < x.length := by rw [ha.1]; exact hk
 by_cases he : yn x k = S x k
 · (
 rw [set_yn hkx he]
 refine ⟨ha, hd, hs.imp id (Or.imp id fun ⟨h1, h2⟩ => ⟨h1, fun i hi hy => ?_⟩)⟩
 by_cases hik : i = k
 · subst hik; rw [← he]; exact hy
 · exact h2 i (by omega) hy)
 · (
 have hsf : S x k = false := by (
 cases hq : S x k with
 | false => rfl
 | true => exact absurd ((hd k hk hq).trans hq.symm) he)
 have hyt : yn x k = true := by (
 cases hq : yn x k with
 | true => rfl
 | false => exact absurd (hq.trans hsf.symm) he)
 rw [hsf]
 have hle : leB (x.set k false) x := fun j hj => by (
 rw [yn_set _ _ _ _ hkx] at hj
 split at hj
 · cases hj
 · exact hj)
 refine ⟨ha.drop hm hk hsf, fun i hi hsi => ?_, ?_⟩
 · (
 have h1 := hm _ _ _ hle hsi
 rw [yn_set _ _ _ _ hkx, if_neg (by rintro rfl; rw [hsf] at h1; cases h1)]
 exact hd i hi h1)
 · (
 have hc := cnt_set hkx hyt
 rcases hs with h1 | h1 | ⟨h1, _⟩
 · (
 have := h1 k hk hyt
 rw [hsf] at this
 cases this)
 · exact .inr (.inl (by omega))
 · exact .inr (.inl (by omega)))))
theorem Sweep.turn {c : Nat} {x : List Bool} (h : Sweep S n c n x) : Sweep S n (c + 1) 0 x := by (
 obtain ⟨ha, hd, hs⟩ := h
 refine ⟨ha, hd, ?_⟩
 rcases hs with h1 | h1 | ⟨_, h1⟩
 · exact .inl h1
 · exact .inr (.inr ⟨by omega, fun i hi => by omega⟩)
 · exact .inl h1)
theorem Sweep.great (hm : Mono S) {c : Nat} {x : List Bool} (h : Sweep S n c 0 x) (hc : n < c) : Great S n x := by (
 obtain ⟨ha, hd, hs⟩ := h
 refine ha.great hm ?_
 rcases hs with h1 | h1 | ⟨h1, _⟩
 · exact h1
 · omega
 · omega)
end
def recL (t : Tm) (l : List Nd) : List Bool := mk l.length fun k => recB t (nd l k)
def keepL (t : Tm) (l : List Nd) : List Bool := mk l.length fun k => keepB t (nd l k)
def noL (n : Nat) : List Bool := List.replicate n false
def notL (x : List Bool) : List Bool := mk x.length fun k => !yn x k
theorem notL_len (x : List Bool) : (notL x).length = x.length := mk_len _ _
theorem yn_no (n k : Nat) : yn (noL n) k = false := by (
 unfold noL yn
 rw [List.getD_eq_getElem?_getD, List.getElem?_replicate]
 split <;> rfl)
theorem yn_not {x : List Bool} {k : Nat} (hk : k < x.length) : yn (notL x) k = !yn x k := yn_mk hk
def earlyL (t : Tm) (l : List Nd) (d u : List Bool) : List Bool := mk l.length fun k => yn d k && ((edgesOf false l k).length == 0 || (edgesOf false l k).any fun m => !yn (keepL t l) m.toNat || !yn d m.toNat && !yn u m.toNat)
def lateL (t : Tm) (l : List Nd) (y : List Bool) : List Bool := mk l.length fun k => yn y k && (yn (recL t l) k || (edgesOf true l k).any fun m => !yn y m.toNat)
structure Fx where
 down : List Bool
 up : List Bool
 early : List Bool
 delay : List Bool
 late : List Bool
 alone : List Bool
structure IsFx (t : Tm) (l : List Nd) (F : Fx) : Prop where
 down : Great (flowS true false (recL t l) (keepL t l) (noL l.length) (notL (noL l.length)) l) l.length F.down
 up : Great (flowS false false (noL l.length) (notL (noL l.length)) (mk l.length fun k => yn (keepL t l) k && yn (recL t l) k) (keepL t l) l) l.length F.up
 early : F.early = earlyL t l F.down F.up
 delay : Great (flowS false false F.early (notL (noL l.length)) (noL l.length) (notL (recL t l)) l) l.length F.delay
 late : F.late = lateL t l F.delay
 alone : Great (flowS true true (noL l.length) (notL (noL l.length)) F.late (notL (recL t l)) l) l.length F.alone
theorem IsFx.unique {t : Tm} {l : List Nd} {F G : Fx} (hF : IsFx t l F) (hG : IsFx t l G) : F = G := by (
 obtain ⟨a, b, c, d, e, f⟩ := F
 obtain ⟨a', b', c', d', e', f'⟩ := G
 obtain ⟨h1, h2, h3, h4, h5, h6⟩ := hF
 obtain ⟨g1, g2, g3, g4, g5, g6⟩ := hG
 simp only at *
 have e1 := h1.unique g1
 have e2 := h2.unique g2
 subst e1 e2
 have e3 : c = c' := h3.trans g3.symm
 subst e3
 have e4 := h4.unique g4
 subst e4
 have e5 : e = e' := h5.trans g5.symm
 subst e5
 have e6 := h6.unique g6
 subst e6
 rfl)
theorem IsFx.len {t : Tm} {l : List Nd} {F : Fx} (h : IsFx t l F) : F.down.length = l.length ∧ F.up.length = l.length ∧ F.early.length = l.length ∧ F.delay.length = l.length ∧ F.late.length = l.length ∧ F.alone.length = l.length :=
 ⟨h.down.1.1, h.up.1.1, by rw [h.early]; exact mk_len _ _, h.delay.1.1, by rw [h.late]; exact mk_len _ _, h.alone.1.1⟩
end
section
open Go.RowKit
theorem edges_lt {bk : Bool} {l : List Nd} {k : Nat} {m : Int} (h : m ∈ edgesOf bk l k) : m.toNat < l.length := by (
 unfold edgesOf at h
 obtain ⟨i, hi, _, rfl⟩ := mem_sel.1 h
 simpa using hi)
theorem yn_yes {n k : Nat} (hk : k < n) : yn (notL (noL n)) k = true := by (
 rw [yn_not (by simpa [noL] using hk), yn_no]; rfl)
theorem yn_rec {t : Tm} {l : List Nd} {k : Nat} {n : Nd} (hn : l[k]? = some n) : yn (recL t l) k = recB t n := by (
 rw [recL, yn_mk (List.getElem?_eq_some_iff.1 hn).1, nd_get hn])
theorem yn_keep {t : Tm} {l : List Nd} {k : Nat} {n : Nd} (hn : l[k]? = some n) : yn (keepL t l) k = keepB t n := by (
 rw [keepL, yn_mk (List.getElem?_eq_some_iff.1 hn).1, nd_get hn])
theorem recL_len (t : Tm) (l : List Nd) : (recL t l).length = l.length := mk_len _ _
theorem keepL_len (t : Tm) (l : List Nd) : (keepL t l).length = l.length := mk_len _ _
def downV (t : Tm) (l : List Nd) (x : List Bool) (k : Nat) : Bool := yn (recL t l) k || yn (keepL t l) k && decide (0 < (edgesOf true l k).length) && (edgesOf true l k).all fun m => yn x m.toNat
def upV (t : Tm) (l : List Nd) (x : List Bool) (k : Nat) : Bool := decide (0 < (edgesOf false l k).length) && (edgesOf false l k).all fun m => yn (keepL t l) m.toNat && ((yn x m.toNat || m.toNat == k) || yn (recL t l) m.toNat)
def delayV (t : Tm) (l : List Nd) (e x : List Bool) (k : Nat) : Bool := yn e k || decide (0 < (edgesOf false l k).length) && (edgesOf false l k).all fun m => yn x m.toNat && !yn (recL t l) m.toNat
def aloneV (t : Tm) (l : List Nd) (f x : List Bool) (k : Nat) : Bool := (edgesOf true l k).all fun m => yn f m.toNat || !yn (recL t l) m.toNat && (yn x m.toNat || m.toNat == k)
end
section
open Go.RowKit
def reachS (l : List Nd) (x : List Bool) (i : Nat) : Bool := i == 0 || (List.range l.length).any fun j => yn x j && leadsB (l.getD j default) i
theorem reachS_mono (l : List Nd) : Mono (reachS l) := fun x y i h hs => by (
 unfold reachS at *
 simp only [Bool.or_eq_true, List.any_eq_true, Bool.and_eq_true] at *
 exact hs.imp id fun ⟨j, hj, h1, h2⟩ => ⟨j, hj, h j h1, h2⟩)
def reachL (l : List Nd) : List Bool := leastL (reachS l) l.length
theorem reachL_len (l : List Nd) : (reachL l).length = l.length := (leastL_least (reachS_mono l) l.length).1.1
def shutAt (l : List Nd) (x : List Bool) (j : Nat) : Prop := ∀ n, l[j]? = some n → ∀ m : Nat, leadsB n m = true → yn x m = true
theorem reach_closed {l : List Nd} {x : List Bool} (hl : x.length = l.length) (h0 : yn x 0 = true) (h : ∀ j, j < l.length → yn x j = true → shutAt l x j) : Closed (reachS l) l.length x := by (
 refine ⟨hl, fun i hi hs => ?_⟩
 unfold reachS at hs
 simp only [Bool.or_eq_true, List.any_eq_true, Bool.and_eq_true, beq_iff_eq, List.mem_range] at hs
 rcases hs with rfl | ⟨j, hj, h1, h2⟩
 · exact h0
 · (
 have hn : l[j]? = some l[j] := List.getElem?_eq_getElem hj
 rw [List.getD_eq_getElem?_getD, hn] at h2
 exact h j hj h1 _ hn i h2))
theorem Closed.shut {l : List Nd} {x : List Bool} (h : Closed (reachS l) l.length x) {j : Nat} (hj : yn x j = true) (hb : ∀ n, l[j]? = some n → ∀ m : Nat, leadsB n m = true → m < l.length) : shutAt l x j := fun n hn m hm => by (
 refine h.2 m (hb n hn m hm) ?_
 unfold reachS
 simp only [Bool.or_eq_true, List.any_eq_true, Bool.and_eq_true, beq_iff_eq, List.mem_range]
 refine .inr ⟨j, (List.getElem?_eq_some_iff.1 hn).1, hj, ?_⟩
 rw [List.getD_eq_getElem?_getD, hn]
 exact hm)
theorem under_start (l : List Nd) (hl : 1 ≤ l.length) : Under (reachS l) l.length ((List.replicate l.length false).set 0 true) := by (
 refine ⟨by simp, fun z hz i hi => ?_⟩
 rw [yn_set _ _ _ _ (by simp; omega)] at hi
 by_cases h0 : i = 0
 · (
 subst h0
 exact hz.2 0 (by omega) (by simp [reachS]))
 · (
 rw [if_neg h0] at hi
 simp [yn, List.getD_eq_getElem?_getD, List.getElem?_replicate] at hi
 split at hi <;> simp at hi))
theorem under_add {l : List Nd} {x : List Bool} (h : Under (reachS l) l.length x) {j m : Nat} {n : Nd} (hj : yn x j = true) (hn : l[j]? = some n) (hm : leadsB n m = true) (hml : m < l.length) : Under (reachS l) l.length (x.set m true) := by (
 refine ⟨by simpa using h.1, fun z hz i hi => ?_⟩
 rw [yn_set _ _ _ _ (by rw [h.1]; exact hml)] at hi
 by_cases him : i = m
 · (
 subst him
 refine hz.2 i hml ?_
 unfold reachS
 simp only [Bool.or_eq_true, List.any_eq_true, Bool.and_eq_true, beq_iff_eq, List.mem_range]
 refine .inr ⟨j, (List.getElem?_eq_some_iff.1 hn).1, h.2 z hz j hj, ?_⟩
 rw [List.getD_eq_getElem?_getD, hn]
 exact hm)
 · (
 rw [if_neg him] at hi
 exact h.2 z hz i hi))
theorem yn_set_mono {x : List Bool} {m i : Nat} (hm : m < x.length) (h : yn x i = true) : yn (x.set m true) i = true := by (
 rw [yn_set _ _ _ _ hm]
 split
 · rfl
 · exact h)
theorem leads_then {n : Nd} (h : n.op ≠ 12) : leadsB n n.t = true := by simp [leadsB, h]
theorem leads_else {n : Nd} (h : n.op = 11) : leadsB n n.e = true := by simp [leadsB, h]
theorem leads_cases {n : Nd} {m : Int} (h : leadsB n m = true) : (n.op ≠ 12 ∧ m = n.t) ∨ (n.op = 11 ∧ m = n.e) := by (
 simp only [leadsB, Bool.or_eq_true, Bool.and_eq_true, bne_iff_ne, beq_iff_eq, ne_eq] at h
 rcases h with ⟨h1, h2⟩ | ⟨h1, h2⟩
 · exact .inl ⟨h1, h2.symm⟩
 · exact .inr ⟨h1, h2.symm⟩)
structure Reaching (l : List Nd) (c k : Nat) (x : List Bool) : Prop where
 under : Under (reachS l) l.length x
 zero : yn x 0 = true
 way : c + 1 < cnt x ∨ (c + 1 ≤ cnt x ∧ ∀ j, j < k → yn x j = true → shutAt l x j) ∨ Closed (reachS l) l.length x
theorem cnt_pos {x : List Bool} {i : Nat} (h : yn x i = true) : 1 ≤ cnt x := by (
 have hi : i < x.length := by (
 rcases Nat.lt_or_ge i x.length with h1 | h1
 · exact h1
 · rw [yn_out h1] at h; cases h)
 unfold cnt
 refine List.count_pos_iff.2 ?_
 have : x[i] = true := by simpa [yn, hi] using h
 rw [← this]
 exact List.getElem_mem hi)
end
section
open Go.RowKit
def rk (x : List Bool) : Nat → Nat
 | 0 => 0
 | k + 1 => rk x k + (if yn x k = true then 1 else 0)
theorem rk_le (x : List Bool) : ∀ k, rk x k ≤ k
 | 0 => Nat.le_refl _
 | k + 1 => by (
 have := rk_le x k
 unfold rk
 split <;> omega)
theorem rk_yes {x : List Bool} {k : Nat} (h : yn x k = true) : rk x (k + 1) = rk x k + 1 := by simp [rk, h]
theorem rk_no {x : List Bool} {k : Nat} (h : yn x k = false) : rk x (k + 1) = rk x k := by simp [rk, h]
def trimN (x : List Bool) (n : Nd) : Nd := { n with t := if n.op = 12 then n.t else (rk x n.t.toNat : Nat), e := if n.op = 11 then (rk x n.e.toNat : Nat) else n.e }
def trimTo (x : List Bool) (l : List Nd) : Nat → List Nd
 | 0 => []
 | k + 1 => trimTo x l k ++ (if yn x k = true then [trimN x (l.getD k default)] else [])
theorem trimTo_len (x : List Bool) (l : List Nd) : ∀ k, (trimTo x l k).length = rk x k
 | 0 => rfl
 | k + 1 => by (
 unfold trimTo rk
 rw [List.length_append, trimTo_len x l k]
 split <;> simp)
theorem trimTo_yes {x : List Bool} {l : List Nd} {k : Nat} {n : Nd} (h : yn x k = true) (hn : l[k]? = some n) : trimTo x l (k + 1) = trimTo x l k ++ [trimN x n] := by (
 have : l.getD k default = n := by rw [List.getD_eq_getElem?_getD, hn]; rfl
 rw [trimTo, if_pos h, this])
theorem trimTo_no {x : List Bool} {l : List Nd} {k : Nat} (h : yn x k = false) : trimTo x l (k + 1) = trimTo x l k := by rw [trimTo, if_neg (by rw [h]; simp), List.append_nil]
def trimL (l : List Nd) : List Nd := trimTo (reachL l) l l.length
theorem trimL_len (l : List Nd) : (trimL l).length ≤ l.length := by (
 unfold trimL
 rw [trimTo_len]
 exact rk_le _ _)
theorem reach_shut {l : List Nd} {k : Nat} {n : Nd} (hk : yn (reachL l) k = true) (hn : l[k]? = some n) {m : Nat} (hm : leadsB n m = true) (hb : ∀ m : Nat, leadsB n m = true → m < l.length) : yn (reachL l) m = true := by (
 have hc : Closed (reachS l) l.length (reachL l) := by have h := (leastL_least (reachS_mono l) l.length).1; exact ⟨h.1, fun i hi hs => (h.2 i hi).trans hs⟩
 refine Closed.shut hc hk (fun n2 h2 m hm => ?_) n hn m hm
 rw [hn] at h2
 injection h2 with h2
 subst h2
 exact hb m hm)
end
end Go.Proofs.YtmghkonmfbpjcaaGreatDoor
