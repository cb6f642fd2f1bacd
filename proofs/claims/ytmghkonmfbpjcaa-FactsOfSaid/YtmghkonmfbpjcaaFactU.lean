/- Plain law: the reference's loops over a list of edges, edge by edge. No program in sight. -/
import Derived.Test.YtmghkonmfbpjcaaFactQ
import Derived.Test.YtmghkonmfbpjcaaTab
import Derived.Test.YtmghkonmfbpjcaaReachR
namespace Go.Proofs.Ytmghkonmfbpjcaa
set_option linter.unusedVariables false
set_option linter.unusedSimpArgs false
open Go.RowKit

theorem take_all {es : List Int} {j : Nat} {m : Int} (h : es[j]? = some m) (q : Int → Bool) : (es.take (j + 1)).all q = ((es.take j).all q && q m) := by
  rw [List.take_add_one, h, List.all_append]
  simp
theorem take_any {es : List Int} {j : Nat} {m : Int} (h : es[j]? = some m) (q : Int → Bool) : (es.take (j + 1)).any q = ((es.take j).any q || q m) := by
  rw [List.take_add_one, h, List.any_append]
  simp
theorem take_full {es : List Int} {j : Nat} (h : es.length ≤ j) : es.take j = es := List.take_of_length_le h
/-- an edge of the list, and the node at its end -/
theorem edge_in {bk : Bool} {l : List Nd} {k j : Nat} (hj : j < (edgesOf bk l k).length) : ∃ (mm : Nat) (n : Nd), (edgesOf bk l k)[j]? = some (mm : Int) ∧ mm < l.length ∧ l[mm]? = some n := by
  obtain ⟨x, hx⟩ : ∃ x, (edgesOf bk l k)[j]? = some x := ⟨_, List.getElem?_eq_getElem hj⟩
  have hm : x ∈ edgesOf bk l k := List.mem_of_getElem? hx
  unfold edgesOf at hm
  obtain ⟨i, hi, _, rfl⟩ := mem_sel.1 hm
  exact ⟨i, l[i], hx, hi, List.getElem?_eq_getElem hi⟩
theorem edges_le (bk : Bool) (l : List Nd) (k : Nat) : (edgesOf bk l k).length ≤ l.length := by
  unfold edgesOf
  exact sel_len _ _

/-- up, behind j edges -/
def upQ (t : Tm) (l : List Nd) (y : List Bool) (k : Nat) (m : Int) : Bool := yn (keepL t l) m.toNat && ((yn y m.toNat || m.toNat == k) || yn (recL t l) m.toNat)
def upA (t : Tm) (l : List Nd) (y : List Bool) (k j : Nat) : Bool := decide (0 < (edgesOf false l k).length) && ((edgesOf false l k).take j).all (upQ t l y k)
theorem upA_zero (t : Tm) (l : List Nd) (y : List Bool) (k : Nat) : upA t l y k 0 = decide (0 < (edgesOf false l k).length) := by simp [upA]
theorem upA_end (t : Tm) (l : List Nd) (y : List Bool) (k j : Nat) (h : (edgesOf false l k).length ≤ j) : upA t l y k j = upV t l y k := by
  unfold upA upV
  rw [take_full h]
  rfl
theorem upA_step {t : Tm} {l : List Nd} {y : List Bool} {k j mm : Nat} {n : Nd} (h : (edgesOf false l k)[j]? = some (mm : Int)) (hn : l[mm]? = some n) :
    upA t l y k (j + 1) = (upA t l y k j && (keepB t n && ((yn y mm || mm == k) || recB t n))) := by
  unfold upA
  rw [take_all h, ← Bool.and_assoc]
  congr 1
  unfold upQ
  rw [Int.toNat_natCast, yn_keep hn, yn_rec hn]
/-- what is read while the running value lies in place -/
theorem run_read {y : List Bool} {n k mm : Nat} (hl : y.length = n) (hk : k < n) : yn (y.set k true) mm = (yn y mm || mm == k) := by
  rw [yn_set _ _ _ _ (by rw [hl]; exact hk)]
  by_cases h : mm = k
  · simp [h]
  · simp [h]

/-- early, behind j edges -/
def earlyQ (t : Tm) (l : List Nd) (d u : List Bool) (m : Int) : Bool := !yn (keepL t l) m.toNat || !yn d m.toNat && !yn u m.toNat
def earlyA (t : Tm) (l : List Nd) (d u : List Bool) (k j : Nat) : Bool := decide ((edgesOf false l k).length = 0) || ((edgesOf false l k).take j).any (earlyQ t l d u)
theorem earlyA_zero (t : Tm) (l : List Nd) (d u : List Bool) (k : Nat) : earlyA t l d u k 0 = decide ((edgesOf false l k).length = 0) := by simp [earlyA]
theorem earlyA_end (t : Tm) (l : List Nd) (d u : List Bool) (k j : Nat) (h : (edgesOf false l k).length ≤ j) (hk : k < l.length) : yn (earlyL t l d u) k = (yn d k && earlyA t l d u k j) := by
  unfold earlyA earlyL
  rw [take_full h, yn_mk hk]
  congr 1
theorem earlyA_step {t : Tm} {l : List Nd} {d u : List Bool} {k j mm : Nat} {n : Nd} (h : (edgesOf false l k)[j]? = some (mm : Int)) (hn : l[mm]? = some n) :
    earlyA t l d u k (j + 1) = (earlyA t l d u k j || (!keepB t n || !yn d mm && !yn u mm)) := by
  unfold earlyA
  rw [take_any h, ← Bool.or_assoc]
  congr 1
  unfold earlyQ
  rw [Int.toNat_natCast, yn_keep hn]

/-- delay, behind j edges -/
def delayQ (t : Tm) (l : List Nd) (x : List Bool) (m : Int) : Bool := yn x m.toNat && !yn (recL t l) m.toNat
def delayA (t : Tm) (l : List Nd) (x : List Bool) (k j : Nat) : Bool := decide (0 < (edgesOf false l k).length) && ((edgesOf false l k).take j).all (delayQ t l x)
theorem delayA_zero (t : Tm) (l : List Nd) (x : List Bool) (k : Nat) : delayA t l x k 0 = decide (0 < (edgesOf false l k).length) := by simp [delayA]
theorem delayA_end (t : Tm) (l : List Nd) (e x : List Bool) (k j : Nat) (h : (edgesOf false l k).length ≤ j) : delayV t l e x k = (yn e k || delayA t l x k j) := by
  unfold delayA delayV
  rw [take_full h]
  rfl
theorem delayA_step {t : Tm} {l : List Nd} {x : List Bool} {k j mm : Nat} {n : Nd} (h : (edgesOf false l k)[j]? = some (mm : Int)) (hn : l[mm]? = some n) :
    delayA t l x k (j + 1) = (delayA t l x k j && (yn x mm && !recB t n)) := by
  unfold delayA
  rw [take_all h, ← Bool.and_assoc]
  congr 1
  unfold delayQ
  rw [Int.toNat_natCast, yn_rec hn]

/-- late, behind j edges -/
def lateA (l : List Nd) (y : List Bool) (k j : Nat) : Bool := ((edgesOf true l k).take j).any fun m => !yn y m.toNat
theorem lateA_zero (l : List Nd) (y : List Bool) (k : Nat) : lateA l y k 0 = false := by simp [lateA]
theorem lateA_end {t : Tm} {l : List Nd} {y : List Bool} {k j : Nat} {n : Nd} (h : (edgesOf true l k).length ≤ j) (hk : k < l.length) (hn : l[k]? = some n) : yn (lateL t l y) k = (yn y k && (recB t n || lateA l y k j)) := by
  unfold lateA lateL
  rw [take_full h, yn_mk hk, yn_rec hn]
theorem lateA_step {l : List Nd} {y : List Bool} {k j mm : Nat} (h : (edgesOf true l k)[j]? = some (mm : Int)) : lateA l y k (j + 1) = (lateA l y k j || !yn y mm) := by
  unfold lateA
  rw [take_any h, Int.toNat_natCast]

/-- alone, behind j edges -/
def aloneQ (t : Tm) (l : List Nd) (f y : List Bool) (k : Nat) (m : Int) : Bool := yn f m.toNat || !yn (recL t l) m.toNat && (yn y m.toNat || m.toNat == k)
def aloneA (t : Tm) (l : List Nd) (f y : List Bool) (k j : Nat) : Bool := ((edgesOf true l k).take j).all (aloneQ t l f y k)
theorem aloneA_zero (t : Tm) (l : List Nd) (f y : List Bool) (k : Nat) : aloneA t l f y k 0 = true := by simp [aloneA]
theorem aloneA_end (t : Tm) (l : List Nd) (f y : List Bool) (k j : Nat) (h : (edgesOf true l k).length ≤ j) : aloneA t l f y k j = aloneV t l f y k := by
  unfold aloneA aloneV
  rw [take_full h]
  rfl
theorem aloneA_step {t : Tm} {l : List Nd} {f y : List Bool} {k j mm : Nat} {n : Nd} (h : (edgesOf true l k)[j]? = some (mm : Int)) (hn : l[mm]? = some n) :
    aloneA t l f y k (j + 1) = (aloneA t l f y k j && (yn f mm || !recB t n && (yn y mm || mm == k))) := by
  unfold aloneA
  rw [take_all h]
  congr 1
  unfold aloneQ
  rw [Int.toNat_natCast, yn_rec hn]

theorem sweep_exists {S : List Bool → Nat → Bool} {n : Nat} (hm : Mono S) : ∀ c k, k ≤ n → ∃ x, Sweep S n c k x := by
  intro c
  induction c with
  | zero =>
    intro k
    induction k with
    | zero => exact fun _ => ⟨List.replicate n true, Sweep.start (by simp) fun i hi => by simp [yn, List.getD_eq_getElem?_getD, List.getElem?_replicate, hi]⟩
    | succ k ih => exact fun hk => (ih (by omega)).elim fun x hx => ⟨_, hx.step hm (by omega) rfl⟩
  | succ c ihc =>
    intro k
    induction k with
    | zero => exact fun _ => (ihc n (Nat.le_refl _)).elim fun x hx => ⟨x, hx.turn⟩
    | succ k ih => exact fun hk => (ih (by omega)).elim fun x hx => ⟨_, hx.step hm (by omega) rfl⟩
theorem great_exists {S : List Bool → Nat → Bool} {n : Nat} (hm : Mono S) : ∃ y, Great S n y := (sweep_exists hm (n + 1) 0 (Nat.zero_le _)).elim fun x hx => ⟨x, hx.great hm (by omega)⟩
/-- and back -/
theorem Great.unself {S : List Bool → Nat → Bool} {n : Nat} (hm : Mono S) {y : List Bool} (h : Great (selfT S n) n y) : Great S n y := by
  obtain ⟨x, hx⟩ := great_exists (n := n) hm
  rw [h.unique (hx.self hm)]
  exact hx
theorem Row.int_at_ {w : World} {B : Nat} {e : TypeId} {R : Option Addr} {n c : Nat} {es : List Int} (h : Row w B e (.slice R n c) (ints es)) {j : Nat} {m : Int} (hj : es[j]? = some m) :
    ∃ g o, R = some ⟨g, o, none⟩ ∧ g < w.heap.size ∧ w.cell? ⟨g, o + j, none⟩ = some (.int .i64 m) := by
  obtain ⟨g, o, v, e1, h1, h2, h3⟩ := h.vals.get (k := j) (by rw [ints_length]; exact (List.getElem?_eq_some_iff.1 hj).1)
  rw [ints_get, hj] at h2
  refine ⟨g, o, e1, h1, ?_⟩
  rw [h3, ← Option.some.inj h2]
/-- two updates at one place -/
theorem upd_upd {α : Type} (f : Nat → α) (i : Nat) (x y : α) : upd (upd f i x) i y = upd f i y := funext fun j => by
  by_cases h : j = i
  · rw [h, upd_same, upd_same]
  · rw [upd_other _ _ h, upd_other _ _ h, upd_other _ _ h]
theorem upd_self {α : Type} (f : Nat → α) (i : Nat) : upd f i (f i) = f := funext fun j => by
  by_cases h : j = i
  · rw [h, upd_same]
  · rw [upd_other _ _ h]
theorem Row.cell_at {w : World} {B g o : Nat} {e : TypeId} {n c : Nat} {es : List Int} (h : Row w B e (.slice (some ⟨g, o, none⟩) n c) (ints es)) {j : Nat} {m : Int} (hj : es[j]? = some m) :
    w.cell? ⟨g, o + j, none⟩ = some (.int .i64 m) := by
  obtain ⟨g', o', e1, _, h2⟩ := h.int_at_ hj
  injection e1 with e1
  injection e1 with ea eb _
  subst ea eb
  exact h2
end Go.Proofs.Ytmghkonmfbpjcaa
