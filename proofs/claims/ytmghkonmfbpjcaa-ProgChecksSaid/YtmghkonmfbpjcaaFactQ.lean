/- Plain law: what a flow asks at a node, for the four flows of a term's facts, as the reference spells it. No program in sight. -/
import Derived.Test.YtmghkonmfbpjcaaFactP
namespace Go.Proofs.Ytmghkonmfbpjcaa
set_option linter.unusedVariables false
set_option linter.unusedSimpArgs false
open Go.RowKit

theorem edges_lt {bk : Bool} {l : List Nd} {k : Nat} {m : Int} (h : m ∈ edgesOf bk l k) : m.toNat < l.length := by
  unfold edgesOf at h
  obtain ⟨i, hi, _, rfl⟩ := mem_sel.1 h
  simpa using hi
theorem yn_yes {n k : Nat} (hk : k < n) : yn (notL (noL n)) k = true := by
  rw [yn_not (by simpa [noL] using hk), yn_no]; rfl
theorem yn_rec {t : Tm} {l : List Nd} {k : Nat} {n : Nd} (hn : l[k]? = some n) : yn (recL t l) k = recB t n := by
  rw [recL, yn_mk (List.getElem?_eq_some_iff.1 hn).1, nd_get hn]
theorem yn_keep {t : Tm} {l : List Nd} {k : Nat} {n : Nd} (hn : l[k]? = some n) : yn (keepL t l) k = keepB t n := by
  rw [keepL, yn_mk (List.getElem?_eq_some_iff.1 hn).1, nd_get hn]
theorem recL_len (t : Tm) (l : List Nd) : (recL t l).length = l.length := mk_len _ _
theorem keepL_len (t : Tm) (l : List Nd) : (keepL t l).length = l.length := mk_len _ _
theorem all_congr {es : List Int} {p q : Int → Bool} (h : ∀ m ∈ es, p m = q m) : es.all p = es.all q := by
  rw [Bool.eq_iff_iff, List.all_eq_true, List.all_eq_true]
  exact forall_congr' fun m => forall_congr' fun hm => by rw [h m hm]
/-- as one goes on with the list -/
def downV (t : Tm) (l : List Nd) (x : List Bool) (k : Nat) : Bool := yn (recL t l) k || yn (keepL t l) k && decide (0 < (edgesOf true l k).length) && (edgesOf true l k).all fun m => yn x m.toNat
def upV (t : Tm) (l : List Nd) (x : List Bool) (k : Nat) : Bool := decide (0 < (edgesOf false l k).length) && (edgesOf false l k).all fun m => yn (keepL t l) m.toNat && ((yn x m.toNat || m.toNat == k) || yn (recL t l) m.toNat)
def delayV (t : Tm) (l : List Nd) (e x : List Bool) (k : Nat) : Bool := yn e k || decide (0 < (edgesOf false l k).length) && (edgesOf false l k).all fun m => yn x m.toNat && !yn (recL t l) m.toNat
def aloneV (t : Tm) (l : List Nd) (f x : List Bool) (k : Nat) : Bool := (edgesOf true l k).all fun m => yn f m.toNat || !yn (recL t l) m.toNat && (yn x m.toNat || m.toNat == k)
theorem zero_len (es : List Int) : (es.length = 0) ↔ ¬ (0 < es.length) := by omega
theorem down_eq (t : Tm) (l : List Nd) (x : List Bool) {k : Nat} (hk : k < l.length) : flowS true false (recL t l) (keepL t l) (noL l.length) (notL (noL l.length)) l x k = downV t l x k := by
  unfold flowS saysB downV
  have h : ((edgesOf true l k).all fun r => askOne (noL l.length) (notL (noL l.length)) x r.toNat) = (edgesOf true l k).all fun m => yn x m.toNat := all_congr fun m hm => by
    rw [askOne, yn_no, yn_yes (edges_lt hm)]; simp
  rw [h]
  cases yn (recL t l) k <;> cases yn (keepL t l) k <;> rcases hE : edgesOf true l k with _ | ⟨e0, es⟩ <;> simp
theorem up_eq (t : Tm) (l : List Nd) (x : List Bool) {k : Nat} (hk : k < l.length) : selfT (flowS false false (noL l.length) (notL (noL l.length)) (mk l.length fun k => yn (keepL t l) k && yn (recL t l) k) (keepL t l) l) l.length x k = upV t l x k := by
  unfold selfT flowS saysB upV
  have h : ((edgesOf false l k).all fun r => askOne (mk l.length fun k => yn (keepL t l) k && yn (recL t l) k) (keepL t l) (mk l.length fun j => yn x j || j == k) r.toNat) = (edgesOf false l k).all fun m => yn (keepL t l) m.toNat && ((yn x m.toNat || m.toNat == k) || yn (recL t l) m.toNat) := all_congr fun m hm => by
    have hlt := edges_lt hm
    rw [askOne, yn_mk hlt, yn_mk hlt]
    cases yn (keepL t l) m.toNat <;> cases yn (recL t l) m.toNat <;> simp
  rw [h, yn_no, yn_yes hk]
  rcases hE : edgesOf false l k with _ | ⟨e0, es⟩ <;> simp
theorem delay_eq (t : Tm) (l : List Nd) (e x : List Bool) {k : Nat} (hk : k < l.length) : flowS false false e (notL (noL l.length)) (noL l.length) (notL (recL t l)) l x k = delayV t l e x k := by
  unfold flowS saysB delayV
  have h : ((edgesOf false l k).all fun r => askOne (noL l.length) (notL (recL t l)) x r.toNat) = (edgesOf false l k).all fun m => yn x m.toNat && !yn (recL t l) m.toNat := all_congr fun m hm => by
    rw [askOne, yn_no, yn_not (by rw [recL_len]; exact edges_lt hm)]
    cases yn x m.toNat <;> cases yn (recL t l) m.toNat <;> rfl
  rw [h, yn_yes hk]
  cases yn e k <;> rcases hE : edgesOf false l k with _ | ⟨e0, es⟩ <;> simp
theorem alone_eq (t : Tm) (l : List Nd) (f x : List Bool) {k : Nat} (hk : k < l.length) : selfT (flowS true true (noL l.length) (notL (noL l.length)) f (notL (recL t l)) l) l.length x k = aloneV t l f x k := by
  unfold selfT flowS saysB aloneV
  have h : ((edgesOf true l k).all fun r => askOne f (notL (recL t l)) (mk l.length fun j => yn x j || j == k) r.toNat) = (edgesOf true l k).all fun m => yn f m.toNat || !yn (recL t l) m.toNat && (yn x m.toNat || m.toNat == k) := all_congr fun m hm => by
    have hlt := edges_lt hm
    rw [askOne, yn_mk hlt, yn_not (by rw [recL_len]; exact hlt)]
  rw [h, yn_no, yn_yes hk]
  rcases hE : edgesOf true l k with _ | ⟨e0, es⟩ <;> simp
end Go.Proofs.Ytmghkonmfbpjcaa
