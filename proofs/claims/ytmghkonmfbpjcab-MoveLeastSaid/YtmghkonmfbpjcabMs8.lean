/- Ms8. -/
import Derived.Test.YtmghkonmfbpjcabGK
import Derived.Test.YtmghkonmfbpjcabGA
set_option linter.unusedVariables false
set_option linter.unusedSimpArgs false
namespace Go.Proofs.Ytmghkonmfbpjcab
section
open Go.RowKit
theorem split_skips {regs : Int} {l : List Nd} (hR : Right regs l) : ∀ k, k ≤ l.length → ∀ N, l.length ≤ N → N < (splitTo l k).length → ∃ i n', i < k ∧ (splitTo l k)[i]? = some n' ∧ leadsB n' (N : Int) = true
  | 0, _, N, h1, h2 => by simp [splitTo] at h2; omega
  | k + 1, hk, N, h1, h2 => by
    have hn := nd_some (l := l) (n := k) (by omega)
    have hlen := splitTo_len l k
    rw [splitTo_succ hn] at h2 ⊢
    by_cases h0 : (nd l k).op = 0 ∨ (nd l k).op = 12
    · rw [splitStep_skip h0] at h2 ⊢
      obtain ⟨i, n', a, b, c⟩ := split_skips hR k (by omega) N h1 h2
      exact ⟨i, n', by omega, b, c⟩
    · have h12 : (nd l k).op ≠ 12 := fun e => h0 (.inr e)
      have hko : k < (splitTo l k).length := by omega
      have hget : ∀ i, i < (splitTo l k).length → i ≠ k → (splitStep l k (nd l k) (splitTo l k))[i]? = (splitTo l k)[i]? := fun i hi hik => splitStep_get (fun e => hik e.symm) hi
      rw [splitStep_once hko (fun e => h0 (.inl e)) h12] at h2 hget ⊢
      by_cases hN : N < (splitTo l k).length
      · obtain ⟨i, n', a, b, c⟩ := split_skips hR k (by omega) N h1 hN
        exact ⟨i, n', by omega, by rw [hget i (by omega) (by omega)]; exact b, c⟩
      · refine ⟨k, split2 l (nd l k) (split1 l (nd l k) (splitTo l k).length) ((splitTo l k).length + (skips1 l (nd l k)).length), by omega, ?_, ?_⟩
        · rw [List.getElem?_append_left (by rw [List.length_set]; exact hko), List.getElem?_set]
          simp [hko]
        · simp only [List.length_append, List.length_set] at h2
          have e1 := skips1_len l (nd l k)
          have e2 := skips2_len l (nd l k)
          by_cases hw : 2 ≤ ways l (nd l k).t
          · have hs1 : (skips1 l (nd l k)).length = 1 := by simp [skips1, hw]
            by_cases hN2 : N = (splitTo l k).length
            · have ht : (split2 l (nd l k) (split1 l (nd l k) (splitTo l k).length) ((splitTo l k).length + (skips1 l (nd l k)).length)).t = (N : Int) := by
                rw [hN2]; unfold split2 split1
                rw [if_pos hw]
                split <;> rfl
              have hop : (split2 l (nd l k) (split1 l (nd l k) (splitTo l k).length) ((splitTo l k).length + (skips1 l (nd l k)).length)).op = (nd l k).op := by
                unfold split2 split1
                rw [if_pos hw]
                split <;> rfl
              rw [← ht]
              exact leads_then (by rw [hop]; exact h12)
            · have hs2 : elseB l (nd l k) = true := Classical.byContradiction fun e => by
                have : (skips2 l (nd l k)).length = 0 := by unfold skips2; rw [if_neg e]; rfl
                omega
              have he : (split2 l (nd l k) (split1 l (nd l k) (splitTo l k).length) ((splitTo l k).length + (skips1 l (nd l k)).length)).e = (N : Int) := by
                unfold split2
                rw [if_pos hs2]
                show (((splitTo l k).length + (skips1 l (nd l k)).length : Nat) : Int) = N
                omega
              have hop : (split2 l (nd l k) (split1 l (nd l k) (splitTo l k).length) ((splitTo l k).length + (skips1 l (nd l k)).length)).op = 11 := by
                unfold split2 split1
                rw [if_pos hs2, if_pos hw]
                simp [elseB] at hs2
                exact hs2.1.1
              rw [← he]
              exact leads_else hop
          · have hs1 : (skips1 l (nd l k)).length = 0 := by simp [skips1, hw]
            have hs2 : elseB l (nd l k) = true := Classical.byContradiction fun e => by
              have : (skips2 l (nd l k)).length = 0 := by unfold skips2; rw [if_neg e]; rfl
              omega
            have he : (split2 l (nd l k) (split1 l (nd l k) (splitTo l k).length) ((splitTo l k).length + (skips1 l (nd l k)).length)).e = (N : Int) := by
              unfold split2
              rw [if_pos hs2]
              show (((splitTo l k).length + (skips1 l (nd l k)).length : Nat) : Int) = N
              have : (skips2 l (nd l k)).length = 1 := by simp [skips2, hs2]
              omega
            have hop : (split2 l (nd l k) (split1 l (nd l k) (splitTo l k).length) ((splitTo l k).length + (skips1 l (nd l k)).length)).op = 11 := by
              unfold split2 split1
              rw [if_pos hs2, if_neg hw]
              simp [elseB] at hs2
              exact hs2.1.1
            rw [← he]
            exact leads_else hop
theorem rch_of {l : List Nd} {n : Nat} (hlen : n < l.length) (h : yn (reachL l) n = true) : Rch l n := by
  classical
  have hz : ∀ i, i < l.length → (yn (mk l.length fun k => decide (Rch l k)) i = true ↔ Rch l i) := fun i hi => by rw [yn_mk hi]; simp
  have hc : Closed (reachS l) l.length (mk l.length fun k => decide (Rch l k)) := by
    refine ⟨mk_len _ _, fun i hi hs => (hz i hi).2 ?_⟩
    unfold reachS at hs
    simp only [Bool.or_eq_true, List.any_eq_true, Bool.and_eq_true, beq_iff_eq, List.mem_range] at hs
    rcases hs with rfl | ⟨j, hj, h1, h2⟩
    · exact .zero
    · refine .next ((hz j hj).1 h1) ⟨hj, hi, ?_⟩
      have : l.getD j default = nd l j := by rw [List.getD_eq_getElem?_getD, nd_some hj]; rfl
      rw [← this]; exact h2
  exact (hz n hlen).1 ((leastL_least (reachS_mono l) l.length).2.2 _ hc n h)
theorem rch_in {regs : Int} {l : List Nd} (hR : Right regs l) {n : Nat} (h : Rch l n) : yn (reachL l) n = true := by
  induction h with
  | zero => exact reach_zero hR.lo
  | next h1 he ih =>
    have := (hR.reach ih (nd_some he.1) he.2.2).2.2
    simpa using this
theorem oneQ_rch {regs : Int} {l : List Nd} (hR : Right regs l) {n : Nat} (hn : n < (oneQ l).length) : Rch (oneQ l) n := by
  have hT := hR.trim
  have hS := split_spl hT
  unfold oneQ at hn ⊢
  generalize hm : trimL l = m at *
  have hall : ∀ j, j < m.length → Rch m j := fun j hj => by
    have := trim_reach hR (j := j) (by rw [hm]; exact hj)
    rw [hm] at this
    exact rch_of hj this
  have lead : ∀ {i j : Nat}, Edge m i j → Rch (splitL m) i → Rch (splitL m) j := fun {i j} he hi => by
    obtain ⟨n', hn', hG⟩ := hS.new i he.1 _ (nd_some he.1)
    have hil : i < (splitL m).length := by have := hS.len; have := he.1; omega
    have hjl : j < (splitL m).length := by have := hS.len; have := he.2.1; omega
    have hnd : nd (splitL m) i = n' := nd_get hn'
    have way : ∀ {j' : Int}, leadsB n' j' = true → Way m (splitL m) (j : Int) j' → Rch (splitL m) j := fun {j'} h1 hw => by
      rcases hw with ⟨_, rfl⟩ | ⟨_, N, rfl, a, b, c⟩
      · exact hi.next ⟨hil, hjl, by rw [hnd]; exact h1⟩
      · have h2 : Rch (splitL m) N := hi.next ⟨hil, b, by rw [hnd]; exact h1⟩
        refine h2.next ⟨b, hjl, ?_⟩
        rw [nd_get c]
        simp [leadsB, skipN]
    rcases leads_cases he.2.2 with ⟨h12, e⟩ | ⟨h11, e⟩
    · by_cases h0 : (nd m i).op = 0 ∨ (nd m i).op = 12
      · have hs := hG.same h0
        exact hi.next ⟨hil, hjl, by rw [hnd, hs]; exact he.2.2⟩
      · have := hG.t h0
        rw [← e] at this
        exact way (leads_then (by rw [hG.op]; exact h12)) this
    · by_cases het : (nd m i).e = (nd m i).t
      · have h0 : ¬ ((nd m i).op = 0 ∨ (nd m i).op = 12) := by omega
        have := hG.t h0
        rw [← het, ← e] at this
        exact way (leads_then (by rw [hG.op]; omega)) this
      · have := hG.e h11 het
        rw [← e] at this
        exact way (leads_else (by rw [hG.op]; exact h11)) this
  have hold : ∀ {j}, Rch m j → Rch (splitL m) j := fun h => by
    induction h with
    | zero => exact .zero
    | next _ he ih => exact lead he ih
  by_cases hnm : n < m.length
  · exact hold (hall n hnm)
  · obtain ⟨i, n', h1, h2, h3⟩ := split_skips hT m.length (Nat.le_refl _) n (by omega) hn
    have h4 : (splitL m)[i]? = some n' := h2
    exact (hold (hall i h1)).next ⟨(List.getElem?_eq_some_iff.1 h4).1, hn, by rw [nd_get h4]; exact h3⟩
section
variable {regs : Int} {t : Tm} {s : List Nd} {F G : Fx}
def bodyI (pt : List Bool) (s : List Nd) (n : Nat) : Nat := if yn pt n = true then s.length + rk pt n else n
theorem body_at {pt tk : List Bool} {n : Nat} (hn : n < s.length) : nd (applyL regs t pt tk s) (bodyI pt s n) = takeN regs tk s n := by
  unfold bodyI
  by_cases e : yn pt n = true
  · rw [if_pos e, applyL_behind hn e]
  · rw [if_neg e, applyL_at hn, if_neg e]
theorem body_lt {pt tk : List Bool} {n : Nat} (hn : n < s.length) : bodyI pt s n < (applyL regs t pt tk s).length := by
  rw [applyL_size]
  unfold bodyI
  by_cases e : yn pt n = true
  · rw [if_pos e]; have := rk_lt hn e; omega
  · rw [if_neg e]; omega
theorem body_inj {pt : List Bool} {n m : Nat} (hn : n < s.length) (hm : m < s.length) (h : bodyI pt s n = bodyI pt s m) : n = m := by
  unfold bodyI at h
  by_cases e : yn pt n = true
  · by_cases e2 : yn pt m = true
    · rw [if_pos e, if_pos e2] at h
      exact rk_inj e e2 (by omega)
    · rw [if_pos e, if_neg e2] at h; omega
  · by_cases e2 : yn pt m = true
    · rw [if_neg e, if_pos e2] at h; omega
    · rw [if_neg e, if_neg e2] at h; exact h
theorem apply_index {pt tk : List Bool} {i : Nat} (hi : i < (applyL regs t pt tk s).length) : ∃ n, n < s.length ∧ ((yn pt n = true ∧ i = n) ∨ i = bodyI pt s n) := by
  rw [applyL_size] at hi
  by_cases h : i < s.length
  · by_cases e : yn pt i = true
    · exact ⟨i, h, .inl ⟨e, rfl⟩⟩
    · exact ⟨i, h, .inr (by unfold bodyI; rw [if_neg e])⟩
  · obtain ⟨n, h1, h2, h3⟩ := rk_onto pt s.length (j := i - s.length) (by omega)
    exact ⟨n, h1, .inr (by unfold bodyI; rw [if_pos h2]; omega)⟩
theorem take_leads (ht : 3 ≤ t.op ∧ t.op ≤ 8) {tk : List Bool} (hk : ∀ n, n < s.length → yn tk n = true → Rc t s n) {n : Nat} (hn : n < s.length) (m : Int) : leadsB (takeN regs tk s n) m = leadsB (nd s n) m := by
  unfold takeN
  by_cases e : yn tk n = true
  · rw [if_pos e]
    have := rc_op ht (hk n hn e)
    have h12 : ((nd s n).op != 12) = true := by simp; omega
    have h11 : ((nd s n).op == 11) = false := by simp; omega
    simp [leadsB, h12, h11]
  · rw [if_neg e]
theorem edge_put {pt tk : List Bool} {n : Nat} (ht : 3 ≤ t.op ∧ t.op ≤ 8) (hn : n < s.length) (hp : yn pt n = true) : Edge (applyL regs t pt tk s) n (bodyI pt s n) := by
  refine ⟨by rw [applyL_size]; omega, body_lt hn, ?_⟩
  rw [applyL_at hn, if_pos hp]
  have h12 : (t.op != 12) = true := by simp; omega
  simp [leadsB, putN, bodyI, hp, h12]
theorem edge_body {pt tk : List Bool} {n m : Nat} (ht : 3 ≤ t.op ∧ t.op ≤ 8) (hk : ∀ n, n < s.length → yn tk n = true → Rc t s n) (he : Edge s n m) : Edge (applyL regs t pt tk s) (bodyI pt s n) m := by
  refine ⟨body_lt he.1, by have := he.2.1; rw [applyL_size]; omega, ?_⟩
  rw [body_at he.1, take_leads ht hk he.1]
  exact he.2.2
theorem edge_kind {pt tk : List Bool} {i j : Nat} (hR : Right regs s) (ht : 3 ≤ t.op ∧ t.op ≤ 8) (hk : ∀ n, n < s.length → yn tk n = true → Rc t s n) (he : Edge (applyL regs t pt tk s) i j) :
    (∃ n, n < s.length ∧ yn pt n = true ∧ i = n ∧ j = s.length + rk pt n) ∨ ∃ n m, Edge s n m ∧ i = bodyI pt s n ∧ j = m := by
  obtain ⟨n, hn, ⟨hp, rfl⟩ | rfl⟩ := apply_index he.1
  · left
    refine ⟨i, hn, hp, rfl, ?_⟩
    have := he.2.2
    rw [applyL_at hn, if_pos hp] at this
    rcases leads_cases this with ⟨_, e⟩ | ⟨e, _⟩
    · simp [putN] at e; omega
    · simp [putN] at e; omega
  · right
    have h1 := he.2.2
    rw [body_at hn, take_leads ht hk hn] at h1
    have hm := nd_mem hn
    refine ⟨n, j, ⟨hn, ?_, h1⟩, rfl, rfl⟩
    rcases leads_cases h1 with ⟨e1, e2⟩ | ⟨e1, e2⟩
    · have := hR.then_ hm e1; omega
    · have := hR.else_ hm e1; omega
structure LazyAt (regs : Int) (t : Tm) (s : List Nd) (F : Fx) (pt tk : List Bool) : Prop where
  R : Right regs s
  ok : TmOk regs t
  lone : Lone s
  all : ∀ n, n < s.length → Rch s n
  fx : IsFx t s F
  put : ∀ n, n < s.length → (yn pt n = true ↔ F.L n ∧ ¬ F.A n)
  take : ∀ n, n < s.length → (yn tk n = true ↔ Rc t s n ∧ (¬ F.L n ∨ ¬ F.A n))
variable {pt tk : List Bool}
theorem LazyAt.recs (h : LazyAt regs t s F pt tk) : ∀ n, n < s.length → yn tk n = true → Rc t s n := fun n hn e => ((h.take n hn).1 e).1
theorem LazyAt.lone' (h : LazyAt regs t s F pt tk) : Lone (applyL regs t pt tk s) := by
  intro i j he h0 k hk
  have ht := h.ok.op
  rcases edge_kind h.R ht h.recs he with ⟨n, hn, hp, rfl, rfl⟩ | ⟨n, m, he1, rfl, rfl⟩
  · rcases edge_kind h.R ht h.recs hk with ⟨n', hn', hp', rfl, e⟩ | ⟨n', m', he2, _, e⟩
    · exact rk_inj hp' hp (by omega)
    · have := he2.2.1; omega
  · rcases edge_kind h.R ht h.recs hk with ⟨n', hn', hp', _, e⟩ | ⟨n', m', he2, rfl, rfl⟩
    · have := he1.2.1; omega
    · have hop : (nd s n).op ≠ 0 := fun e => by
        rw [body_at he1.1] at h0
        unfold takeN at h0
        by_cases e2 : yn tk n = true
        · have := rc_op ht (h.recs n he1.1 e2); omega
        · rw [if_neg e2] at h0; exact h0 e
      rw [h.lone n j he1 hop n' he2]
theorem LazyAt.reach (h : LazyAt regs t s F pt tk) {i : Nat} (hi : i < (applyL regs t pt tk s).length) : Rch (applyL regs t pt tk s) i := by
  have ht := h.ok.op
  have hb : ∀ {n}, n < s.length → Rch (applyL regs t pt tk s) n → Rch (applyL regs t pt tk s) (bodyI pt s n) := fun {n} hn hr => by
    by_cases e : yn pt n = true
    · exact hr.next (edge_put ht hn e)
    · unfold bodyI; rw [if_neg e]; exact hr
  have hold : ∀ {n}, Rch s n → Rch (applyL regs t pt tk s) n := fun hr => by
    induction hr with
    | zero => exact .zero
    | next _ he ih => exact (hb he.1 ih).next (edge_body ht h.recs he)
  obtain ⟨n, hn, ⟨_, rfl⟩ | rfl⟩ := apply_index hi
  · exact hold (h.all _ hn)
  · exact hb hn (hold (h.all n hn))
theorem ways_lone {l : List Nd} (hl : Lone l) {regs : Int} (hR : Right regs l) : ∀ {k : Nat} {n' : Nd}, l[k]? = some n' → n'.op ≠ 0 → ∀ {j : Int}, leadsB n' j = true → ¬ 2 ≤ ways l j := fun {k n'} hk h0 {j} hj hw => by
  have hkl := (List.getElem?_eq_some_iff.1 hk).1
  have hnd := nd_get hk
  have hm := List.mem_of_getElem? hk
  have hb : 1 ≤ j ∧ j < l.length := by
    rcases leads_cases hj with ⟨e1, rfl⟩ | ⟨e1, rfl⟩
    · exact hR.then_ hm e1
    · exact hR.else_ hm e1
  have he : Edge l k j.toNat := ⟨hkl, by omega, by rw [hnd, Int.toNat_of_nonneg (by omega)]; exact hj⟩
  have key : ∀ i, i < l.length → aheadP l j.toNat i = true → i = k := fun i hi hp => by
    rw [aheadP_eq (nd_some hi)] at hp
    exact hl k j.toNat he (by rw [hnd]; exact h0) i ⟨hi, by omega, hp⟩
  have := sel_one (p := aheadP l j.toNat) (K := l.length) fun i i' hi hi' p1 p2 => by rw [key i hi p1, key i' hi' p2]
  unfold ways at hw
  omega
theorem LazyAt.again (h : LazyAt regs t s F pt tk) (hR : Right (regs + 1) (applyL regs t pt tk s)) : oneQ (applyL regs t pt tk s) = applyL regs t pt tk s := by
  unfold oneQ
  rw [trim_all hR fun j hj => rch_in hR (h.reach hj)]
  exact split_none (ways_lone h.lone' hR)
theorem LazyAt.noput (h : LazyAt regs t s F pt tk) {n : Nat} (hn : n < s.length) (e : ¬ (F.L n ∧ ¬ F.A n)) : bodyI pt s n = n := by
  unfold bodyI
  rw [if_neg fun x => e ((h.put n hn).1 x)]
theorem LazyAt.rc_body (h : LazyAt regs t s F pt tk) {n : Nat} (hn : n < s.length) : Rc t (applyL regs t pt tk s) (bodyI pt s n) ↔ Rc t s n ∧ F.L n ∧ F.A n := by
  have ht := h.ok.op
  have e : Rc t (applyL regs t pt tk s) (bodyI pt s n) ↔ Rc t s n ∧ ¬ yn tk n = true := by
    unfold Rc
    rw [body_at hn]
    unfold takeN
    by_cases e : yn tk n = true
    · rw [if_pos e]
      constructor
      · intro x
        unfold recB at x
        simp only [Bool.and_eq_true, beq_iff_eq] at x
        omega
      · exact fun x => absurd e x.2
    · rw [if_neg e]
      exact ⟨fun x => ⟨x, e⟩, fun x => x.1⟩
  rw [e, h.take n hn]
  constructor
  · rintro ⟨a, b⟩
    exact ⟨a, Classical.byContradiction fun x => b ⟨a, .inl x⟩, Classical.byContradiction fun x => b ⟨a, .inr x⟩⟩
  · rintro ⟨a, b, c⟩
    exact ⟨a, fun x => x.2.elim (fun y => y b) fun y => y c⟩
theorem LazyAt.kp_body (h : LazyAt regs t s F pt tk) {n : Nat} (hn : n < s.length) : Kp t (applyL regs t pt tk s) (bodyI pt s n) ↔ Kp t s n := by
  unfold Kp
  rw [body_at hn]
  unfold takeN
  by_cases e : yn tk n = true
  · rw [if_pos e]
    have := rc_op h.ok.op (h.recs n hn e)
    have hD : hasD (nd s n).op = true := by simp [hasD, inB]; omega
    have hD2 : hasD 2 = true := by decide
    simp only [keepB, hD, hD2]
  · rw [if_neg e]
theorem LazyAt.rc_put (h : LazyAt regs t s F pt tk) {n : Nat} (hn : n < s.length) (hp : yn pt n = true) : Rc t (applyL regs t pt tk s) n := by
  unfold Rc
  rw [applyL_at hn, if_pos hp]
  simp [recB, putN]
theorem LazyAt.down_up (h : LazyAt regs t s F pt tk) (hG : IsFx t (applyL regs t pt tk s) G) : ∀ n, n < s.length → F.Y n ∨ Stuck t s F n → G.D n := by
  have ht := h.ok.op
  have hlen := applyL_size regs t pt tk s
  have key := hG.down_le (fun i => i < s.length ∧ (F.Y i ∨ Stuck t s F i)) fun n hnq hP => by
    obtain ⟨hn, hP⟩ := hP
    by_cases hp : yn pt n = true
    · exact .inl (h.rc_put hn hp)
    · have hb : bodyI pt s n = n := h.noput hn fun x => hp ((h.put n hn).2 x)
      have hnA : F.L n → F.A n := fun hL => Classical.byContradiction fun hA => hp ((h.put n hn).2 ⟨hL, hA⟩)
      by_cases hr : Rc t s n
      · left
        rcases hP with hY | hS
        · have hL : F.L n := (h.fx.lateI hn).2 ⟨hY, .inl hr⟩
          have := (h.rc_body hn).2 ⟨hr, hL, hnA hL⟩
          rw [hb] at this
          exact this
        · exact absurd hr hS.2.1
      · right
        have hD : F.D n := hP.elim (h.fx.delay_down h.R (h.all n hn)) fun hS => hS.1
        obtain ⟨hk, ⟨m, hm⟩, hall⟩ := ((h.fx.downI hn).1 hD).resolve_left hr
        refine ⟨?_, ⟨m, ?_⟩, fun j hj => ?_⟩
        · have := (h.kp_body hn).2 hk
          rw [hb] at this
          exact this
        · have := edge_body (regs := regs) (pt := pt) ht h.recs hm
          rw [hb] at this
          exact this
        · rcases edge_kind h.R ht h.recs hj with ⟨n', hn', hp', e1, _⟩ | ⟨n', m', he, e1, rfl⟩
          · rw [← e1] at hp'; exact absurd hp' hp
          · have e2 : n' = n := body_inj he.1 hn (by rw [hb]; exact e1.symm)
            subst e2
            refine ⟨he.2.1, ?_⟩
            rcases hP with hY | hS
            · by_cases hL : F.L n'
              · exact .inr ((Stuck.next h.fx h.lone (n := n') ⟨hD, hr, hnA hL, .inl hL⟩ he).1)
              · exact .inl (h.fx.delay_next hY hL he).2
            · exact .inr (hS.next h.fx h.lone he).1
  exact fun n hn hP => key n (by omega) ⟨hn, hP⟩
theorem LazyAt.down_back (h : LazyAt regs t s F pt tk) (hG : IsFx t (applyL regs t pt tk s) G) {n : Nat} (hn : n < s.length) (hD : G.D n) : F.D n := by
  have ht := h.ok.op
  have hlen := applyL_size regs t pt tk s
  refine h.fx.down_le (fun n => G.D n ∨ F.D n) (fun n hn hP => ?_) n hn (.inl hD)
  by_cases hF : F.D n
  · rcases (h.fx.downI hn).1 hF with h1 | ⟨h1, h2, h3⟩
    · exact .inl h1
    · exact .inr ⟨h1, h2, fun m hm => .inr (h3 m hm)⟩
  · have hD := hP.resolve_right hF
    have hb : bodyI pt s n = n := h.noput hn fun x => hF (h.fx.delay_down h.R (h.all n hn) (h.fx.late_delay hn x.1))
    rcases (hG.downI (by omega)).1 hD with h1 | ⟨h1, ⟨j, hj⟩, h3⟩
    · rw [← hb] at h1
      exact .inl ((h.rc_body hn).1 h1).1
    · refine .inr ⟨?_, ?_, fun m hm => .inl (h3 m ?_)⟩
      · rw [← hb] at h1
        exact (h.kp_body hn).1 h1
      · rcases edge_kind h.R ht h.recs hj with ⟨n', hn', hp', e1, _⟩ | ⟨n', m', he, e1, rfl⟩
        · rw [← e1] at hp'
          have := (h.put n hn).1 hp'
          exact absurd (h.fx.delay_down h.R (h.all n hn) (h.fx.late_delay hn this.1)) hF
        · have e2 : n' = n := body_inj he.1 hn (by rw [hb]; exact e1.symm)
          subst e2
          exact ⟨j, he⟩
      · have := edge_body (regs := regs) (pt := pt) ht h.recs hm
        rw [hb] at this
        exact this
theorem LazyAt.up_back (h : LazyAt regs t s F pt tk) (hG : IsFx t (applyL regs t pt tk s) G) {n : Nat} (hn : n < s.length) (hU : G.U n) (hD : ¬ F.D n) : F.U n := by
  have ht := h.ok.op
  have hlen := applyL_size regs t pt tk s
  refine h.fx.up_le (fun n => F.U n ∨ G.U n ∧ ¬ F.D n) (fun n hn hP => ?_) n hn (.inr ⟨hU, hD⟩)
  rcases hP with hF | ⟨hU, hD⟩
  · obtain ⟨h1, h2⟩ := (h.fx.upI hn).1 hF
    exact ⟨h1, fun m hm => ⟨(h2 m hm).1, (h2 m hm).2.imp .inl id⟩⟩
  · obtain ⟨⟨k, hk⟩, h2⟩ := (hG.upI (by omega)).1 hU
    refine ⟨?_, fun m hm => ?_⟩
    · rcases edge_kind h.R ht h.recs hk with ⟨n', hn', hp', _, e⟩ | ⟨n', m', he, _, rfl⟩
      · omega
      · exact ⟨n', he⟩
    · obtain ⟨a1, a2⟩ := h2 _ (edge_body (regs := regs) (pt := pt) ht h.recs hm)
      refine ⟨(h.kp_body hm.1).1 a1, ?_⟩
      by_cases hr : Rc t s m
      · exact .inr hr
      · have hDm : ¬ F.D m := fun x => hD (h.fx.down_next x hr hm).2
        have hb : bodyI pt s m = m := h.noput hm.1 fun x => hDm (h.fx.delay_down h.R (h.all m hm.1) (h.fx.late_delay hm.1 x.1))
        rcases a2 with a2 | a2
        · rw [hb] at a2
          exact .inl (.inr ⟨a2, hDm⟩)
        · exact absurd ((h.rc_body hm.1).1 a2).1 hr
theorem LazyAt.still (h : LazyAt regs t s F pt tk) (hG : IsFx t (applyL regs t pt tk s) G) : (∀ i, i < (applyL regs t pt tk s).length → G.A i) ∧ ∀ i, i < (applyL regs t pt tk s).length → Rc t (applyL regs t pt tk s) i → G.L i := by
  have ht := h.ok.op
  have hlen := applyL_size regs t pt tk s
  have hY := hG.delay_le (fun i => i < s.length ∧ F.Y i) fun n hnq hP => by
    obtain ⟨hn, hY⟩ := hP
    by_cases hE : F.E n
    · left
      refine (hG.earlyI hnq).2 ⟨h.down_up hG n hn (.inl hY), ?_⟩
      by_cases hpre : ∃ m, Edge s m n
      · obtain ⟨m, hm⟩ := hpre
        refine .inr ⟨_, edge_body (regs := regs) (pt := pt) ht h.recs hm, ?_⟩
        rcases h.fx.early_back h.lone hE hm with hk | ⟨hD, hU⟩
        · exact .inl fun x => hk ((h.kp_body hm.1).1 x)
        · have hb : bodyI pt s m = m := h.noput hm.1 fun x => hD (h.fx.delay_down h.R (h.all m hm.1) (h.fx.late_delay hm.1 x.1))
          rw [hb]
          exact .inr ⟨fun x => hD (h.down_back hG hm.1 x), fun x => hU (h.up_back hG hm.1 x hD)⟩
      · refine .inl fun ⟨k, hk⟩ => ?_
        rcases edge_kind h.R ht h.recs hk with ⟨n', hn', hp', _, e⟩ | ⟨n', m', he, _, rfl⟩
        · omega
        · exact hpre ⟨n', he⟩
    · right
      obtain ⟨⟨m, hm⟩, _⟩ := ((h.fx.delayI hn).1 hY).resolve_left hE
      refine ⟨⟨_, edge_body (regs := regs) (pt := pt) ht h.recs hm⟩, fun k hk => ?_⟩
      rcases edge_kind h.R ht h.recs hk with ⟨n', hn', hp', _, e⟩ | ⟨n', m', he, rfl, rfl⟩
      · omega
      · obtain ⟨b1, b2, b3⟩ := h.fx.delay_back h.lone hY hE he
        have hb : bodyI pt s n' = n' := h.noput he.1 fun x => b3 x.1
        have hr : ¬ Rc t (applyL regs t pt tk s) (bodyI pt s n') := fun x => b2 ((h.rc_body he.1).1 x).1
        rw [hb] at hr ⊢
        exact ⟨⟨he.1, b1⟩, hr⟩
  have hL : ∀ i, i < (applyL regs t pt tk s).length → Rc t (applyL regs t pt tk s) i → G.L i := fun i hi hr => by
    refine (hG.lateI hi).2 ⟨?_, .inl hr⟩
    obtain ⟨n, hn, ⟨hp, rfl⟩ | rfl⟩ := apply_index hi
    · exact hY _ hi ⟨hn, h.fx.late_delay hn ((h.put _ hn).1 hp).1⟩
    · obtain ⟨_, b2, b3⟩ := (h.rc_body hn).1 hr
      have hb : bodyI pt s n = n := h.noput hn fun x => x.2 b3
      rw [hb] at hi ⊢
      exact hY n hi ⟨hn, h.fx.late_delay hn b2⟩
  refine ⟨fun i hi => hG.alone_le (fun _ => True) (fun n hn _ m hm => ?_) i hi trivial, hL⟩
  by_cases hr : Rc t (applyL regs t pt tk s) m
  · exact .inl (hL m hm.2.1 hr)
  · exact .inr ⟨hr, trivial⟩
end
theorem one_again {regs : Int} {t : Tm} {l : List Nd} (h : oneE regs l t = 0) : (oneQ (oneL regs l t)).length ≤ 256 ∧ oneE (oneR regs l t) (oneL regs l t) t = 0 ∧ oneR (oneR regs l t) (oneL regs l t) t = oneR regs l t ∧ oneL (oneR regs l t) (oneL regs l t) t = oneL regs l t := by
  obtain ⟨h0, h1, h2⟩ := oneE_parts h
  have hR := right_of_chk (fxE_chk h0)
  by_cases hA : oneAny t l = true
  · have e1 : oneR regs l t = regs + 1 := if_pos hA
    have e2 : oneL regs l t = applyL regs t (oneX t l) (oneY t l) (oneQ l) := if_pos hA
    have hQ := oneQ_right (fxE_chk h0) h1
    have hT := fxE_tm h0
    have hM := h2 hA
    have hRq := apply_right hQ hM
    have hZ : LazyAt regs t (oneQ l) (fxOf t (oneQ l)) (oneX t l) (oneY t l) := by
      refine ⟨hQ, hT, lone_split hR.trim, fun n hn => oneQ_rch hR hn, fxOf_is t (oneQ l), fun n hn => ?_, fun n hn => ?_⟩
      · unfold oneX
        rw [fx_lazyX hn, Bool.and_eq_true, yn_bnot]; exact Iff.rfl
      · unfold oneY
        rw [fx_lazyY hQ hT.op hn, Bool.and_eq_true, Bool.or_eq_true, yn_bnot, yn_bnot]; exact Iff.rfl
    have hq := hZ.again hRq
    obtain ⟨hS1, hS2⟩ := hZ.still (fxOf_is t (applyL regs t (oneX t l) (oneY t l) (oneQ l)))
    rw [e1, e2]
    generalize hqq : applyL regs t (oneX t l) (oneY t l) (oneQ l) = q at *
    have hno : oneAny t q = false := by
      unfold oneAny
      rw [List.any_eq_false]
      intro b hb
      have hx : ∀ n, n < q.length → yn (oneX t q) n = false := fun n hn => by
        unfold oneX
        rw [hq, fx_lazyX hn]
        have : yn (fxOf t q).alone n = true := hS1 n hn
        simp [this]
      have hy : ∀ n, n < q.length → yn (oneY t q) n = false := fun n hn => by
        unfold oneY
        rw [hq, fx_lazyY hRq hT.op hn]
        have h3 : yn (fxOf t q).alone n = true := hS1 n hn
        cases hr : recB t (nd q n) with
        | false => rfl
        | true =>
          have h4 : yn (fxOf t q).late n = true := hS2 n hn hr
          rw [h3, h4]; rfl
      have hall : ∀ (x : List Bool), x.length = q.length → (∀ n, n < q.length → yn x n = false) → ∀ b ∈ x, b = false := fun x hl hx b hb => by
        obtain ⟨i, hi⟩ := List.mem_iff_getElem?.1 hb
        have hil := (List.getElem?_eq_some_iff.1 hi).1
        have := hx i (by omega)
        unfold yn at this
        rw [List.getD_eq_getElem?_getD, hi] at this
        exact this
      have : b = false := by
        rcases List.mem_append.1 hb with e | e
        · exact hall _ (by rw [oneX_len, hq]) hx b e
        · exact hall _ (by rw [oneY_len, hq]) hy b e
      simp [this]
    have hf : fxE (regs + 1) q t = 0 := by
      have hc := hRq.chk
      have ha := hT.a
      have hb := hT.b
      have h3 := h0
      unfold fxE at h3 ⊢
      rw [if_neg (by simp [hc])]
      rw [if_neg (by simp [fxE_chk h0])] at h3
      split at h3
      · cases h3
      · rename_i h4
        rw [if_neg h4]
        refine if_neg ?_
        simp [inB]
        omega
    have hlen : (oneQ q).length ≤ 256 := by rw [hq]; exact hRq.hi
    refine ⟨hlen, ?_, ?_, ?_⟩
    · unfold oneE
      rw [if_neg (by simp [hf]), if_neg (by omega), if_neg (by rw [hno]; simp)]
    · unfold oneR
      rw [if_neg (by rw [hno]; simp)]
    · unfold oneL
      rw [if_neg (by rw [hno]; simp)]
  · have e1 : oneR regs l t = regs := if_neg hA
    have e2 : oneL regs l t = l := if_neg hA
    rw [e1, e2, e1, e2]
    exact ⟨h1, h, rfl, rfl⟩
end
end Go.Proofs.Ytmghkonmfbpjcab
