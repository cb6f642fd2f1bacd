/- Parts. -/
import Derived.Test.YtmghkonmfbpjcabGreatDoorRunT
import Derived.Shelf.SlSortCmp.WholeK
set_option linter.unusedVariables false
set_option linter.unusedSimpArgs false
set_option maxRecDepth 100000
set_option maxHeartbeats 8000000
namespace Go.Proofs.YtmghkonmfbpjcabGreatDoor
open Go.RowKit
open Go.Proofs.Tryz
section
open Go.Maps
attribute [local irreducible] Row madeCells cV
theorem Y9 {P : Prop} (h : P := by (
 have h1 := h.rng n hn
 have h2 := h.rlo
 simp only [kI, okR, hd, Uf, Bool.not_eq_false', Bool.not_true, Bool.false_or, V9, decide_eq_true_eq] at h1
 omega)) : P := h
section
variable {regs : Int} {l : List Nd}
theorem bM.dR (h : bM regs l) {n : Nd} (hn : n ∈ l) (hd : dE n.op = true) : 0 ≤ n.d ∧ n.d < (regs.toNat : Int) := by exact Y9
theorem bM.aR (h : bM regs l) {n : Nd} (hn : n ∈ l) (hd : dC n.op = true) : 0 ≤ n.a ∧ n.a < (regs.toNat : Int) := by exact Y9
theorem bM.bR (h : bM regs l) {n : Nd} (hn : n ∈ l) (hd : cG n.op = true) : 0 ≤ n.b ∧ n.b < (regs.toNat : Int) := by exact Y9
theorem bM.t0 (h : bM regs l) {n : Nd} (hn : n ∈ l) : 0 ≤ n.t := by (
 by_cases h12 : n.op = 12
 · (
 have h := h.frm n hn
 simp only [badF, okF, shT, h12, Uf, Bool.not_eq_false', Bool.or_eq_true, beq_iff_eq] at h
 rcases h.1.2 with e | e
 · simp at e
 · omega)
 · (
 have := h.then_ hn h12
 omega))
theorem sQ {z : Int} (h0 : -1000 ≤ z) (h1 : z ≤ 1000) : (Lit.int .i64 z).wf = true := by (
 unfold Lit.wf
 rw [V9]
 exact ⟨decide_eq_true Z7, decide_eq_true Z9⟩)
theorem bM.key_ (h : bM regs l) {n : Nd} (hn : n ∈ l) (hB : cG n.op = true) : ∃ k, keyOf prog 56 (Tm.val ⟨n.op, n.a, n.b⟩) = some k := by (
 have hA : dC n.op = true := by (
 simp only [cG, dC, inB, V9, Bool.or_eq_true, decide_eq_true_eq] at *
 omega)
 have ha := h.aR hn hA
 have hb := h.bR hn hB
 have h2 := h.rhi
 have h3 := h.rlo
 simp only [cG, inB, V9, decide_eq_true_eq] at hB
 exact bIJ ⟨n.op, n.a, n.b⟩ (sQ (by show _ ≤ n.op; omega) (by show n.op ≤ _; omega)) (sQ (by show _ ≤ n.a; omega) (by show n.a ≤ _; omega)) (sQ (by show _ ≤ n.b; omega) (by show n.b ≤ _; omega)))
end
theorem bLZ (w : World) (regs : Int) (A : Option Addr) (l : List Nd) (cap : Nat) (inp : List Int) (mb gr gm : Nat) (Ai : Option Addr) (ci : Nat) (ov : Value) (s : Rn) (W : World) (hM : MSt w regs A l cap inp mb gr gm Ai ci ov s W) (hA : bH w A l) (hR : bM regs l) (hok : yE regs l inp s) (hst : s.steps < 1000000) :
 Calls prog 60 #[.pointer (some ⟨mb, 0, none⟩), .int .i64 s.pos] W fun e' W' => e' = .returned (.int .i64 (jB l inp s).pos) ∧ ∃ Ai' ci' ov', MSt w regs A l cap inp mb gr gm Ai' ci' ov' (jB l inp s) W' := by (
 obtain ⟨r1, r2, r3, r4, r5, r6⟩ := hok
 have hr64 : regs.toNat ≤ 64 := by have := hR.rhi; omega
 have hg : l[s.pos]? = some (nd l s.pos) := by rw [nd, Vy, Vx r2]; rfl
 have hn := V4 hg
 obtain ⟨n, hnn⟩ := Exq (nd l s.pos)
 rw [← hnn] at hg hn
 have ht0 := hR.t0 hn
 have hop := hR.ok n hn
 obtain ⟨op, d, a, b, t, e⟩ := n
 have hL : ((t.toNat : Nat) : Int) = t := Ue ht0
 have fin : ∀ {z : Int} {s' : Rn} {E : Ending} {W' : World} (p : Nat), z = (p : Int) → jB l inp s = { s' with pos := p } → (E = .returned (.int .i64 z) ∧ ∃ Ai' ci' ov', MSt w regs A l cap inp mb gr gm Ai' ci' ov' s' W') →
  (E = .returned (.int .i64 (jB l inp s).pos) ∧ ∃ Ai' ci' ov', MSt w regs A l cap inp mb gr gm Ai' ci' ov' (jB l inp s) W') := by (
 rintro z s' E W' p rfl h2 ⟨rfl, A', c', o', h⟩
 rw [h2]
 exact ⟨rfl, A', c', o', h.pos_ p⟩)
 have hS : jB l inp s = jB l inp s := rfl
 conv at hS => rhs; unfold jB
 simp only [← hnn] at hS
 by_cases h1 : op = 1
 · (
 subst h1
 exact (bLS w regs A l cap inp mb gr gm Ai ci ov s W hM hA hR.hi r2 hst r1 hr64 d a b t e hg (hR.dR hn rfl)).mono fun E W' h => fin t.toNat hL.symm (by rw [hS]; rfl) h)
 by_cases h2 : op = 2
 · (
 subst h2
 exact (bJC w regs A l cap inp mb gr gm Ai ci ov s W hM hA hR.hi r2 hst r1 hr64 d a b t e hg (hR.dR hn rfl) (hR.aR hn rfl)).mono fun E W' h => fin t.toNat hL.symm (by rw [hS]; rfl) h)
 by_cases hB : cG op = true
 · (
 have hDA : dE op = true ∧ dC op = true := by (
 simp only [cG, dE, dC, inB, V9, Bool.or_eq_true, decide_eq_true_eq] at *
 omega)
 obtain ⟨kl, hkl⟩ := hR.key_ hn hB
 exact (bBW w regs A l cap inp mb gr gm Ai ci ov s W hM hA hR.hi r2 hst r1 hr64 op d a b t e hg (hR.dR hn hDA.1) (hR.aR hn hDA.2) (hR.bR hn hB) hB kl hkl Zb).mono fun E W' h => fin t.toNat hL.symm (by rw [hS, if_neg h1, if_neg h2, if_pos hB]; rfl) h)
 by_cases h9 : op = 9
 · (
 subst h9
 by_cases hi : s.read < inp.length
 · exact (bLU w regs A l cap inp mb gr gm Ai ci ov s W hM hA hR.hi r2 hst r1 hr64 d a b t e hg (hR.dR hn rfl) hi).mono fun E W' h => fin t.toNat hL.symm (by rw [hS, if_neg h1, if_neg h2, if_neg hB, if_pos rfl, if_pos hi]) h
 · exact (bLV w regs A l cap inp mb gr gm Ai ci ov s W hM hA hR.hi r2 hst r1 hr64 d a b t e hg (hR.dR hn rfl) Zb).mono fun E W' h => fin t.toNat hL.symm (by rw [hS, if_neg h1, if_neg h2, if_neg hB, if_pos rfl, if_neg hi]) h)
 by_cases h10 : op = 10
 · (
 subst h10
 exact (bLT w regs A l cap inp mb gr gm Ai ci ov s W hM hA hR.hi r2 hst r1 hr64 d a b t e hg (hR.aR hn rfl) Zb).mono fun E W' h => fin t.toNat hL.symm (by rw [hS, if_neg h1, if_neg h2, if_neg hB, if_neg h9, if_pos rfl]) h)
 by_cases h11 : op = 11
 · (
 subst h11
 by_cases hz : rg s.regs a = 0
 · (
 have he := hR.else_ hn rfl
 exact (bLX w regs A l cap inp mb gr gm Ai ci ov s W hM hA hR.hi r2 hst r1 hr64 d a b t e hg (hR.aR hn rfl) hz).mono fun E W' h => fin e.toNat (by simp only at he; omega) (by rw [hS, if_neg h1, if_neg h2, if_neg hB, if_neg h9, if_neg h10, if_pos rfl, if_pos hz]) h)
 · exact (bLW w regs A l cap inp mb gr gm Ai ci ov s W hM hA hR.hi r2 hst r1 hr64 d a b t e hg (hR.aR hn rfl) hz).mono fun E W' h => fin t.toNat hL.symm (by rw [hS, if_neg h1, if_neg h2, if_neg hB, if_neg h9, if_neg h10, if_pos rfl, if_neg hz]) h)
 by_cases h12 : op = 12
 · (
 subst h12
 exact (bLY w regs A l cap inp mb gr gm Ai ci ov s W hM hA hR.hi r2 hst r1 hr64 d a b t e hg (hR.aR hn rfl)).mono fun E W' h => fin t.toNat hL.symm (by rw [hS, if_neg h1, if_neg h2, if_neg hB, if_neg h9, if_neg h10, if_neg h11, if_pos rfl]) h)
 have h0 : op = 0 := by (
 simp only [gG, cG, inB, V9, decide_eq_true_eq] at *
 omega)
 subst h0
 exact (bJB w regs A l cap inp mb gr gm Ai ci ov s W hM hA hR.hi r2 hst r1 hr64 d a b t e hg).mono fun E W' h => fin t.toNat hL.symm (by rw [hS, if_neg h1, if_neg h2, if_neg hB, if_neg h9, if_neg h10, if_neg h11, if_neg h12]) h)
end
section
open Go.Maps
theorem bDC {key : Value} {kl : Lit} (h : keyOf prog 56 key = some kl) : ∃ t : Tm, key = t.val := by (
 obtain ⟨s, hs⟩ : ∃ s, prog.types.size + 1 = s + 2 := ⟨prog.types.size - 1, Zc⟩
 simp only [keyOf, underlying56] at h
 replace h : (if (prog.keyType 56 && key.formed prog 56) = true then (prog.keyLits (prog.types.size + 1) 56 key.cells.toList).map fun ls => Lit.string (keyBytes ls) else none) = some kl := h
 split at h
 · (
 rename_i hf
 rw [V9] at hf
 have hf := hf.2
 cases key with
 | agg cs =>
  simp only [Value.formed, underlying56, qJ, beq_iff_eq] at hf
  obtain ⟨l⟩ := cs
  match l, hf with
  | [x, y, z], _ =>
   rw [hs] at h
   simp only [Program.keyLits, underlying56, qJ, Value.cells] at h
   obtain ⟨ls, h, _⟩ := Option.map_eq_some_iff.1 h
   split at h
   · (
 obtain ⟨lss, h, _⟩ := Option.map_eq_some_iff.1 h
 simp only [List.mapM_cons, List.mapM_nil, bEG, underlying3, List.drop_zero, List.drop_succ_cons, List.take_succ_cons, List.take_zero, bind, Option.bind_eq_some_iff] at h
 obtain ⟨r0, h0, _, ⟨r1, h1, _, ⟨r2, h2, _⟩, _⟩, _⟩ := h
 obtain ⟨n0, rfl⟩ : ∃ n, x = .int .i64 n := by (
 cases x <;> simp at h0
 exact ⟨_, by rw [h0.1.1]⟩)
 obtain ⟨n1, rfl⟩ : ∃ n, y = .int .i64 n := by (
 cases y <;> simp at h1
 exact ⟨_, by rw [h1.1.1]⟩)
 obtain ⟨n2, rfl⟩ : ∃ n, z = .int .i64 n := by (
 cases z <;> simp at h2
 exact ⟨_, by rw [h2.1.1]⟩)
 exact ⟨⟨n0, n1, n2⟩, rfl⟩)
   · cases h
 | _ => simp [Value.formed, underlying56] at hf)
 · cases h)
structure Got (D : DataW Unit) (ts : List Tm) (left : Lit → Bool) (cs : List Ct) : Prop where
 val : ∀ x ∈ cs, x.2 = (ts.count x.1 : Int) ∧ ∃ kl, keyOf prog 56 x.1.val = some kl ∧ left kl = false ∧ Maps.has D kl = true
 all : ∀ kl, Maps.has D kl = true → left kl = false → ∃ x ∈ cs, keyOf prog 56 x.1.val = some kl
 one : (cs.map Prod.fst).Nodup
 sub : ∀ kl, left kl = true → Maps.has D kl = true
theorem Got.start (D : DataW Unit) (ts : List Tm) : Got D ts (Maps.has D) [] :=
 ⟨fun x hx => (by cases hx), fun kl h1 h2 => (by rw [h1] at h2; cases h2), List.nodup_nil, fun kl h => h⟩
theorem Got.step {D : DataW Unit} {ts : List Tm} {left : Lit → Bool} {cs : List Ct} (h : Got D ts left cs) {t : Tm} {kl : Lit} (hk : keyOf prog 56 t.val = some kl) (hl : left kl = true) {c : Int} (hc : c = (ts.count t : Int)) :
 Got D ts (fun z => left z && !z.sameKey kl) (cs ++ [(t, c)]) := by (
 obtain ⟨sb, rfl⟩ := fI.str hk
 have hkl : WideAt.IsKeyLit (.string sb) := trivial
 refine ⟨fun x hx => ?_, fun kl' h1 h2 => ?_, ?_, fun kl' hl' => h.sub kl' (by rw [V9] at hl'; exact hl'.1)⟩
 · (
 rcases List.mem_append.1 hx with hx | hx
 · (
 obtain ⟨h1, kl', h2, h3, h4⟩ := h.val x hx
 exact ⟨h1, kl', h2, by rw [h3]; rfl, h4⟩)
 · (
 simp at hx
 subst hx
 exact ⟨hc, _, hk, by rw [WideAt.sameKey_self hkl]; simp, h.sub _ hl⟩))
 · (
 rw [Bool.and_eq_false_iff] at h2
 by_cases he : kl' = .string sb
 · exact ⟨(t, c), Zf, by rw [he]; exact hk⟩
 · (
 rcases h2 with h2 | h2
 · (
 obtain ⟨x, hx, hxk⟩ := h.all kl' h1 h2
 exact ⟨x, by simp [hx], hxk⟩)
 · exact absurd (WideAt.sameKey_eq (by simpa using h2)) he))
 · (
 rw [List.map_append, List.nodup_append]
 refine ⟨h.one, Zf, fun a ha b hb => ?_⟩
 simp at hb
 subst hb
 rintro rfl
 obtain ⟨x, hx, hxe⟩ := List.mem_map.1 ha
 obtain ⟨_, kl', h2, h3, _⟩ := h.val x hx
 rw [hxe, hk] at h2
 rw [← Option.some.inj h2, hl] at h3
 cases h3))
theorem Got.count {D : DataW Unit} {ts : List Tm} {left : Lit → Bool} {cs : List Ct} (h : Got D ts left cs) (hall : ∀ kl, left kl = false)
 (h1 : ∀ l, Maps.has D l = true → ∃ t ∈ ts, keyOf prog 56 t.val = some l) (h2 : ∀ t ∈ ts, ∃ l, keyOf prog 56 t.val = some l ∧ Maps.has D l = true)
 {ds : List Ct} (hp : ds.Perm cs) (hA : Asc ds) : ds = mJ ts := by (
 have hmem : ∀ x ∈ ds, x.2 = (ts.count x.1 : Int) ∧ x.1 ∈ ts := fun x hx => by (
 obtain ⟨e1, kl, e2, _, e3⟩ := h.val x (hp.mem_iff.1 hx)
 obtain ⟨t, ht, e4⟩ := h1 kl e3
 have : x.1 = t := vH (fI.inj e2 e4)
 exact ⟨e1, this ▸ ht⟩)
 refine xB _ _ hA (bEB ts) (fun x hx => ?_) (bDZ ts) fun t => ?_
 · (
 obtain ⟨e1, e2⟩ := hmem x hx
 rw [e1]
 exact Int.natCast_pos.2 (List.count_pos_iff.2 e2))
 · (
 rw [bEA]
 by_cases ht : t ∈ ts
 · (
 obtain ⟨l, e1, e2⟩ := h2 t ht
 obtain ⟨x, hx, e3⟩ := h.all l e2 (hall l)
 have hxt : x.1 = t := vH (fI.inj e3 e1)
 subst hxt
 rw [bKN hA (hp.mem_iff.2 hx)]
 exact (h.val x hx).1)
 · (
 rw [List.count_eq_zero_of_not_mem ht]
 exact jK fun x hx e => ht (e ▸ (hmem x hx).2))))
end
section
open Go.Maps
attribute [local irreducible] Row madeCells cV
def sX (regs : Int) (l : List Nd) (inp : List Int) (fuel : Int) : Int := if chk regs l = 0 then (if 256 < inp.length then 2 else if fuel < 0 ∨ 131072 < fuel then 3 else 0) else chk regs l
structure Rs where
 out : List Int
 ret : Int
 ended : Bool
 steps : Nat
 cts : List Ct
deriving DecidableEq
def Rn.told (s : Rn) : Rs := ⟨s.out, s.ret, s.ended, s.steps, mJ s.ts⟩
def noRs : Rs := ⟨[], 0, false, 0, []⟩
def uQ (regs : Int) (l : List Nd) (inp : List Int) (fuel : Int) : Rs := if sX regs l inp fuel = 0 then (bMH regs l inp fuel.toNat).told else noRs
def xF (tI tC : TypeId) (B : Nat) (W : World) (v : Value) (r : Rs) : Prop := ∃ ov cv, v = .agg #[ov, .int .i64 r.ret, .bool r.ended, .int .i64 r.steps, cv] ∧ Row W B tI ov (bN r.out) ∧ xN W B tC cv r.cts
def iZ (tI tC : TypeId) (regs : Int) (l : List Nd) (inp : List Int) (fuel : Int) (w : World) (e : Ending) (w' : World) : Prop :=
 Below w.heap.size w w' ∧ ∃ v, e = .returned (.tuple #[v, .int .i64 (sX regs l inp fuel)]) ∧ xF tI tC w.heap.size w' v (uQ regs l inp fuel)
theorem xF.none_ {tI tC : TypeId} {B : Nat} {W : World} : xF tI tC B W (.agg #[.slice none 0 0, .int .i64 0, .bool false, .int .i64 0, .slice none 0 0]) noRs :=
 ⟨_, _, rfl, Row.nil_ _ _ _, bO.nil_ _ _ _⟩
theorem bOL (regs : Int) (A : Option Addr) (l : List Nd) (cap : Nat) (Ai : Option Addr) (inp : List Int) (ci : Nat) (fuel : Int) (w : World) (hl : l.length ≤ maxLen) (hA : bH w A l) (h0 : chk regs l ≠ 0) :
 Calls prog 25 #[.agg #[.int .i64 regs, .slice A l.length cap], .slice Ai inp.length ci, .int .i64 fuel] w (iZ 3 114 regs l inp fuel w) := by (
 refine Vp fun hC HC => ?_
 have hE : sX regs l inp fuel = chk regs l := by rw [sX, if_neg h0]
 have hS : uQ regs l inp fuel = noRs := by rw [uQ, if_neg (by rw [hE]; exact h0)]
 unfold iZ
 rw [hE, hS]
 have hne : (chk regs l != 0) = true := by simpa using h0
 clear hC hE hS h0 hA
 generalize chk regs l = c at *
 go_enter func25, ntmps25
 go_wp2_with fail
 refine (HC.o _ Yc).mono ?_
 rintro e w1 ⟨rfl, hb1⟩
 refine Ke fun hB hP f0 f1 f2 f3 f4 lp p0 p1 p2 p3 p4 => ?_
 go_wp2_with fail
 refine bodyPost_ret (v := .tuple #[.agg #[.slice none 0 0, .int .i64 0, .bool false, .int .i64 0, .slice none 0 0], .int .i64 c]) (by simp [results, results25, go_sem, p0, p1, p2, p3, p4, Vw, Vv]) rfl ?_
 exact ⟨Yc, _, rfl, xF.none_⟩)
theorem bOK (regs : Int) (A : Option Addr) (l : List Nd) (cap : Nat) (Ai : Option Addr) (inp : List Int) (ci : Nat) (fuel : Int) (w : World) (hl : l.length ≤ maxLen) (hA : bH w A l) (h0 : chk regs l = 0) (h1 : 256 < inp.length) :
 Calls prog 25 #[.agg #[.int .i64 regs, .slice A l.length cap], .slice Ai inp.length ci, .int .i64 fuel] w (iZ 3 114 regs l inp fuel w) := by (
 refine Wv fun hC HC => ?_
 have hE : sX regs l inp fuel = 2 := by rw [sX, if_pos h0, if_pos h1]
 have hS : uQ regs l inp fuel = noRs := by rw [uQ, hE]; rfl
 unfold iZ
 rw [hE, hS]
 clear hC hE hS h0 hA
 have h2 : (256 : Int) < (inp.length : Int) := Zb
 clear h1
 go_enter func25, ntmps25
 go_wp2_with fail
 refine (HC.o _ Yc).mono ?_
 rintro e w1 ⟨rfl, hb1⟩
 refine Ke fun hB hP f0 f1 f2 f3 f4 lp p0 p1 p2 p3 p4 => ?_
 go_wp2_with fail
 refine bodyPost_ret (v := .tuple #[.agg #[.slice none 0 0, .int .i64 0, .bool false, .int .i64 0, .slice none 0 0], .int .i64 2]) (by simp [results, results25, go_sem, p0, p1, p2, p3, p4, Vw, Vv]) rfl ?_
 exact ⟨Yc, _, rfl, xF.none_⟩)
theorem bKW (regs : Int) (A : Option Addr) (l : List Nd) (cap : Nat) (Ai : Option Addr) (inp : List Int) (ci : Nat) (fuel : Int) (w : World) (hl : l.length ≤ maxLen) (hA : bH w A l) (h0 : chk regs l = 0) (h1 : inp.length ≤ 256) (h2 : fuel < 0) :
 Calls prog 25 #[.agg #[.int .i64 regs, .slice A l.length cap], .slice Ai inp.length ci, .int .i64 fuel] w (iZ 3 114 regs l inp fuel w) := by (
 refine Wv fun hC HC => ?_
 have hE : sX regs l inp fuel = 3 := by rw [sX, if_pos h0, if_neg Zb, if_pos (.inl h2)]
 have hS : uQ regs l inp fuel = noRs := by rw [uQ, hE]; rfl
 unfold iZ
 rw [hE, hS]
 clear hC hE hS h0 hA
 have h3 : ¬ (256 : Int) < (inp.length : Int) := Zb
 go_enter func25, ntmps25
 go_wp2_with fail
 refine (HC.o _ Yc).mono ?_
 rintro e w1 ⟨rfl, hb1⟩
 refine Ke fun hB hP f0 f1 f2 f3 f4 lp p0 p1 p2 p3 p4 => ?_
 go_wp2_with fail
 refine bodyPost_ret (v := .tuple #[.agg #[.slice none 0 0, .int .i64 0, .bool false, .int .i64 0, .slice none 0 0], .int .i64 3]) (by simp [results, results25, go_sem, p0, p1, p2, p3, p4, Vw, Vv]) rfl ?_
 exact ⟨Yc, _, rfl, xF.none_⟩)
theorem bKV (regs : Int) (A : Option Addr) (l : List Nd) (cap : Nat) (Ai : Option Addr) (inp : List Int) (ci : Nat) (fuel : Int) (w : World) (hl : l.length ≤ maxLen) (hA : bH w A l) (h0 : chk regs l = 0) (h1 : inp.length ≤ 256) (h2 : 131072 < fuel) :
 Calls prog 25 #[.agg #[.int .i64 regs, .slice A l.length cap], .slice Ai inp.length ci, .int .i64 fuel] w (iZ 3 114 regs l inp fuel w) := by (
 refine Wv fun hC HC => ?_
 have hE : sX regs l inp fuel = 3 := by rw [sX, if_pos h0, if_neg Zb, if_pos (.inr h2)]
 have hS : uQ regs l inp fuel = noRs := by rw [uQ, hE]; rfl
 unfold iZ
 rw [hE, hS]
 clear hC hE hS h0 hA
 have h3 : ¬ (256 : Int) < (inp.length : Int) := Zb
 have h4 : ¬ fuel < 0 := Zb
 go_enter func25, ntmps25
 go_wp2_with fail
 refine (HC.o _ Yc).mono ?_
 rintro e w1 ⟨rfl, hb1⟩
 refine Ke fun hB hP f0 f1 f2 f3 f4 lp p0 p1 p2 p3 p4 => ?_
 go_wp2_with fail
 refine bodyPost_ret (v := .tuple #[.agg #[.slice none 0 0, .int .i64 0, .bool false, .int .i64 0, .slice none 0 0], .int .i64 3]) (by simp [results, results25, go_sem, p0, p1, p2, p3, p4, Vw, Vv]) rfl ?_
 exact ⟨Yc, _, rfl, xF.none_⟩)
end
section
attribute [local irreducible] Row madeCells
abbrev Ct.val (n : Ct) : Value := .agg #[.int .i64 n.1.op, .int .i64 n.1.a, .int .i64 n.1.b, .int .i64 n.2]
theorem bEC : ∀ {cs : List Ct} {k : Nat} {x : Ct} {t : Tm}, cs[k]? = some x → x.1 = t → (∀ j y, j < k → cs[j]? = some y → y.1 ≠ t) → fP cs t = x.2
 | [], k, x, t, h, _, _ => by simp at h
 | (u, n) :: cs, 0, x, t, h, ht, _ => by (
 simp at h
 subst h
 rw [cP, if_pos ht])
 | (u, n) :: cs, k + 1, x, t, h, ht, hno => by (
 rw [cP, if_neg (hno 0 (u, n) Zb rfl)]
 exact bEC (by simpa using h) ht fun j y hj hy => hno (j + 1) y Zb (by simpa using hy))
theorem bNZ {cs : List Ct} {t : Tm} (h : ∀ j y, j < cs.length → cs[j]? = some y → y.1 ≠ t) : fP cs t = 0 :=
 jK fun x hx => by (
 obtain ⟨j, hj, e⟩ := List.getElem_of_mem hx
 exact h j x hj Xy)
theorem bKR (O : Option Addr) (on oc : Nat) (rt : Int) (en : Bool) (st : Int) (C : Option Addr) (cc : Nat) (cs : List Ct) (t : Tm) (w : World) (hC : bQT w C cs) (hl : cs.length ≤ maxLen) :
 Calls prog 27 #[.agg #[.slice O on oc, .int .i64 rt, .bool en, .int .i64 st, .slice C cs.length cc], .agg #[.int .i64 t.op, .int .i64 t.a, .int .i64 t.b]] w fun e w' => e = .returned (.int .i64 (fP cs t)) ∧ Below w.heap.size w w' := by (
 unfold maxLen at hl
 go_enter func27, ntmps27
 go_wp2_with fail
 go_loopg [10] (cs.length) (fun gk i wr => ∃ k : Nat, k ≤ cs.length ∧ i = .int .i64 k ∧ gk = cs.length - k ∧ (∀ j y, j < k → cs[j]? = some y → y.1 ≠ t) ∧ Blk wr (w.heap.size + 1) 56 #[.int .i64 t.op, .int .i64 t.a, .int .i64 t.b] ∧ Below w.heap.size w wr)
 case atStart => exact ⟨0, Nat.zero_le _, rfl, Zb, fun j y hj => by omega, Yd, Yc⟩
 case round => (
 obtain ⟨k, hk, rfl, hgk, hno, hT, hBl⟩ := hrel
 have Hgk := bA hgk
 have Hno := bA hno
 clear hgk hno
 by_cases hlt : k < cs.length
 · (
 obtain ⟨b, o, x, rfl, hab, hx, hxl⟩ := (hC.below hBl).get hlt
 have Hx := bA hx
 obtain ⟨k0, k1⟩ := Ikq (k := k) (n := cs.length) (by omega)
 obtain ⟨c0, c1, c2, c3⟩ := hxl
 have q0 := hT.cell 0
 have q1 := hT.cell 1
 have q2 := hT.cell 2
 have lT := hT.lt
 simp only [Yl] at q0 q1 q2
 have hgd := zL
 have hEq := fun W => uC x.1 t W
 unfold Tm.val at hEq
 have HT := bA hT
 have HB := bA hBl
 cases hq : (x.1 == t)
 case false => (
 rw [hq] at hEq
 have Hq := bA hq
 clear hC hx hq hT hBl
 go_wp2_with fail
 go_roundg (cs.length - (k + 1))
 case measure => exact Jg
 case rel => (
 have hBl := HB.o
 refine ⟨k + 1, Zb, by go_num, rfl, fun j y hj hy => ?_, HT.o.alloc _, Yc⟩
 by_cases hjk : j = k
 · (
 subst hjk
 rw [Hx.o] at hy
 injection hy with hy
 subst hy
 simpa using Hq.o)
 · exact Hno.o j y Zb hy))
 case true => (
 rw [hq] at hEq
 have hf : fP cs t = x.2 := bEC Hx.o (by simpa using hq) Hno.o
 have Hf := bA hf
 clear hC hx hq hf hT hBl
 go_wp2_with fail
 go_ret
 have hBl := HB.o
 exact ⟨by rw [Hf.o]; rfl, Yc⟩))
 · (
 have hf : fP cs t = 0 := bNZ fun j y hj hy => Hno.o j y Zb hy
 have Hf := bA hf
 clear hf hC
 go_wp2_with fail
 go_ret
 exact ⟨by rw [Hf.o]; rfl, hBl⟩)))
end
section
def bKO (x y : Int) : Int := if x < y then -1 else if y < x then 1 else 0
theorem bFH (x y : Int) (w : World) : Calls prog 94 #[.int .i64 x, .int .i64 y] w fun e w' => e = .returned (.int .i64 (bKO x y)) ∧ w' = w := by
 go_enter func94, ntmps94
 go_wp2
 all_goals (go_ret; refine ⟨?_, rfl⟩; unfold bKO; (repeat' split) <;> first | rfl | (exfalso; omega))
def orL : List Int → Int
 | [] => 0
 | x :: l => if x = 0 then orL l else x
theorem bSE (x y z : Int) (g c : Nat) (w : World) (h0 : w.cell? ⟨g, 0, none⟩ = some (.int .i64 x)) (h1 : w.cell? ⟨g, 1, none⟩ = some (.int .i64 y)) (h2 : w.cell? ⟨g, 2, none⟩ = some (.int .i64 z)) :
  Calls prog 93 #[.slice (some ⟨g, 0, none⟩) 3 c] w fun e w' => e = .returned (.int .i64 (orL [x, y, z])) ∧ w' = w := by
 have hV : bG w (some ⟨g, 0, none⟩) (bN [x, y, z]) := fun _ => ⟨g, 0, rfl, by
  rcases Nat.lt_or_ge g w.heap.size with hl | hl
  ·exact hl
  ·rw [World.cell?] at h0
   simp [Array.getElem?_eq_none hl] at h0, fun i v hi => by
  rcases i with _ | _ | _ | i
  ·simp [bN] at hi; subst hi; exact h0
  ·simp [bN] at hi; subst hi; exact h1
  ·simp [bN] at hi; subst hi; exact h2
  ·simp [bN] at hi⟩
 clear h0 h1 h2
 go_enter func93, ntmps93
 go_wp2_with fail
 go_loopg [8] (3) (fun gk i wr => ∃ k : Nat, k ≤ 3 ∧ i = .int .i64 k ∧ gk = 3 - k ∧ (∀ j u, j < k → [x, y, z][j]? = some u → u = 0) ∧ wr = w)
 case atStart => exact ⟨0, Zb, rfl, rfl, fun j u hj => by omega, rfl⟩
 case round =>
  obtain ⟨k, hk, rfl, hgk, hno, rfl⟩ := hrel
  have Hgk := bA hgk
  have Hno := bA hno
  clear hgk hno
  by_cases hlt : k < 3
  ·obtain ⟨b, o, u, e1, hb, hu, cu⟩ := hV.int (k := k) hlt
   injection e1 with e1
   injection e1 with e1 e2 _
   subst e1 e2
   have Hu := bA hu
   rw [Nat.zero_add] at cu
   have k0 : (0 : Int) ≤ (k : Int) := Zb
   have k1 : (k : Int) < 3 := Zb
   clear hV hu
   by_cases hq : u = 0
   ·subst hq
    go_wp2_with fail
    go_roundg (3 - (k + 1))
    case measure => exact Jg
    case rel =>
     refine ⟨k + 1, Zb, by go_num, rfl, fun j v hj hv => ?_, rfl⟩
     by_cases hjk : j = k
     ·subst hjk
      rw [Hu.o] at hv
      exact (Option.some.inj hv).symm
     ·exact Hno.o j v Zb hv
   ·have hq2 : (u != 0) = true := by simpa using hq
    have hr : orL [x, y, z] = u := by
     have hno := Hno.o
     have hu := Hu.o
     rcases k with _ | _ | _ | k
     ·simp at hu; subst hu; simp [orL, hq]
     ·have := hno 0 x Zb rfl; simp at hu; subst hu; simp [orL, hq, this]
     ·have h1 := hno 0 x Zb rfl; have h2 := hno 1 y Zb rfl; simp at hu; subst hu; simp [orL, hq, h1, h2]
     ·omega
    have Hr := bA hr
    clear hr
    go_wp2_with fail
    go_ret
    exact ⟨by rw [Hr.o]; rfl, rfl⟩
  ·have hr : orL [x, y, z] = 0 := by
    have hno := Hno.o
    have h1 := hno 0 x Zb rfl
    have h2 := hno 1 y Zb rfl
    have h3 := hno 2 z Zb rfl
    simp [orL, h1, h2, h3]
   have Hr := bA hr
   clear hr hV
   go_wp2_with fail
   go_ret
   exact ⟨by rw [Hr.o]; rfl, rfl⟩
def bED (a b : Tm) : Int := orL [bKO a.op b.op, bKO a.a b.a, bKO a.b b.b]
theorem vC (a b : Tm) : decide (bED a b < 0) = ltT a b := by
 unfold bED ltT orL orL orL orL bKO
 repeat' split
 all_goals simp
 all_goals omega
open Go.Shelf Go.Lib Go.Sort in
theorem bJP (a b : Tm) (w : World) : Calls prog 63 #[.agg #[.int .i64 a.op, .int .i64 a.a, .int .i64 a.b], .agg #[.int .i64 b.op, .int .i64 b.a, .int .i64 b.b]] w fun e w' => e = .returned (.int .i64 (bED a b)) ∧ ∃ q os', w' = grow (w.drewN q) os' := by
 have HC := fun x y W => bA (bFH x y W)
 have HO := fun x y z g c W (hB : Blk W g 3 #[.int .i64 x, .int .i64 y, .int .i64 z]) => bA (bSE x y z g c W (hB.cell 0) (hB.cell 1) (hB.cell 2))
 go_enter func63, ntmps63
 go_upto_region 1 with fail
 go_region_held3 (fun w' => w'.cell? ⟨w.heap.size, 0, none⟩ = some (.int .i64 a.op) ∧ w'.cell? ⟨w.heap.size, 1, none⟩ = some (.int .i64 a.a) ∧ w'.cell? ⟨w.heap.size, 2, none⟩ = some (.int .i64 a.b) ∧ w'.cell? ⟨w.heap.size + 1, 0, none⟩ = some (.int .i64 b.op) ∧ w'.cell? ⟨w.heap.size + 1, 1, none⟩ = some (.int .i64 b.a) ∧ w'.cell? ⟨w.heap.size + 1, 2, none⟩ = some (.int .i64 b.b)) (((try go_split_ands); (try dsimp only); (repeat' apply And.intro) <;> (first | assumption | go_keep)))
  (first | (go_at_call 94; refine ((HC _ _ _).out).mono ?_; rintro e w3 ⟨rfl, rfl⟩) | (go_at_call 93; refine ((HO _ _ _ _ _ _ Yd).out).mono ?_; rintro e w3 ⟨rfl, rfl⟩))
 all_goals go_wp2_with fail
 all_goals go_tidy
 all_goals go_ret
 exact ⟨rfl, 1, _, by rw [alloc_eq_grow, alloc_eq_grow, alloc_eq_grow, grow_grow, grow_grow]; rfl⟩
open Go.Shelf Go.Lib Go.Sort in
theorem bEF (x y : Ct) (w : World) : Calls prog 62 #[.agg #[.int .i64 x.1.op, .int .i64 x.1.a, .int .i64 x.1.b, .int .i64 x.2], .agg #[.int .i64 y.1.op, .int .i64 y.1.a, .int .i64 y.1.b, .int .i64 y.2]] w fun e w' => e = .returned (.int .i64 (bED x.1 y.1)) ∧ ∃ q os', w' = grow (w.drewN q) os' := by
 have HO := fun W => bA (bJP x.1 y.1 W)
 go_enter func62, ntmps62
 go_wp2_with (go_at_call 63; refine ((HO _).out).mono ?_; rintro e w3 ⟨rfl, q, os, rfl⟩)
 go_ret
 exact ⟨rfl, q, _, by rw [alloc_eq_grow, alloc_eq_grow, grow_grow]; exact grow_grow (w.drewN q) _ os⟩
instance : Inhabited Ct := ⟨(⟨0, 0, 0⟩, 0)⟩
open Go.Shelf Go.Lib Go.Sort in
theorem bEE (blk off size : Nat) (w : World) : CmpLays prog 62 #[] Ct.cells 4 (fun x y => bED x.1 y.1) blk off size w :=
 fun _ _ _ _ x y => bEF x y _
open Go.Shelf Go.Lib Go.Sort in
theorem bPA : SWO (ltOf fun x y : Ct => bED x.1 y.1) where
 irrefl x := by unfold ltOf; rw [vC]; exact wD _
 trans x y z h1 h2 := by unfold ltOf at *; rw [vC] at *; exact nJ h1 h2
 ntrans x y z h1 h2 := by
  unfold ltOf at *
  rw [vC] at *
  simp only [ltT, decide_eq_false_iff_not] at *
  omega
end
section
def Ct.put (n : Ct) (j : Nat) (z : Int) : Ct :=
 match j with
 | 0 => (⟨z, n.1.a, n.1.b⟩, n.2)
 | 1 => (⟨n.1.op, z, n.1.b⟩, n.2)
 | 2 => (⟨n.1.op, n.1.a, z⟩, n.2)
 | 3 => (n.1, z)
 | _ => n
section
variable {w w' : World} {base : Nat} {e : TypeId} {v : Value} {l : List Ct}
end
end
section
attribute [local irreducible] Row madeCells
theorem bKE : (prog.info? 114).map (fun i => (i.zero, i.size, i.bytes)) = some (some (.agg #[.int .i64 0, .int .i64 0, .int .i64 0, .int .i64 0]), 4, 32) := Zc
end
end Go.Proofs.YtmghkonmfbpjcabGreatDoor
