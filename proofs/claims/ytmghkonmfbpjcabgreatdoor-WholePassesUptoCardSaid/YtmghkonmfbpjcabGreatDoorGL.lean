/- Parts. -/
import Derived.Test.YtmghkonmfbpjcabGreatDoorGK
set_option linter.unusedVariables false
set_option linter.unusedSimpArgs false
set_option maxRecDepth 100000
set_option maxHeartbeats 8000000
namespace Go.Proofs.YtmghkonmfbpjcabGreatDoor
open Go.RowKit
open Go.Proofs.Tryz
section
open Go.Lib
def bOP (ga i : Nat) (ps : List (List UInt8)) (w : World) (e : Ending) (w' : World) : Prop :=
 ∃ z w1, e = .returned (.int .i64 z) ∧ cB z ∧ (∀ n, cB n → ps[i]? = some (itoa n) → z = n) ∧ Below w.heap.size w w1 ∧ w' = w1.setCell ⟨ga, 0, none⟩ (.int .i64 ((i + 1 : Nat) : Int))
theorem nF (ga gp i base : Nat) (A : Option Addr) (cp : Nat) (ps : List (List UInt8)) (hps : ∀ p ∈ ps, p.length ≤ 4294967280) (hi : i ≤ 100) (w : World) (h1 : Blk w ga 3 #[.int .i64 (i : Int)]) (h2 : Blk w gp 102 #[.slice A ps.length cp])
  (hR : Row w base 9 (.slice A ps.length cp) (ps.map cE)) (hpl : ps.length ≤ 1000) :
  Calls prog 89 #[.pointer (some ⟨ga, 0, none⟩), .pointer (some ⟨gp, 0, none⟩)] w (bOP ga i ps w) := by
 have a0 := h1.cell 0
 have p0 := h2.cell 0
 have la := h1.lt
 have lp := h2.lt
 have fa := h1.frozen 0
 simp only [List.getElem?_toArray, List.getElem?_cons_zero] at a0 p0
 by_cases hlt : i < ps.length
 ·obtain ⟨p, hp⟩ : ∃ p, ps[i]? = some p := ⟨_, Vx hlt⟩
  obtain ⟨b, off, hA, hbs, hcell⟩ := hR.vals (by intro h; rw [List.map_eq_nil_iff] at h; rw [h] at hlt; exact absurd hlt (Nat.not_lt_zero _))
  subst hA
  have hc : w.cell? ⟨b, off + i, none⟩ = some (cE p) := hcell i (cE p) (by rw [List.getElem?_map, hp]; rfl)
  have d1 : decide ((i : Int) < (ps.length : Int)) = true := decide_eq_true Zb
  obtain ⟨i0, i1⟩ := Ikq (k := i) (n := ps.length) (by omega)
  have HS := fun W => bA (bEY p (hps p (V4 hp)) W)
  have Hp := bA hp
  clear hcell
  clear hp
  go_enter func89, ntmps89
  go_wp2_with (refine ((HS _).out).mono ?_; rintro e w3 ⟨z, ok, rfl, hz, hzn, hb3⟩; have a3 := (h1.below hb3 la).cell 0; have f3 := (h1.below hb3 la).frozen 0; simp only [List.getElem?_toArray, List.getElem?_cons_zero] at a3)
  go_ret
  refine ⟨z, w3, rfl, hz, fun n hn e => hzn n hn ?_, hb3, by first | rfl | (congr 2)⟩
  rw [Hp.o] at e
  exact Option.some.inj e
 ·have d1 : decide ((i : Int) < (ps.length : Int)) = false := decide_eq_false Zb
  go_enter func89, ntmps89
  go_wp2_with fail
  go_ret
  refine ⟨0, w, rfl, ⟨Zb, Zb⟩, fun n hn e => ?_, Below.refl _ _, by first | rfl | (congr 2)⟩
  rw [List.getElem?_eq_none Zb] at e
  cases e
def TkP (ps : List (List UInt8)) (k : Nat) (z : Int) : Prop := ∀ n, cB n → ps[k]? = some (itoa n) → z = n
theorem bDK {s : List UInt8} {ps : List (List UInt8)} {p0 : List UInt8} {pr : List (List UInt8)} {o : Int} (hps : (eM 32 s).take 9 = ps) (hpc : ps = p0 :: pr) (hoP : ∀ j : Nat, j < 13 → opW (j : Int) = p0 → o = j) {m : Nd} (hm : dH m) (hs : s = dS m) :
  o = m.op ∧ ps = dY m := by
 have h1 : eM 32 s = dY m := by rw [hs]; exact jG (by simp [dY]) fun x hx => (jW hm.op x hx).1
 have hl : (dY m).length ≤ 9 := by
  unfold dY cC
  repeat' split
  all_goals simp [dW, toW, elseW]
 have h2 : ps = dY m := by rw [← hps, h1, List.take_of_length_le hl]
 refine ⟨?_, h2⟩
 rw [h2] at hpc
 unfold dY at hpc
 injection hpc with h3 h4
 have ho := hm.op
 have := hoP m.op.toNat Zb (by rw [← h3]; congr 1; omega)
 omega
theorem bNQ {n m : Nd} {ps : List (List UInt8)} (hm : dH m) (hop : n.op = m.op) (hw : ps = dY m)
  (H : ∀ i, 1 ≤ i → i < 6 → (n.fld i = 0 ∧ i ∉ (cC n.op).map Prod.snd) ∨ ∃ k, TkP ps k (n.fld i) ∧ ∀ m : Nd, m.op = n.op → (dY m)[k]? = some (itoa (m.fld i))) : n = m := by
 refine Nd.ext_fld fun i hi => ?_
 by_cases h0 : i = 0
 ·subst h0; exact hop
 ·rcases H i Zb hi with ⟨h1, h2⟩ | ⟨k, h1, h2⟩
  ·rw [h1, hm.rest i Zb hi (by rw [← hop]; exact h2)]
  ·exact h1 _ (hm.fit i hi) (by rw [hw]; exact h2 m hop.symm)
theorem qV (c : UInt8) : ∀ (l : List (List UInt8)), ∀ p ∈ l, p.length ≤ (dL c l).length
 | [], p, h => by cases h
 | [x], p, h => by
  rw [List.mem_singleton.1 h]; exact Nat.le_refl _
 | x :: y :: r, p, h => by
  show p.length ≤ (x ++ c :: dL c (y :: r)).length
  rw [Vz, List.length_cons]
  rcases List.mem_cons.1 h with e | e
  ·rw [e]; omega
  ·have := qV c (y :: r) p e
   omega
theorem vM (c : UInt8) (s : List UInt8) (p : List UInt8) (h : p ∈ eM c s) : p.length ≤ s.length := by
 have := qV c _ p h
 unfold eM at this
 rw [iL] at this
 simpa using this
theorem bID (c : UInt8) (s : List UInt8) : eM c s ≠ [] := qI c s []
def jZ (n : Nd) : Nat → Int → Nd
 | 0, x => ⟨x, n.d, n.a, n.b, n.t, n.e⟩
 | 1, x => ⟨n.op, x, n.a, n.b, n.t, n.e⟩
 | 2, x => ⟨n.op, n.d, x, n.b, n.t, n.e⟩
 | 3, x => ⟨n.op, n.d, n.a, x, n.t, n.e⟩
 | 4, x => ⟨n.op, n.d, n.a, n.b, x, n.e⟩
 | _, x => ⟨n.op, n.d, n.a, n.b, n.t, x⟩
def GSt (g0 g7 gc : Nat) (A : Option Addr) (c base : Nat) (ps : List (List UInt8)) (w0 W : World) (k : Nat) (n : Nd) : Prop :=
 Blk W g7 102 #[.slice A ps.length c] ∧ Blk W (g7 + 1) 39 #[.int .i64 n.op, .int .i64 n.d, .int .i64 n.a, .int .i64 n.b, .int .i64 n.t, .int .i64 n.e] ∧ Blk W gc 3 #[.int .i64 (k : Int)] ∧
 Row W base 9 (.slice A ps.length c) (ps.map cE) ∧ Blk W g0 39 #[.int .i64 0, .int .i64 0, .int .i64 0, .int .i64 0, .int .i64 0, .int .i64 0] ∧ Below w0.heap.size w0 W ∧
 g0 < g7 ∧ g7 + 1 < gc ∧ w0.heap.size ≤ g7 ∧ (∀ k, (Value.slice A ps.length c).ownBlock = some k → k < g7)
section
variable {g0 g7 gc : Nat} {A : Option Addr} {c base : Nat} {ps : List (List UInt8)} {w0 W w3 : World} {k : Nat} {n : Nd}
theorem GSt.take (h : GSt g0 g7 gc A c base ps w0 W k n) (hb : Below W.heap.size W w3) (k' : Nat) (hk : k' = k + 1) : GSt g0 g7 gc A c base ps w0 (w3.setCell ⟨gc, 0, none⟩ (.int .i64 ((k + 1 : Nat) : Int))) k' n := by
 obtain ⟨hP, hN, hC, hR, h0, hB, l1, l2, l3, ho⟩ := h
 subst hk
 refine ⟨(hP.below hb hP.lt).far Zi _, (hN.below hb hN.lt).far Zi _, (hC.below hb hC.lt).set_ 0 _, (hR.below' hb).far (fun e => by have := ho _ e; simp only at this; omega) _, (h0.below hb h0.lt).far Zi _, (hB.trans (hb.mono hB.size)).setCell Zi _, l1, l2, l3, ho⟩
theorem GSt.put (h : GSt g0 g7 gc A c base ps w0 W k n) (f : Nat) (z : Int) (hf : f < 6) :
  GSt g0 g7 gc A c base ps w0 (W.setCell ⟨g7 + 1, f, none⟩ (.int .i64 z)) k (jZ n f z) := by
 obtain ⟨hP, hN, hC, hR, h0, hB, l1, l2, l3, ho⟩ := h
 refine ⟨hP.far Zi _, ?_, hC.far Zi _, hR.far (fun e => by have := ho _ e; simp only at this; omega) _, h0.far Zi _, hB.setCell Zi _, l1, l2, l3, ho⟩
 have e := hN.set_ f (.int .i64 z)
 rcases f with _ | _ | _ | _ | _ | _ | f <;> first | exact e | omega
theorem GSt.up (h : GSt g0 g7 gc A c base ps w0 W k n) (k' : Nat) : GSt g0 g7 gc A c base ps w0 (W.setCell ⟨gc, 0, none⟩ (.int .i64 (k' : Int))) k' n := by
 obtain ⟨hP, hN, hC, hR, h0, hB, l1, l2, l3, ho⟩ := h
 exact ⟨hP.far Zi _, hN.far Zi _, hC.set_ 0 _, hR.far (fun e => by have := ho _ e; simp only at this; omega) _, h0.far Zi _, hB.setCell Zi _, l1, l2, l3, ho⟩
theorem GSt.node (h : GSt g0 g7 gc A c base ps w0 W k n) (f : Nat) : W.cell? ⟨g7 + 1, f, none⟩ = (#[Value.int .i64 n.op, .int .i64 n.d, .int .i64 n.a, .int .i64 n.b, .int .i64 n.t, .int .i64 n.e])[f]? ∧ W.frozen? ⟨g7 + 1, f, none⟩ = false := ⟨h.2.1.cell f, h.2.1.frozen f⟩
theorem GSt.cnt (h : GSt g0 g7 gc A c base ps w0 W k n) : W.cell? ⟨gc, 0, none⟩ = some (.int .i64 (k : Int)) ∧ W.frozen? ⟨gc, 0, none⟩ = false := ⟨h.2.2.1.cell 0, h.2.2.1.frozen 0⟩
end
def OpF (o : Int) (d a b : Bool) (pl : List (List UInt8 × Nat)) : Prop := dE o = d ∧ dC o = a ∧ cG o = b ∧ cC o = pl
theorem opK (o : Int) (h : -1 ≤ o ∧ o ≤ 12) : (o = -1 ∧ OpF o false false false [([], 1), ([], 2), ([], 3), (toW, 4)]) ∨ (o = 0 ∧ OpF o false false false [(toW, 4)]) ∨ (o = 1 ∧ OpF o true false false [([], 1), ([], 2), (toW, 4)]) ∨
  (o = 2 ∧ OpF o true true false [([], 1), ([], 2), (toW, 4)]) ∨ ((3 ≤ o ∧ o ≤ 8) ∧ OpF o true true true [([], 1), ([], 2), ([], 3), (toW, 4)] ∧ (o == 12) = false ∧ (o == 11) = false ∧ (o == 1) = false) ∨ (o = 9 ∧ OpF o true false false [([], 1), (toW, 4)]) ∨
  (o = 10 ∧ OpF o false true false [([], 2), (toW, 4)]) ∨ (o = 11 ∧ OpF o false true false [([], 2), (toW, 4), (elseW, 5)]) ∨ (o = 12 ∧ OpF o false true false [([], 2)]) := by
 have hc : o = -1 ∨ o = 0 ∨ o = 1 ∨ o = 2 ∨ o = 3 ∨ o = 4 ∨ o = 5 ∨ o = 6 ∨ o = 7 ∨ o = 8 ∨ o = 9 ∨ o = 10 ∨ o = 11 ∨ o = 12 := Zb
 rcases hc with rfl | rfl | rfl | rfl | rfl | rfl | rfl | rfl | rfl | rfl | rfl | rfl | rfl | rfl
 exact .inl ⟨rfl, rfl, rfl, rfl, rfl⟩
 exact .inr (.inl ⟨rfl, rfl, rfl, rfl, rfl⟩)
 exact .inr (.inr (.inl ⟨rfl, rfl, rfl, rfl, rfl⟩))
 exact .inr (.inr (.inr (.inl ⟨rfl, rfl, rfl, rfl, rfl⟩)))
 iterate 6 exact .inr (.inr (.inr (.inr (.inl ⟨Ze, ⟨rfl, rfl, rfl, rfl⟩, rfl, rfl, rfl⟩))))
 exact .inr (.inr (.inr (.inr (.inr (.inl ⟨rfl, rfl, rfl, rfl, rfl⟩)))))
 exact .inr (.inr (.inr (.inr (.inr (.inr (.inl ⟨rfl, rfl, rfl, rfl, rfl⟩))))))
 exact .inr (.inr (.inr (.inr (.inr (.inr (.inr (.inl ⟨rfl, rfl, rfl, rfl, rfl⟩)))))))
 exact .inr (.inr (.inr (.inr (.inr (.inr (.inr (.inr ⟨rfl, rfl, rfl, rfl, rfl⟩)))))))
section
variable {g0 g7 gc : Nat} {A : Option Addr} {c base : Nat} {ps : List (List UInt8)} {w0 W : World} {k : Nat} {o d a b t e : Int}
theorem GEr {P : Program} {fn : Func} {R : Ending → World → Prop} {ac : Act} {w : World} (hG : GSt g0 g7 gc A c base ps w0 W k ⟨o, d, a, b, t, e⟩)
  (hR : R (.returned (.agg #[.int .i64 o, .int .i64 d, .int .i64 a, .int .i64 b, .int .i64 t, .int .i64 e])) w) (hd : ac.defers = [] := by exact rfl)
  (hr : (results fn ac.tmps).run P w = .ok (.agg #[.int .i64 o, .int .i64 d, .int .i64 a, .int .i64 b, .int .i64 t, .int .i64 e]) w := by simp [results, results57, go_sem, q0, q1, q2, q3, q4, q5, Vw, Vv]; try rfl) :
  bodyPost P fn R .ret ac w := bodyPost_ret hr hd hR
end
theorem GEa {P : Prop} (h : P := by
  rintro i hi
  rcases i with _ | _ | _ | _ | _ | _ | i
  all_goals first | assumption | exact (by omega : cB _) | exact ⟨by simp [Nd.fld], by simp [Nd.fld]⟩ | omega
  ) : P := h
theorem GEc {P : Prop} (h : P := by intro m hm; dsimp only at hm; simp [dY, hm, hp, dW, toW, elseW, Nd.fld]) : P := h
theorem GEb {P : Prop} (h : P := by
  intro m hm hs'
  obtain ⟨ho1, hw1⟩ := bDK Hps.o Hpc.o HoP.o hm hs'
  have hmo := hm.op
  refine bNQ hm ho1 hw1 fun i h1 h6 => ?_
  rcases i with _ | _ | _ | _ | _ | _ | i
  all_goals first | omega | (exfalso; omega) | exact .inl ⟨rfl, by simp [hp]⟩ | exact .inr ⟨1, Zg, GEc⟩ | exact .inr ⟨2, Zg, GEc⟩ | exact .inr ⟨3, Zg, GEc⟩ | exact .inr ⟨4, Zg, GEc⟩ | exact .inr ⟨5, Zg, GEc⟩
  ) : P := h
theorem GEx {P : Prop} (h : P := by
  clear cA kA kF
  have hZ := hG.2.2.2.2.1
  have n0 := (hG.node 0).1
  have n1 := (hG.node 1).1
  have n2 := (hG.node 2).1
  have n3 := (hG.node 3).1
  have n4 := (hG.node 4).1
  have n5 := (hG.node 5).1
  have q0 := hZ.cell 0
  have q1 := hZ.cell 1
  have q2 := hZ.cell 2
  have q3 := hZ.cell 3
  have q4 := hZ.cell 4
  have q5 := hZ.cell 5
  have qf := hZ.frozen 0
  have qf1 := hZ.frozen 1
  have qf2 := hZ.frozen 2
  have qf3 := hZ.frozen 3
  have qf4 := hZ.frozen 4
  have qf5 := hZ.frozen 5
  have lZ := hZ.lt
  have hBk := hG.2.2.2.2.2.1
  simp only [Yl] at n0 n1 n2 n3 n4 n5 q0 q1 q2 q3 q4 q5
  go_wp2_with fail
  refine GEr hG ⟨⟨_, _, _, _, _, _⟩, rfl, GEa, GEb, Yc⟩
  ) : P := h
theorem GS1 {P : Prop} (h : P := by
  go_upto_region 18 with fail
  clear cA kA kF
  replace hG := hG.up 2
  generalize wk.setCell ⟨gc, 0, none⟩ (.int .i64 (2 : Nat)) = wk at hG ⊢
  refine Kr fun kA kF cA HN k1 => ?_
  go_upto_region 20 with fail
  refine Calls.mono HN.o ?_
  rintro e w5 ⟨z4, w4, rfl, gz4, nz4, hb4, rfl⟩
  replace hG := hG.take hb4 (2 + 1) rfl
  clear HN hb4 k1
  generalize w4.setCell ⟨gc, 0, none⟩ (.int .i64 ((2 + 1 : Nat) : Int)) = wk at hG ⊢
  refine K8 fun fN cN cA => ?_
  go_upto_region 20 with fail
  clear cN fN cA
  replace hG := hG.put 4 z4 Ze
  dsimp only [jZ] at hG
  generalize wk.setCell ⟨g7 + 1, 4, none⟩ (.int .i64 z4) = wk at hG ⊢
  refine K2 fun kA kF cA => ?_
  go_upto_region 21 with fail
  clear cA kA kF
  replace hG := hG.up 4
  generalize wk.setCell ⟨gc, 0, none⟩ (.int .i64 (4 : Nat)) = wk at hG ⊢
  refine K2 fun kA kF cA => ?_
  exact GEx
  ) : P := h
theorem GS2 {P : Prop} (h : P := by
  refine Vl fun HN k1 => ?_
  go_upto_region 13 with fail
  refine Calls.mono HN.o ?_
  rintro e w5 ⟨z1, w4, rfl, gz1, nz1, hb4, rfl⟩
  replace hG := hG.take hb4 (1 + 1) rfl
  clear HN hb4 k1
  generalize w4.setCell ⟨gc, 0, none⟩ (.int .i64 ((1 + 1 : Nat) : Int)) = wk at hG ⊢
  have cN := (hG.node 1).1
  have fN := (hG.node 1).2
  have cA := (hG.node 0).1
  simp only [Yl] at cN cA
  go_upto_region 13 with fail
  clear cN fN cA
  replace hG := hG.put 1 z1 Ze
  dsimp only [jZ] at hG
  generalize wk.setCell ⟨g7 + 1, 1, none⟩ (.int .i64 z1) = wk at hG ⊢
  refine Kr fun kA kF cA HN k1 => ?_
  go_upto_region 15 with fail
  refine Calls.mono HN.o ?_
  rintro e w5 ⟨z2, w4, rfl, gz2, nz2, hb4, rfl⟩
  replace hG := hG.take hb4 (2 + 1) rfl
  clear HN hb4 k1
  generalize w4.setCell ⟨gc, 0, none⟩ (.int .i64 ((2 + 1 : Nat) : Int)) = wk at hG ⊢
  refine Wh fun fN cN cA => ?_
  go_upto_region 15 with fail
  clear cN fN cA
  replace hG := hG.put 2 z2 Ze
  dsimp only [jZ] at hG
  generalize wk.setCell ⟨g7 + 1, 2, none⟩ (.int .i64 z2) = wk at hG ⊢
  refine K2 fun kA kF cA => ?_
  go_upto_region 18 with fail
  clear cA kA kF
  replace hG := hG.up 4
  generalize wk.setCell ⟨gc, 0, none⟩ (.int .i64 (4 : Nat)) = wk at hG ⊢
  refine K2 fun kA kF cA => ?_
  have HN := bA (nF gc g7 4 _ _ _ ps hpsl.out Zb wk hG.2.2.1 hG.1 hG.2.2.2.1 hpl9)
  have k1 := hG.cnt.1
  go_upto_region 20 with fail
  refine Calls.mono HN.o ?_
  rintro e w5 ⟨z4, w4, rfl, gz4, nz4, hb4, rfl⟩
  replace hG := hG.take hb4 (4 + 1) rfl
  clear HN hb4 k1
  generalize w4.setCell ⟨gc, 0, none⟩ (.int .i64 ((4 + 1 : Nat) : Int)) = wk at hG ⊢
  refine K8 fun fN cN cA => ?_
  go_upto_region 20 with fail
  clear cN fN cA
  replace hG := hG.put 4 z4 Ze
  dsimp only [jZ] at hG
  generalize wk.setCell ⟨g7 + 1, 4, none⟩ (.int .i64 z4) = wk at hG ⊢
  refine K2 fun kA kF cA => ?_
  go_upto_region 21 with fail
  clear cA kA kF
  replace hG := hG.up 6
  generalize wk.setCell ⟨gc, 0, none⟩ (.int .i64 (6 : Nat)) = wk at hG ⊢
  refine K2 fun kA kF cA => ?_
  exact GEx
  ) : P := h
theorem GS3 {P : Prop} (h : P := by
  refine Vl fun HN k1 => ?_
  go_upto_region 13 with fail
  refine Calls.mono HN.o ?_
  rintro e w5 ⟨z1, w4, rfl, gz1, nz1, hb4, rfl⟩
  replace hG := hG.take hb4 (1 + 1) rfl
  clear HN hb4 k1
  generalize w4.setCell ⟨gc, 0, none⟩ (.int .i64 ((1 + 1 : Nat) : Int)) = wk at hG ⊢
  have cN := (hG.node 1).1
  have fN := (hG.node 1).2
  have cA := (hG.node 0).1
  simp only [Yl] at cN cA
  go_upto_region 13 with fail
  clear cN fN cA
  replace hG := hG.put 1 z1 Ze
  dsimp only [jZ] at hG
  generalize wk.setCell ⟨g7 + 1, 1, none⟩ (.int .i64 z1) = wk at hG ⊢
  refine Kr fun kA kF cA HN k1 => ?_
  go_upto_region 15 with fail
  refine Calls.mono HN.o ?_
  rintro e w5 ⟨z2, w4, rfl, gz2, nz2, hb4, rfl⟩
  replace hG := hG.take hb4 (2 + 1) rfl
  clear HN hb4 k1
  generalize w4.setCell ⟨gc, 0, none⟩ (.int .i64 ((2 + 1 : Nat) : Int)) = wk at hG ⊢
  refine Wh fun fN cN cA => ?_
  go_upto_region 15 with fail
  clear cN fN cA
  replace hG := hG.put 2 z2 Ze
  dsimp only [jZ] at hG
  generalize wk.setCell ⟨g7 + 1, 2, none⟩ (.int .i64 z2) = wk at hG ⊢
  refine Kq fun kA kF cA HN k1 => ?_
  go_upto_region 17 with fail
  refine Calls.mono HN.o ?_
  rintro e w5 ⟨z3, w4, rfl, gz3, nz3, hb4, rfl⟩
  replace hG := hG.take hb4 (3 + 1) rfl
  clear HN hb4 k1
  generalize w4.setCell ⟨gc, 0, none⟩ (.int .i64 ((3 + 1 : Nat) : Int)) = wk at hG ⊢
  have cN := (hG.node 3).1
  have fN := (hG.node 3).2
  have cA := (hG.node 0).1
  simp only [Yl] at cN cA
  go_upto_region 17 with fail
  clear cN fN cA
  replace hG := hG.put 3 z3 Ze
  dsimp only [jZ] at hG
  generalize wk.setCell ⟨g7 + 1, 3, none⟩ (.int .i64 z3) = wk at hG ⊢
  refine K2 fun kA kF cA => ?_
  go_upto_region 18 with fail
  clear cA kA kF
  replace hG := hG.up 5
  generalize wk.setCell ⟨gc, 0, none⟩ (.int .i64 (5 : Nat)) = wk at hG ⊢
  refine K2 fun kA kF cA => ?_
  have HN := bA (nF gc g7 5 _ _ _ ps hpsl.out Zb wk hG.2.2.1 hG.1 hG.2.2.2.1 hpl9)
  have k1 := hG.cnt.1
  go_upto_region 20 with fail
  refine Calls.mono HN.o ?_
  rintro e w5 ⟨z4, w4, rfl, gz4, nz4, hb4, rfl⟩
  replace hG := hG.take hb4 (5 + 1) rfl
  clear HN hb4 k1
  generalize w4.setCell ⟨gc, 0, none⟩ (.int .i64 ((5 + 1 : Nat) : Int)) = wk at hG ⊢
  refine K8 fun fN cN cA => ?_
  go_upto_region 20 with fail
  clear cN fN cA
  replace hG := hG.put 4 z4 Ze
  dsimp only [jZ] at hG
  generalize wk.setCell ⟨g7 + 1, 4, none⟩ (.int .i64 z4) = wk at hG ⊢
  refine K2 fun kA kF cA => ?_
  go_upto_region 21 with fail
  clear cA kA kF
  replace hG := hG.up 7
  generalize wk.setCell ⟨gc, 0, none⟩ (.int .i64 (7 : Nat)) = wk at hG ⊢
  refine K2 fun kA kF cA => ?_
  exact GEx
  ) : P := h
theorem GS4 {P : Prop} (h : P := by
  refine Vl fun HN k1 => ?_
  go_upto_region 13 with fail
  refine Calls.mono HN.o ?_
  rintro e w5 ⟨z1, w4, rfl, gz1, nz1, hb4, rfl⟩
  replace hG := hG.take hb4 (1 + 1) rfl
  clear HN hb4 k1
  generalize w4.setCell ⟨gc, 0, none⟩ (.int .i64 ((1 + 1 : Nat) : Int)) = wk at hG ⊢
  have cN := (hG.node 1).1
  have fN := (hG.node 1).2
  have cA := (hG.node 0).1
  simp only [Yl] at cN cA
  go_upto_region 13 with fail
  clear cN fN cA
  replace hG := hG.put 1 z1 Ze
  dsimp only [jZ] at hG
  generalize wk.setCell ⟨g7 + 1, 1, none⟩ (.int .i64 z1) = wk at hG ⊢
  refine K2 fun kA kF cA => ?_
  go_upto_region 18 with fail
  clear cA kA kF
  replace hG := hG.up 3
  generalize wk.setCell ⟨gc, 0, none⟩ (.int .i64 (3 : Nat)) = wk at hG ⊢
  refine Kq fun kA kF cA HN k1 => ?_
  go_upto_region 20 with fail
  refine Calls.mono HN.o ?_
  rintro e w5 ⟨z4, w4, rfl, gz4, nz4, hb4, rfl⟩
  replace hG := hG.take hb4 (3 + 1) rfl
  clear HN hb4 k1
  generalize w4.setCell ⟨gc, 0, none⟩ (.int .i64 ((3 + 1 : Nat) : Int)) = wk at hG ⊢
  refine K8 fun fN cN cA => ?_
  go_upto_region 20 with fail
  clear cN fN cA
  replace hG := hG.put 4 z4 Ze
  dsimp only [jZ] at hG
  generalize wk.setCell ⟨g7 + 1, 4, none⟩ (.int .i64 z4) = wk at hG ⊢
  refine K2 fun kA kF cA => ?_
  go_upto_region 21 with fail
  clear cA kA kF
  replace hG := hG.up 5
  generalize wk.setCell ⟨gc, 0, none⟩ (.int .i64 (5 : Nat)) = wk at hG ⊢
  refine K2 fun kA kF cA => ?_
  exact GEx
  ) : P := h
theorem GS5 {P : Prop} (h : P := by
  refine Vl fun HN k1 => ?_
  go_upto_region 15 with fail
  refine Calls.mono HN.o ?_
  rintro e w5 ⟨z2, w4, rfl, gz2, nz2, hb4, rfl⟩
  replace hG := hG.take hb4 (1 + 1) rfl
  clear HN hb4 k1
  generalize w4.setCell ⟨gc, 0, none⟩ (.int .i64 ((1 + 1 : Nat) : Int)) = wk at hG ⊢
  refine Wh fun fN cN cA => ?_
  go_upto_region 15 with fail
  clear cN fN cA
  replace hG := hG.put 2 z2 Ze
  dsimp only [jZ] at hG
  generalize wk.setCell ⟨g7 + 1, 2, none⟩ (.int .i64 z2) = wk at hG ⊢
  refine K2 fun kA kF cA => ?_
  go_upto_region 18 with fail
  clear cA kA kF
  replace hG := hG.up 3
  generalize wk.setCell ⟨gc, 0, none⟩ (.int .i64 (3 : Nat)) = wk at hG ⊢
  refine Kq fun kA kF cA HN k1 => ?_
  go_upto_region 20 with fail
  refine Calls.mono HN.o ?_
  rintro e w5 ⟨z4, w4, rfl, gz4, nz4, hb4, rfl⟩
  replace hG := hG.take hb4 (3 + 1) rfl
  clear HN hb4 k1
  generalize w4.setCell ⟨gc, 0, none⟩ (.int .i64 ((3 + 1 : Nat) : Int)) = wk at hG ⊢
  refine K8 fun fN cN cA => ?_
  go_upto_region 20 with fail
  clear cN fN cA
  replace hG := hG.put 4 z4 Ze
  dsimp only [jZ] at hG
  generalize wk.setCell ⟨g7 + 1, 4, none⟩ (.int .i64 z4) = wk at hG ⊢
  refine K2 fun kA kF cA => ?_
  go_upto_region 21 with fail
  clear cA kA kF
  replace hG := hG.up 5
  generalize wk.setCell ⟨gc, 0, none⟩ (.int .i64 (5 : Nat)) = wk at hG ⊢
  refine K2 fun kA kF cA => ?_
  exact GEx
  ) : P := h
theorem GS6 {P : Prop} (h : P := by
  refine Vl fun HN k1 => ?_
  go_upto_region 15 with fail
  refine Calls.mono HN.o ?_
  rintro e w5 ⟨z2, w4, rfl, gz2, nz2, hb4, rfl⟩
  replace hG := hG.take hb4 (1 + 1) rfl
  clear HN hb4 k1
  generalize w4.setCell ⟨gc, 0, none⟩ (.int .i64 ((1 + 1 : Nat) : Int)) = wk at hG ⊢
  refine Wh fun fN cN cA => ?_
  go_upto_region 15 with fail
  clear cN fN cA
  replace hG := hG.put 2 z2 Ze
  dsimp only [jZ] at hG
  generalize wk.setCell ⟨g7 + 1, 2, none⟩ (.int .i64 z2) = wk at hG ⊢
  refine K2 fun kA kF cA => ?_
  go_upto_region 18 with fail
  clear cA kA kF
  replace hG := hG.up 3
  generalize wk.setCell ⟨gc, 0, none⟩ (.int .i64 (3 : Nat)) = wk at hG ⊢
  refine Kq fun kA kF cA HN k1 => ?_
  go_upto_region 20 with fail
  refine Calls.mono HN.o ?_
  rintro e w5 ⟨z4, w4, rfl, gz4, nz4, hb4, rfl⟩
  replace hG := hG.take hb4 (3 + 1) rfl
  clear HN hb4 k1
  generalize w4.setCell ⟨gc, 0, none⟩ (.int .i64 ((3 + 1 : Nat) : Int)) = wk at hG ⊢
  refine K8 fun fN cN cA => ?_
  go_upto_region 20 with fail
  clear cN fN cA
  replace hG := hG.put 4 z4 Ze
  dsimp only [jZ] at hG
  generalize wk.setCell ⟨g7 + 1, 4, none⟩ (.int .i64 z4) = wk at hG ⊢
  refine K2 fun kA kF cA => ?_
  go_upto_region 21 with fail
  clear cA kA kF
  replace hG := hG.up 5
  generalize wk.setCell ⟨gc, 0, none⟩ (.int .i64 (5 : Nat)) = wk at hG ⊢
  refine K2 fun kA kF cA => ?_
  have HN := bA (nF gc g7 5 _ _ _ ps hpsl.out Zb wk hG.2.2.1 hG.1 hG.2.2.2.1 hpl9)
  have k1 := hG.cnt.1
  go_upto_region 23 with fail
  refine Calls.mono HN.o ?_
  rintro e w5 ⟨z5, w4, rfl, gz5, nz5, hb4, rfl⟩
  replace hG := hG.take hb4 (5 + 1) rfl
  clear HN hb4 k1
  generalize w4.setCell ⟨gc, 0, none⟩ (.int .i64 ((5 + 1 : Nat) : Int)) = wk at hG ⊢
  have cN := (hG.node 5).1
  have fN := (hG.node 5).2
  have cA := (hG.node 0).1
  simp only [Yl] at cN cA
  go_upto_region 23 with fail
  clear cN fN cA
  replace hG := hG.put 5 z5 Ze
  dsimp only [jZ] at hG
  generalize wk.setCell ⟨g7 + 1, 5, none⟩ (.int .i64 z5) = wk at hG ⊢
  refine K2 fun kA kF cA => ?_
  exact GEx
  ) : P := h
theorem GS7 {P : Prop} (h : P := by
  refine Vl fun HN k1 => ?_
  go_upto_region 15 with fail
  refine Calls.mono HN.o ?_
  rintro e w5 ⟨z2, w4, rfl, gz2, nz2, hb4, rfl⟩
  replace hG := hG.take hb4 (1 + 1) rfl
  clear HN hb4 k1
  generalize w4.setCell ⟨gc, 0, none⟩ (.int .i64 ((1 + 1 : Nat) : Int)) = wk at hG ⊢
  refine Wh fun fN cN cA => ?_
  go_upto_region 15 with fail
  clear cN fN cA
  replace hG := hG.put 2 z2 Ze
  dsimp only [jZ] at hG
  generalize wk.setCell ⟨g7 + 1, 2, none⟩ (.int .i64 z2) = wk at hG ⊢
  refine K2 fun kA kF cA => ?_
  go_upto_region 18 with fail
  clear cA kA kF
  replace hG := hG.up 3
  generalize wk.setCell ⟨gc, 0, none⟩ (.int .i64 (3 : Nat)) = wk at hG ⊢
  refine K2 fun kA kF cA => ?_
  go_upto_region 21 with fail
  clear cA kA kF
  replace hG := hG.up 4
  generalize wk.setCell ⟨gc, 0, none⟩ (.int .i64 (4 : Nat)) = wk at hG ⊢
  refine K2 fun kA kF cA => ?_
  exact GEx
  ) : P := h
set_option maxHeartbeats 40000000 in
theorem bKH (s : List UInt8) (hs : s.length ≤ 4294967280) (w : World) : Calls prog 57 #[cE s] w fun e w' =>
  ∃ n : Nd, e = .returned (.agg #[.int .i64 n.op, .int .i64 n.d, .int .i64 n.a, .int .i64 n.b, .int .i64 n.t, .int .i64 n.e]) ∧ (∀ i, i < 6 → cB (n.fld i)) ∧ (∀ m, dH m → s = dS m → n = m) ∧ Below w.heap.size w w' := by
 have HC := fun W => bA (bAW 32 9 Zb s hs W)
 go_enter func57, ntmps57
 go_wp2_with (refine ((HC _).out).mono ?_; rintro e w1 ⟨v1, rfl, hR1, hb1⟩; generalize hps : (eM 32 s).take 9 = ps at *; obtain ⟨A1, c1, rfl, _, _⟩ := hR1.shape; rw [Uj] at *; have hR0 := (Blk.new w 39 #[.int .i64 0, .int .i64 0, .int .i64 0, .int .i64 0, .int .i64 0, .int .i64 0]).below hb1 Zf; have hBw : Below w.heap.size w w1 := ((Bnq _ _)).trans (hb1.mono Zf))
 have hp9 : ps.length ≤ 9 := by rw [← hps, List.length_take]; omega
 obtain ⟨p0, pr, hpc⟩ : ∃ p0 pr, ps = p0 :: pr := by
  cases h : ps with
  | nil =>
   rw [h] at hps
   exact absurd ((List.take_eq_nil_iff.1 hps).resolve_left Zb) (bID 32 s)
  | cons x r => exact ⟨x, r, rfl⟩
 have Hps := bA hps
 have Hpc := bA hpc
 have hpl : 0 < ps.length := by rw [hpc]; simp
 have hpsl : ∀ p ∈ ps, p.length ≤ 4294967280 := by
  intro p hp
  rw [← hps] at hp
  have := vM 32 s p (List.mem_of_mem_take hp)
  omega
 have hpsl := bA hpsl
 have hpl9 : ps.length ≤ 1000 := Zb
 clear hps hpc HC
 go_loopg [5] (13) (fun gk i wr => ∃ (k : Nat) (o : Int), k ≤ 13 ∧ i = .int .i64 k ∧ gk = 13 - k ∧ (-1 ≤ o ∧ o ≤ 12) ∧ (∀ j : Nat, j < k → opW (j : Int) = p0 → o = j) ∧ Blk wr w1.heap.size 102 #[.slice A1 ps.length c1] ∧ Blk wr (w1.heap.size + 1) 39 #[.int .i64 o, .int .i64 0, .int .i64 0, .int .i64 0, .int .i64 0, .int .i64 0] ∧ Below w1.heap.size w1 wr)
 case atStart => exact ⟨0, -1, Zb, rfl, rfl, ⟨Zb, Zb⟩, fun j hj => absurd hj (Nat.not_lt_zero _), Yd, Yd, Yc⟩
 case round =>
  obtain ⟨k, o, hk, rfl, hgk, ho, hoP, hP, hN, hB⟩ := hrel
  have Hgk := bA hgk
  have HoP := bA hoP
  clear hgk hoP
  by_cases hlt : k < 13
  ·obtain ⟨b0, o0, rfl, hb0, hv0⟩ := hR1.vals (by rw [Hpc.o]; simp)
   have hv0 : w1.cell? ⟨b0, o0, none⟩ = some (cE p0) := by have := hv0 0 (cE p0) (by rw [Hpc.o]; rfl); simpa using this
   have hl0 : (0 : Int) < (ps.length : Int) := Zb
   go_upto_region 6 with (refine (oE _).mono ?_; rintro e w4 ⟨rfl, hw4⟩)
   have hPa := hP.alloc (.cells gI 9)
   have hNa := hN.alloc (.cells gI 9)
   have hBa : Below w1.heap.size w1 (wr.alloc (.cells gI 9)) := hB.alloc hB.size _
   generalize wr.alloc (.cells gI 9) = wa at *
   have hva := (hBa.cell (p := ⟨b0, o0, none⟩) hb0).trans hv0
   have cPa := hPa.cell 0
   simp only [List.getElem?_toArray, List.getElem?_cons_zero] at cPa
   go_cut [29] (fun s29 wx => s29 = .bool (decide (opW (k : Int) = p0)) ∧ Blk wx w1.heap.size 102 #[.slice (some ⟨b0, o0, none⟩) ps.length c1] ∧ Blk wx (w1.heap.size + 1) 39 #[.int .i64 o, .int .i64 0, .int .i64 0, .int .i64 0, .int .i64 0, .int .i64 0] ∧ Below w1.heap.size w1 wx)
   case first =>
    clear hv0 hP hN hB HoP hR1
    go_region_with (go_at_call 88; refine (oE _).mono ?_; rintro e w5 ⟨rfl, hw5⟩; have hb5 : Below wa.heap.size wa w5 := (by rw [hw5]; exact ((Below.refl _ _).drew).alloc (Nat.le_refl _) _); have hv5 := (hb5.cell (p := ⟨b0, o0, none⟩) (V6 hb0 hBa.size)).trans hva; have hP5 := hPa.below hb5 hPa.lt; have hN5 := hNa.below hb5 hNa.lt; have hB5 : Below w1.heap.size w1 w5 := hBa.trans (hb5.mono hBa.size); have cP5 := hP5.cell 0; have cn := zF hw5 k hlt; simp only [List.getElem?_toArray, List.getElem?_cons_zero, World.size_drew] at cP5 cn; clear hw5)
    all_goals (go_wp2_with fail)
    all_goals go_meet
    all_goals exact ⟨(by first | rfl | (congr 1; by_cases h : opW (k : Int) = p0 <;> simp [h])), hP5, hN5, hB5⟩
   case rest =>
    obtain ⟨rfl, hP, hN, hB⟩ := hcut
    have c0 := hN.cell 0
    have f0 := hN.frozen 0
    have lN := hN.lt
    simp only [List.getElem?_toArray, List.getElem?_cons_zero] at c0
    by_cases heq : opW (k : Int) = p0
    ·have hd : decide (opW (k : Int) = p0) = true := decide_eq_true heq
     go_wp2_with fail
     go_roundg (13 - (k + 1))
     case measure => exact Jg
     case rel => exact ⟨k + 1, k, Zb, by go_num, rfl, ⟨Zb, Zb⟩, fun j hj he => (uZ ⟨Zb, Zb⟩ ⟨Zb, Zb⟩ (heq.trans he.symm)), hP.far Zf _, hN.set_ 0 _, hB.setCell Zf _⟩
    ·have hd : decide (opW (k : Int) = p0) = false := decide_eq_false heq
     go_wp2_with fail
     go_roundg (13 - (k + 1))
     case measure => exact Jg
     case rel => exact ⟨k + 1, o, Zb, by go_num, rfl, ho, fun j hj he => (Nat.lt_or_eq_of_le (Nat.lt_succ_iff.1 hj)).elim (fun h => HoP.o j h he) (fun h => absurd (h ▸ he) heq), hP, hN, hB⟩
  ·obtain rfl : k = 13 := Zb
   have hF := gL o
   have gi : cB o := ⟨Zb, Zb⟩
   go_upto_region 8 with (refine (oE _).mono ?_; rintro e w4 ⟨rfl, hw4⟩)
   have hPa := hP.alloc (.cells gI 9)
   have hNa := hN.alloc (.cells gI 9)
   have hBa : Below w1.heap.size w1 (wr.alloc (.cells gI 9)) := hB.alloc hB.size _
   generalize wr.alloc (.cells gI 9) = wa at *
   clear hP hN hB hw4
   have hRa := hR1.below' hBa
   have hZa := hR0.below hBa hR0.lt
   have hro := bA (fun k (e : (Value.slice A1 ps.length c1).ownBlock = some k) => (hR1.lt k e).2)
   have lNa := hNa.lt
   have f0 := hNa.frozen 0
   have c0 := hNa.cell 0
   simp only [List.getElem?_toArray, List.getElem?_cons_zero] at c0
   have hbw : w.heap.size < w1.heap.size := hR0.lt
   have hBw2 : Below w.heap.size w wa := hBw.trans (hBa.mono (Nat.le_of_lt hbw))
   clear hBa hBw hb1 hR1 hR0
   generalize w1.heap.size = g7 at *
   have hmap : (ps.map cE).length ≤ 9 := by rw [Uj]; exact hp9
   rcases opK o ho with ⟨rfl, b1, b2, b3, hp⟩ | ⟨rfl, b1, b2, b3, hp⟩ | ⟨rfl, b1, b2, b3, hp⟩ | ⟨rfl, b1, b2, b3, hp⟩ | ⟨-, ⟨b1, b2, b3, hp⟩, e1, e2, e3⟩ | ⟨rfl, b1, b2, b3, hp⟩ | ⟨rfl, b1, b2, b3, hp⟩ | ⟨rfl, b1, b2, b3, hp⟩ | ⟨rfl, b1, b2, b3, hp⟩
   all_goals (
    rw [b1, b2, b3] at hF
    have HF := fun W => bA (hF W)
    clear hF
    go_upto_region 11 with fail
    refine Calls.mono (HF _).out ?_
    rintro e w4 ⟨rfl, rfl⟩
    go_upto_region 11 with fail
    have hG : GSt w.heap.size g7 wa.heap.size A1 c1 _ ps w (wa.alloc (.cells #[.int .i64 1] 3)) 1 ⟨_, 0, 0, 0, 0, 0⟩ := ⟨hPa.alloc _, hNa.alloc _, Blk.new _ _ _, hRa.alloc _, hZa.alloc _, hBw2.alloc hBw2.size _, hbw, lNa, Nat.le_of_lt hbw, hro.out⟩
    clear hPa hNa hRa hZa hBw2 f0 c0 HF
    generalize wa.alloc (.cells #[.int .i64 1] 3) = wk at hG ⊢
    generalize wa.heap.size = gc at hG ⊢
    refine K2 fun kA kF cA => ?_
    skip)
   ·exact GS1
   ·exact GS1
   ·exact GS2
   ·exact GS2
   ·exact GS3
   ·exact GS4
   ·exact GS5
   ·exact GS6
   ·exact GS7
end
section
open Go.Lib
def bOI (s : List UInt8) (L : List (List UInt8)) (regs : Int) (ns : List Nd) (j : Nat) : Prop :=
 ∀ r l, chk r l = 0 → Fit l → s = cD r l → regs = r ∧ L.length = l.length + 2 ∧ ns = l.take (j - 1)
theorem bJI {V : World} {a b i : Nat} (h : ¬ (a = b)) (o : Nat) (u : Value) : (V.setCell ⟨b, i, none⟩ u).cell? ⟨a, o, none⟩ = V.cell? ⟨a, o, none⟩ := by simp [Vv, h]
theorem bPX {l : List Nd} {x : Nd} (h : Fit l) (hx : ∀ i, i < 6 → cB (x.fld i)) : Fit (l ++ [x]) := fun n hn i hi => by
 rcases List.mem_append.1 hn with h1 | h1
 ·exact h n h1 i hi
 ·rw [List.mem_singleton.1 h1]; exact hx i hi
theorem bOI.next {s : List UInt8} {L : List (List UInt8)} {regs : Int} {ns : List Nd} {j : Nat} {xs : List UInt8} {x : Nd} (hL : (eM 10 s).take 259 = L) (hxs : L[j]? = some xs) (hn : ns.length = j - 1) (hj : 1 ≤ j)
  (hxm : ∀ m, dH m → xs = dS m → x = m) (hlt : j + 1 < L.length) (h : bOI s L regs ns j) : bOI s L regs (ns ++ [x]) (j + 1) := by
 intro r l hc hf hs
 obtain ⟨h1, h2, h3⟩ := h r l hc hf hs
 refine ⟨h1, h2, ?_⟩
 have hl := (kZ hL hc hs).1
 obtain ⟨m, hm⟩ : ∃ m, l[j - 1]? = some m := ⟨_, Vx Zb⟩
 have hx : xs = dS m := by
  rw [hl] at hxs
  obtain ⟨i, rfl⟩ : ∃ i, j = i + 1 := ⟨j - 1, Zb⟩
  rw [List.getElem?_cons_succ, Uk (by rw [Uj]; omega), List.getElem?_map] at hxs
  simp only [Nat.add_sub_cancel] at hm
  rw [hm] at hxs
  exact (Option.some.inj hxs).symm
 rw [h3, hxm m (gP hc hf m (V4 hm)) hx, show j + 1 - 1 = j - 1 + 1 by omega, List.take_add_one, hm]
 rfl
theorem bBI (s : List UInt8) (hs : s.length ≤ 4294967280) (w : World) : Calls prog 22 #[cE s] w fun e w' =>
  ∃ regs l v ok, e = .returned (.tuple #[.agg #[.int .i64 regs, v], .bool ok]) ∧ cO w' w.heap.size 39 v l ∧ Below w.heap.size w w' ∧ zT s regs l ok := by
 obtain ⟨i3, h3i, h3z, h3s, h3b⟩ := info_parts iG
 have HC := fun W => bA (bAW 10 259 Zb s hs W)
 go_enter func22, ntmps22
 go_upto_region 2 with fail
 refine Calls.mono (HC _).out ?_
 rintro e w1 ⟨v1, rfl, hR1, hb1⟩
 generalize hL : (eM 10 s).take 259 = L at *
 obtain ⟨A1, c1, rfl, _, _⟩ := hR1.shape
 rw [Uj] at *
 have hZ := (Blk.new w 24 #[.int .i64 0, .slice none 0 0]).below hb1 Zf
 have hBw : Below w.heap.size w w1 := ((Bnq _ _)).trans (hb1.mono Zf)
 obtain ⟨L0, Lr, hLc⟩ : ∃ x r, L = x :: r := by
  cases h : L with
  | nil =>
   rw [h] at hL
   exact absurd ((List.take_eq_nil_iff.1 hL).resolve_left Zb) (bID 10 s)
  | cons x r => exact ⟨x, r, rfl⟩
 have hL259 : L.length ≤ 259 := by rw [← hL, List.length_take]; omega
 have hLs : ∀ p ∈ L, p.length ≤ 4294967280 := by
  intro p hp
  rw [← hL] at hp
  have := vM 10 s p (List.mem_of_mem_take hp)
  omega
 have hLp : 0 < L.length := by rw [hLc]; simp
 have HC2 := fun W => bA (bAW 32 3 Zb L0 (hLs _ (by rw [hLc]; simp)) W)
 have HL := bA hL
 have HLc := bA hLc
 have HLs := bA hLs
 clear hL hLs HC hb1
 have hRw := hR1.vals (by rw [hLc]; simp)
 clear hLc
 obtain ⟨b0, o0, rfl, hb0, hv0⟩ := hRw
 have Hv := bA hv0
 have hv0 : w1.cell? ⟨b0, o0, none⟩ = some (cE L0) := by have := hv0 0 (cE L0) (by rw [HLc.o]; rfl); simpa using this
 have hl0 : (0 : Int) < (L.length : Int) := Zb
 have hw1 : w.heap.size < w1.heap.size := hZ.lt
 go_upto_region 4 with fail
 refine Calls.mono (HC2 _).out ?_
 rintro e w2 ⟨v2, rfl, hR2, hb2⟩
 generalize hW : (eM 32 L0).take 3 = W at *
 obtain ⟨A2, c2, rfl, _, _⟩ := hR2.shape
 rw [Uj] at *
 have hP := (Blk.new w1 24 #[.int .i64 0, .slice none 0 0]).below hb2 Zf
 have hZ2 := (hZ.alloc (.cells #[.int .i64 0, .slice none 0 0] 24)).below hb2 Zh
 have hB2 : Below w1.heap.size w1 w2 := ((Bnq _ _)).trans (hb2.mono Zf)
 have HW := bA hW
 have hws : ∀ p ∈ W, p.length ≤ 4294967280 := by
  intro p hp
  rw [← hW] at hp
  have h1 := vM 32 L0 p (List.mem_of_mem_take hp)
  have h2 := HLs.o L0 (by rw [HLc.o]; simp)
  omega
 have HWs := bA hws
 clear hW hws HC2 hb2
 go_upto_if 17 with fail
 go_cut [] (fun wx => ∃ regs, (∀ r l, chk r l = 0 → s = cD r l → regs = r) ∧ cB regs ∧ Blk wx w1.heap.size 24 #[.int .i64 regs, .slice none 0 0] ∧ Blk wx w.heap.size 24 #[.int .i64 0, .slice none 0 0] ∧ Below w1.heap.size w1 wx)
 case first =>
  by_cases h2 : W.length = 2
  ·have e2 : ((W.length : Int) == 2) = true := by rw [beq_iff_eq]; omega
   obtain ⟨W0, W1, hWc⟩ : ∃ x y, W = [x, y] := by
    match W, h2 with
    | [x, y], _ => exact ⟨x, y, rfl⟩
   subst hWc
   obtain ⟨b2, o2, rfl, hb2, hv2⟩ := hR2.vals Zf
   have hv2 : w2.cell? ⟨b2, o2 + 1, none⟩ = some (cE W1) := hv2 1 (cE W1) rfl
   have HS := bA (bEY W1 (HWs.o _ Zf) w2)
   clear e2 h2
   simp only [List.length_cons, List.length_nil] at *
   go_upto_region 6 with fail
   refine Calls.mono HS.o ?_
   rintro e w3 ⟨z, ok, rfl, hz, hzn, hb3⟩
   have hP3 := hP.below hb3 hP.lt
   have q0 := hP3.cell 0
   have qf := hP3.frozen 0
   simp only [List.getElem?_toArray, List.getElem?_cons_zero] at q0
   have Hz := bA hzn
   clear hzn
   go_wp2_with fail
   go_meet
   refine ⟨z, fun r l hc hs' => Hz.o r (kZ HL.o hc hs').2 ?_, hz, hP3.set_ 0 _, (hZ2.below hb3 hZ2.lt).far Zh _, (hB2.trans (hb3.mono hB2.size)).setCell Zf _⟩
   have h1 := (kZ HL.o hc hs').1
   rw [HLc.o] at h1
   injection h1 with h1 _
   have h3 := HW.o
   rw [h1, wN] at h3
   injection h3 with _ h3
   injection h3 with h3 _
   exact h3.symm
  ·have e2 : ((W.length : Int) == 2) = false := by rw [beq_eq_false_iff_ne]; omega
   go_wp2_with fail
   go_meet
   refine ⟨0, fun r l hc hs' => ?_, ⟨Zb, Zb⟩, hP, hZ2, hB2⟩
   exfalso
   apply h2
   have h1 := (kZ HL.o hc hs').1
   rw [HLc.o] at h1
   injection h1 with h1 _
   rw [← HW.o, h1, wN]
   rfl
 case rest =>
  obtain ⟨regs, hsoon, hrg, hP, hZ, hB⟩ := hcut
  clear hR2 hZ2 hB2 hv0 HW HWs
  have Hsoon := bA hsoon
  have Hrg := bA hrg
  clear hsoon hrg
  go_wp2_with fail
  go_loopg [7] (L.length) (fun gk i wr => ∃ (j : Nat) (ns : List Nd) (v : Value), 1 ≤ j ∧ j ≤ L.length + 1 ∧ i = .int .i64 j ∧ gk = L.length + 1 - j ∧ ns.length = j - 1 ∧ Fit ns ∧ bOI s L regs ns j ∧ cO wr (w1.heap.size + 1) 39 v ns ∧ Blk wr w1.heap.size 24 #[.int .i64 regs, v] ∧ Blk wr w.heap.size 24 #[.int .i64 0, .slice none 0 0] ∧ Below w1.heap.size w1 wr)
  case atStart => exact ⟨1, [], .slice none 0 0, Zb, Zb, rfl, Zb, rfl, fun n hn => absurd hn Zf, fun r l hc hf hs' => ⟨Hsoon.o r l hc hs', by rw [(kZ HL.o hc hs').1]; simp, Zf⟩, bO.nil_ _ _ _, hP, hZ, hB⟩
  case round =>
   obtain ⟨j, ns, v, hj1, hjL, rfl, hgk, hnl, hfit, hsn, hN, hP, hZ, hB⟩ := hrel
   have Hgk := bA hgk
   have Hsn := bA hsn
   have Hfit := bA hfit
   have hn3 : ns.length ≤ 259 := Zb
   have Hnl := bA hnl
   clear hgk hsn hfit hnl
   have lP := hP.lt
   have p0 := hP.cell 0
   have p1 := hP.cell 1
   have pf := hP.frozen 1
   simp only [Yl] at p0 p1
   obtain ⟨An, cn, rfl, _, _⟩ := hN.shape
   by_cases hlt : j + 1 < L.length
   ·have d1 : decide ((j : Int) + 1 < (L.length : Int)) = true := decide_eq_true Zb
    obtain ⟨xs, hxs⟩ : ∃ x, L[j]? = some x := ⟨_, Vx Zb⟩
    have hcj : wr.cell? ⟨b0, o0 + j, none⟩ = some (cE xs) := (hB.cell (p := ⟨b0, o0 + j, none⟩) hb0).trans (Hv.o j (cE xs) (by rw [List.getElem?_map, hxs]; rfl))
    have HG := fun W => bA (bKH xs (HLs.o _ (V4 hxs)) W)
    have Hxs := bA hxs
    clear hxs
    obtain ⟨j0, j1⟩ := Ikq (k := j) (n := L.length) (by omega)
    go_upto_region 9 with fail
    have hz := hB.size
    -- region 9
    refine wp_region_held_drew (S := fun w' => (w'.cell? ⟨b0, o0 + j, none⟩ = some (cE xs))) Zc ?_ ?_
    ·exact (hcj)
    intro hH
    have hC0 : Below wr.heap.size wr wr.drew := (Below.refl _ _).drew
    generalize wr.drew = V0 at hH hC0 ⊢
    refine Up (fun _ _ _ _ _ => id) fun hPq => ?_
    refine Vc 0 _ rfl hPq hH ?_
    try simp only [Nm]
    refine Vc 2 _ rfl hPq hH ?_
    try simp only [Nm]
    refine Vc 3 _ rfl hPq hH ?_
    try simp only [Nm]
    refine Vc 4 _ rfl hPq hH ?_
    try simp only [Nm]
    refine Vb 5 _ rfl hPq hH ?_
    try simp only [Nm]
    refine wpAnyH_ready (rs := [1, 6]) Zc Zf ?_
    refine Ug rfl (fun K hK => ?_) (Ug rfl (fun K hK => ?_) Uh)
    focus
     have HK1 := bA hK
     clear hK
     have hx := (hP.below hC0 hP.lt).cell 1
     simp only [Yl] at hx
     go_simp
     clear hx hH
     refine Shut.out HK1.o _ _ (((bB hC0).1 _ _ Zb).trans hcj) (fun hH => ?_)
     try simp only [Nm]
     clear HK1
     refine Rd 6 Zc rfl (fun K hK => ?_)
     have HK6 := bA hK
     clear hK
     go_simp
     go_at_call 57
     refine ((HG _).out).mono ?_
     rintro e V1 ⟨x, rfl, hxf, hxm, hbV1⟩
     have hC1 : Below wr.heap.size wr V1 := hC0.trans (hbV1.mono hC0.size)
     clear hH
     refine Shut.out HK6.o _ _ (((bB hC1).1 _ _ Zb).trans hcj) (fun hH => ?_)
     try simp only [Nm]
     clear HK6
     refine Rd 7 Zc rfl (fun K hK => ?_)
     have HK7 := bA hK
     clear hK
     go_simp
     obtain ⟨V2, hV2⟩ := Exq (V1.alloc (.cells #[.int .i64 x.op, .int .i64 x.d, .int .i64 x.a, .int .i64 x.b, .int .i64 x.t, .int .i64 x.e] 39))
     rw [← hV2]
     refine Wu fun hC2 hv1 => ?_; clear hH hV2
     refine Shut.out HK7.o _ _ (((bB hC2).1 _ _ Zb).trans hcj) (fun hH => ?_)
     try simp only [Nm]
     clear HK7
    rotate_left
    focus
     have HK6 := bA hK
     clear hK
     go_simp
     go_at_call 57
     refine ((HG _).out).mono ?_
     rintro e V1 ⟨x, rfl, hxf, hxm, hbV1⟩
     have hC1 : Below wr.heap.size wr V1 := hC0.trans (hbV1.mono hC0.size)
     clear hH
     refine Shut.out HK6.o _ _ (((bB hC1).1 _ _ Zb).trans hcj) (fun hH => ?_)
     try simp only [Nm]
     clear HK6
     refine wpAnyH_ready (rs := [1, 7]) Zc Zf ?_
     refine Ug rfl (fun K hK => ?_) (Ug rfl (fun K hK => ?_) Uh)
     focus
      have HK1 := bA hK
      clear hK
      have hx := (hP.below hC1 hP.lt).cell 1
      simp only [Yl] at hx
      go_simp
      clear hx hH
      refine Shut.out HK1.o _ _ (((bB hC1).1 _ _ Zb).trans hcj) (fun hH => ?_)
      try simp only [Nm]
      clear HK1
      refine Rd 7 Zc rfl (fun K hK => ?_)
      have HK7 := bA hK
      clear hK
      go_simp
      obtain ⟨V2, hV2⟩ := Exq (V1.alloc (.cells #[.int .i64 x.op, .int .i64 x.d, .int .i64 x.a, .int .i64 x.b, .int .i64 x.t, .int .i64 x.e] 39))
      rw [← hV2]
      refine Wu fun hC2 hv1 => ?_; clear hH hV2
      refine Shut.out HK7.o _ _ (((bB hC2).1 _ _ Zb).trans hcj) (fun hH => ?_)
      try simp only [Nm]
      clear HK7
     rotate_left
     focus
      have HK7 := bA hK
      clear hK
      go_simp
      obtain ⟨V2, hV2⟩ := Exq (V1.alloc (.cells #[.int .i64 x.op, .int .i64 x.d, .int .i64 x.a, .int .i64 x.b, .int .i64 x.t, .int .i64 x.e] 39))
      rw [← hV2]
      refine Wu fun hC2 hv1 => ?_; clear hH hV2
      refine Shut.out HK7.o _ _ (((bB hC2).1 _ _ Zb).trans hcj) (fun hH => ?_)
      try simp only [Nm]
      clear HK7
      refine Rd 1 Zc rfl (fun K hK => ?_)
      have HK1 := bA hK
      clear hK
      have hx := (hP.below hC2 hP.lt).cell 1
      simp only [Yl] at hx
      go_simp
      clear hx hH
      refine Shut.out HK1.o _ _ (((bB hC2).1 _ _ Zb).trans hcj) (fun hH => ?_)
      try simp only [Nm]
      clear HK1
    all_goals
     refine Rd 8 Zc rfl (fun K hK => ?_)
     have HK8 := bA hK
     clear hK
     refine iT (v := .slice An ns.length cn) (l := ns) (base := w1.heap.size + 1) Zj _ _ _ Zj i3 _ 48 underlying22 h3i h3z h3s h3b rfl Zj (hN.below' hC2) (some ⟨_, 0, none⟩) 1 1 [x] Zj Zj hv1 Zq Zh X0 ?_
     intro v9 w9 hr9 hg9 hat9
     obtain ⟨A9, c9, hv9, _, _⟩ := hr9.shape
     subst hv9
     simp only [Vz, V8] at hr9 hat9 ⊢
     have hown : ∀ b, b < w1.heap.size → (some b) ≠ (Value.slice An ns.length cn).ownBlock := fun b hb e => by have := (hN.lt b e.symm).1; omega
     have hsz2 := hC2.size
     have X9 := (hg9.cell_far ⟨b0, o0 + j, none⟩ Zh (hown _ Zb)).trans (((bB hC2).1 _ _ Zb).trans hcj)
     have hq9 := Blk.grown (hP.below hC2 hP.lt) hg9 (hN.ne_blk hP Ze)
     have hZ9 := Blk.grown (hZ.below hC2 hZ.lt) hg9 (hN.ne_blk hZ Ze)
     have hB9 : Below w1.heap.size w1 w9 := Below.grown (hB.trans (hC2.mono hB.size)) hg9 (by have := hB.size; omega) (fun q hq => by have := (hN.lt q hq).1; omega)
     clear hat9 hH
     refine Shut.out HK8.o _ _ X9 (fun hH => ?_)
     try simp only [Nm]
     clear HK8
     refine Vc 9 _ rfl hPq hH ?_
     try simp only [Nm]
     refine Rd 10 Zc rfl (fun K hK => ?_)
     have HK10 := bA hK
     clear hK
     have hx := hq9.cell 1
     have fx := hq9.frozen 1
     simp only [Yl] at hx
     go_simp
     refine Shut.out HK10.o _ _ ((bJI Zb _ _).trans X9) (fun hH => ?_)
     try simp only [Nm]
     clear HK10
     refine wpAnyH_done Zc ?_ _
     go_wp2_with fail
     go_roundg (L.length + 1 - (j + 1))
     case measure => exact Jg
     case rel => exact ⟨j + 1, ns ++ [x], _, Zb, Zb, by go_num, rfl, by have := Hnl.o; simp; omega, bPX Hfit.o hxf, bOI.next HL.o Hxs.o Hnl.o hj1 hxm hlt Hsn.o, hr9.far (hr9.ne_blk hq9 Ze) _, hq9.set_ 1 _, hZ9.far Zh _, hB9.setCell Zf _⟩
    -- end of region 9
   ·have d1 : decide ((j : Int) + 1 < (L.length : Int)) = false := decide_eq_false Zb
    have HK := fun W (hb : Below wr.heap.size wr W) => bA (jU regs An ns cn W (hN.nodes.below hb))
    have z0 := hZ.cell 0
    have z1 := hZ.cell 1
    have zf0 := hZ.frozen 0
    have zf1 := hZ.frozen 1
    simp only [Yl] at z0 z1
    by_cases hc : chk regs ns = 0
    ·have hR := bS hc
     obtain ⟨hm1, hm256, hr1, hr64, hmo⟩ := jL hc
     rw [hc] at HK
     have HT := fun W (hb : Below wr.heap.size wr W) => bA (sH regs An ns cn W (hN.nodes.below hb) hm256 ⟨Zb, Zb⟩ hmo Hfit.o)
     have Hc := bA hc
     clear hR hc hmo
     go_wp2_with fail
     refine Calls.mono (HK _ (Below.refl _ _)).out ?_
     rintro e w5 ⟨rfl, hb5⟩
     have hP5 := hP.below hb5 hP.lt
     have p0 := hP5.cell 0
     have p1 := hP5.cell 1
     simp only [Yl] at p0 p1
     go_wp2_with fail
     refine Calls.mono (HT _ hb5).out ?_
     rintro e w6 ⟨rfl, hb6⟩
     have hb6 := hb5.trans (hb6.mono hb5.size)
     have hP6 := hP.below hb6 hP.lt
     have hZ6 := hZ.below hb6 hZ.lt
     have p0 := hP6.cell 0
     have p1 := hP6.cell 1
     have z0 := hZ6.cell 0
     have z1 := hZ6.cell 1
     have zf0 := hZ6.frozen 0
     have zf1 := hZ6.frozen 1
     have hZ6 := bA hZ6
     simp only [Yl] at p0 p1 z0 z1
     by_cases hE : cD regs ns = s
     ·rw [hE]
      go_wp2_with fail
      refine bodyPost_ret (v := .tuple #[.agg #[.int .i64 regs, .slice An ns.length cn], .bool true]) (by simp [results, results22, go_sem, p0, p1, z0, z1, zf0, zf1, Vw, Vv]; try rfl) rfl ⟨regs, ns, _, true, rfl, ?_, ?_, .inl ⟨rfl, Hc.o, Hfit.o, hE.symm⟩⟩
      ·exact ((hN.below' hb6).far (fun e => by have := (hN.lt _ e).1; simp only at this; omega) _).far (fun e => by have := (hN.lt _ e).1; simp only at this; omega) _ |>.mono Zb
      ·exact Jt
     ·have hne : (cD regs ns == s) = false := by rw [beq_eq_false_iff_ne]; exact hE
      have Hne := bA hE
      clear hE
      generalize hgs : cD regs ns = sh at *
      have Hgs := bA hgs
      clear hgs
      go_wp2_with fail
      refine bodyPost_ret (v := .tuple #[.agg #[.int .i64 0, .slice none 0 0], .bool false]) (by simp [results, results22, go_sem, p0, p1, z0, z1, zf0, zf1, Vw, Vv]; try rfl) rfl ⟨0, [], _, false, rfl, bO.nil_ _ _ _, ?_, .inr ⟨rfl, rfl, rfl, ?_⟩⟩
      ·exact Jt
      ·intro r l h1 h2 h3
       obtain ⟨e1, e2, e3⟩ := Hsn.o r l h1 h2 h3
       have hx := Hnl.o
       have e4 : ns = l := by rw [e3, List.take_of_length_le Zb]
       apply Hne.o
       rw [← Hgs.o, h3, e1, e4]
    ·have hn0 : (chk regs ns != 0) = true := by simp [hc]
     have Hc := bA hc
     clear hc
     generalize hgz : chk regs ns = cz at *
     have Hgz := bA hgz
     clear hgz
     go_wp2_with fail
     refine Calls.mono (HK _ (Below.refl _ _)).out ?_
     rintro e w6 ⟨rfl, hb6⟩
     have hZ6 := hZ.below hb6 hZ.lt
     have z0 := hZ6.cell 0
     have z1 := hZ6.cell 1
     have zf0 := hZ6.frozen 0
     have zf1 := hZ6.frozen 1
     simp only [Yl] at z0 z1
     go_wp2_with fail
     refine bodyPost_ret (v := .tuple #[.agg #[.int .i64 0, .slice none 0 0], .bool false]) (by simp [results, results22, go_sem, z0, z1, zf0, zf1, Vw, Vv]; try rfl) rfl ⟨0, [], _, false, rfl, bO.nil_ _ _ _, ?_, .inr ⟨rfl, rfl, rfl, ?_⟩⟩
     ·exact Jt
     ·intro r l h1 h2 h3
      obtain ⟨e1, e2, e3⟩ := Hsn.o r l h1 h2 h3
      have hx := Hnl.o
      have e4 : ns = l := by rw [e3, List.take_of_length_le Zb]
      apply Hc.o
      rw [Hgz.o.symm, e1, e4, h1]
end
section
open Go.Lib
theorem pW : chk 3 fT = 0 := Ze
theorem pV : Fit fT := by
 have h : fT.all (fun n => decide (-9223372036854775808 ≤ n.op ∧ n.op ≤ 9223372036854775807) && decide (-9223372036854775808 ≤ n.d ∧ n.d ≤ 9223372036854775807) && decide (-9223372036854775808 ≤ n.a ∧ n.a ≤ 9223372036854775807) && decide (-9223372036854775808 ≤ n.b ∧ n.b ≤ 9223372036854775807) && decide (-9223372036854775808 ≤ n.t ∧ n.t ≤ 9223372036854775807) && decide (-9223372036854775808 ≤ n.e ∧ n.e ≤ 9223372036854775807)) = true := Ze
 intro n hn i hi
 have := List.all_eq_true.1 h n hn
 simp only [V9, decide_eq_true_eq] at this
 rcases i with _ | _ | _ | _ | _ | _ | i <;> first | exact this.1.1.1.1.1 | exact this.1.1.1.1.2 | exact this.1.1.1.2 | exact this.1.1.2 | exact this.1.2 | exact this.2 | omega
theorem rJ {k : Nat} (h : k < 10) : itoa (k : Int) = [UInt8.ofNat (48 + k)] := by
 rw [lR, if_neg Zb, List.nil_append, Int.natAbs_natCast, iP h]
theorem bFQ : cD 3 fT = [114, 101, 103, 115, 32, 51, 10, 105, 110, 32, 48, 32, 116, 111, 32, 49, 10, 105, 110, 32, 49, 32, 116, 111, 32, 50, 10, 105, 102, 32, 48, 32, 116, 111, 32, 51, 32, 101, 108, 115, 101, 32, 53, 10, 97, 100, 100, 32, 50, 32, 48, 32, 49, 32, 116, 111, 32, 52, 10, 111, 117, 116, 32, 50, 32, 116, 111, 32, 53, 10, 97, 100, 100, 32, 50, 32, 48, 32, 49, 32, 116, 111, 32, 54, 10, 101, 110, 100, 32, 50, 10] := by
 have h0 : itoa 0 = [48] := rJ (k := 0) Zb
 have h1 : itoa 1 = [49] := rJ (k := 1) Zb
 have h2 : itoa 2 = [50] := rJ (k := 2) Zb
 have h3 : itoa 3 = [51] := rJ (k := 3) Zb
 have h4 : itoa 4 = [52] := rJ (k := 4) Zb
 have h5 : itoa 5 = [53] := rJ (k := 5) Zb
 have h6 : itoa 6 = [54] := rJ (k := 6) Zb
 simp [cD, cS, fT, fD, dS, dY, cC, dW, dL, Nd.fld, kO, toW, elseW, opW, jR, h0, h1, h2, h3, h4, h5, h6]
theorem bJH : (cD 3 fT).length ≤ 4294967280 := by
 rw [bFQ]
 decide
end
section
open Go.Maps
def cV (W : World) (g : Nat) (ts : List Tm) : Prop :=
 ∃ D : DataW Unit, W.ownsMap prog 56 (plainElem prog 3) g ts.length D ∧ (∀ (t : Tm) (l : Lit), keyOf prog 56 t.val = some l → D.atKey l (.lit (.int .i64 0)) = .lit (.int .i64 (ts.count t)))
  ∧ (∀ l, Maps.has D l = true → ∃ t ∈ ts, keyOf prog 56 t.val = some l) ∧ (∀ t ∈ ts, ∀ l, keyOf prog 56 t.val = some l → Maps.has D l = true)
section
variable {W W' : World} {g : Nat} {ts : List Tm}
theorem cV.own {row : Option Nat} (h : cV W g ts) (hg : W.grownBy W' row) (hr : row ≠ some g) : cV W' g ts := by (
 obtain ⟨D, h1, h2⟩ := h
 exact ⟨D, h1.kept hg (Ne.symm hr), h2⟩)
theorem cV.below (h : cV W g ts) (hb : Below W.heap.size W W') : cV W' g ts := by (
 obtain ⟨D, ⟨es, clock, hh, F, r⟩, h2⟩ := h
 exact ⟨D, ⟨es, clock, (hb.block g (cJ hh)).trans hh, F, r⟩, h2⟩)
theorem cV.drew (h : cV W g ts) : cV W.drew g ts := h
theorem cV.set (h : cV W g ts) {p : Addr} (hp : g ≠ p.block) (u : Value) : cV (W.setCell p u) g ts := by (
 obtain ⟨D, h1, h2⟩ := h
 exact ⟨D, h1.setCell hp u, h2⟩)
theorem cV.ne_row {B : Nat} {e : TypeId} {v : Value} {xs : List Value} (h : cV W g ts) (hr : Row W B e v xs) : v.ownBlock ≠ some g := by (
 obtain ⟨D, ⟨es, clock, hh, F, r⟩, h2⟩ := h
 rcases hr with ⟨rfl, _⟩ | ⟨g', o, cap, cur, rfl, _, hh', _⟩
 · exact Jb
 · (
 intro he
 simp [Value.ownBlock] at he
 subst he
 rw [hh] at hh'
 cases hh'))
theorem cV.ne_blk {b : Nat} {t : TypeId} {cs : Array Value} (h : cV W g ts) (hb : Blk W b t cs) : ¬ (b = g) := by (
 obtain ⟨D, ⟨es, clock, hh, F, r⟩, h2⟩ := h
 intro e
 subst e
 unfold Blk at hb
 rw [hh] at hb
 cases hb)
theorem cV.start : cV (W.alloc (.map #[] 0)) W.heap.size [] :=
 ⟨.map [], World.ownsMap_made _ _ _ _, fun t l hl => rfl, fun l h => (by cases h), fun t ht => (by cases ht)⟩
theorem cV.bump (h : cV W g ts) (hn : ts.length < 1000000) {t : Tm} {l : Lit} (hl : keyOf prog 56 t.val = some l) :
 (Instr.lookup 109 (.map (some g)) t.val false).run prog W = .ok (.int .i64 (ts.count t)) W ∧
  ∃ v0 st w1, (Instr.mapEntry 109 (.map (some g)) t.val).run prog W = .ok (.tuple #[v0, goInt st]) w1 ∧ W.grownBy w1 (some g) ∧ (Instr.lookup 109 (.map (some g)) t.val false).run prog w1 = .ok (.int .i64 (ts.count t)) w1 ∧
   ∃ w3, (Instr.entryStore 109 (.map (some g)) (goInt st) (.int .i64 ((ts.count t : Int) + 1))).run prog w1 = .ok () w3 ∧ w1.grownBy w3 (some g) ∧ cV w3 g (ts ++ [t]) := by (
 obtain ⟨D, hD, hc, hh1, hh2⟩ := h
 have e1 := hc t l hl
 have hcl : ts.count t ≤ ts.length := List.count_le_length
 have hmax : ts.length < maxLen := by unfold maxLen; omega
 obtain ⟨c', p1, p2, v0, st, w1, p3, p4, p5, p6⟩ := bCZ fI underlying109 underlying3 bFJ hD hmax hl
 rw [e1] at p2
 have hcc := pM p2
 rw [← hcc] at p1 p5
 have hwf : (Lit.int .i64 ((ts.count t : Int) + 1)).wf = true := by (
 unfold Lit.wf
 rw [V9]
 exact ⟨decide_eq_true Z7, decide_eq_true Z9⟩)
 obtain ⟨w3, q1, q2, q3⟩ := p6 _ hwf
 refine ⟨p1, v0, st, w1, p3, p4, p5, w3, q1, q3, ⟨_, by rw [Vz]; exact q2, fun t' l' hl' => ?_, fun l' h => ?_, fun t' ht l' hl' => ?_⟩⟩
 · (
 by_cases htt : t' = t
 · (
 subst htt
 rw [hl] at hl'
 have hl' := Option.some.inj hl'
 subst hl'
 rw [atKey_put_same hD.isMap ((Keyed.of_law fI).key hl)]
 simp [List.count_append])
 · (
 have hne : l' ≠ l := fun e => htt (vH (fI.inj (e ▸ hl') hl))
 rw [atKey_put_other hne, hc t' l' hl']
 have : (t == t') = false := by simpa using Ne.symm htt
 simp [List.count_append, List.count_singleton, this]))
 · (
 by_cases hll : l' = l
 · exact ⟨t, Zf, by rw [hll]; exact hl⟩
 · (
 rw [has_put_other hll] at h
 obtain ⟨u, hu, hk⟩ := hh1 l' h
 exact ⟨u, by simp [hu], hk⟩))
 · (
 by_cases hll : l' = l
 · (
 rw [hll]
 exact has_put_same hD.isMap ((Keyed.of_law fI).key hl) _)
 · (
 rw [has_put_other hll]
 rcases List.mem_append.1 ht with e | e
 · exact hh2 t' e l' hl'
 · (
 simp at e
 subst e
 rw [hl] at hl'
 have hl' := Option.some.inj hl'
 exact absurd hl'.symm hll))))
end
abbrev tH (regs : Int) (A : Option Addr) (l : List Nd) (cap : Nat) (Ai : Option Addr) (ci : Nat) (inp : List Int) (gr gm : Nat) (ov : Value) (s : Rn) : Array Value :=
 #[.int .i64 regs, .slice A l.length cap, .slice Ai (inp.length - s.read) ci, .slice (some ⟨gr, 0, none⟩) regs.toNat regs.toNat, .map (some gm), ov, .int .i64 s.ret, .bool s.ended, .int .i64 s.steps, .slice none 0 0]
structure MSt (w : World) (regs : Int) (A : Option Addr) (l : List Nd) (cap : Nat) (inp : List Int) (mb gr gm : Nat) (Ai : Option Addr) (ci : Nat) (ov : Value) (s : Rn) (W : World) : Prop where
 box : Blk W mb 111 (tH regs A l cap Ai ci inp gr gm ov s)
 regs : Row W w.heap.size 3 (.slice (some ⟨gr, 0, none⟩) regs.toNat regs.toNat) (bN s.regs)
 out : Row W w.heap.size 3 ov (bN s.out)
 cnt : cV W gm s.ts
 inv : bG w Ai (bN (inp.drop s.read))
 icap : inp.length - s.read ≤ ci ∧ ci ≤ maxLen
 ne : ov.ownBlock ≠ some gr
 mlo : w.heap.size ≤ mb
 glo : w.heap.size ≤ gm
 below : Below w.heap.size w W
section
variable {w : World} {regs : Int} {A : Option Addr} {l : List Nd} {cap : Nat} {inp : List Int} {mb gr gm : Nat} {Ai : Option Addr} {ci : Nat} {ov : Value} {s : Rn} {W W' : World}
theorem MSt.later (h : MSt w regs A l cap inp mb gr gm Ai ci ov s W) (hb : Below W.heap.size W W') : MSt w regs A l cap inp mb gr gm Ai ci ov s W' :=
 ⟨h.box.below hb h.box.lt, h.regs.below' hb, h.out.below' hb, h.cnt.below hb, h.inv, h.icap, h.ne, h.mlo, h.glo, h.below.trans (hb.mono h.below.size)⟩
theorem MSt.counted (h : MSt w regs A l cap inp mb gr gm Ai ci ov s W) (hg : W.grownBy W' (some gm)) {ts : List Tm} (hc : cV W' gm ts) : MSt w regs A l cap inp mb gr gm Ai ci ov { s with ts := ts } W' :=
 ⟨h.box.grown hg (by have := h.cnt.ne_blk h.box; simp; exact fun e => this e.symm), h.regs.kept hg (.inr (h.cnt.ne_row h.regs)), h.out.kept hg (.inr (h.cnt.ne_row h.out)), hc, h.inv, h.icap, h.ne, h.mlo, h.glo, h.below.grown hg h.below.size (fun q hq => by have := Option.some.inj hq; have := h.glo; omega)⟩
theorem MSt.ins (h : MSt w regs A l cap inp mb gr gm Ai ci ov s W) : bG W Ai (bN (inp.drop s.read)) := h.inv.below h.below
end
end
section
open Go.Maps
attribute [local irreducible] Row madeCells cV
theorem Row.int_ {w : World} {B g n c : Nat} {e : TypeId} {es : List Int} (h : Row w B e (.slice (some ⟨g, 0, none⟩) n c) (bN es)) {k : Nat} (hk : k < es.length) :
 w.cell? ⟨g, k, none⟩ = some (.int .i64 (rg es (k : Int))) ∧ w.frozen? ⟨g, k, none⟩ = false := by (
 obtain ⟨g', o', cp, u, e1, _, _, hu, hc, hf⟩ := h.get (k := k) (by rw [bJ]; exact hk)
 injection e1 with e1 _ _
 injection e1 with e1
 injection e1 with ea eb _
 subst ea eb
 rw [kC, Vx hk] at hu
 have hr : rg es (k : Int) = es[k] := bRH (Vx hk)
 rw [hr]
 simp only [Nat.zero_add] at hc hf
 exact ⟨by rw [hc]; exact hu.symm, hf⟩)
theorem bCW (w : World) (regs : Int) (A : Option Addr) (l : List Nd) (cap : Nat) (inp : List Int) (mb gr gm : Nat) (Ai : Option Addr) (ci : Nat) (ov : Value) (s : Rn) (W : World) (hM : MSt w regs A l cap inp mb gr gm Ai ci ov s W) (t : Tm) (kl : Lit)
 (hkl : keyOf prog 56 t.val = some kl) (hts : s.ts.length < 1000000) (hlen : s.regs.length = regs.toNat) (hr : regs.toNat ≤ 64) (ha : 0 ≤ t.a ∧ t.a < (regs.toNat : Int)) (hb : 0 ≤ t.b ∧ t.b < (regs.toNat : Int)) :
 Calls prog 90 #[.pointer (some ⟨mb, 0, none⟩), .agg #[.int .i64 t.op, .int .i64 t.a, .int .i64 t.b]] W fun e W' => e = .returned (.int .i64 (bCJ t.op (rg s.regs t.a) (rg s.regs t.b))) ∧ MSt w regs A l cap inp mb gr gm Ai ci ov { s with ts := s.ts ++ [t] } W' ∧ W.grownBy W' (some gm) := by (
 obtain ⟨g3, hg3⟩ := Exq W.heap.size
 obtain ⟨W0, hW0⟩ := Exq (W.alloc (.cells #[.int .i64 t.op, .int .i64 t.a, .int .i64 t.b] 56))
 have hM0 : MSt w regs A l cap inp mb gr gm Ai ci ov s W0 := by rw [hW0]; exact hM.later ((Bnq _ _))
 have hT : Blk W0 g3 56 #[.int .i64 t.op, .int .i64 t.a, .int .i64 t.b] := by rw [hW0]; exact Blk.new' hg3
 obtain ⟨hlook, v0, st, W1, hme, hg1, hlook1, W3, hst, hgw, hc3⟩ := (hM0.cnt.drew).bump hts hkl
 have hlook : (Instr.lookup 109 (.map (some gm)) (.agg #[.int .i64 t.op, .int .i64 t.a, .int .i64 t.b]) false).run prog W0.drew = .ok (.int .i64 (s.ts.count t)) W0.drew := hlook
 have hlook1 : (Instr.lookup 109 (.map (some gm)) (.agg #[.int .i64 t.op, .int .i64 t.a, .int .i64 t.b]) false).run prog W1 = .ok (.int .i64 (s.ts.count t)) W1 := hlook1
 have hme : (Instr.mapEntry 109 (.map (some gm)) (.agg #[.int .i64 t.op, .int .i64 t.a, .int .i64 t.b])).run prog W0.drew = .ok (.tuple #[v0, .int .i64 (st : Int)]) W1 := hme
 have hcl : s.ts.count t ≤ s.ts.length := List.count_le_length
 have hst : (Instr.entryStore 109 (.map (some gm)) (.int .i64 (st : Int)) (.int .i64 (IntKind.i64.wrap ((s.ts.count t : Int) + 1)))).run prog W1 = .ok () W3 := by rw [show IntKind.i64.wrap ((s.ts.count t : Int) + 1) = (s.ts.count t : Int) + 1 by rw [IntKind.wrap_i64]; omega]; exact hst
 have hM3 : MSt w regs A l cap inp mb gr gm Ai ci ov { s with ts := s.ts ++ [t] } W3 := by (
 have h0 : MSt w regs A l cap inp mb gr gm Ai ci ov s W0.drew := hM0.later ((Below.refl _ _).drew)
 have hc1 : W0.drew.grownBy W3 (some gm) := hg1.trans hgw
 exact h0.counted hc1 hc3)
 have hgr : W.grownBy W3 (some gm) := by (
 have h1 : W.grownBy W0.drew (some gm) := by rw [hW0]; exact ⟨rfl, rfl, rfl, Zf, fun k hk _ => Below.heap_alloc W _ k hk⟩
 exact h1.trans (hg1.trans hgw))
 have Hgr := bA hgr
 clear hgr
 have c4 := hM0.box.cell 4
 have t0 := hT.cell 0
 have t1 := hT.cell 1
 have t2 := hT.cell 2
 have lm := hM0.box.lt
 have lt3 := hT.lt
 have nm := hM0.cnt.ne_blk hM0.box
 have nt := hM0.cnt.ne_blk hT
 simp only [Yl] at c4 t0 t1 t2
 have e4 : W1.cell? ⟨mb, 4, none⟩ = some (.map (some gm)) := by rw [hg1.cell_far _ Zd Zh]; exact c4
 have e0 : W1.cell? ⟨g3, 0, none⟩ = some (.int .i64 t.op) := by rw [hg1.cell_far _ Zd Zh]; exact t0
 have e1 : W1.cell? ⟨g3, 1, none⟩ = some (.int .i64 t.a) := by rw [hg1.cell_far _ Zd Zh]; exact t1
 have e2 : W1.cell? ⟨g3, 2, none⟩ = some (.int .i64 t.b) := by rw [hg1.cell_far _ Zd Zh]; exact t2
 have hs1 := hg1.size
 simp only [World.size_drew] at hs1
 have f4 : W3.cell? ⟨mb, 4, none⟩ = some (.map (some gm)) := by rw [hgw.cell_far _ Zd Zh]; exact e4
 have f0 : W3.cell? ⟨g3, 0, none⟩ = some (.int .i64 t.op) := by rw [hgw.cell_far _ Zd Zh]; exact e0
 have f1 : W3.cell? ⟨g3, 1, none⟩ = some (.int .i64 t.a) := by rw [hgw.cell_far _ Zd Zh]; exact e1
 have f2 : W3.cell? ⟨g3, 2, none⟩ = some (.int .i64 t.b) := by rw [hgw.cell_far _ Zd Zh]; exact e2
 have f3 := hM3.box.cell 3
 simp only [Yl] at f3
 have ra := (hM3.regs.int_ (k := t.a.toNat) Zp).1
 have rb := (hM3.regs.int_ (k := t.b.toNat) Zp).1
 rw [Ue ha.1] at ra
 rw [Ue hb.1] at rb
 obtain ⟨ha0, ha1⟩ := ha
 obtain ⟨hb0, hb1⟩ := hb
 generalize hxa : rg s.regs t.a = xa at ra ⊢
 generalize hxb : rg s.regs t.b = xb at rb ⊢
 have HM3 := bA hM3
 have HW0 := bA hW0
 have Hg3 := bA hg3
 clear hg3
 obtain ⟨cn, hcn⟩ := Exq (s.ts.count t)
 rw [← hcn] at hlook hlook1 hst hcl
 clear hM hM0 hT hg1 hgw hc3 hM3 hW0 hs1 hkl hxa hxb hcn
 go_enter func90, ntmps90
 go_upto_region 1 with fail
 rw [← HW0.o, ← Hg3.o]
 refine wp_region_held_drew (S := fun w' => w'.cell? ⟨mb, 4, none⟩ = some (.map (some gm)) ∧ w'.cell? ⟨g3, 0, none⟩ = some (.int .i64 t.op) ∧ w'.cell? ⟨g3, 1, none⟩ = some (.int .i64 t.a) ∧ w'.cell? ⟨g3, 2, none⟩ = some (.int .i64 t.b)) Zc ⟨c4, t0, t1, t2⟩ ?_
 intro hH
 refine Up (fun _ _ _ _ _ => id) fun hP => ?_
 iterate 5 (refine Wa hP hH ?_; try simp only [Nm])
 refine wpAnyH_ready (rs := [5, 7]) Zc Zf ?_
 refine Ug rfl (fun K hK => ?_) (Ug rfl (fun K hK => ?_) Uh)
 · (
 have HK5 := bA hK
 clear hK
 go_simp
 refine Shut.out HK5.o _ _ hH (fun _ => ?_)
 try simp only [Nm]
 refine Va 6 _ rfl hP hH ?_
 try simp only [Nm]
 refine Rd 7 Zc rfl (fun K hK => ?_)
 have HK7 := bA hK
 clear hK
 go_simp
 refine Shut.out HK7.o _ _ ⟨e4, e0, e1, e2⟩ (fun hH => ?_)
 try simp only [Nm]
 refine Va 8 _ rfl hP hH ?_
 try simp only [Nm]
 refine Rd 9 Zc rfl (fun K hK => ?_)
 have HK9 := bA hK
 clear hK
 go_simp
 refine Shut.out HK9.o _ _ ⟨f4, f0, f1, f2⟩ (fun hH => ?_)
 try simp only [Nm]
 refine wpAnyH_done Zc ?_ _
 clear hH HK5 HK7 HK9 t0 t1 t2 c4 e0 e1 e2 e4 hlook hme hlook1 hst
 go_upto_region 2 with fail
 go_quiet (fail)
 go_wp2
 all_goals go_tidy
 all_goals go_ret
 all_goals exact ⟨bIF (by simp_all [bCJ]), HM3.o.later (bZ (Below.refl _ _) _), Hgr.o.trans ⟨rfl, rfl, rfl, Nat.le_refl _, fun _ _ _ => rfl⟩⟩)
 · (
 have HK7 := bA hK
 clear hK
 go_simp
 refine Shut.out HK7.o _ _ ⟨e4, e0, e1, e2⟩ (fun hH => ?_)
 try simp only [Nm]
 refine Va 8 _ rfl hP hH ?_
 try simp only [Nm]
 refine Rd 5 Zc rfl (fun K hK => ?_)
 have HK5 := bA hK
 clear hK
 go_simp
 refine Shut.out HK5.o _ _ hH (fun _ => ?_)
 try simp only [Nm]
 refine Va 6 _ rfl hP hH ?_
 try simp only [Nm]
 refine Rd 9 Zc rfl (fun K hK => ?_)
 have HK9 := bA hK
 clear hK
 go_simp
 refine Shut.out HK9.o _ _ ⟨f4, f0, f1, f2⟩ (fun hH => ?_)
 try simp only [Nm]
 refine wpAnyH_done Zc ?_ _
 clear hH HK5 HK7 HK9 t0 t1 t2 c4 e0 e1 e2 e4 hlook hme hlook1 hst
 go_upto_region 2 with fail
 go_quiet (fail)
 go_wp2
 all_goals go_tidy
 all_goals go_ret
 all_goals exact ⟨bIF (by simp_all [bCJ]), HM3.o.later (bZ (Below.refl _ _) _), Hgr.o.trans ⟨rfl, rfl, rfl, Nat.le_refl _, fun _ _ _ => rfl⟩⟩))
end
end Go.Proofs.YtmghkonmfbpjcabGreatDoor
