/- Parts. -/
import Derived.Test.YtmghkonmfbpjcabGreatDoorReachG
set_option linter.unusedVariables false
set_option linter.unusedSimpArgs false
set_option maxRecDepth 100000
set_option maxHeartbeats 8000000
namespace Go.Proofs.YtmghkonmfbpjcabGreatDoor
open Go.RowKit
open Go.Proofs.Tryz
section
open Go.Maps
attribute [local irreducible] Row madeCells bO
attribute [local go_sem] Oper.semAt_some
theorem bPT : Keyed prog 3 := int_keyed underlying3
theorem zero3 (w : World) : (zeroValue 3).run prog w = .ok (.int .i64 0) w := Zc
def bOG (t : TypeId) (regs : Int) (l : List Nd) (w : World) (e : Ending) (w' : World) : Prop :=
 Below w.heap.size w w' ∧ ((chk regs l ≠ 0 ∧ e = .returned (.tuple #[.agg #[.int .i64 0, .slice none 0 0], .int .i64 (chk regs l)])) ∨
  (chk regs l = 0 ∧ ∃ v, e = .returned (.tuple #[.agg #[.int .i64 regs, v], .int .i64 0]) ∧ cO w' w.heap.size t v (iS l)))
structure oC (B : Nat) (w : World) (regs : Int) (pv : Value) (g : Nat) (x : List Bool) (sv : Value) (m : Nat) (D : DataW Unit) (W : World) : Prop where
 map : W.ownsMap prog 3 (plainElem prog 3) g m D
 seen : Row W B 4 sv (bE x)
 box : Blk W (g + 1) 128 #[.map (some g)]
 p : Blk W B 24 #[.int .i64 regs, pv]
 o : Blk W (B + 1) 24 #[.int .i64 0, .slice none 0 0]
 below : Below B w W
 bg : B + 1 < g
 sz : B ≤ W.heap.size
section
variable {B : Nat} {w W W' : World} {regs : Int} {pv sv : Value} {g m : Nat} {x : List Bool} {D : DataW Unit}
theorem oC.later (h : oC B w regs pv g x sv m D W) (hb : Below W.heap.size W W') : oC B w regs pv g x sv m D W' :=
 ⟨xV h.map hb, h.seen.below' hb, h.box.below hb h.box.lt, h.p.below hb h.p.lt, h.o.below hb h.o.lt, h.below.trans (hb.mono h.sz), h.bg, Nat.le_trans h.sz hb.size⟩
theorem oC.own {row : Option Nat} {E : Nat} (h : oC B w regs pv g x sv m D W) (hg : W.grownBy W' row) (hr : ∀ r, row = some r → E ≤ r ∧ ∃ o : Obj, W.heap[r]? = some o ∧ o.isCells = false) (hE : B ≤ E) (hne : row ≠ some g) : oC B w regs pv g x sv m D W' :=
 have hr' := fun r e => (hr r e).2
 ⟨uE h.map hg hne, h.seen.own hg hr', h.box.own hg hr', h.p.own hg hr', h.o.own hg hr', kR h.below hg h.sz (fun r e => (hr r e).1) hE, h.bg, Nat.le_trans h.sz hg.size⟩
theorem oC.put {D2 : DataW Unit} {m2 : Nat} (h : oC B w regs pv g x sv m D W) (hm : W'.ownsMap prog 3 (plainElem prog 3) g m2 D2) (hg : W.grownBy W' (some g)) : oC B w regs pv g x sv m2 D2 W' :=
 ⟨hm, h.seen.kept hg (.inr (bFX h.seen h.map)), h.box.grown hg Zf, h.p.grown hg (by have := h.bg; simp <;> omega), h.o.grown hg (by have := h.bg; simp <;> omega), h.below.grown hg h.sz (fun k hk => by injection hk with hk; have := h.bg; omega), h.bg, Nat.le_trans h.sz hg.size⟩
theorem oC.grow {W2 : World} {v : Value} {out : List Nd} (h : oC B w regs pv g x sv m D W) (hN : cO W B 39 v out) (hg : W.grownBy W2 v.ownBlock) : oC B w regs pv g x sv m D W2 :=
 ⟨uE h.map hg (bCP hN h.map), h.seen.kept hg ((hN.ne_row h.seen Ze).elim (fun e => by rcases hs : sv.ownBlock with _ | q; exact .inl rfl; exact .inr Xo) fun e => .inr (Ne.symm e)), h.box.grown hg (hN.ne_blk h.box Ze), h.p.grown hg (hN.ne_blk h.p Ze), h.o.grown hg (hN.ne_blk h.o Ze),
  h.below.grown hg h.sz (fun q hq => (hN.lt q hq).1), h.bg, Nat.le_trans h.sz hg.size⟩
theorem oC.far {q : Addr} (h : oC B w regs pv g x sv m D W) (h1 : sv.ownBlock ≠ some q.block) (h2 : B + 1 < q.block) (h3 : q.block ≠ g + 1) (u : Value) : oC B w regs pv g x sv m D (W.setCell q u) :=
 ⟨bCO h.map _ _, h.seen.far h1 _, h.box.far (Ne.symm h3) _, h.p.far Zb _, h.o.far Zb _, h.below.setCell Zb _, h.bg, by simpa using h.sz⟩
end
def ndA (n : Nd) : Array Value := #[.int .i64 n.op, .int .i64 n.d, .int .i64 n.a, .int .i64 n.b, .int .i64 n.t, .int .i64 n.e]
def oK (x : List Bool) (n : Nd) (i : Nat) : Nd := { n with t := if 1 ≤ i then (rk x n.t.toNat : Nat) else n.t, e := if 2 ≤ i then (rk x n.e.toNat : Nat) else n.e }
theorem bPK {x : List Bool} {n : Nd} {i mm : Nat} (h : (i = 0 ∧ n.t = mm) ∨ (i = 1 ∧ n.e = mm)) : (ndA (oK x n i)).setIfInBounds (4 + i) (.int .i64 ((rk x mm : Nat) : Int)) = ndA (oK x n (i + 1)) := by (
 rcases h with ⟨rfl, h⟩ | ⟨rfl, h⟩
 · (
 have : n.t.toNat = mm := Zb
 simp [ndA, oK, this])
 · (
 have : n.e.toNat = mm := Zb
 simp [ndA, oK, this]))
theorem bJA (x : List Bool) (n : Nd) : oK x n (fM n.op) = kK x n := by (
 unfold oK kK fM
 by_cases h12 : n.op = 12
 · simp [h12]
 · (
 by_cases h11 : n.op = 11
 · simp [h11]
 · simp [h12, h11]))
theorem bEU (regs : Int) (A : Option Addr) (l : List Nd) (cap : Nat) (w : World) (hl : l.length ≤ maxLen) (hA : bH w A l) :
 Calls prog 38 #[.agg #[.int .i64 regs, .slice A l.length cap]] w (bOG 39 regs l w) := by (
 refine Vp fun hC HC => ?_
 have hG := fun W (hW : Below w.heap.size w W) (h : bM regs l) => bJL regs A l cap W (hA.below hW) h
 have HG := bA hG
 clear hC hG
 have hmm := @run_makeMap prog
 obtain ⟨i3, h3i, h3z, h3s, h3b⟩ := info_parts iG
 refine pO func38 rfl ?_
 simp only [ntmps38, List.size_toArray, List.length_cons, List.length_nil, Nat.reduceAdd, Nat.reduceSub, Array.replicate_succ, Array.replicate_zero, List.push_toArray, List.append_toArray, List.nil_append, List.cons_append]
 by_cases h0 : chk regs l = 0
 · (
 have H0 := bA h0
 have hR := bS h0
 have h0' : ((chk regs l) != 0) = false := by simp [h0]
 clear h0
 have hlo := hR.lo
 have hhi := hR.hi
 have HR := bA hR
 clear hR
 go_wp2_with (first | (go_at_call 10; refine (HC.o _ Yc).mono ?_; rintro e w1 ⟨rfl, hb1⟩; have hP1 : Blk w1 w.heap.size 24 #[.int .i64 regs, .slice A l.length cap] := Blk.below Yd hb1 Zd; have hO1 : Blk w1 (w.heap.size + 1) 24 #[.int .i64 0, .slice none 0 0] := Blk.below Yd hb1 Zd; have lp1 := hP1.lt; have lo1 := hO1.lt; have p0 := hP1.cell 0; have p1 := hP1.cell 1; have hz1 := hb1.size; simp only [World.size_alloc] at hz1; simp only [Yl] at p0 p1) |
  (go_at_call 71; refine (HG.o _ Yc HR.o).mono ?_; rintro e w2 ⟨v2, rfl, hr2, hb2⟩; obtain ⟨A2, c2, rfl, _, _⟩ := hr2.shape; rw [bD, lF] at hr2; try rw [bD, lF]; have hP2 := hP1.below hb2 hP1.lt; have hO2 := hO1.below hb2 hO1.lt; have lp2 := hP2.lt; have lo2 := hO2.lt; have p0 := hP2.cell 0; have p1 := hP2.cell 1; have hz2 := hb2.size; simp only [Yl] at p0 p1))
 have hx : (dO l).length = l.length := lF l
 generalize hxx : dO l = x at *
 have Hxx := bA hxx
 clear hxx
 have hS0 : oC w.heap.size w regs (.slice A l.length cap) w2.heap.size x (.slice A2 l.length c2) 0 (mQ x 0) ((w2.alloc (.map #[] 0)).alloc (.cells #[.map (some w2.heap.size)] 128)) :=
  ⟨(World.ownsMap_made _ _ _ _).alloc _, ((hr2.mono Zb).alloc _).alloc _, Blk.new' Zf, (hP2.alloc _).alloc _, (hO2.alloc _).alloc _, Yc, Zb, by simp <;> omega⟩
 clear hr2 hP2 hO2 hP1 hO1
 go_loopg [24] (l.length) (fun gk i wr => ∃ k : Nat, k ≤ l.length ∧ i = .int .i64 k ∧ gk = l.length - k ∧ Maps.size (mQ x k) = rk x k ∧ oC w.heap.size w regs (.slice A l.length cap) w2.heap.size x (.slice A2 l.length c2) k (mQ x k) wr)
 case atStart => exact ⟨0, Nat.zero_le _, rfl, rfl, rfl, hS0⟩
 case round => (
 clear hS0 hmm
 obtain ⟨k, hk, rfl, hgk, hsz, hS⟩ := hrel
 have Hgk := bA hgk
 have Hsz := bA hsz
 have hrl := rU x k
 have b0 := hS.box.cell 0
 have lb := hS.box.lt
 simp only [Yl] at b0
 clear hgk hsz
 by_cases hlt : k < l.length
 · (
 obtain ⟨gx, ox, cx, ex, hgx, hlx, ck, fk⟩ := hS.seen.bool (k := k) (by rw [hx]; exact hlt)
 injection ex with ex e1 e2
 subst ex e2
 clear e1
 refine Vk fun u0 u1 => ?_
 have HS := bA hS
 clear hS
 cases hy : yn x k
 · (
 rw [hy] at ck
 have Hy := bA hy
 clear hy
 go_wp2_with fail
 go_roundg (l.length - (k + 1))
 case measure => exact Jg
 case rel => (
 have h1 := HS.o
 exact ⟨k + 1, Zb, by go_num, rfl, pK (HS.o.map.tidy bPT) Hsz.o, by rw [vA Hy.o]; exact ⟨h1.map.mono (Nat.le_succ _), h1.seen, h1.box, h1.p, h1.o, h1.below, h1.bg, h1.sz⟩⟩))
 · (
 rw [hy] at ck
 have Hy := bA hy
 clear hy
 have hwf : (Lit.int .i64 (rk x k : Int)).wf = true := WalkArith.wf_i64 Zb
 have hwk : (Lit.int .i64 (k : Int)).wf = true := WalkArith.wf_i64 Zb
 have Hwf := bA hwf
 have Hwk := bA hwk
 clear hwf hwk
 go_wp2_with (first | (at_len; refine wpList_len_own _ rfl _ 128 rfl 3 3 underlying128 (plainElem prog 3) w2.heap.size k (mQ x k) rfl HS.o.map ?_; rw [Hsz.o]) |
  (at_mapUpdate; refine wpList_mapUpdate_own _ rfl _ _ _ 128 rfl 3 3 bPT underlying128 _ w2.heap.size k _ rfl HS.o.map Zw _ _ _ rfl rfl (keyOf_int_mk underlying3 Hwk.o) _ [] (plainElem_int underlying3 Hwf.o) ?_; intro w3 hown3 hg3))
 go_roundg (l.length - (k + 1))
 case measure => exact Jg
 case rel => (
 exact ⟨k + 1, Zb, by go_num, rfl, pK (HS.o.map.tidy bPT) Hsz.o, by rw [pJ Hy.o]; exact HS.o.put hown3 hg3⟩)))
 · (
 have hkk : k = l.length := Zb
 subst hkk
 have p0 := hS.p.cell 0
 have p1 := hS.p.cell 1
 have lp := hS.p.lt
 simp only [Yl] at p0 p1
 have HS := bA hS
 clear Hgk hlt hk hS
 go_wp2_with fail
 obtain ⟨wo, rfl⟩ := Exq wr
 obtain ⟨g, hg⟩ := Exq w2.heap.size
 rw [← hg] at HS ⊢
 have hzo := HS.o.sz
 have hog := HS.o.o.lt
 have hlg := HS.o.box.lt
 have hbg := HS.o.bg
 clear hg
 refine wp_loop_ghost_k (fun gk a wr => ∃ (ds : List Deferred) (k : Nat) (u0 u1 u3 u4 u7 u9 u10 u11 u12 u13 u14 u15 u16 u17 u18 u19 u20 u21 u22 u23 u24 u25 u26 u27 u28 u29 u30 u31 u32 u33 u34 u35 u36 u37 u38 u39 u43 u44 u45 u46 u47 u48 u49 u50 u51 u52 u53 u54 u55 u56 u57 u58 u59 u60 u61 u62 u63 u64 u65 u66 u67 u68 : Value), (k ≤ l.length ∧ gk = l.length - k ∧ ∃ v : Value, cO wr w.heap.size 39 v (eA x l k) ∧ Blk wr wo.heap.size 24 #[.int .i64 regs, v] ∧
  oC w.heap.size w regs (.slice A l.length cap) g x (.slice A2 l.length c2) l.length (mQ x l.length) wr ∧ eJ w.heap.size wr.heap.size ds wr) ∧
 a = { tmps := #[u0, u1, .pointer (some ⟨w.heap.size + 1, 0, none⟩), u3, u4, .slice A2 l.length c2, .pointer (some ⟨g + 1, 0, none⟩), u7, .pointer (some ⟨wo.heap.size, 0, none⟩), u9, u10, u11, u12, u13, u14, u15, u16, u17, u18, u19, u20, u21, u22, u23, u24, u25, u26, u27, u28, u29, u30, u31, u32, u33, u34, u35, u36, u37, u38, u39, .slice A l.length cap, .int .i64 l.length, .int .i64 k, u43, u44, u45, u46, u47, u48, u49, u50, u51, u52, u53, u54, u55, u56, u57, u58, u59, u60, u61, u62, u63, u64, u65, u66, u67, u68], defers := ds }) l.length ?atStart ?round
 case atStart => (
 refine ⟨[], 0, _, _, _, _, _, _, _, _, _, _, _, _, _, _, _, _, _, _, _, _, _, _, _, _, _, _, _, _, _, _, _, _, _, _, _, _, _, _, _, _, _, _, _, _, _, _, _, _, _, _, _, _, _, _, _, _, _, _, _, _, _, _, ⟨Nat.zero_le _, rfl, .slice none 0 0, bO.nil_ _ _ _, Blk.new' rfl, HS.o.later ((Bnq _ _)), trivial⟩, rfl⟩)
 case round => (
 rintro gk a wr ⟨ds, k, u0, u1, u3, u4, u7, u9, u10, u11, u12, u13, u14, u15, u16, u17, u18, u19, u20, u21, u22, u23, u24, u25, u26, u27, u28, u29, u30, u31, u32, u33, u34, u35, u36, u37, u38, u39, u43, u44, u45, u46, u47, u48, u49, u50, u51, u52, u53, u54, u55, u56, u57, u58, u59, u60, u61, u62, u63, u64, u65, u66, u67, u68, ⟨hk, hgk, v, hN, hQ, hS, hD⟩, rfl⟩ J K hJ hK
 have HJ := bA hJ
 have HK := bA hK
 clear hJ hK
 have Hgk := bA hgk
 have q0 := hQ.cell 0
 have q1 := hQ.cell 1
 have fq := hQ.frozen 1
 have lq := hQ.lt
 have b0 := hS.box.cell 0
 have lb := hS.box.lt
 simp only [Yl] at q0 q1 b0
 have hrl := rU x k
 clear hgk HS
 by_cases hlt : k < l.length
 · (
 obtain ⟨n, hn⟩ : ∃ n, l[k]? = some n := ⟨_, Vx hlt⟩
 obtain ⟨nb, no, n', rfl, hnb, hn', hnl⟩ := (hA.below hS.below).get (k := k) hlt
 rw [hn] at hn'
 injection hn' with hn'
 subst hn'
 obtain ⟨c0, c1, c2', c3, c4, c5⟩ := hnl
 have hm := V4 hn
 obtain ⟨gx, ox, cx, ex, hgx, hlx, ck, fk⟩ := hS.seen.bool (k := k) (by rw [hx]; exact hlt)
 injection ex with ex e1 e2
 subst ex e2
 clear e1
 obtain ⟨u0', u1'⟩ := Ikq (k := k) (n := l.length) (by omega)
 have Hn := bA hn
 have HN := bA hN
 have HQ := bA hQ
 have HS := bA hS
 have HD := bA hD
 clear hn hN hQ hS hD hA
 cases hy : yn x k
 · (
 rw [hy] at ck
 have Hy := bA hy
 clear hy
 go_wp2_with fail
 as_aux_lemma =>
 refine HK.o _ _ (Handed.intro (l.length - (k + 1)) Xp (HJ.o _ _ _ ?_))
 exact ⟨ds, k + 1, _, _, _, _, _, _, _, _, _, _, _, _, _, _, _, _, _, _, _, _, _, _, _, _, _, _, _, _, _, _, _, _, _, _, _, _, _, _, _, _, _, _, _, _, _, _, _, _, _, _, _, _, _, _, _, _, _, _, _, _, _, _, ⟨Zb, rfl, v, by rw [sU Hy.o]; exact HN.o.alloc _, HQ.o.alloc _, HS.o.later ((Bnq _ _)), (HD.o.below ((Bnq _ _))).mono Zf⟩, rfl⟩)
 · (
 rw [hy] at ck
 have Hy := bA hy
 clear hy
 go_wp2_with (go_at_call 65; refine (qE _ _).mono ?_; rintro e w3 ⟨rfl, rfl⟩)
 obtain ⟨wn, hwn⟩ := Exq (wr.alloc (.cells #[.int .i64 n.op, .int .i64 n.d, .int .i64 n.a, .int .i64 n.b, .int .i64 n.t, .int .i64 n.e] 39))
 have hbW : Below wr.heap.size wr wn := by rw [hwn]; exact (Bnq _ _)
 have hX2 : Blk wn wr.heap.size 39 (ndA n) := by rw [hwn]; exact Blk.new' rfl
 have hzn : wn.heap.size = wr.heap.size + 1 := by rw [hwn]; simp
 have hN2 := HN.o.below' hbW
 have hQ2 := HQ.o.below hbW lq
 have hS2 := HS.o.later hbW
 have hD2 := HD.o.below hbW
 have hzs := HS.o.sz
 rw [← hwn]
 clear hwn
 have htrim : oK x n 0 = n := by simp [oK]
 refine iR (wr.heap.size + 1) wr.heap.size n.op rfl (fun i W => Blk W (wr.heap.size + 1) 96 #[.pointer (some ⟨wr.heap.size, 0, none⟩)] ∧ Blk W wr.heap.size 39 (ndA (oK x n i)) ∧ cO W w.heap.size 39 v (eA x l k) ∧ Blk W wo.heap.size 24 #[.int .i64 regs, v] ∧
  oC w.heap.size w regs (.slice (some ⟨nb, no, none⟩) l.length cap) g x (.slice (some ⟨gx, ox, none⟩) l.length c2) l.length (mQ x l.length) W ∧ eJ w.heap.size wr.heap.size ds W) ?_ ?_ ?_ ?_ ?_
 case refine_1 => (
 rintro i W W' row ⟨h1, h2, h3, h4, h5, h6⟩ hg hr
 have hr' := fun r e => (hr r e).2
 exact ⟨h1.own hg hr', h2.own hg hr', h3.own hg hr', h4.own hg hr', h5.own hg hr Za (fun e => by have := (hr g e).1; simp at this; omega), h6.own hg (fun r e => by have := (hr r e).1; simp at this; omega)⟩)
 case refine_2 => (
 rintro i W ⟨h1, h2, h3, h4, h5, h6⟩
 refine ⟨h1.cell 0, ?_⟩
 have := h2.cell 0
 rw [this]
 simp [ndA, oK])
 case refine_3 => (
 exact ⟨Blk.new' hzn.symm, by rw [htrim]; exact hX2.alloc _, hN2.alloc _, hQ2.alloc _, hS2.later ((Bnq _ _)), hD2.keeps (KeepsOthers.alloc _ _)⟩)
 case refine_4 => (
 intro L i hi
 refine ⟨?act, ?asg, ?bdy⟩
 case asg => (
 intro W K h
 gi_wp2
 exact h)
 as_aux_lemma =>
 rintro W ⟨h1, h2, h3, h4, h5, h6⟩
 obtain ⟨mm, cz, hml, hld, hi2⟩ : ∃ mm : Nat, W.cell? ⟨wr.heap.size, 4 + i, none⟩ = some (.int .i64 (mm : Int)) ∧ mm < l.length ∧ bU n mm = true ∧ ((i = 0 ∧ n.t = mm) ∨ (i = 1 ∧ n.e = mm)) := by (
 rcases hi with ⟨rfl, h12⟩ | ⟨rfl, h11⟩
 · (
 obtain ⟨t0, t1⟩ := HR.o.then_ hm h12
 obtain ⟨tt, htt⟩ := V7 (show 0 ≤ n.t by omega)
 have := gK h12
 rw [htt] at this
 exact ⟨tt, by have := h2.cell 4; rw [← htt]; simpa [ndA, oK] using this, Zb, this, .inl ⟨rfl, htt⟩⟩)
 · (
 obtain ⟨t0, t1⟩ := HR.o.else_ hm h11
 obtain ⟨tt, htt⟩ := V7 (show 0 ≤ n.e by omega)
 have := iK h11
 rw [htt] at this
 exact ⟨tt, by have := h2.cell 5; rw [← htt]; simpa [ndA, oK] using this, Zb, this, .inr ⟨rfl, htt⟩⟩))
 have hbnd : ∀ m : Nat, bU n m = true → m < l.length := by (
 intro m hlm
 rcases dI hlm with ⟨h12, rfl'⟩ | ⟨h11, rfl'⟩
 · have := HR.o.then_ hm h12; omega
 · have := HR.o.else_ hm h11; omega)
 have hyt : yn x mm = true := by rw [← Hxx.o]; exact nO (by rw [Hxx.o]; exact Hy.o) Hn.o hld hbnd
 have hwk : (Lit.int .i64 (mm : Int)).wf = true := WalkArith.wf_i64 Zb
 obtain ⟨c, hrun, hat, _⟩ := (h5.map.drew).lookup_int bPT underlying128 underlying3 (zero3 _) (key := .int .i64 (mm : Int)) (keyOf_int_mk underlying3 hwk)
 have hc : c = ((rk x mm : Nat) : Int) := by (
 have h := bAL x (.lit (.int .i64 0)) l.length mm hml hyt
 unfold bAN at h
 rw [hat] at h
 injection h with h
 injection h)
 subst hc
 have b0 := h5.box.cell 0
 have lb2 := h5.box.lt
 have fz := h2.frozen (4 + i)
 have lz := h2.lt
 simp only [Yl] at b0
 have H2 := bA h2
 have Hi2 := bA hi2
 clear h2 hat hi2 hbnd hwk
 gi_wp2
 apply iB (W := W.drew.setCell ⟨wr.heap.size, 4 + i, none⟩ (.int .i64 ((rk x mm : Nat) : Int)))
 case h => gi_region; all_goals exact ⟨rfl, rfl, rfl⟩
 as_aux_lemma =>
 gi_wp2
 have hlo2 := HS.o.o.lt
 refine ⟨((KeepsOthers.drew _).trans (KeepsOthers.setCell _ _ _)).from _, h1.drew.far Zf _, ?_, h3.drew.far (fun e => by have := (HN.o.lt _ e).2; simp at this) _, h4.drew.far Zd _, (h5.later ((Below.refl _ _).drew)).far Zt Zd Zd _, h6.keeps ((KeepsOthers.drew _).trans (KeepsOthers.setCell _ _ _))⟩
 have := H2.o.drew.set_ (4 + i) (.int .i64 ((rk x mm : Nat) : Int))
 rwa [bPK Hi2.o] at this)
 case refine_5 => (
 rintro D W hD ⟨h1, h2, h3, h4, h5, h6⟩ hdd
 dsimp only
 rw [bJA] at h2
 have htl := kY x l k
 have hty := kW Hy.o Hn.o
 obtain ⟨y, hyy⟩ := Exq (kK x n)
 rw [← hyy] at h2 hty
 have y0 := h2.cell 0
 have y1 := h2.cell 1
 have y2 := h2.cell 2
 have y3 := h2.cell 3
 have y4 := h2.cell 4
 have y5 := h2.cell 5
 have q0 := h4.cell 0
 have q1 := h4.cell 1
 have fq := h4.frozen 1
 have lq2 := h4.lt
 have ly := h2.lt
 simp only [ndA, Yl] at y0 y1 y2 y3 y4 y5 q0 q1
 have hmk := h6.add (D := D) (by simp at hD; omega) (by simp at hD; omega) hdd
 have H3 := bA h3
 have H4 := bA h4
 have H5 := bA h5
 have Hmk := bA hmk
 have Hty := bA hty
 have hsz5 := h5.sz
 have hne4 := h3.ne_blk h4 Ze
 have Hne4 := bA hne4
 clear hne4
 clear h1 h2 h3 h4 h5 h6 hmk hty hyy hdd
 go_wp2_with (at_builtin; go_loud (refine bK (v := v) (l := eA x l k) (base := w.heap.size) rfl _ _ _ rfl i3 _ 48 underlying22 h3i h3z h3s h3b rfl rfl (by repeat (first | exact H3.o | (with_reducible refine bO.alloc ?_ _) | (with_reducible refine bO.drew ?_))) (some ⟨W.heap.size, 0, none⟩) 1 1 [y] rfl rfl (cH Zf) Zq Zh Zh ?_); intro v6 w6 hr6 hg6 hat6; obtain ⟨A6, c6, hv6, _, _⟩ := hr6.shape; subst hv6; have hQ6 := (H4.o.alloc (.cells #[.int .i64 y.op, .int .i64 y.d, .int .i64 y.a, .int .i64 y.b, .int .i64 y.t, .int .i64 y.e] 39)).grown hg6 Hne4.o; have r1 := hQ6.cell 1; have r2 := hQ6.frozen 1; simp only [Yl] at r1)
 have hlen6 : (eA x l k ++ [y]).length = rk x k + 1 := by rw [Vz, htl, V8]
 rw [hlen6] at hr6
 as_aux_lemma =>
 have hS6 := (H5.o.later ((Below.refl _ _).alloc (Nat.le_refl _) (.cells #[.int .i64 y.op, .int .i64 y.d, .int .i64 y.a, .int .i64 y.b, .int .i64 y.t, .int .i64 y.e] 39))).grow (H3.o.alloc _) hg6
 have hk6 := (H3.o.alloc (.cells #[.int .i64 y.op, .int .i64 y.d, .int .i64 y.a, .int .i64 y.b, .int .i64 y.t, .int .i64 y.e] 39)).keeps hg6
 have hMK := ((Hmk.o.keeps (KeepsOthers.alloc _ (.cells #[.int .i64 y.op, .int .i64 y.d, .int .i64 y.a, .int .i64 y.b, .int .i64 y.t, .int .i64 y.e] 39))).keeps hk6).keeps (KeepsOthers.setCell _ ⟨wo.heap.size, 1, none⟩ (.slice A6 (rk x k + 1) c6))
 have hMK2 := hMK.mono (S' := (w6.setCell ⟨wo.heap.size, 1, none⟩ (.slice A6 (rk x k + 1) c6)).heap.size) (by rw [World.size_setCell]; exact Nat.le_trans (Nat.le_succ _) (by have h := hg6.size; rwa [World.size_alloc] at h))
 refine HK.o _ _ (Handed.intro (l.length - (k + 1)) Xp (HJ.o _ _ _ ?_))
 exact ⟨_ :: ds, k + 1, _, _, _, _, _, _, _, _, _, _, _, _, _, _, _, _, _, _, _, _, _, _, _, _, _, _, _, _, _, _, _, _, _, _, _, _, _, _, _, _, _, _, _, _, _, _, _, _, _, _, _, _, _, _, _, _, _, _, _, _, _, _, ⟨Zb, rfl, .slice A6 (rk x k + 1) c6, by rw [Hty.o]; exact hr6.far (hr6.ne_blk hQ6 Ze) _, hQ6.set_ 1 _, hS6.far (hS6.seen.ne_blk hQ6 Ze) Zd Zd _, hMK2⟩, rfl⟩)))
 · (
 have hkk : k = l.length := Zb
 subst hkk
 have r0 := hS.o.cell 0
 have r1 := hS.o.cell 1
 have r2 := hS.o.frozen 0
 have r3 := hS.o.frozen 1
 simp only [Yl] at r0 r1
 obtain ⟨A4, c4, hv4, _, _⟩ := hN.shape
 subst hv4
 have HN := bA hN
 have HQ := bA hQ
 have HS := bA hS
 have HD := bA hD
 clear hN hQ hS hD hA
 have hne := HN.o.ne_blk HS.o.o Ze
 go_wp2_with fail
 as_aux_lemma =>
 refine iU (B := w.heap.size) (fun W => Blk W (w.heap.size + 1) 24 #[.int .i64 regs, .slice A4 (eA x l l.length).length c4] ∧ cO W w.heap.size 39 (.slice A4 (eA x l l.length).length c4) (eA x l l.length) ∧ Below w.heap.size w W ∧ w.heap.size ≤ W.heap.size)
  (fun W D ⟨i1, i2, i3, i4⟩ hB he => ?_) (fun W ⟨i1, i2, i3, i4⟩ => ?_) ds _ _ ((HD.o.keeps (KeepsOthers.setCell _ _ _)).keeps (KeepsOthers.setCell _ _ _)) ⟨(HS.o.o.set_ 0 _).set_ 1 _, (HN.o.far hne _).far hne _, (HS.o.below.setCell Zf _).setCell Zf _, by have := HS.o.sz; simpa using this⟩
 · (
 have hr : ∀ r, some D = some r → ∃ o : Obj, W.heap[r]? = some o ∧ o.isCells = false := fun r e => by injection e with e; subst e; exact ⟨_, he, rfl⟩
 exact ⟨i1.own (eW _) hr, i2.own (eW _) hr, kR i3 (eW _) i4 (D := w.heap.size) (fun r e => by injection e with e; omega) (Nat.le_refl _), Nat.le_trans i4 (eW (W := W) (D := D) _).size⟩)
 · (
 have j0 := i1.cell 0
 have j1 := i1.cell 1
 simp only [Yl] at j0 j1
 refine ⟨.tuple #[.agg #[.int .i64 regs, .slice A4 (eA x l l.length).length c4], .int .i64 0], by simp [results, results38, go_sem, j0, j1], i3, .inr ⟨H0.o, _, rfl, ?_⟩⟩
 unfold iS
 rw [Hxx.o]
 exact i2))))))
 · (
 have H0 := bA h0
 have h0' : ((chk regs l) != 0) = true := by simp [h0]
 clear h0
 go_wp2_with (go_at_call 10; refine (HC.o _ Yc).mono ?_; rintro e w1 ⟨rfl, hb1⟩; have hO1 : Blk w1 (w.heap.size + 1) 24 #[.int .i64 0, .slice none 0 0] := Blk.below Yd hb1 Zd; have lo1 := hO1.lt; have r0 := hO1.cell 0; have r1 := hO1.cell 1; have r2 := hO1.frozen 0; have r3 := hO1.frozen 1; have hz1 := hb1.size; simp only [World.size_alloc] at hz1; simp only [Yl] at r0 r1)
 go_tidy
 refine ⟨.tuple #[.agg #[.int .i64 0, .slice none 0 0], .int .i64 (chk regs l)], by simp [results, results38, go_sem, r0, r1, Vw, Vv], ?_, ?_⟩
 · exact (Below.setCell (Below.setCell Yc Zf _) Zf _)
 · exact .inl ⟨H0.o, rfl⟩))
end
end Go.Proofs.YtmghkonmfbpjcabGreatDoor
