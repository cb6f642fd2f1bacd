/- Parts. -/
import Derived.Test.YtmghkonmfbpjcabGreatDoorRunF
set_option linter.unusedVariables false
set_option linter.unusedSimpArgs false
set_option maxRecDepth 100000
set_option maxHeartbeats 8000000
namespace Go.Proofs.YtmghkonmfbpjcabGreatDoor
open Go.RowKit
open Go.Proofs.Tryz
section
open Go.Maps
attribute [local irreducible] Row madeCells cV
theorem Ja {P : Prop} (h : P := by (
 obtain ⟨left, cs, cv, hrg, hgot, hcst⟩ := hrel
 have Hgot := bA hgot
 have hcl := hgot.len Hh1.o
 clear hgot hrg5 hcs5
 go_wp2_with (first | (at_next; refine wpList_next_ranges _ rfl _ rfl 56 (Keyed.of_law fI) (plainElem prog 3) Tm.val (Value.int .i64) (fun key kl h => bDC h) (fun v y h => by obtain ⟨c, rfl, _⟩ := plainElem_int_inv underlying3 h; exact ⟨c, rfl⟩) gm r5 s.ts.length D left gk rfl hrg ?_ ?_) | go_in)
 · (
 intro hc0 hl0
 have c9 := hcst.box.cell 9
 have lmb := hcst.box.lt
 simp only [Yl] at c9
 have HSort := bA (bBE hcst.cts Zb Hgot.o.one)
 have Hcst := bA hcst
 have Hl0 := bA hl0
 clear hcst hl0 hrg
 go_wp2_with (go_at_call 61; refine (HSort.o).mono ?_; rintro e w7 ⟨rfl, ds, hp7, ha7, hr7, hg7⟩; have hq7 := Hcst.o.sorted hg7 hr7; have b5 := hq7.box.cell 5; have b6 := hq7.box.cell 6; have b7 := hq7.box.cell 7; have b8 := hq7.box.cell 8; have b9 := hq7.box.cell 9; have hO7 := hO1.below hq7.below lo; have o0 := hO7.cell 0; have o1 := hO7.cell 1; have o2 := hO7.cell 2; have o3 := hO7.cell 3; have o4 := hO7.cell 4; have g0 := hO7.frozen 0; have g1 := hO7.frozen 1; have g2 := hO7.frozen 2; have g3 := hO7.frozen 3; have g4 := hO7.frozen 4; simp only [Yl] at b5 b6 b7 b8 b9 o0 o1 o2 o3 o4; have l7 := hq7.box.lt; obtain ⟨OA, oc, hov, _, _⟩ := hq7.out.shape; obtain ⟨CA, cc, hcv, _, _⟩ := hq7.cts.shape; subst hov hcv; have nmo : ¬ (mb = w.heap.size + 1) := by have := hq7.mlo; omega)
 refine bodyPost_ret (v := .tuple #[.agg #[.slice OA (bN s.out).length oc, .int .i64 s.ret, .bool s.ended, .int .i64 (s.steps : Int), .slice CA ds.length cc], .int .i64 0]) (by simp [results, results25, go_sem, o0, o1, o2, o3, o4, hend, Vw, Vv]) rfl ?_
 have hBq : Below w.heap.size w w7 := hB1.trans (hq7.below.mono Zb)
 have n1 : (Value.slice OA (bN s.out).length oc).ownBlock ≠ some (w.heap.size + 1) := fun e => by have := (hq7.out.lt _ e).1; omega
 have n2 : (Value.slice CA ds.length cc).ownBlock ≠ some (w.heap.size + 1) := fun e => by have := (hq7.cts.lt _ e).1; omega
 have hds : ds = mJ s.ts := Hgot.o.count Hl0.o Hh1.o (fun t ht => by
  obtain ⟨kx, ekx⟩ := (Hok.o.keys HR.o t ht)
  exact ⟨kx, ekx, Hh2.o t ht kx ekx⟩) hp7 ha7
 rw [← Hfin.o]
 refine ⟨Yc, _, rfl, _, _, rfl, ?_, ?_⟩
 · exact ((((((hq7.out.far (p := ⟨w.heap.size + 1, 0, none⟩) n1 _).far (p := ⟨w.heap.size + 1, 1, none⟩) n1 _).far (p := ⟨w.heap.size + 1, 2, none⟩) n1 _).far (p := ⟨w.heap.size + 1, 3, none⟩) n1 _).far (p := ⟨w.heap.size + 1, 4, none⟩) n1 _)).mono Zb
 · (
 show xN _ _ _ _ (mJ s.ts)
 rw [← hds]
 exact ((((((hq7.cts.far (p := ⟨w.heap.size + 1, 0, none⟩) n2 _).far (p := ⟨w.heap.size + 1, 1, none⟩) n2 _).far (p := ⟨w.heap.size + 1, 2, none⟩) n2 _).far (p := ⟨w.heap.size + 1, 3, none⟩) n2 _).far (p := ⟨w.heap.size + 1, 4, none⟩) n2 _)).mono Zb))
 · (
 intro t c kl y yp w6 cnt6 hk hlk hv hat hrg6 hlt6 hg6 hs6 hen
 have hc : c = (s.ts.count t : Int) := by (
 obtain ⟨c', e1, e2, _⟩ := plainElem_int_inv underlying3 hv
 injection e1 with _ e1
 injection e2 with e2 _
 have e3 := hat (.lit (.int .i64 0))
 rw [HcD.o t kl hk, e2, ← e1] at e3
 exact (pM e3).symm)
 have hgot6 := Hgot.o.step hk hlk hc
 have hcst6 : CSt w1 regs A l cap inp mb gr gm Ai' ci' ov s cv cs w6 := hcst.kept hg6 (hrg.box_ne hcst.box) (hrg.row_ne hcst.out) (hrg.crow_ne hcst.cts) hr5lo
 have Hgot6 := bA hgot6
 have Hcst6 := bA hcst6
 have Hrg6 := bA hrg6
 have Hlt6 := bA hlt6
 obtain ⟨CA, cc, hcv, hcc1, hcc2⟩ := hcst6.cts.shape
 subst hcv
 obtain ⟨W7, hW7⟩ := Exq (w6.alloc (.cells #[.int .i64 t.op, .int .i64 t.a, .int .i64 t.b] 56))
 obtain ⟨t7, ht7⟩ := Exq w6.heap.size
 have hcst7 : CSt w1 regs A l cap inp mb gr gm Ai' ci' ov s (.slice CA cs.length cc) cs W7 := by rw [hW7]; exact hcst6.later ((Bnq _ _))
 have hrg7 := hrg6.alloc (.cells #[.int .i64 t.op, .int .i64 t.a, .int .i64 t.b] 56)
 rw [← hW7] at hrg7
 have hT7 : Blk W7 t7 56 #[.int .i64 t.op, .int .i64 t.a, .int .i64 t.b] := by rw [hW7]; exact Blk.new' ht7
 have hob : ¬ ((Value.slice CA cs.length cc).ownBlock = some mb) := hcst7.cts.ne_blk hcst7.box Ze
 have hog : (Value.slice CA cs.length cc).ownBlock ≠ some gm := fun e => hrg7.owns.ne_cts hcst7.cts e
 have hor : (Value.slice CA cs.length cc).ownBlock ≠ some r5 := hrg7.crow_ne hcst7.cts
 have hmr : ¬ (r5 = mb) := hrg7.box_ne hcst7.box
 have hmg : ¬ (gm = mb) := hrg7.owns.ne_box hcst7.box
 have hC7 := hcst7.cts
 have c9 := hcst7.box.cell 9
 have cf9 := hcst7.box.frozen 9
 have lmb := hcst7.box.lt
 have lsz := hcst7.below.size
 have q0 := hT7.cell 0
 have q1 := hT7.cell 1
 have q2 := hT7.cell 2
 have lt7 := hT7.lt
 have Hcst7 := bA hcst7
 have Hrg7 := bA hrg7
 have HW7 := bA hW7
 have Ht7 := bA ht7
 obtain ⟨ic, hci, hcz, hcs', hcb⟩ := info_parts bKE
 simp only [Yl] at c9 q0 q1 q2
 clear hgot6 hcst6 hrg6 hlt6 hg6 hs6 hcst hrg hc hat hv hk hlk hcst7 hrg7 hT7 hW7 ht7
 unfold Tm.val at hen
 go_upto_region 15 with fail
 rw [← HW7.o, ← Ht7.o]
 go_region_law (refine qZ (v := .slice CA cs.length cc) (l := cs) Zj _ _ _ Zj ic _ 32 underlying48 hci hcz hcs' hcb rfl Zj ((hC7.alloc _).drew) (some ⟨W7.heap.size, 0, none⟩) 1 1 [(t, c)] Zj Zj (bDY Zf) Zr Zd Zd ?_; intro v2 w8 hr8 hg8 hat8; have f9 : w8.frozen? ⟨mb, 9, none⟩ = false := (by rw [hg8.frozen_far _ Zd Z6]; exact (bIN lmb).trans cf9); have x9 : w8.cell? ⟨mb, 9, none⟩ = some (.slice CA cs.length cc) := (by rw [hg8.cell_far _ Zd Z6]; exact (oN lmb).trans c9); obtain ⟨CA8, cc8, hv8, _, _⟩ := hr8.shape; subst hv8)
 all_goals go_wp2_with fail
 all_goals go_roundg (cnt6)
 all_goals try exact Hlt6.o
 all_goals (simp only [Vz, V8] at hr8)
 all_goals exact ⟨_, cs ++ [(t, c)], _, ((bCK (Hrg7.o.alloc _)).kept (w' := w8) hg8 (Ne.symm hog) (Ne.symm hor)).kept (bGW w8 mb 9 _) (by simp; exact hmg) (by simp; exact hmr), Hgot6.o, ((Hcst7.o.later ((Bnq _ _))).later ((Below.refl _ _).drew)).put hg8 hr8⟩))) : P := h
theorem wG (n : Nat) (z : Int) : bN (List.replicate n z) = List.replicate n (.int .i64 z) := by simp [bN]
theorem MSt.begin {w W : World} {regs : Int} {A : Option Addr} {l : List Nd} {cap : Nat} {inp : List Int} {mb gr gm : Nat} {Ai : Option Addr} {ci : Nat} (hB : Below w.heap.size w W) (hI : bG w Ai (bN inp)) (hic : inp.length ≤ ci ∧ ci ≤ maxLen)
 (hbox : Blk W mb 111 #[.int .i64 regs, .slice A l.length cap, .slice Ai inp.length ci, .slice (some ⟨gr, 0, none⟩) regs.toNat regs.toNat, .map (some gm), .slice none 0 0, .int .i64 0, .bool false, .int .i64 0, .slice none 0 0])
 (hreg : Row W w.heap.size 3 (.slice (some ⟨gr, 0, none⟩) regs.toNat regs.toNat) (List.replicate regs.toNat (.int .i64 0))) (hcnt : cV W gm []) (hmb : w.heap.size ≤ mb) (hgm : w.heap.size ≤ gm) :
 MSt w regs A l cap inp mb gr gm Ai ci (.slice none 0 0) (rB regs) W :=
⟨hbox, by rw [show (rB regs).regs = List.replicate regs.toNat 0 from rfl, wG]; exact hreg, Row.nil_ _ _ _, hcnt, hI, hic, by simp [Value.ownBlock], hmb, hgm, hB⟩
abbrev bAJ (regs : Int) (A : Option Addr) (l : List Nd) (cap : Nat) (Ai : Option Addr) (ci : Nat) (inp : List Int) (gr gm : Nat) (ov : Value) (s : Rn) (cv : Value) : Array Value :=
 #[.int .i64 regs, .slice A l.length cap, .slice Ai (inp.length - s.read) ci, .slice (some ⟨gr, 0, none⟩) regs.toNat regs.toNat, .map (some gm), ov, .int .i64 s.ret, .bool s.ended, .int .i64 s.steps, cv]
structure CSt (w : World) (regs : Int) (A : Option Addr) (l : List Nd) (cap : Nat) (inp : List Int) (mb gr gm : Nat) (Ai : Option Addr) (ci : Nat) (ov : Value) (s : Rn) (cv : Value) (cs : List Ct) (W : World) : Prop where
 box : Blk W mb 111 (bAJ regs A l cap Ai ci inp gr gm ov s cv)
 out : Row W w.heap.size 3 ov (bN s.out)
 cts : xN W w.heap.size 114 cv cs
 mlo : w.heap.size ≤ mb
 below : Below w.heap.size w W
section
variable {w : World} {regs : Int} {A : Option Addr} {l : List Nd} {cap : Nat} {inp : List Int} {mb gr gm : Nat} {Ai : Option Addr} {ci : Nat} {ov : Value} {s : Rn} {cv : Value} {cs : List Ct} {W W' : World}
theorem CSt.later (h : CSt w regs A l cap inp mb gr gm Ai ci ov s cv cs W) (hb : Below W.heap.size W W') : CSt w regs A l cap inp mb gr gm Ai ci ov s cv cs W' :=
 ⟨h.box.below hb h.box.lt, h.out.below' hb, h.cts.below' hb, h.mlo, h.below.trans (hb.mono h.below.size)⟩
theorem CSt.kept (h : CSt w regs A l cap inp mb gr gm Ai ci ov s cv cs W) {row : Nat} (hg : W.grownBy W' (some row)) (h1 : ¬ (row = mb)) (h2 : ¬ (ov.ownBlock = some row)) (h3 : ¬ (cv.ownBlock = some row)) (h4 : w.heap.size ≤ row) : CSt w regs A l cap inp mb gr gm Ai ci ov s cv cs W' :=
 ⟨h.box.grown hg (by simpa using h1), h.out.kept hg (.inr h2), h.cts.kept hg (.inr h3), h.mlo, h.below.grown hg h.below.size fun q hq => by have := Option.some.inj hq; omega⟩
theorem CSt.put (h : CSt w regs A l cap inp mb gr gm Ai ci ov s cv cs W) (hg : W.grownBy W' cv.ownBlock) {v2 : Value} {ds : List Ct} (hC : xN W' w.heap.size 114 v2 ds) : CSt w regs A l cap inp mb gr gm Ai ci ov s v2 ds (W'.setCell ⟨mb, 9, none⟩ v2) := by (
 have hb : Blk W' mb 111 (bAJ regs A l cap Ai ci inp gr gm ov s cv) := h.box.grown hg (h.cts.ne_blk h.box Ze)
 exact ⟨hb.set_ 9 v2, (h.out.kept hg ((h.cts.ne_row h.out Ze).elim (fun e => by
  rcases ho : ov.ownBlock with _ | k
  · exact Jc
  · exact .inr Xo) fun e => .inr e.symm)).far (p := ⟨mb, 9, none⟩) (h.out.ne_blk h.box Ze) _, hC.far (p := ⟨mb, 9, none⟩) (hC.ne_blk hb Ze) _, h.mlo, (h.below.grown hg h.below.size fun q hq => (h.cts.lt q hq).1).setCell h.mlo _⟩)
theorem CSt.sorted (h : CSt w regs A l cap inp mb gr gm Ai ci ov s cv cs W) (hg : W.grownBy W' cv.ownBlock) {ds : List Ct} (hC : xN W' w.heap.size 114 cv ds) : CSt w regs A l cap inp mb gr gm Ai ci ov s cv ds W' := by (
 have hb : Blk W' mb 111 (bAJ regs A l cap Ai ci inp gr gm ov s cv) := h.box.grown hg (h.cts.ne_blk h.box Ze)
 exact ⟨hb, h.out.kept hg ((h.cts.ne_row h.out Ze).elim (fun e => by
  rcases ho : ov.ownBlock with _ | k
  · exact Jc
  · exact .inr Xo) fun e => .inr e.symm), hC, h.mlo, h.below.grown hg h.below.size fun q hq => (h.cts.lt q hq).1⟩)
theorem MSt.collect (h : MSt w regs A l cap inp mb gr gm Ai ci ov s W) : CSt w regs A l cap inp mb gr gm Ai ci ov s (.slice none 0 0) [] W := ⟨h.box, h.out, bO.nil_ _ _ _, h.mlo, h.below⟩
end
theorem zC : ∀ {xs bs : List Tm}, xs.Nodup → (∀ a ∈ xs, a ∈ bs) → xs.length ≤ bs.length
 | [], _, _, _ => Nat.zero_le _
 | a :: xs, bs, h, hs => by (
 obtain ⟨h1, h2⟩ := List.nodup_cons.1 h
 have ih := zC (xs := xs) (bs := bs.erase a) h2 fun x hx => (List.mem_erase_of_ne (fun e => h1 (by rw [← e]; exact hx))).2 (hs x (by simp [hx]))
 have hm := hs a Zf
 rw [List.length_erase_of_mem hm] at ih
 have := List.length_pos_of_mem hm
 simp only [List.length_cons]
 omega)
theorem Got.len {D : DataW Unit} {ts : List Tm} {left : Lit → Bool} {cs : List Ct} (h : Got D ts left cs) (h1 : ∀ l, Maps.has D l = true → ∃ t ∈ ts, keyOf prog 56 t.val = some l) : cs.length ≤ ts.length := by (
 rw [← Uj (f := Prod.fst)]
 refine zC h.one fun a ha => ?_
 obtain ⟨x, hx, rfl⟩ := List.mem_map.1 ha
 obtain ⟨_, kl, e2, _, e3⟩ := h.val x hx
 obtain ⟨t, ht, e4⟩ := h1 kl e3
 have : x.1 = t := vH (fI.inj e2 e4)
 exact this ▸ ht)
section
variable {w : World} {P : Program} {k : TypeId} {R : Value → Option (DataW Unit × List MemPlace)} {b r n : Nat} {D : DataW Unit} {left : Lit → Bool} {cnt : Nat}
theorem bCK (h : w.ranges P k R b r n D left cnt) : w.drew.ranges P k R b r n D left cnt := h
theorem pF (h : w.ranges P k R b r n D left cnt) : ∃ a c d e, w.heap[r]? = some (.mapIter a c d e) := by (
 obtain ⟨es, clock, since, seen, c0, _, _, _, _, h5, _⟩ := h
 exact ⟨_, _, _, _, h5⟩)
theorem _root_.Go.World.ranges.box_ne (h : w.ranges P k R b r n D left cnt) {m : Nat} {t : TypeId} {cs : Array Value} (hb : Blk w m t cs) : ¬ (r = m) := by (
 obtain ⟨_, _, _, _, h5⟩ := pF h
 rintro rfl
 unfold Blk at hb
 rw [h5] at hb
 cases hb)
theorem _root_.Go.World.ranges.row_ne (h : w.ranges P k R b r n D left cnt) {B : Nat} {t : TypeId} {v : Value} {xs : List Value} (hb : Row w B t v xs) : ¬ (v.ownBlock = some r) := by (
 obtain ⟨_, _, _, _, h5⟩ := pF h
 intro e
 unfold Row at hb
 rcases hb with ⟨rfl, _⟩ | ⟨g, o, c, cur, rfl, _, hh, _⟩
 · simp [Value.ownBlock] at e
 · (
 simp [Value.ownBlock] at e
 subst e
 rw [h5] at hh
 cases hh))
theorem _root_.Go.World.ranges.crow_ne (h : w.ranges P k R b r n D left cnt) {B : Nat} {t : TypeId} {v : Value} {xs : List Ct} (hb : xN w B t v xs) : ¬ (v.ownBlock = some r) := by (
 obtain ⟨_, _, _, _, h5⟩ := pF h
 intro e
 rcases hb.open with ⟨rfl, _⟩ | ⟨g, c, cur, rfl, _, hh, _⟩
 · simp [Value.ownBlock] at e
 · (
 simp [Value.ownBlock] at e
 subst e
 rw [h5] at hh
 cases hh))
end
theorem _root_.Go.World.ownsMap.ne_box {w : World} {P : Program} {k : TypeId} {R : Value → Option (DataW Unit × List MemPlace)} {b n : Nat} {D : DataW Unit} (h : w.ownsMap P k R b n D) {m : Nat} {t : TypeId} {cs : Array Value} (hb : Blk w m t cs) : ¬ (b = m) := by (
 obtain ⟨es, clock, h5, _⟩ := h
 rintro rfl
 unfold Blk at hb
 rw [h5] at hb
 cases hb)
theorem _root_.Go.World.ownsMap.ne_cts {w : World} {P : Program} {k : TypeId} {R : Value → Option (DataW Unit × List MemPlace)} {b n : Nat} {D : DataW Unit} (h : w.ownsMap P k R b n D) {B : Nat} {t : TypeId} {v : Value} {xs : List Ct} (hb : xN w B t v xs) : ¬ (v.ownBlock = some b) := by (
 obtain ⟨es, clock, h5, _⟩ := h
 intro e
 rcases hb.open with ⟨rfl, _⟩ | ⟨g, c, cur, rfl, _, hh, _⟩
 · simp [Value.ownBlock] at e
 · (
 simp [Value.ownBlock] at e
 subst e
 rw [h5] at hh
 cases hh))
theorem bGW (W : World) (b o : Nat) (u : Value) : W.grownBy (W.setCell ⟨b, o, none⟩ u) (some b) :=
 ⟨rfl, rfl, rfl, Zf, fun k _ hk => Below.heap_setCell W ⟨b, o, none⟩ u k (by rintro rfl; exact hk rfl)⟩
theorem yE.keys {regs : Int} {l : List Nd} {inp : List Int} {s : Rn} (h : yE regs l inp s) (hR : bM regs l) (t : Tm) (ht : t ∈ s.ts) : ∃ kl, keyOf prog 56 t.val = some kl := by (
 obtain ⟨n, hn, hB, rfl⟩ := h.key t ht
 exact hR.key_ hn hB)
theorem bSC (regs : Int) (A : Option Addr) (l : List Nd) (cap : Nat) (Ai : Option Addr) (inp : List Int) (ci : Nat) (fuel : Int) (w : World) (hl : l.length ≤ maxLen) (hA : bH w A l) (hI : bG w Ai (bN inp)) (hic : inp.length ≤ ci ∧ ci ≤ maxLen) (h0 : chk regs l = 0) (h1 : inp.length ≤ 256) (h2 : 0 ≤ fuel) (h3 : fuel ≤ 131072) :
 Calls prog 25 #[.agg #[.int .i64 regs, .slice A l.length cap], .slice Ai inp.length ci, .int .i64 fuel] w (iZ 3 114 regs l inp fuel w) := by (
 refine Wv fun hC HC => ?_
 have hE : sX regs l inp fuel = 0 := by rw [sX, if_pos h0, if_neg Zb, if_neg Zb]
 have hS : uQ regs l inp fuel = (bMH regs l inp fuel.toNat).told := by rw [uQ, if_pos hE]
 unfold iZ
 rw [hE, hS]
 have hR := bS h0
 have HR := bA hR
 have hr1 := hR.rlo
 have hr2 := hR.rhi
 have HA := bA hA
 have HI := bA hI
 clear hC hE hS h0 hA hI hR
 have i1 : ¬ (256 : Int) < (inp.length : Int) := Zb
 have i2 : ¬ fuel < 0 := Zb
 have i3 : ¬ (131072 : Int) < fuel := Zb
 obtain ⟨i3x, h3i, h3z, h3s, h3b⟩ := info_parts nS
 have hmk := dN (P := prog) 25 3 i3x _ 8 underlying25 h3i h3z h3s h3b Zb rfl regs.toNat Zb
 rw [Ue Zb] at hmk
 have hmm := @run_makeMap prog
 go_enter func25, ntmps25
 go_upto_region 8 with (go_at_call 10; refine (HC.o _ Yc).mono ?_; rintro e w1 ⟨rfl, hb1⟩; have hP1 : Blk w1 w.heap.size 24 #[.int .i64 regs, .slice A l.length cap] := Blk.below Yd hb1 Zd; have hO1 : Blk w1 (w.heap.size + 1) 50 #[.slice none 0 0, .int .i64 0, .bool false, .int .i64 0, .slice none 0 0] := Blk.below Yd hb1 Zd; have p0 := hP1.cell 0; have p1 := hP1.cell 1; simp only [Yl] at p0 p1)
 have hB1 : Below w.heap.size w w1 := Yc
 have hz1 := hb1.size
 simp only [World.size_alloc] at hz1
 clear hb1
 have lp := hP1.lt
 have lo := hO1.lt
 have HA1 := bA (HA.o.below hB1)
 have HI1 := bA (HI.o.below hB1)
 go_cut [9] (fun s9 wx => ∃ mb gr gm : Nat, s9 = .pointer (some ⟨mb, 0, none⟩) ∧ MSt w1 regs A l cap inp mb gr gm Ai ci (.slice none 0 0) (rB regs) wx)
 case first => (
 go_region
 all_goals go_wp2_with fail
 all_goals go_meet
 all_goals go_tidy
 · (
 refine ⟨_, w1.heap.size, w1.heap.size + 1, rfl, MSt.begin Yc HI1.o hic Yd Yf ?_ Zb Zb⟩
 have h0 := cV.start (W := w1.alloc (.cells (madeCells #[.int .i64 0] regs.toNat) 3))
 simp only [World.size_alloc] at h0
 exact h0.below (Below.drew ((Bnq _ _))))
 · (
 refine ⟨_, w1.heap.size + 1, w1.heap.size, rfl, MSt.begin Yc HI1.o hic Yd Yf ?_ Zb Zb⟩
 exact (cV.start (W := w1)).below (Below.drew (((Bnq _ _)).alloc Zf _))))
 case rest => (
 obtain ⟨mb, gr, gm, rfl, hM0⟩ := hcut
 have hlo := hM0.mlo
 go_wp2_with fail
 go_loopg [10] (fuel.toNat) (fun gk at_ wr => ∃ (s : Rn) (Ai' : Option Addr) (ci' : Nat) (ov : Value), at_ = .int .i64 (s.pos : Int) ∧ gk = fuel.toNat - s.steps ∧ s.steps ≤ fuel.toNat ∧ yE regs l inp s ∧ goR l inp (fuel.toNat - s.steps) s = bMH regs l inp fuel.toNat ∧ MSt w1 regs A l cap inp mb gr gm Ai' ci' ov s wr)
 case atStart => exact ⟨rB regs, Ai, ci, _, rfl, rfl, Nat.zero_le _, yE.start HR.o, rfl, hM0⟩
 case round => (
 obtain ⟨s, Ai', ci', ov, rfl, hgk, hsf, hok, hgo, hM⟩ := hrel
 have Hgk := bA hgk
 have Hok := bA hok
 have Hgo := bA hgo
 clear hgk hok hgo
 have c7 := hM.box.cell 7
 have c8 := hM.box.cell 8
 simp only [Yl] at c7 c8
 cases hend : s.ended
 case false => (
 rw [hend] at c7
 by_cases hlt : s.steps < fuel.toNat
 · (
 have hlt2 : (s.steps : Int) < fuel := Zb
 have HS := bA (bLZ w1 regs A l cap inp mb gr gm Ai' ci' ov s wr hM HA1.o HR.o Hok.o Zb)
 have Hend := bA hend
 clear hM hend
 go_wp2_with (go_at_call 60; refine (HS.o).mono ?_; rintro e w3 ⟨rfl, A3, c3, o3, hM3⟩)
 go_roundg (fuel.toNat - (jB l inp s).steps)
 case measure => (
 have := Hgk.o
 rw [oY]
 omega)
 case rel => (
 refine ⟨jB l inp s, A3, c3, o3, rfl, rfl, by rw [oY]; omega, Hok.o.step HR.o, ?_, hM3⟩
 have hg := Hgo.o
 rw [show fuel.toNat - s.steps = (fuel.toNat - (jB l inp s).steps) + 1 by rw [oY]; omega, bNR Hend.o] at hg
 exact hg))
 · (
 have hge : ¬ (s.steps : Int) < fuel := Zb
 have hfin : s = bMH regs l inp fuel.toNat := by (
 rw [← Hgo.o, show fuel.toNat - s.steps = 0 by omega]; rfl)
 have Hfin := bA hfin
 have hcnt := hM.cnt
 unfold cV at hcnt
 obtain ⟨D, hD, hcD, hh1, hh2⟩ := hcnt
 have hcs := bA hM.collect
 have hts : s.ts.length ≤ 131072 := by have := Hok.o.ts; omega
 have c4 := hM.box.cell 4
 have lmb := hM.box.lt
 simp only [Yl] at c4
 clear hfin hM
 go_wp2_with (first | (at_range; refine wpList_range_own _ rfl _ 109 rfl 56 3 (Keyed.of_law fI) underlying109 (plainElem prog 3) gm s.ts.length D rfl hD ?_; intro w5 hrg5 hg5 hs5))
 try go_frame
 obtain ⟨r5, hr5⟩ := Exq wr.heap.size
 rw [← hr5] at hrg5 ⊢
 have hcs5 := hcs.out.later ⟨hg5.os, hg5.tape, hg5.output, hg5.size, fun k hk => hg5.block k hk Zf⟩
 have hr5lo : w1.heap.size ≤ r5 := by rw [hr5]; exact hcs.out.below.size
 have Hh1 := bA hh1
 have Hh2 := bA hh2
 have HcD := bA hcD
 have Hr5 := bA hr5
 clear hg5 hh1 hh2 hcD hr5 hs5 hD c4 lmb
 go_loopg [] (Maps.size D) (fun gk wq => ∃ (left : Lit → Bool) (cs : List Ct) (cv : Value), wq.ranges prog 56 (plainElem prog 3) gm r5 s.ts.length D left gk ∧ Got D s.ts left cs ∧ CSt w1 regs A l cap inp mb gr gm Ai' ci' ov s cv cs wq)
 case atStart => exact ⟨Maps.has D, [], _, hrg5, Got.start D _, hcs5⟩
 case round => exact Ja))
 case true => (
 rw [hend] at c7
 have hfin : s = bMH regs l inp fuel.toNat := by rw [← Hgo.o, bKI hend]
 have Hfin := bA hfin
 have hcnt := hM.cnt
 unfold cV at hcnt
 obtain ⟨D, hD, hcD, hh1, hh2⟩ := hcnt
 have hcs := bA hM.collect
 have hts : s.ts.length ≤ 131072 := by have := Hok.o.ts; omega
 have c4 := hM.box.cell 4
 have lmb := hM.box.lt
 simp only [Yl] at c4
 clear hfin hM
 go_wp2_with (first | (at_range; refine wpList_range_own _ rfl _ 109 rfl 56 3 (Keyed.of_law fI) underlying109 (plainElem prog 3) gm s.ts.length D rfl hD ?_; intro w5 hrg5 hg5 hs5))
 try go_frame
 obtain ⟨r5, hr5⟩ := Exq wr.heap.size
 rw [← hr5] at hrg5 ⊢
 have hcs5 := hcs.out.later ⟨hg5.os, hg5.tape, hg5.output, hg5.size, fun k hk => hg5.block k hk Zf⟩
 have hr5lo : w1.heap.size ≤ r5 := by rw [hr5]; exact hcs.out.below.size
 have Hh1 := bA hh1
 have Hh2 := bA hh2
 have HcD := bA hcD
 have Hr5 := bA hr5
 clear hg5 hh1 hh2 hcD hr5 hs5 hD c4 lmb
 go_loopg [] (Maps.size D) (fun gk wq => ∃ (left : Lit → Bool) (cs : List Ct) (cv : Value), wq.ranges prog 56 (plainElem prog 3) gm r5 s.ts.length D left gk ∧ Got D s.ts left cs ∧ CSt w1 regs A l cap inp mb gr gm Ai' ci' ov s cv cs wq)
 case atStart => exact ⟨Maps.has D, [], _, hrg5, Got.start D _, hcs5⟩
 case round => exact Ja))))
end
end Go.Proofs.YtmghkonmfbpjcabGreatDoor
