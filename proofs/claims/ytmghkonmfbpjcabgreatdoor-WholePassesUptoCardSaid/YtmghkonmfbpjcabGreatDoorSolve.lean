/- Parts. -/
import Derived.Test.YtmghkonmfbpjcabGreatDoorGD
set_option linter.unusedVariables false
set_option linter.unusedSimpArgs false
set_option maxRecDepth 100000
set_option maxHeartbeats 4000000
namespace Go.Proofs.YtmghkonmfbpjcabGreatDoor
open Go.RowKit
open Go.Proofs.Tryz
section
attribute [local irreducible] Row madeCells
def uP (len : Nat → Nat) (x : List Bool) : Nat → Nat
 | 0 => 0
 | k + 1 => uP len x k + if yn x k = true then len k else 0
theorem bIA {len : Nat → Nat} {c : Nat} (x : List Bool) : ∀ k, (∀ i, i < k → len i ≤ c) → uP len x k ≤ k * c
 | 0, _ => by simp [uP]
 | k + 1, h => by (
 have h1 := bIA x k fun i hi => h i Zb
 have h2 := h k Zb
 unfold uP
 rw [Nat.succ_mul]
 split <;> omega)
theorem rP {len : Nat → Nat} {x : List Bool} {i : Nat} (hi : i < x.length) : ∀ k, k ≤ i → uP len (x.set i false) k = uP len x k
 | 0, _ => rfl
 | k + 1, h => by (
 have h1 := rP (len := len) hi k Zb
 have h2 : yn (x.set i false) k = yn x k := by rw [cL _ _ _ _ hi, if_neg (show ¬ k = i by omega)]
 unfold uP
 rw [h1, h2])
theorem bBM {len : Nat → Nat} {x : List Bool} {i : Nat} (hi : i < x.length) (hx : yn x i = true) : ∀ k, i < k → uP len (x.set i false) k + len i = uP len x k
 | 0, h => by omega
 | k + 1, h => by (
 have h2 := cL x i k false hi
 unfold uP
 by_cases hik : i = k
 · (
 subst hik
 have h1 := rP (len := len) hi i (Nat.le_refl _)
 rw [if_pos rfl] at h2
 rw [h1, h2, hx]
 simp)
 · (
 have h1 := bBM (len := len) hi hx k Zb
 rw [if_neg (fun e => hik e.symm)] at h2
 rw [h2]
 omega))
theorem bEJ {tS tI : TypeId} {B GA GB : Nat} {bk : Bool} {l : List Nd} {wr : World} {vs : Nat → Value} {xs : Nat → List Int} (h : xK tS tI B GA GB bk l.length (PEk l l.length) wr vs xs)
 (hT : ∀ (k : Nat) (n : Nd), l[k]? = some n → ∀ m ∈ bT n, 0 ≤ m ∧ m < l.length) {i j : Nat} (hi : i < l.length) (hj : j < l.length) (hm : (i : Int) ∈ bF bk l j) : (j : Int) ∈ xs (l.length + i) := by (
 rw [← bCY h hT hj] at hm
 obtain ⟨a, m, hp, h1, h2⟩ := (h.edges.asks j hj i).1 hm
 exact (h.edges.asked i hi j).2 ⟨a, m, hp, h1, h2⟩)
theorem zR {tS tI : TypeId} {B GA GB : Nat} {bk : Bool} {l : List Nd} {wr : World} {vs : Nat → Value} {xs : Nat → List Int} (h : xK tS tI B GA GB bk l.length (PEk l l.length) wr vs xs)
 (hT : ∀ (k : Nat) (n : Nd), l[k]? = some n → ∀ m ∈ bT n, 0 ≤ m ∧ m < l.length) {i : Nat} (hi : i < l.length) {r : Int} (hr : r ∈ xs (l.length + i)) : 0 ≤ r ∧ r < l.length := by (
 obtain ⟨a, m, ⟨ha, n, hn, hm⟩, h1, h2⟩ := (h.edges.asked i hi r).1 hr
 have := hT a n hn m hm
 unfold fst at h1
 split at h1 <;> omega)
def bEV (S : List Bool → Nat → Bool) (n : Nat) (x : List Bool) (work : List Int) : Prop := ∀ j : Nat, j < n → yn x j = true → S x j = false → (j : Int) ∈ work
theorem bEV.drop {bk em : Bool} {gen pass plus lt : List Bool} {l : List Nd} {x : List Bool} {i : Nat} {work asked : List Int} (h : bEV (cU bk em gen pass plus lt l) l.length x ((i : Int) :: work)) (hl : x.length = l.length) (hi : i < l.length)
 (ha : ∀ j, j < l.length → (i : Int) ∈ bF bk l j → (j : Int) ∈ asked) : bEV (cU bk em gen pass plus lt l) l.length (x.set i false) (work ++ asked) := by (
 intro j hj hy hs
 rw [cL _ _ _ _ X2] at hy
 by_cases hji : j = i
 · rw [if_pos hji] at hy; cases hy
 · (
 rw [if_neg hji] at hy
 rw [Um]
 by_cases hm : (i : Int) ∈ bF bk l j
 · exact .inr (ha j hj hm)
 · (
 have he : cU bk em gen pass plus lt l (x.set i false) j = cU bk em gen pass plus lt l x j := bCD fun m hmm => by (
 rw [cL _ _ _ _ X2, if_neg]
 rintro rfl
 obtain ⟨q, _, _, rfl⟩ := jS.1 hmm
 simp at hm
 exact hm hmm)
 rw [he] at hs
 have := h j hj hy hs
 simp only [Uo] at this
 rcases this with e | e
 · exact absurd Zb hji
 · exact .inl e)))
theorem bEV.pop {S : List Bool → Nat → Bool} {n : Nat} {x : List Bool} {i : Nat} {work : List Int} (h : bEV S n x ((i : Int) :: work)) (hi : yn x i = true → S x i = true) : bEV S n x work := by (
 intro j hj hy hs
 have := h j hj hy hs
 simp only [Uo] at this
 rcases this with e | e
 · (
 have e' : j = i := Zb
 subst e'
 rw [hi hy] at hs
 cases hs)
 · exact e)
def bKU (S : List Bool → Nat → Bool) (n : Nat) (t : TypeId) (w : World) (e : Ending) (w' : World) : Prop :=
 ∃ x v, eU S n x ∧ e = .returned (.tuple #[v, .int .i64 0]) ∧ Row w' w.heap.size t v (bE x) ∧ Below w.heap.size w w'
theorem sG
 (regs : Int) (A : Option Addr) (l : List Nd) (cap : Nat) (bk em : Bool) (G P Q T : Option Addr) (g p q t gc pc qc tc : Nat) (w : World) (hA : bH w A l) (hml : l.length ≤ maxLen)
 (gen pass plus lt : List Bool)
 (hG : bG w G (bE gen)) (hP : bG w P (bE pass)) (hQ : bG w Q (bE plus)) (hT : bG w T (bE lt))
 (hg : gen.length = g) (hp : pass.length = p) (hq : plus.length = q) (ht : lt.length = t)
 (hfe : xZ regs l g p q t = 0) :
 Calls prog 135 #[.agg #[.int .i64 regs, .slice A l.length cap], .agg #[.bool bk, .bool em, .slice G g gc, .slice P p pc, .slice Q q qc, .slice T t tc]] w
  (bKU (cU bk em gen pass plus lt l) l.length 4 w) := by (
 obtain ⟨hR, e1, e2, e3, e4⟩ := bKK hfe
 have hsays := fun (x : List Bool) (X : Option Addr) (xc n : Nat) (B GA GB : Nat) (vs : Nat → Value) (xs : Nat → List Int) (w1 W : World) (hx : x.length = l.length) (hX : bG W X (bE x)) (hgr : xK 25 3 B GA GB bk l.length (PEk l l.length) w1 vs xs) (hb : Below w1.heap.size w1 W) (hW : Below w.heap.size w W) (hn : n < l.length) =>
  bGX bk em G P Q T X g p q t l.length gc pc qc tc xc gen pass plus lt x l B GA GB n vs xs w1 W (hG.below hW) (hP.below hW) (hQ.below hW) (hT.below hW) hX hg hp hq ht hx e1 e2 e3 e4 rfl hR.hi hgr hb hn hR.exits
 have Hsays := bA hsays
 have Hq := bA hfe
 have hl2 := hR.hi
 have hl1 := hR.lo
 have hof := fun (W : World) (hW : Below w.heap.size w W) => bHV regs A l cap bk W ⟨hR.lo, hR.hi⟩ (hA.below hW) hR.exits
 have Hof := bA hof
 have hex := hR.exits
 have Hex := bA hex
 clear hsays hG hP hQ hT hg hp hq ht e1 e2 e3 e4 hfe hof hex hR
 obtain ⟨ib, hbi, hbz, hbs, hbb⟩ := info_parts bNO
 obtain ⟨i3, h3i, h3z, h3s, h3b⟩ := info_parts wK
 have hmk := dN (P := prog) 74 4 ib _ 1 underlying74 hbi hbz hbs hbb Zb rfl l.length Zb
 go_enter func135, ntmps135
 go_wp2_with (first
  | (go_at_call 170; refine (bHW _ _ _ _ _ _ _ _ _ _ _ _ _ _ _ _ _ _ _ hml (hA.below Yc)).mono ?_; rw [Hq.o]; rintro e w1 ⟨rfl, hb1⟩; have hz1 := hb1.size; simp only [World.size_alloc] at hz1; have hP1 : Blk w1 w.heap.size 24 #[.int .i64 regs, .slice A l.length cap] := Blk.below (Blk.alloc (Blk.new' rfl) _) hb1 Za; have hF1 : Blk w1 (w.heap.size + 1) 192 _ := Blk.below (Blk.new' Zf) hb1 Zf; have p0 := hP1.cell 0; have p1 := hP1.cell 1; have f0 := hF1.cell 0; simp only [Yl] at p0 p1 f0; have hB1 : Below w.heap.size w w1 := Yc; clear hb1)
  | (go_at_call 171; refine (Hof.o _ hB1).mono ?_; rintro e w2 ⟨GA, GB, vs, xs, rfl, hgr, hb2⟩; have hz2 := hb2.size; have hP2 := hP1.below hb2 hP1.lt; have hF2 := hF1.below hb2 hF1.lt; have hB2 : Below w.heap.size w w2 := hB1.trans (hb2.mono Zb); have q1 := hP2.cell 1; simp only [Yl] at q1; have lq := hP2.lt; clear hP1 hF1 p0 p1 f0))
 clear q1 lq hP2
 go_loopg [9, 28] (l.length) (fun gk wk i wr => ∃ k : Nat, k ≤ l.length ∧ i = .int .i64 k ∧ gk = l.length - k ∧ ∃ x : List Bool, x.length = l.length ∧ (∀ j, j < k → yn x j = true) ∧
  Row wr w2.heap.size 4 (.slice (some ⟨w2.heap.size + 1, 0, none⟩) l.length l.length) (bE x) ∧ Row wr w2.heap.size 3 wk (bN ((List.range k).map Int.ofNat)) ∧
  Blk wr w2.heap.size 218 #[.slice (some ⟨GA, 0, none⟩) l.length l.length, .slice (some ⟨GB, 0, none⟩) l.length l.length] ∧ Blk wr (w.heap.size + 1) 192 #[.bool bk, .bool em, .slice G g gc, .slice P p pc, .slice Q q qc, .slice T t tc] ∧ Below w2.heap.size w2 wr)
 case atStart => exact ⟨0, Nat.zero_le _, rfl, Zb, List.replicate l.length false, Zf, fun j hj => by omega, by rw [bE, List.map_replicate]; exact Yf, Row.nil_ _ _ _, Yd, (hF2.alloc _).alloc _, Yc⟩
 case round => (
 clear hF2
 obtain ⟨k, hk, rfl, hgk, x, hxl, hxt, hR, hW, hGb, hFb, hB⟩ := hrel
 have Hgk := bA hgk
 have Hxt := bA hxt
 have Hxl := bA hxl
 clear hgk hxt hxl
 have hz := hB.size
 have hxlt := (hR.lt _ rfl).2
 by_cases hlt : k < l.length
 · (
 obtain ⟨g0, o0, cp0, e0, _, _, cx, fx⟩ := hR.bool (k := k) (by rw [Hxl.o]; exact hlt)
 injection e0 with e0 e1 e2
 injection e0 with e0
 injection e0 with e0 e3
 subst e0 e3
 simp only [Nat.zero_add] at cx fx
 clear e1 e2
 have hWl : (bN ((List.range k).map Int.ofNat)).length = k := by simp [bN]
 have HWl := bA hWl
 have hxw := hR.ne_row hW Ze
 obtain ⟨A9, c9, rfl, _, _⟩ := hW.shape
 have hW2 := (hW.far (p := ⟨w2.heap.size + 1, k, none⟩) Z3 (.bool true))
 have HR := bA hR
 have HW := bA hW
 have HW2 := bA hW2
 have HG := bA hGb
 have HF := bA hFb
 have hwl2 : (bN ((List.range k).map Int.ofNat)).length ≤ 256 := Zb
 have Hxw := bA hxw
 clear hR hW hGb hFb hWl hW2 hxw
 generalize hwk : bN ((List.range k).map Int.ofNat) = wks at *
 have Hwk := bA hwk
 clear hwk
 go_wp2_with (at_builtin; refine bV (v := .slice A9 wks.length c9) rfl (.tmp 34) (.tmp 36) _ rfl i3 _ 8 underlying25 h3i h3z h3s h3b rfl rfl (HW2.o.alloc _) (some ⟨wr.heap.size, 0, none⟩) 1 1 [.int .i64 (k : Int)] rfl rfl (dU Zf) Zk Zr Zd Zd ?_; intro v3 w3 hr3 hg3 hat3)
 go_roundg (l.length - (k + 1))
 case measure => exact Jg
 case rel => (
 have hG1 : Blk (wr.setCell ⟨w2.heap.size + 1, k, none⟩ (.bool true)) w2.heap.size _ _ := HG.o.far Zf _
 have hF1 : Blk (wr.setCell ⟨w2.heap.size + 1, k, none⟩ (.bool true)) (w.heap.size + 1) _ _ := HF.o.far Zd _
 have hx1 := HR.o.setb k true
 rw [Nat.zero_add] at hx1
 refine ⟨k + 1, Zb, by go_num, rfl, x.set k true, by simpa using Hxl.o, fun j hj => ?_, (hx1.alloc _).kept hg3 Hxw.o, ?_, (hG1.alloc _).grown hg3 (HW2.o.ne_blk hG1 Ze), (hF1.alloc _).grown hg3 (HW2.o.ne_blk hF1 Ze), ?_⟩
 · (
 rw [cL _ _ _ _ (by rw [Hxl.o]; exact hlt)]
 split
 · rfl
 · exact Hxt.o j Zb)
 · (
 rw [List.range_succ, List.map_append, eI, Hwk.o]
 exact hr3)
 · exact ((hB.setCell Zf _).alloc Zh _).grown hg3 Zh fun q hq => (HW.o.lt q hq).1))
 · (
 have hkk : k = l.length := Zb
 have hAb : mM (cU bk em gen pass plus lt l) l.length x := mM.start Hxl.o fun i hi => Hxt.o i Zb
 have hTd : bEV (cU bk em gen pass plus lt l) l.length x ((List.range k).map Int.ofNat) := fun j hj _ _ => List.mem_map.2 ⟨j, List.mem_range.2 Zb, rfl⟩
 have hws : uP (fun i => (xs (l.length + i)).length) x l.length ≤ l.length * (2 * l.length) := bIA x _ fun i hi => hgr.len _ Zb
 have hmul : l.length * (2 * l.length) ≤ 256 * 512 := Nat.mul_le_mul Zb Zb
 have HAb := bA hAb
 have HTd := bA hTd
 have Hws := bA hws
 have HR := bA hR
 have HW := bA hW
 have HG := bA hGb
 have HF := bA hFb
 clear hR hW hGb hFb hAb hTd hws
 obtain ⟨w4, rfl⟩ := Exq wr
 go_wp2_with fail
 go_loopg [9] (l.length * (2 * l.length) + 256) (fun gk wk wr => ∃ (x : List Bool) (work : List Int), work.length + uP (fun i => (xs (l.length + i)).length) x l.length ≤ gk ∧ gk ≤ 200000 ∧ mM (cU bk em gen pass plus lt l) l.length x ∧ bEV (cU bk em gen pass plus lt l) l.length x work ∧ (∀ r ∈ work, 0 ≤ r ∧ r < l.length) ∧
  Row wr w2.heap.size 4 (.slice (some ⟨w2.heap.size + 1, 0, none⟩) l.length l.length) (bE x) ∧ Row wr w2.heap.size 3 wk (bN work) ∧
  Blk wr w2.heap.size 218 #[.slice (some ⟨GA, 0, none⟩) l.length l.length, .slice (some ⟨GB, 0, none⟩) l.length l.length] ∧ Blk wr (w.heap.size + 1) 192 #[.bool bk, .bool em, .slice G g gc, .slice P p pc, .slice Q q qc, .slice T t tc] ∧ Below w2.heap.size w2 wr)
 case atStart => (
 refine ⟨x, (List.range k).map Int.ofNat, by have := Hws.o; simp; omega, Zb, HAb.o, HTd.o, fun r hr => ?_, HR.o, HW.o, HG.o, HF.o, hB⟩
 obtain ⟨j, hj, rfl⟩ := List.mem_map.1 hr
 have := List.mem_range.1 hj
 simp
 omega)
 case round => (
 clear HAb HTd Hws HR HW HG HF hB hz hxlt Hgk Hxt Hxl hk hlt hkk
 obtain ⟨x, work, hgk, hg2, hAb, hTd, hrg, hR, hW, hGb, hFb, hB⟩ := hrel
 have Hgk := bA hgk
 have HAb := bA hAb
 have HTd := bA hTd
 have Hrg := bA hrg
 have hxl := hAb.1
 have Hxl := bA hxl
 clear hgk hAb hTd hrg hxl
 have hz := hB.size
 rcases work with _ | ⟨r, rest⟩
 · (
 obtain ⟨A9, c9, rfl, _, _⟩ := hW.shape
 simp only [bN, List.map_nil, List.length_nil]
 go_wp2_with fail
 go_ret2
 have hBW : Below w.heap.size w wr := hB2.trans (hB.mono Zb)
 exact ⟨x, _, mM.great (dP _ _ _ _ _ _ _) HAb.o (fun i hi hy => by
  cases hs : cU bk em gen pass plus lt l x i
  · (
 have := HTd.o i hi hy hs
 cases this)
  · rfl), rfl, hR.mono Zb, hBW⟩)
 · (
 have hrr := Hrg.o r (List.mem_cons_self ..)
 obtain ⟨i, rfl⟩ := V7 hrr.1
 have hil : i < l.length := Zb
 obtain ⟨g9, o9, cap9, u9, rfl, hg9, hg9l, hu9, cw, _⟩ := hW.get (k := 0) (by simp [bN])
 have hu : u9 = .int .i64 (i : Int) := by simpa [bN] using hu9.symm
 subst hu
 have htail := hW.tail (x := .int .i64 (i : Int)) (xs := bN rest)
 have hshape := hW.shape
 obtain ⟨_, _, es, hcap, hcm⟩ := hshape
 injection es with es1 _ es3
 subst es1 es3
 simp only [bN, List.map_cons, List.length_cons, Uj, Nat.add_sub_cancel, Nat.add_zero] at cw htail hcap hcm
 unfold maxLen at hcm
 have hlenw : (bN ((i : Int) :: rest)).length = rest.length + 1 := by simp [bN]
 rw [hlenw]
 clear hlenw
 obtain ⟨g0, o0, cp0, e0, _, hxlt, cx, fx⟩ := hR.bool (k := i) (by rw [Hxl.o]; exact hil)
 injection e0 with e0 e1 e2
 injection e0 with e0
 injection e0 with e0 e3
 subst e0 e3
 simp only [Nat.zero_add] at cx fx
 have hBW : Below w.heap.size w wr := hB2.trans (hB.mono Zb)
 have p0 := hGb.cell 0
 have p1 := hGb.cell 1
 have f0 := hFb.cell 0
 have f1 := hFb.cell 1
 have f2 := hFb.cell 2
 have f3 := hFb.cell 3
 have f4 := hFb.cell 4
 have f5 := hFb.cell 5
 simp only [Yl] at p0 p1 f0 f1 f2 f3 f4 f5
 have lp := hGb.lt
 have lf := hFb.lt
 have hcall := Hsays.o x (some ⟨w2.heap.size + 1, 0, none⟩) l.length i w1.heap.size GA GB vs xs w2 wr Hxl.o hR.vals hgr hB hBW hil
 have hrl : rest.length ≤ 200000 := by have := Hgk.o; simp at this; omega
 have HR := bA hR
 have HG := bA hGb
 have HF := bA hFb
 clear e1 e2 hR hW hGb hFb hu9 hrr
 by_cases hc1 : cap9 = 1
 · (
 subst hc1
 have hr0 : rest = [] := List.eq_nil_of_length_eq_zero Zb
 subst hr0
 simp only [↓reduceIte, Nat.sub_self, List.length_nil, List.map_nil, Nat.zero_add] at htail hrl ⊢
 have HT := bA htail
 clear htail
 cases hyi : yn x i
 case false => (
 rw [hyi] at cx
 clear hcall
 have Hyi := bA hyi
 clear hyi
 go_wp2_with fail
 go_roundg (gk - 1)
 case measure => exact Ji
 case rel => (
 exact ⟨x, [], by have := Hgk.o; simp at this; omega, Zb, HAb.o, HTd.o.pop (fun h => by rw [Hyi.o] at h; cases h), fun q hq => Hrg.o q (List.mem_cons_of_mem _ hq), HR.o, HT.o, HG.o, HF.o, hB⟩))
 case true => (
 rw [hyi] at cx
 have Hyi := bA hyi
 clear hyi
 cases hs : cU bk em gen pass plus lt l x i
 case true => (
 rw [hs] at hcall
 have Hcall := bA hcall
 have Hs := bA hs
 clear hcall hs
 go_wp2_with (go_at_call 172; refine (Hcall.o).mono ?_; rintro e w3 ⟨rfl, hb3⟩)
 go_roundg (gk - 1)
 case measure => exact Ji
 case rel => (
 exact ⟨x, [], by have := Hgk.o; simp at this; omega, Zb, HAb.o, HTd.o.pop (fun _ => Hs.o), fun q hq => Hrg.o q (List.mem_cons_of_mem _ hq), HR.o.below' hb3, HT.o.below' hb3, HG.o.below hb3 HG.o.lt, HF.o.below hb3 HF.o.lt, hB.trans (hb3.mono hz)⟩))
 case false => (
 rw [hs] at hcall
 have Hcall := bA hcall
 have Hs := bA hs
 clear hcall hs
 have hrowA := (hgr.tab.row (i := l.length + i) Zb).below' hB
 obtain ⟨RA, rca, hva, _, _⟩ := hrowA.shape
 refine Kg fun hlB hlen2 hal hcellB HlA HA2 Hva => ?_; clear hrowA hva
 go_wp2_with (first
  | (go_at_call 172; refine (Hcall.o).mono ?_; rintro e w3 ⟨rfl, hb3⟩; have hz3 := hb3.size; have c3 := ((bB hb3).1 _ _ hxlt).trans cx; have fr3 := ((bB hb3).2 _ _ hxlt).trans fx; have q3 := ((bB hb3).1 _ 1 lp).trans p1; have b3 := ((bB hb3).1 _ i hlB).trans hcellB; have hT3 := HT.o.below' hb3; have hR3 := HR.o.below' hb3; have hxw := hR3.ne_row hT3 Ze; have n1 : w2.heap.size ≠ w2.heap.size + 1 := Zb; have n2 : GB ≠ w2.heap.size + 1 := (by have := cZ hgr.rb; omega); have hT4 := hT3.far (p := ⟨w2.heap.size + 1, i, none⟩) Z3 (.bool false); have HT4 := bA hT4; have hA4 := (HA2.o.below' hb3).far (p := ⟨w2.heap.size + 1, i, none⟩) (fun e => by have := HlA.o _ e; simp at this; omega) (.bool false); have HA4 := bA hA4; clear hA4; have Hxw := bA hxw; have HR3 := bA hR3; clear hT3 hT4 hxw hR3)
  | (at_builtin; (refine bV (v := .slice (some ⟨g9, o9, none⟩) 0 0) rfl (.tmp 62) (.tmp 67) _ rfl i3 _ 8 underlying25 h3i h3z h3s h3b rfl rfl HT4.o RA (xs (l.length + i)).length rca (bN (xs (l.length + i))) rfl (bJ _).symm HA4.o.vals (by simp [bN, Value.oneCell']) Xq (by simp only [Uj, bJ]; omega) Zd ?_); intro v5 w5 hr5 hg5 hat5))
 go_roundg (gk - 1)
 case measure => exact Ji
 case rel => (
 refine Kl fun hwset hgk' hG3 hF3 hx3 hB3 => ?_
 refine ⟨x.set i false, [] ++ xs (l.length + i), ?_, Zb, HAb.o.drop (dP _ _ _ _ _ _ _) hil Hs.o, HTd.o.drop Hxl.o hil (fun j hj hm => bEJ hgr Hex.o hil hj hm), fun q hq => ?_, hx3.kept hg5 Hxw.o, ?_, hG3.grown hg5 (HT4.o.ne_blk hG3 Ze), hF3.grown hg5 (HT4.o.ne_blk hF3 Ze), hB3.grown hg5 Zd (fun q hq => (HT4.o.lt q hq).1)⟩
 · (
 rw [Vz]
 simp only [List.length_cons] at hgk'
 have hl0 : ([] : List Int).length = 0 := Zf
 omega)
 · (
 rcases List.mem_append.1 hq with h | h
 · exact Hrg.o q (List.mem_cons_of_mem _ h)
 · exact zR hgr Hex.o hil h)
 · (
 rw [eI]
 exact hr5)))))
 · (
 simp only [if_neg hc1] at htail
 have HT := bA htail
 clear htail
 cases hyi : yn x i
 case false => (
 rw [hyi] at cx
 clear hcall
 have Hyi := bA hyi
 clear hyi
 go_wp2_with fail
 go_roundg (gk - 1)
 case measure => exact Ji
 case rel => (
 exact ⟨x, rest, by have := Hgk.o; simp at this; omega, Zb, HAb.o, HTd.o.pop (fun h => by rw [Hyi.o] at h; cases h), fun q hq => Hrg.o q (List.mem_cons_of_mem _ hq), HR.o, HT.o, HG.o, HF.o, hB⟩))
 case true => (
 rw [hyi] at cx
 have Hyi := bA hyi
 clear hyi
 cases hs : cU bk em gen pass plus lt l x i
 case true => (
 rw [hs] at hcall
 have Hcall := bA hcall
 have Hs := bA hs
 clear hcall hs
 go_wp2_with (go_at_call 172; refine (Hcall.o).mono ?_; rintro e w3 ⟨rfl, hb3⟩)
 go_roundg (gk - 1)
 case measure => exact Ji
 case rel => (
 exact ⟨x, rest, by have := Hgk.o; simp at this; omega, Zb, HAb.o, HTd.o.pop (fun _ => Hs.o), fun q hq => Hrg.o q (List.mem_cons_of_mem _ hq), HR.o.below' hb3, HT.o.below' hb3, HG.o.below hb3 HG.o.lt, HF.o.below hb3 HF.o.lt, hB.trans (hb3.mono hz)⟩))
 case false => (
 rw [hs] at hcall
 have Hcall := bA hcall
 have Hs := bA hs
 clear hcall hs
 have hrowA := (hgr.tab.row (i := l.length + i) Zb).below' hB
 obtain ⟨RA, rca, hva, _, _⟩ := hrowA.shape
 refine Kg fun hlB hlen2 hal hcellB HlA HA2 Hva => ?_; clear hrowA hva
 go_wp2_with (first
  | (go_at_call 172; refine (Hcall.o).mono ?_; rintro e w3 ⟨rfl, hb3⟩; have hz3 := hb3.size; have c3 := ((bB hb3).1 _ _ hxlt).trans cx; have fr3 := ((bB hb3).2 _ _ hxlt).trans fx; have q3 := ((bB hb3).1 _ 1 lp).trans p1; have b3 := ((bB hb3).1 _ i hlB).trans hcellB; have hT3 := HT.o.below' hb3; have hR3 := HR.o.below' hb3; have hxw := hR3.ne_row hT3 Ze; have n1 : w2.heap.size ≠ w2.heap.size + 1 := Zb; have n2 : GB ≠ w2.heap.size + 1 := (by have := cZ hgr.rb; omega); have hT4 := hT3.far (p := ⟨w2.heap.size + 1, i, none⟩) Z3 (.bool false); have HT4 := bA hT4; have hA4 := (HA2.o.below' hb3).far (p := ⟨w2.heap.size + 1, i, none⟩) (fun e => by have := HlA.o _ e; simp at this; omega) (.bool false); have HA4 := bA hA4; clear hA4; have Hxw := bA hxw; have HR3 := bA hR3; clear hT3 hT4 hxw hR3)
  | (at_builtin; (refine bV (v := .slice (some ⟨g9, o9 + 1, none⟩) rest.length (cap9 - 1)) rfl (.tmp 62) (.tmp 67) _ rfl i3 _ 8 underlying25 h3i h3z h3s h3b rfl rfl HT4.o RA (xs (l.length + i)).length rca (bN (xs (l.length + i))) rfl (bJ _).symm HA4.o.vals (by simp [bN, Value.oneCell']) Xq (by simp only [Uj, bJ]; omega) Zd ?_); intro v5 w5 hr5 hg5 hat5))
 go_roundg (gk - 1)
 case measure => exact Ji
 case rel => (
 refine Kl fun hwset hgk' hG3 hF3 hx3 hB3 => ?_
 refine ⟨x.set i false, rest ++ xs (l.length + i), ?_, Zb, HAb.o.drop (dP _ _ _ _ _ _ _) hil Hs.o, HTd.o.drop Hxl.o hil (fun j hj hm => bEJ hgr Hex.o hil hj hm), fun q hq => ?_, hx3.kept hg5 Hxw.o, ?_, hG3.grown hg5 (HT4.o.ne_blk hG3 Ze), hF3.grown hg5 (HT4.o.ne_blk hF3 Ze), hB3.grown hg5 Zd (fun q hq => (HT4.o.lt q hq).1)⟩
 · (
 rw [Vz]
 simp only [List.length_cons] at hgk'
 have hl0 : (rest : List Int).length = rest.length := Zf
 omega)
 · (
 rcases List.mem_append.1 hq with h | h
 · exact Hrg.o q (List.mem_cons_of_mem _ h)
 · exact zR hgr Hex.o hil h)
 · (
 rw [eI]
 exact hr5))))))))))
end
end Go.Proofs.YtmghkonmfbpjcabGreatDoor
