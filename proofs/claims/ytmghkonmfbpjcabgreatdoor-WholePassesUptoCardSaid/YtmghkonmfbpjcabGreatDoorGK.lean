/- Parts. -/
import Derived.Test.YtmghkonmfbpjcabGreatDoorGJ
set_option linter.unusedVariables false
set_option linter.unusedSimpArgs false
set_option maxRecDepth 100000
set_option maxHeartbeats 16000000
namespace Go.Proofs.YtmghkonmfbpjcabGreatDoor
open Go.Proofs.Tryz
section
open Go.RowKit
open Go.Lib
theorem bDG {c : UInt8} : ∀ {s : List UInt8}, c ∉ s → Lib.index s [c] = -1
 | [], _ => by simp [Lib.index]
 | b :: l, h => by
  have hb : c ≠ b := fun e => h Xo
  have ih := bDG (s := l) (c := c) fun e => h (by simp [e])
  rw [Lib.index]
  simp [List.isPrefixOf, hb, ih]
theorem bGU {c : UInt8} {r : List UInt8} : ∀ {x : List UInt8}, c ∉ x → Lib.index (x ++ c :: r) [c] = x.length
 | [], _ => by rw [List.nil_append, Lib.index]; simp [List.isPrefixOf]
 | b :: l, h => by
  have hb : c ≠ b := fun e => h Xo
  have ih := bGU (x := l) (c := c) (r := r) fun e => h (by simp [e])
  rw [List.cons_append, Lib.index]
  simp only [List.isPrefixOf, ih]
  simp [hb]
theorem xA (c : UInt8) : ∀ (s : List UInt8), c ∈ s → ∃ x r, s = x ++ c :: r ∧ c ∉ x
 | [], h => by cases h
 | b :: l, h => by
  by_cases hb : b = c
  ·exact ⟨[], l, by rw [hb]; rfl, Zf⟩
  ·obtain ⟨x, r, h1, h2⟩ := xA c l ((List.mem_cons.1 h).resolve_left fun e => hb e.symm)
   exact ⟨b :: x, r, by rw [h1]; rfl, by simp [h2]; exact fun e => hb e.symm⟩
theorem bJF {c : UInt8} {x r : List UInt8} (h : c ∉ x) : eM c (x ++ c :: r) = x :: eM c r := by
 have hj : dL c (x :: eM c r) = x ++ c :: r := by
  unfold eM
  rw [bGP c x (qI c r []), iL]
  rfl
 rw [← hj]
 refine jG Zf fun y hy => ?_
 rcases List.mem_cons.1 hy with e | e
 ·rw [e]; exact h
 ·exact nY c r [] Zf y e
theorem bMB {c : UInt8} {s : List UInt8} (h : c ∉ s) : eM c s = [s] := by
 have := jG (c := c) (p := [s]) Zf (fun x hx => by rw [List.mem_singleton.1 hx]; exact h)
 exact this
theorem uA (c : UInt8) : ∀ (k : Nat) (s : List UInt8), s.count c = k → Lib.splitK [c] 0 k s = eM c s
 | 0, s, h => by
  rw [bMB (List.count_eq_zero.1 h)]
  rfl
 | k + 1, s, h => by
  obtain ⟨x, r, rfl, hx⟩ := xA c s (List.count_pos_iff.1 Zb)
  have hr : r.count c = k := by
   rw [List.count_append, List.count_eq_zero.2 hx, List.count_cons_self] at h
   omega
  rw [Lib.splitK, bGU hx, bJF hx, ← uA c k r hr]
  rw [if_neg Zf]
  simp
theorem bNY {c : UInt8} {s : List UInt8} (h : c ∉ s) : Lib.cut s [c] = (s, [], false) := by
 unfold Lib.cut
 rw [bDG h]
 rfl
theorem bRZ {c : UInt8} {x r : List UInt8} (h : c ∉ x) : Lib.cut (x ++ c :: r) [c] = (x, r, true) := by
 unfold Lib.cut
 rw [bGU h, if_pos Zb]
 simp
theorem uB (c : UInt8) (s : List UInt8) : Lib.splitB ⟨#[c]⟩ 0 (Lib.countB ⟨s.toArray⟩ ⟨#[c]⟩) ⟨s.toArray⟩ = (eM c s).map fun x => (⟨x.toArray⟩ : ByteArray) := by
 have h1 := Lib.splitB_data ⟨#[c]⟩ 0 (Lib.countB ⟨s.toArray⟩ ⟨#[c]⟩) ⟨s.toArray⟩
 have h2 : Lib.countB ⟨s.toArray⟩ ⟨#[c]⟩ = s.count c := Lib.count_one c s
 have h3 : Lib.splitK [c] 0 (Lib.countB ⟨s.toArray⟩ ⟨#[c]⟩) s = eM c s := uA c _ s h2.symm
 have h4 : (Lib.splitB ⟨#[c]⟩ 0 (Lib.countB ⟨s.toArray⟩ ⟨#[c]⟩) ⟨s.toArray⟩).map (fun b => b.data.toList) = eM c s := h1.trans h3
 rw [← h4, List.map_map]
 conv => lhs; rw [← List.map_id (Lib.splitB ⟨#[c]⟩ 0 (Lib.countB ⟨s.toArray⟩ ⟨#[c]⟩) ⟨s.toArray⟩)]
 refine List.map_congr_left fun b _ => ?_
 simp
theorem bQJ (s : List UInt8) (hs : s.length ≤ 4294967280) (w : World) (hT : Tv w) : Calls prog 85 #[cE s, .string ⟨#[32]⟩] w fun e w' =>
  ∃ v, e = .returned v ∧ Row w' w.heap.size 9 v ((eM 32 s).map cE) ∧ Below w.heap.size w w' := by
 obtain ⟨m, hm⟩ := hT.mx
 refine (Tryz.strings_Split ⟨s.toArray⟩ ⟨#[32]⟩ m w (by show s.length < _; omega) hm (Nat.le_refl _)).mono ?_
 rintro e w' ⟨rfl, rfl⟩
 rw [uB]
 have hc : Lib.countB ⟨s.toArray⟩ ⟨#[32]⟩ + 1 = (eM 32 s).length := by
  have h1 := congrArg List.length (uB 32 s)
  rw [Lib.splitB_all ⟨#[32]⟩ (Nat.le_refl _) 0 _ ⟨s.toArray⟩ rfl, Uj] at h1
  exact h1
 have hcount : s.count 32 ≤ s.length := List.count_le_length
 have hc2 : Lib.countB ⟨s.toArray⟩ ⟨#[32]⟩ = s.count 32 := Lib.count_one 32 s
 rw [hc]
 refine ⟨_, rfl, ?_, (Bnq _ _)⟩
 have := Row.made (w := w) (base := w.heap.size) (e := 9) (cs := (((eM 32 s).map fun x => (⟨x.toArray⟩ : ByteArray)).map Value.string).toArray) (n := (eM 32 s).length) (Nat.le_refl _) Zf Zw
 rw [List.map_map] at this ⊢
 exact this
theorem bQS (s : List UInt8) (hs : s.length ≤ 4294967280) (w : World) (hT : Tv w) : Calls prog 46 #[cE s, .string ⟨#[10]⟩] w fun e w' =>
  ∃ x r b, e = .returned (.tuple #[cE x, cE r, .bool b]) ∧ Below w.heap.size w w' ∧ ((b = true ∧ s = x ++ 10 :: r ∧ 10 ∉ x) ∨ (b = false ∧ 10 ∉ s ∧ x = s ∧ r = [])) := by
 obtain ⟨m, hm⟩ := hT.mx
 refine (Tryz.strings_Cut ⟨s.toArray⟩ ⟨#[10]⟩ m w (by show s.length < _; omega) hm).mono ?_
 rintro e w' ⟨rfl, n, rfl⟩
 show ∃ x r b, Ending.returned (.tuple #[.string ⟨(Lib.cut s [10]).1.toArray⟩, .string ⟨(Lib.cut s [10]).2.1.toArray⟩, .bool (Lib.cut s [10]).2.2]) = _ ∧ _
 by_cases h : (10 : UInt8) ∈ s
 ·obtain ⟨x, r, rfl, hx⟩ := xA 10 s h
  rw [bRZ hx]
  exact ⟨x, r, true, rfl, bZ (Below.refl _ _) n, .inl ⟨rfl, rfl, hx⟩⟩
 ·rw [bNY h]
  exact ⟨s, [], false, rfl, bZ (Below.refl _ _) n, .inr ⟨rfl, h, rfl, rfl⟩⟩
theorem bON (s p : List UInt8) (w : World) : Calls prog 47 #[cE s, cE p] w fun e w' =>
  ∃ x b, e = .returned (.tuple #[cE x, .bool b]) ∧ w' = w ∧ ((b = true ∧ s = p ++ x) ∨ (b = false ∧ x = s ∧ ∀ y, s ≠ p ++ y)) := by
 refine (Tryz.strings_CutPrefix ⟨s.toArray⟩ ⟨p.toArray⟩ w).mono ?_
 rintro e w' ⟨rfl, rfl⟩
 show ∃ x b, Ending.returned (.tuple #[.string ⟨(Lib.trimPrefix s p).toArray⟩, .bool (Lib.hasPrefix s p)]) = _ ∧ _
 unfold Lib.trimPrefix
 cases h : Lib.hasPrefix s p with
 | true =>
  unfold Lib.hasPrefix at h
  obtain ⟨y, rfl⟩ := List.isPrefixOf_iff_prefix.1 h
  exact ⟨y, true, Zf, rfl, .inl ⟨rfl, rfl⟩⟩
 | false =>
  refine ⟨s, false, Zf, rfl, .inr ⟨rfl, rfl, fun y hy => ?_⟩⟩
  unfold Lib.hasPrefix at h
  have : p.isPrefixOf s = true := List.isPrefixOf_iff_prefix.2 ⟨y, hy.symm⟩
  rw [this] at h
  cases h
theorem bOT (s : List UInt8) (hs : s.length ≤ 4294967280) (w : World) (hT : Tv w) : Calls prog 48 #[cE s] w fun e w' =>
  ∃ v er, e = .returned (.tuple #[.int .i64 v, er]) ∧ Below w.heap.size w w' ∧ ((er = .nilIface ∧ cB v ∧ ∀ n, cB n → s = itoa n → v = n) ∨ ((∃ t q, er = .iface t q) ∧ ∀ n, cB n → s ≠ itoa n)) := by
 have key : ∀ n, cB n → s = itoa n → Lib.atoiAll s = .ok n := fun n hn e => by rw [e]; exact bKP hn.1 hn.2
 cases h : Lib.atoiAll s
 ·rename_i v
  refine (Tryz.strconv_Atoi_ok ⟨s.toArray⟩ (by show s.length ≤ _; omega) v h w).mono ?_
  rintro e w' ⟨rfl, hw⟩
  refine ⟨v, _, rfl, ?_, .inl ⟨rfl, ?_, fun n hn e => ?_⟩⟩
  ·rcases hw with rfl | ⟨t, rfl⟩
   ·exact Below.refl _ _
   ·exact Lib.bytesWorld_below _ _ _
  ·exact Lib.atoiAll_bounds h
  ·have := key n hn e
   rw [h] at this
   injection this
 ·obtain ⟨tp, p, hv⟩ := hT.syn
  refine (Any.strconv_Atoi_syntax_var Tryz.laysC172 ⟨s.toArray⟩ (by show s.length ≤ _; omega) h tp p w hv).mono ?_
  rintro e w' ⟨N, rfl, _, _, hb⟩
  exact ⟨0, _, rfl, hb, .inr ⟨⟨_, _, rfl⟩, fun n hn e => by have := key n hn e; rw [h] at this; cases this⟩⟩
 ·obtain ⟨tp, p, hv⟩ := hT.rng
  refine (Tryz.strconv_Atoi_range_var ⟨s.toArray⟩ (by show s.length ≤ _; omega) h tp p w hv).mono ?_
  rintro e w' ⟨N, rfl, _, _, hb⟩
  exact ⟨_, _, rfl, hb, .inr ⟨⟨_, _, rfl⟩, fun n hn e => by have := key n hn e; rw [h] at this; cases this⟩⟩
open Go.Maps
theorem bNI : Keyed prog 9 := string_keyed underlying9
theorem bQU (w : World) : (zeroValue 3).run prog w = .ok (.int .i64 0) w := Zc
def rD : Nat → DataW Unit
 | 0 => .map []
 | k + 1 => (rD k).put (.string (opW k)) (.lit (.int .i64 k))
theorem vY : ∀ k, IsMap (rD k)
 | 0 => ⟨[], rfl⟩
 | k + 1 => (vY k).put _ _
theorem vZ : ∀ (k : Nat) (p : List UInt8), k ≤ 13 → (Maps.has (rD k) (.string p) = true ↔ ∃ j : Nat, j < k ∧ opW (j : Int) = p)
 | 0, p, _ => by
  constructor
  ·intro h; cases h
  ·rintro ⟨j, hj, _⟩; omega
 | k + 1, p, hk => by
  by_cases h : p = opW (k : Int)
  ·rw [h]
   show Maps.has ((rD k).put (.string (opW k)) _) _ = true ↔ _
   rw [has_put_same (vY k) (by trivial)]
   exact ⟨fun _ => ⟨k, Zb, rfl⟩, fun _ => rfl⟩
  ·show Maps.has ((rD k).put (.string (opW k)) _) _ = true ↔ _
   rw [has_put_other (by intro e; injection e with e; exact h e), vZ k p Zb]
   constructor
   ·rintro ⟨j, h1, h2⟩; exact ⟨j, Zb, h2⟩
   ·rintro ⟨j, h1, h2⟩
    rcases Nat.lt_or_eq_of_le (Nat.lt_succ_iff.1 h1) with h3 | h3
    ·exact ⟨j, h3, h2⟩
    ·exact absurd (by rw [← h2, h3]) h
theorem bIG : ∀ (k : Nat) (j : Nat) (z : DataW Unit), k ≤ 13 → j < k → (rD k).atKey (.string (opW j)) z = .lit (.int .i64 j)
 | 0, j, z, _, hj => by omega
 | k + 1, j, z, hk, hj => by
  show ((rD k).put (.string (opW k)) _).atKey _ z = _
  by_cases h : j = k
  ·rw [h, atKey_put_same (vY k) (by trivial)]
  ·rw [atKey_put_other (by intro e; injection e with e; have := uZ ⟨Zb, Zb⟩ ⟨Zb, Zb⟩ e; omega), bIG k j z Zb Zb]
theorem bPF (k : Nat) (p : List UInt8) (z : DataW Unit) (h : Maps.has (rD k) (.string p) = false) : (rD k).atKey (.string p) z = z := atKey_of_not_has h z
def mA (g k : Nat) (w : World) : Prop := w.ownsMap prog 9 (plainElem prog 3) g k (rD k)
theorem mA.lt {g k : Nat} {w : World} (h : mA g k w) : g < w.heap.size := World.ownsMap.lt h
theorem mA.below {g k : Nat} {w w' : World} (h : mA g k w) (hb : Below w.heap.size w w') : mA g k w' := by
 obtain ⟨es, clock, hh, F, r⟩ := h
 exact ⟨es, clock, (hb.block g (cJ hh)).trans hh, F, r⟩
theorem mA.far {g k : Nat} {w : World} (h : mA g k w) {p : Addr} (hp : g ≠ p.block) (u : Value) : mA g k (w.setCell p u) := by
 obtain ⟨es, clock, hh, F, r⟩ := h
 exact ⟨es, clock, (Below.heap_setCell w p u g hp).trans hh, F, r⟩
theorem mA.alloc {g k : Nat} {w : World} (h : mA g k w) (o : Obj) : mA g k (w.alloc o) := by
 obtain ⟨es, clock, hh, F, r⟩ := h
 exact ⟨es, clock, (Below.heap_alloc w o g (cJ hh)).trans hh, F, r⟩
theorem bNK {p : List UInt8} (h : p.length ≤ 4294967280) : keyOf prog 9 (cE p) = some (.string p) := Go.WideMaps.keyOf_string_mk underlying9 (by show p.length ≤ _; unfold maxLen; omega)
end
section
open Go.RowKit
open Go.Lib Go.Maps
def bOH (gw gi base : Nat) (r : List (List UInt8)) (w : World) (e : Ending) (w' : World) : Prop :=
 (r = [] ∧ e = .returned (cE []) ∧ w' = w.setCell ⟨gi, 0, none⟩ (.bool false)) ∨
 ∃ x r' A' c', r = x :: r' ∧ e = .returned (cE x) ∧ w' = w.setCell ⟨gw, 0, none⟩ (.slice A' r'.length c') ∧ Row w base 9 (.slice A' r'.length c') (r'.map cE)
theorem bAI (gw gi base : Nat) (A : Option Addr) (c : Nat) (r : List (List UInt8)) (b : Bool) (w : World) (h1 : Blk w gw 102 #[.slice A r.length c]) (h2 : Blk w gi 4 #[.bool b])
  (hR : Row w base 9 (.slice A r.length c) (r.map cE)) :
  Calls prog 86 #[.pointer (some ⟨gw, 0, none⟩), .pointer (some ⟨gi, 0, none⟩)] w (bOH gw gi base r w) := by
 have a0 := h1.cell 0
 have af := h1.frozen 0
 have b0 := h2.cell 0
 have bf := h2.frozen 0
 simp only [List.getElem?_toArray, List.getElem?_cons_zero] at a0 b0
 cases r with
 | nil =>
  go_enter func86, ntmps86
  go_wp2_with fail
  go_ret
  exact .inl ⟨rfl, rfl, rfl⟩
 | cons x r' =>
  obtain ⟨bk, off, rfl, hbk, hv⟩ := hR.vals Zf
  have hc : w.cell? ⟨bk, off, none⟩ = some (cE x) := by have := hv 0 (cE x) rfl; simpa using this
  have hsh := hR.shape
  rw [Uj] at hsh
  obtain ⟨A0, c0, hsv, hcl, hcm⟩ := hsh
  injection hsv with hA0 hn0 hcc
  subst hcc
  clear hA0 hn0
  have hT := bA (Row.tail (x := cE x) (xs := r'.map cE) hR)
  clear hv hR
  rw [List.length_cons] at *
  have l0 : ((r'.length + 1 : Nat) : Int) = (r'.length : Int) + 1 := Zb
  have l1 : ((r'.length : Int) + 1 == 0) = false := by rw [beq_eq_false_iff_ne]; omega
  have l2 : (0 : Int) < (r'.length : Int) + 1 := Zb
  have l3 : (1 : Int) ≤ (r'.length : Int) + 1 := Zb
  go_enter func86, ntmps86
  go_wp2_with fail
  all_goals go_ret
  all_goals refine .inr ⟨x, r', _, _, rfl, rfl, rfl, ?_⟩
  all_goals have hT2 := hT.out
  all_goals clear hT
  all_goals split at hT2
  all_goals first | exact hT2 | (exfalso; omega) | (subst_vars; exact hT2)
end
section
open Go.Lib
theorem bCM (o : Int) : ((cC o).map Prod.snd).Nodup := by
 unfold cC
 repeat' split
 all_goals simp
structure RdT (o : Int) (p0 : List UInt8) (ps : List (List UInt8)) (j : Nat) (r : List (List UInt8)) (n : Nd) : Prop where
 op : n.op = o
 ws : ps = p0 :: (((cC o).take j).flatMap (dW n) ++ r)
 rest : ∀ i, 1 ≤ i → i < 6 → i ∉ ((cC o).take j).map Prod.snd → n.fld i = 0
 fit : ∀ i, i < 6 → cB (n.fld i)
def Fst (p0 : List UInt8) (o : Int) (is : Bool) : Prop := (0 ≤ o ∧ o ≤ 12) ∧ ((is = true ∧ p0 = opW o) ∨ (is = false ∧ ∀ m : Int, 0 ≤ m → m ≤ 12 → opW m ≠ p0))
theorem bJN (n m : Nd) (p : List UInt8 × Nat) : (dW n p).length = (dW m p).length := by unfold dW; simp
theorem zN (n m : Nd) : ∀ l : List (List UInt8 × Nat), (l.flatMap (dW n)).length = (l.flatMap (dW m)).length
 | [] => rfl
 | p :: l => by rw [List.flatMap_cons, List.flatMap_cons, Vz, Vz, bJN n m p, zN n m l]
theorem RdT.left {o : Int} {p0 : List UInt8} {s : List UInt8} {j : Nat} {r : List (List UInt8)} {n m : Nd} {is : Bool} (h : RdT o p0 (eM 32 s) j r n) (hf : Fst p0 o is) (hm : dH m) (hs : s = dS m) :
  is = true ∧ o = m.op ∧ r = ((cC o).drop j).flatMap (dW m) := by
 have h1 : eM 32 s = dY m := by rw [hs]; exact jG (by simp [dY]) fun x hx => (jW hm.op x hx).1
 have h2 := h.ws
 rw [h1] at h2
 unfold dY at h2
 injection h2 with h3 h4
 obtain ⟨ho, ⟨hi, hp⟩ | ⟨hi, hp⟩⟩ := hf
 ·have e : o = m.op := uZ ho hm.op (hp ▸ h3.symm)
  refine ⟨hi, e, ?_⟩
  rw [← e] at h4
  have h5 : (cC o).flatMap (dW m) = ((cC o).take j).flatMap (dW m) ++ ((cC o).drop j).flatMap (dW m) := by rw [← List.flatMap_append, List.take_append_drop]
  rw [h5] at h4
  exact (List.append_inj h4 (zN m n _)).2.symm
 ·exact absurd h3 (hp m.op hm.op.1 hm.op.2)
theorem RdT.word {o : Int} {p0 : List UInt8} {s : List UInt8} {j : Nat} {r : List (List UInt8)} {n m : Nd} {is : Bool} {p : List UInt8 × Nat} (h : RdT o p0 (eM 32 s) j r n) (hf : Fst p0 o is) (hp : (cC o)[j]? = some p) (hm : dH m) (hs : s = dS m) :
  r = (if p.1 = [] then [] else [p.1]) ++ itoa (m.fld p.2) :: ((cC o).drop (j + 1)).flatMap (dW m) := by
 obtain ⟨hlt, he⟩ := List.getElem?_eq_some_iff.1 hp
 rw [(h.left hf hm hs).2.2, List.drop_eq_getElem_cons hlt, he, List.flatMap_cons]
 unfold dW
 simp
theorem RdT.next {o : Int} {p0 : List UInt8} {ps : List (List UInt8)} {j : Nat} {r r3 : List (List UInt8)} {n : Nd} {wd : List UInt8} {f : Nat} {k : Int} (h : RdT o p0 ps j r n) (hp : (cC o)[j]? = some (wd, f)) (hk : cB k)
  (hr : r = (if wd = [] then [] else [wd]) ++ itoa k :: r3) : RdT o p0 ps (j + 1) r3 (n.put f k) := by
 obtain ⟨hlt, he⟩ := List.getElem?_eq_some_iff.1 hp
 have hw := gQ o _ (V4 hp)
 have ht : (cC o).take (j + 1) = (cC o).take j ++ [(wd, f)] := by rw [List.take_add_one, hp]; rfl
 have hnd := bCM o
 have hfn : f ∉ ((cC o).take j).map Prod.snd := by
  intro hm
  rw [← List.take_append_drop j (cC o), List.drop_eq_getElem_cons hlt, he, List.map_append, List.nodup_append] at hnd
  exact hnd.2.2 f hm f Zf rfl
 have hput : ∀ i, i < 6 → (n.put f k).fld i = if i = f then k else n.fld i := fun i hi => n.fld_put f k hi hw.2.2
 refine ⟨?_, ?_, ?_, ?_⟩
 ·have := hput 0 Zb
  rw [if_neg (by have := hw.2.1; simp only at this; omega)] at this
  exact this.trans h.op
 ·rw [h.ws, hr, ht, List.flatMap_append]
  have e1 : ((cC o).take j).flatMap (dW (n.put f k)) = ((cC o).take j).flatMap (dW n) := by
   rw [List.flatMap_def, List.flatMap_def]
   congr 1
   refine List.map_congr_left fun p hp' => ?_
   have h6 := (gQ o p (List.mem_of_mem_take hp')).2.2
   unfold dW
   rw [hput _ h6, if_neg (fun e : p.2 = f => hfn (by rw [← e]; exact List.mem_map_of_mem hp'))]
  rw [e1]
  have e2 : ([(wd, f)] : List (List UInt8 × Nat)).flatMap (dW (n.put f k)) = (if wd = [] then [] else [wd]) ++ [itoa k] := by
   rw [List.flatMap_cons, List.flatMap_nil, List.append_nil]
   unfold dW
   rw [hput _ hw.2.2, if_pos rfl]
  rw [e2]
  simp
 ·intro i h1 h6 hi
  rw [ht, List.map_append, Um, not_or] at hi
  rw [hput i h6, if_neg (fun e => hi.2 (by simp [e]))]
  exact h.rest i h1 h6 hi.1
 ·intro i h6
  rw [hput i h6]
  split
  ·exact hk
  ·exact h.fit i h6
theorem RdT.done {o : Int} {p0 : List UInt8} {s : List UInt8} {n : Nd} (h : RdT o p0 (eM 32 s) (cC o).length [] n) (hf : Fst p0 o true) : dH n ∧ s = dS n := by
 have hp : p0 = opW o := by
  rcases hf.2 with ⟨_, h⟩ | ⟨h, _⟩
  ·exact h
  ·cases h
 refine ⟨⟨by rw [h.op]; exact hf.1, fun i h1 h6 hi => h.rest i h1 h6 (by rw [List.take_length, ← h.op]; exact hi), h.fit⟩, ?_⟩
 have hw := h.ws
 rw [List.take_length, List.append_nil, hp, ← h.op] at hw
 have e : dL 32 (eM 32 s) = s := by
  unfold eM
  rw [iL]
  rfl
 rw [← e, hw]
 rfl
end
section
open Go.RowKit
open Go.Lib Go.Maps
structure NSt (g0 gw gi gn q base : Nat) (o : Int) (w0 W : World) (A : Option Addr) (c : Nat) (r : List (List UInt8)) (is : Bool) (n : Nd) : Prop where
 Z : Blk W g0 39 #[.int .i64 0, .int .i64 0, .int .i64 0, .int .i64 0, .int .i64 0, .int .i64 0]
 P : Blk W gw 102 #[.slice A r.length c]
 I : Blk W gi 4 #[.bool is]
 N : Blk W gn 39 #[.int .i64 n.op, .int .i64 n.d, .int .i64 n.a, .int .i64 n.b, .int .i64 n.t, .int .i64 n.e]
 Q : Blk W q 99 (sY gn o).toArray
 R : Row W base 9 (.slice A r.length c) (r.map cE)
 B : Below w0.heap.size w0 W
 l : g0 < gn ∧ w0.heap.size ≤ g0 ∧ w0.heap.size ≤ gw ∧ w0.heap.size ≤ gi
section
variable {g0 gw gi gn q base : Nat} {o : Int} {w0 W W' : World} {A : Option Addr} {c : Nat} {r : List (List UInt8)} {is : Bool} {n : Nd}
theorem NSt.below (h : NSt g0 gw gi gn q base o w0 W A c r is n) (hb : Below W.heap.size W W') : NSt g0 gw gi gn q base o w0 W' A c r is n :=
 ⟨h.Z.below hb h.Z.lt, h.P.below hb h.P.lt, h.I.below hb h.I.lt, h.N.below hb h.N.lt, h.Q.below hb h.Q.lt, h.R.below' hb, h.B.trans (hb.mono h.B.size), h.l⟩
theorem NSt.pop (h : NSt g0 gw gi gn q base o w0 W A c r is n) {A' : Option Addr} {c' : Nat} {r' : List (List UInt8)} (hR : Row W base 9 (.slice A' r'.length c') (r'.map cE)) :
  NSt g0 gw gi gn q base o w0 (W.setCell ⟨gw, 0, none⟩ (.slice A' r'.length c')) A' c' r' is n :=
 ⟨h.Z.far (h.Z.ne_ h.P Ze) _, h.P.set_ 0 _, h.I.far (h.I.ne_ h.P Ze) _, h.N.far (h.N.ne_ h.P Ze) _, h.Q.far (h.Q.ne_ h.P Ze) _, hR.far (hR.ne_blk h.P Ze) _, h.B.setCell h.l.2.2.1 _, h.l⟩
theorem NSt.no (h : NSt g0 gw gi gn q base o w0 W A c r is n) : NSt g0 gw gi gn q base o w0 (W.setCell ⟨gi, 0, none⟩ (.bool false)) A c r false n :=
 ⟨h.Z.far (h.Z.ne_ h.I Ze) _, h.P.far (h.P.ne_ h.I Ze) _, h.I.set_ 0 _, h.N.far (h.N.ne_ h.I Ze) _, h.Q.far (h.Q.ne_ h.I Ze) _, h.R.far (h.R.ne_blk h.I Ze) _, h.B.setCell h.l.2.2.2 _, h.l⟩
theorem NSt.put (h : NSt g0 gw gi gn q base o w0 W A c r is n) {f : Nat} (k : Int) (h1 : 1 ≤ f) (h6 : f < 6) : NSt g0 gw gi gn q base o w0 (W.setCell ⟨gn, f, none⟩ (.int .i64 k)) A c r is (n.put f k) := by
 refine ⟨h.Z.far (by have := h.l.1; simp only; omega) _, h.P.far (h.P.ne_ h.N Ze) _, h.I.far (h.I.ne_ h.N Ze) _, ?_, h.Q.far (h.Q.ne_ h.N Ze) _, h.R.far (h.R.ne_blk h.N Ze) _, h.B.setCell (by have := h.l; simp only; omega) _, h.l⟩
 have hN := h.N.set_ f (.int .i64 k)
 rcases f with _ | _ | _ | _ | _ | _ | f
 ·omega
 all_goals first | exact hN | omega
theorem NSt.take (h : NSt g0 gw gi gn q base o w0 W A c r is n) : Calls prog 86 #[.pointer (some ⟨gw, 0, none⟩), .pointer (some ⟨gi, 0, none⟩)] W fun e W' =>
  ((r = [] ∧ e = .returned (cE []) ∧ NSt g0 gw gi gn q base o w0 W' A c r false n) ∨ ∃ x r' A' c', r = x :: r' ∧ e = .returned (cE x) ∧ NSt g0 gw gi gn q base o w0 W' A' c' r' is n) ∧ ∀ g t cs, Blk W g t cs → t ≠ 102 → t ≠ 4 → Blk W' g t cs := by
 refine (bAI gw gi base A c r is W h.P h.I h.R).mono ?_
 rintro e W' (⟨rfl, rfl, rfl⟩ | ⟨x, r', A', c', rfl, rfl, rfl, hR⟩)
 ·exact ⟨.inl ⟨rfl, rfl, h.no⟩, fun g t cs hb h1 h2 => hb.far (hb.ne_ h.I h2) _⟩
 ·exact ⟨.inr ⟨x, r', A', c', rfl, rfl, h.pop hR⟩, fun g t cs hb h1 h2 => hb.far (hb.ne_ h.P h1) _⟩
end
theorem bMC (c : UInt8) (s : List UInt8) : eM c s ≠ [] := qI c s []
theorem qU (c : UInt8) : ∀ (l : List (List UInt8)), ∀ p ∈ l, p.length ≤ (dL c l).length
 | [], p, h => by cases h
 | [x], p, h => by
  rw [List.mem_singleton.1 h]; exact Nat.le_refl _
 | x :: y :: r, p, h => by
  show p.length ≤ (x ++ c :: dL c (y :: r)).length
  rw [Vz, List.length_cons]
  rcases List.mem_cons.1 h with e | e
  ·rw [e]; omega
  ·have := qU c (y :: r) p e
   omega
theorem yQ (c : UInt8) (s : List UInt8) (p : List UInt8) (h : p ∈ eM c s) : p.length ≤ s.length := by
 have := qU c _ p h
 unfold eM at this
 rw [iL] at this
 simpa using this
theorem bRR {p0 : List UInt8} {c : Int} (h : (rD 13).atKey (.string p0) (.lit (.int .i64 0)) = .lit (.int .i64 c)) : Fst p0 c (Maps.has (rD 13) (.string p0)) := by
 cases hb : Maps.has (rD 13) (.string p0) with
 | true =>
  obtain ⟨j, hj, hp⟩ := (vZ 13 p0 (Nat.le_refl _)).1 hb
  rw [← hp, bIG 13 j _ (Nat.le_refl _) hj] at h
  injection h with h
  injection h with _ h
  subst h
  exact ⟨Zb, .inl ⟨rfl, hp.symm⟩⟩
 | false =>
  rw [bPF 13 p0 _ hb] at h
  injection h with h
  injection h with _ h
  subst h
  refine ⟨Zb, .inr ⟨rfl, fun m h0 h1 e => ?_⟩⟩
  have := (vZ 13 p0 (Nat.le_refl _)).2 ⟨m.toNat, Zb, by rw [← e]; congr 1; omega⟩
  rw [this] at hb
  cases hb
def bOO (s : List UInt8) (w : World) (e : Ending) (w' : World) : Prop :=
 ∃ (n : Nd) (ok : Bool), e = .returned (.tuple #[.agg #[.int .i64 n.op, .int .i64 n.d, .int .i64 n.a, .int .i64 n.b, .int .i64 n.t, .int .i64 n.e], .bool ok]) ∧ Below w.heap.size w w' ∧ ((ok = true ∧ dH n ∧ s = dS n) ∨ (ok = false ∧ ∀ m, dH m → s ≠ dS m))
theorem bMX (s : List UInt8) (hs : s.length ≤ 4294967280) (gm : Nat) (w : World) (hT : Tv w) (hM : mA gm 13 w) : Calls prog 50 #[cE s, .map (some gm)] w (bOO s w) := by
 have HS := fun W h => bA (bQJ s hs W h)
 go_enter func50, ntmps50
 go_upto_region 2 with fail
 have hZ := Blk.new w 39 #[.int .i64 0, .int .i64 0, .int .i64 0, .int .i64 0, .int .i64 0, .int .i64 0]
 have hB0 : Below w.heap.size w (w.alloc (.cells #[.int .i64 0, .int .i64 0, .int .i64 0, .int .i64 0, .int .i64 0, .int .i64 0] 39)) := (Bnq _ _)
 have hM0 := hM.alloc (.cells #[.int .i64 0, .int .i64 0, .int .i64 0, .int .i64 0, .int .i64 0, .int .i64 0] 39)
 refine Calls.mono (HS _ (hT.below hB0)).out ?_
 rintro e w1 ⟨v1, rfl, hR1, hb1⟩
 have hZ1 := hZ.below hb1 hZ.lt
 have hM1 := hM0.below hb1
 have hB1 := hB0.trans (hb1.mono hB0.size)
 clear hZ hB0 hM0 hb1 HS
 generalize hps : eM 32 s = ps at *
 obtain ⟨A1, c1, rfl, hc1, hm1⟩ := hR1.shape
 rw [Uj] at *
 obtain ⟨p0, r0, rfl⟩ : ∃ x r, ps = x :: r := by
  cases h : ps with
  | nil => rw [h] at hps; exact absurd hps (bMC 32 s)
  | cons x r => exact ⟨x, r, rfl⟩
 obtain ⟨b0, o0, rfl, hb0, hv0⟩ := hR1.vals Zf
 have hv0 : w1.cell? ⟨b0, o0, none⟩ = some (cE p0) := by have := hv0 0 (cE p0) rfl; simpa using this
 have hp0 : p0.length ≤ 4294967280 := by
  have := yQ 32 s p0 (by rw [hps]; simp)
  omega
 have hR1t := bA (Row.tail (x := cE p0) (xs := r0.map cE) hR1)
 have Hps := bA hps
 clear hps hR1
 rw [List.length_cons] at *
 have l0 : (0 : Int) < ((r0.length + 1 : Nat) : Int) := Zb
 go_upto_region 4 with (at_lookup; refine wpList_lookup_own_ok_int _ rfl _ _ 76 rfl 9 3 .i64 bNI underlying76 underlying3 (bQU _) gm 13 (rD 13) rfl (hM1.alloc _) (cE p0) (.string p0) rfl (bNK hp0) ?_; intro c hat hwc)
 have hF := bRR hat
 generalize Maps.has (rD 13) (.string p0) = is0 at *
 obtain ⟨k, rfl⟩ : ∃ k : Nat, c = (k : Int) := ⟨c.toNat, by have := hF.1.1; omega⟩
 have hk13 : k < 13 := by have := hF.1.2; omega
 have HF := bA hF
 clear hat hwc hM1 hF
 have hP3 : Blk (((w1.alloc (.cells #[.slice (some ⟨b0, o0, none⟩) (r0.length + 1) c1] 102)).alloc (.cells #[.bool is0] 4)).alloc (.cells #[.int .i64 (k : Int), .int .i64 0, .int .i64 0, .int .i64 0, .int .i64 0, .int .i64 0] 39)) w1.heap.size 102 #[.slice (some ⟨b0, o0, none⟩) (r0.length + 1) c1] := Yd
 have hI3 : Blk (((w1.alloc (.cells #[.slice (some ⟨b0, o0, none⟩) (r0.length + 1) c1] 102)).alloc (.cells #[.bool is0] 4)).alloc (.cells #[.int .i64 (k : Int), .int .i64 0, .int .i64 0, .int .i64 0, .int .i64 0, .int .i64 0] 39)) (w1.heap.size + 1) 4 #[.bool is0] := Yd
 have hN3 : Blk (((w1.alloc (.cells #[.slice (some ⟨b0, o0, none⟩) (r0.length + 1) c1] 102)).alloc (.cells #[.bool is0] 4)).alloc (.cells #[.int .i64 (k : Int), .int .i64 0, .int .i64 0, .int .i64 0, .int .i64 0, .int .i64 0] 39)) (w1.heap.size + 1 + 1) 39 #[.int .i64 (k : Int), .int .i64 0, .int .i64 0, .int .i64 0, .int .i64 0, .int .i64 0] := Yd
 have hZ3 : Blk (((w1.alloc (.cells #[.slice (some ⟨b0, o0, none⟩) (r0.length + 1) c1] 102)).alloc (.cells #[.bool is0] 4)).alloc (.cells #[.int .i64 (k : Int), .int .i64 0, .int .i64 0, .int .i64 0, .int .i64 0, .int .i64 0] 39)) w.heap.size 39 #[.int .i64 0, .int .i64 0, .int .i64 0, .int .i64 0, .int .i64 0, .int .i64 0] := ((hZ1.alloc _).alloc _).alloc _
 have hR3 := bA (((hR1t.out.alloc (.cells #[.slice (some ⟨b0, o0, none⟩) (r0.length + 1) c1] 102)).alloc (.cells #[.bool is0] 4)).alloc (.cells #[.int .i64 (k : Int), .int .i64 0, .int .i64 0, .int .i64 0, .int .i64 0, .int .i64 0] 39))
 have hB3 : Below w.heap.size w (((w1.alloc (.cells #[.slice (some ⟨b0, o0, none⟩) (r0.length + 1) c1] 102)).alloc (.cells #[.bool is0] 4)).alloc (.cells #[.int .i64 (k : Int), .int .i64 0, .int .i64 0, .int .i64 0, .int .i64 0, .int .i64 0] 39)) := ((hB1.alloc hB1.size _).alloc (by have := hB1.size; simp; omega) _).alloc (by have := hB1.size; simp; omega) _
 have hzw : w.heap.size < w1.heap.size := hZ1.lt
 clear hZ1 hR1t hv0 hb0
 generalize (((w1.alloc (.cells #[.slice (some ⟨b0, o0, none⟩) (r0.length + 1) c1] 102)).alloc (.cells #[.bool is0] 4)).alloc (.cells #[.int .i64 (k : Int), .int .i64 0, .int .i64 0, .int .i64 0, .int .i64 0, .int .i64 0] 39)) = w3 at *
 have a0 := hP3.cell 0
 have af := hP3.frozen 0
 simp only [List.getElem?_toArray, List.getElem?_cons_zero] at a0
 have l1 : (1 : Int) ≤ ((r0.length + 1 : Nat) : Int) := Zb
 go_cut [] (fun wx => ∃ A' c', Blk wx w1.heap.size 102 #[.slice A' r0.length c'] ∧ Row wx (w.heap.size + 1) 9 (.slice A' r0.length c') (r0.map cE) ∧ Blk wx (w1.heap.size + 1) 4 #[.bool is0] ∧ Blk wx (w1.heap.size + 1 + 1) 39 #[.int .i64 (k : Int), .int .i64 0, .int .i64 0, .int .i64 0, .int .i64 0, .int .i64 0] ∧ Blk wx w.heap.size 39 #[.int .i64 0, .int .i64 0, .int .i64 0, .int .i64 0, .int .i64 0, .int .i64 0] ∧ Below w.heap.size w wx)
 case first =>
  go_wp2_with fail
  all_goals go_meet
  all_goals refine ⟨_, _, hP3.set_ 0 _, ?_, hI3.far Zf _, hN3.far Zh _, hZ3.far Zh _, hB3.setCell Zh _⟩
  all_goals have hT2 := hR3.out
  all_goals clear hR3
  all_goals split at hT2
  all_goals first | exact ((hT2.far (hT2.ne_blk hP3 Ze) _).mono Zf) | (exfalso; omega) | (subst_vars; exact ((hT2.far (hT2.ne_blk hP3 Ze) _).mono Zf))
 case rest =>
  obtain ⟨A', c', hP, hR, hI, hN, hZ, hB⟩ := hcut
  clear hP3 hI3 hN3 hZ3 hR3 hB3 a0 af
  generalize w1.heap.size = gw at *
  have HP := bA (yX (gw + 1 + 1) k 0 0 0 0 0 wc hN hk13)
  unfold tU at HP
  go_wp2_with fail
  refine Calls.mono HP.o ?_
  rintro e w4 ⟨q, rfl, hq, hQ, hb4⟩
  have hS : NSt w.heap.size gw (gw + 1) (gw + 1 + 1) q (w.heap.size + 1) (k : Int) w w4 A' c' r0 is0 ⟨k, 0, 0, 0, 0, 0⟩ :=
   ⟨hZ.below hb4 hZ.lt, hP.below hb4 hP.lt, hI.below hb4 hI.lt, hN.below hb4 hN.lt, hQ, hR.below' hb4, hB.trans (hb4.mono hB.size), Zb, Zb, Zb, Zb⟩
  have hRd : RdT (k : Int) p0 (p0 :: r0) 0 r0 ⟨k, 0, 0, 0, 0, 0⟩ := by
   refine ⟨rfl, Zf, fun i h1 h6 _ => ?_, fun i h6 => ?_⟩
   ·rcases i with _ | _ | _ | _ | _ | _ | i <;> first | rfl | omega
   ·have hz : ∀ z : Int, 0 ≤ z → z ≤ 12 → cB z := fun z a b => ⟨Zb, Zb⟩
    rcases i with _ | _ | _ | _ | _ | _ | i <;> first | exact hz 0 Zb Zb | exact hz (k : Int) Zb Zb | omega
  clear hZ hP hI hN hR hB hb4 hQ HP
  generalize hpn : (cC (k : Int)).length = pn at *
  have Hpn := bA hpn
  have hp4 : pn ≤ 4 := by rw [← hpn]; exact rC (k : Int)
  clear hpn
  have HRd := bA hRd
  have HS := bA hS
  clear hRd hS
  go_wp2_with fail
  go_loopg [33] (pn) (fun gk i wr => ∃ (j : Nat) (A : Option Addr) (c : Nat) (r : List (List UInt8)) (n : Nd), j ≤ pn ∧ i = .int .i64 j ∧ gk = pn - j ∧ NSt w.heap.size gw (gw + 1) (gw + 1 + 1) q (w.heap.size + 1) (k : Int) w wr A c r is0 n ∧ RdT (k : Int) p0 (p0 :: r0) j r n)
  case atStart => exact ⟨0, A', c', r0, _, Zb, rfl, rfl, HS.o, HRd.o⟩
  case round =>
   obtain ⟨j, A, c, r, n, hj, rfl, hgk, hS, hRd⟩ := hrel
   have Hgk := bA hgk
   have HRd := bA hRd
   clear hgk hRd
   by_cases hlt : j < pn
   ·obtain ⟨⟨wd, f⟩, hp⟩ : ∃ p, (cC (k : Int))[j]? = some p := ⟨_, Vx (by have := Hpn.o; omega)⟩
    have hw := gQ (k : Int) _ (V4 hp)
    have pg := sZ (fun p : List UInt8 × Nat => cE p.1) (fun p => .pointer (some ⟨gw + 1 + 1, p.2, none⟩)) (cC (k : Int)) j _ hp
    have cq0 : wr.cell? ⟨q, j * 2, none⟩ = some (cE wd) := (hS.Q.cell (j * 2)).trans (by rw [List.getElem?_toArray]; exact pg.1)
    have cq1 : wr.cell? ⟨q, j * 2 + 1, none⟩ = some (.pointer (some ⟨gw + 1 + 1, f, none⟩)) := (hS.Q.cell (j * 2 + 1)).trans (by rw [List.getElem?_toArray]; exact pg.2)
    have Hp := bA hp
    obtain ⟨k0, k1⟩ := Ikq (k := j) (n := pn) (by omega)
    clear hp pg
    go_upto_region 9 with fail
    have hS8 := hS.below ((Below.refl _ _).alloc (Nat.le_refl _) (.cells #[cE wd, .pointer (some ⟨gw + 1 + 1, f, none⟩)] 99))
    have hX8 := Blk.new wr 99 #[cE wd, .pointer (some ⟨gw + 1 + 1, f, none⟩)]
    generalize wr.alloc (.cells #[cE wd, .pointer (some ⟨gw + 1 + 1, f, none⟩)] 99) = w8 at *
    generalize wr.heap.size = gx at *
    clear cq0 cq1 hS
    have x0 := hX8.cell 0
    have x1 := hX8.cell 1
    simp only [Yl] at x0 x1
    go_cut [46] (fun s46 wx => ∃ (bad : Bool) (A2 : Option Addr) (c2 : Nat) (r2 : List (List UInt8)) (is2 : Bool), s46 = .bool bad ∧ NSt w.heap.size gw (gw + 1) (gw + 1 + 1) q (w.heap.size + 1) (k : Int) w wx A2 c2 r2 is2 n ∧ Blk wx gx 99 #[cE wd, .pointer (some ⟨gw + 1 + 1, f, none⟩)] ∧
     (bad = false → is2 = is0 ∧ r = (if wd = [] then [] else [wd]) ++ r2) ∧ (bad = true → ∀ y, r ≠ (if wd = [] then [] else [wd]) ++ y))
    case first =>
     by_cases hwd : wd = []
     ·subst hwd
      go_quiet (fail)
      all_goals (go_wp2_with fail)
      all_goals go_meet
      all_goals exact ⟨false, A, c, r, is0, rfl, hS8.below (bZ (Below.refl _ _) _), hX8.drewN _, fun _ => ⟨rfl, rfl⟩, fun h => by cases h⟩
     ·have he1 : wd.isEmpty = false := by simpa using hwd
      have HX := bA hX8
      have HQ := bA hS8
      have hTk := fun W (hb : Below w8.heap.size w8 W) => bA ((HQ.o.below hb).take)
      cases r with
      | nil =>
       clear hS8 hX8
       go_region_with (go_at_call 86; refine ((hTk _ ((Below.refl _ _).drew)).out).mono ?_; rintro e w9 ⟨⟨_, rfl, hS9⟩ | ⟨x, r', A', c', he, _⟩, hk9⟩; rotate_left; (cases he); have hX9 := hk9 _ _ _ (HX.o.drew) Ze Ze; have x0 := hX9.cell 0; simp only [Yl] at x0; clear hk9)
       all_goals (go_wp2_with fail)
       all_goals go_meet
       all_goals refine ⟨true, A, c, [], false, ?_, hS9, hX9, (fun h => by cases h), fun _ y e => ?_⟩
       all_goals first | rfl | (exfalso; revert e; simp [hwd]; done) | (congr 1; simp [hwd]; try exact fun h => hwd h.symm)
      | cons x r' =>
       clear hS8 hX8
       go_region_with (go_at_call 86; refine ((hTk _ ((Below.refl _ _).drew)).out).mono ?_; rintro e w9 ⟨⟨he, _⟩ | ⟨x1, r1, A9, c9, he, rfl, hS9⟩, hk9⟩; (cases he); have he1 := (List.cons.inj he).1; have he2 := (List.cons.inj he).2; subst he1; subst he2; clear he; have hX9 := hk9 _ _ _ (HX.o.drew) Ze Ze; have x0 := hX9.cell 0; simp only [Yl] at x0; clear hk9)
       all_goals (go_wp2_with fail)
       all_goals go_meet
       all_goals
        by_cases hxw : x = wd
        ·refine ⟨false, A9, c9, r', is0, ?_, hS9, hX9, fun _ => ⟨rfl, ?_⟩, fun h => by cases h⟩
         ·subst hxw; first | rfl | (congr 1; simp)
         ·rw [if_neg hwd, hxw]; rfl
        ·refine ⟨true, A9, c9, r', is0, ?_, hS9, hX9, (fun h => by cases h), fun _ y e => ?_⟩
         ·first | rfl | (congr 1; simp [hxw])
         ·rw [if_neg hwd] at e
          exact hxw (List.cons.inj e).1
    case rest =>
     obtain ⟨bad, A2, c2, r2, is2, rfl, hS2, hX2, hg, hb⟩ := hcut
     clear hS8 hX8 x0 x1
     have Hg := bA hg
     have Hb := bA hb
     clear hg hb
     cases bad with
     | true =>
      have hZ := hS2.Z
      refine Kh fun z0 z1 z2 z3 z4 z5 zf zf1 zf2 zf3 zf4 zf5 lZ => ?_
      have hBk := hS2.B
      simp only [Yl] at z0 z1 z2 z3 z4 z5
      go_wp2_with fail
      refine bodyPost_ret (v := .tuple #[.agg #[.int .i64 0, .int .i64 0, .int .i64 0, .int .i64 0, .int .i64 0, .int .i64 0], .bool false]) (by simp [results, results50, go_sem, z0, z1, z2, z3, z4, z5, Vw, Vv]; try rfl) rfl ⟨⟨0, 0, 0, 0, 0, 0⟩, false, rfl, ?_, Or.inr (And.intro rfl ?_)⟩
      ·exact Yc
      intro m hm e
      have hw1 := (Hps.o ▸ HRd.o : RdT (k : Int) p0 (eM 32 s) j r n).word HF.o Hp.o hm e
      exact Hb.o Xt _ hw1
     | false =>
      obtain ⟨hi2, hr2⟩ := Hg.o rfl
      subst hi2
      have Hr2 := bA hr2
      have hsub : ∀ x ∈ r2, x.length ≤ 4294967280 := by
       intro x hx
       have := yQ 32 s x (by rw [Hps.o, HRd.o.ws, hr2]; simp [hx])
       omega
      have Hsub := bA hsub
      clear hr2 hsub Hg Hb
      have HTk := bA hS2.take
      go_upto_region 12 with fail
      refine Calls.mono HTk.o ?_
      rintro e w5 ⟨h5, hk5⟩
      obtain ⟨sx, A5, c5, r5, is5, rfl, hS5, hD⟩ : ∃ sx A5 c5 r5 is5, e = .returned (cE sx) ∧ NSt w.heap.size gw (gw + 1) (gw + 1 + 1) q (w.heap.size + 1) (k : Int) w w5 A5 c5 r5 is5 n ∧ ((r2 = [] ∧ sx = []) ∨ (r2 = sx :: r5 ∧ is5 = is2)) := by
       rcases h5 with ⟨h1, h2, h3⟩ | ⟨x, r', A', c', h1, h2, h3⟩
       ·exact ⟨[], _, _, _, _, h2, h3, .inl ⟨h1, rfl⟩⟩
       ·exact ⟨x, _, _, _, _, h2, h3, .inr ⟨h1, rfl⟩⟩
      have hX5 := hk5 _ _ _ hX2 Ze Ze
      have hsx : sx.length ≤ 4294967280 := by
       rcases hD with ⟨_, h⟩ | ⟨h, _⟩
       ·rw [h]; simp
       ·exact Hsub.o sx Xi
      have HD := bA hD
      have HA := bA (bOT sx hsx w5 (hT.below hS5.B))
      clear hS2 hX2 h5 hk5 hD HTk
      go_wp2_with fail
      refine Calls.mono HA.o ?_
      rintro e w6 ⟨v, er, rfl, hb6, hA⟩
      have hS6 := hS5.below hb6
      have hX6 := hX5.below hb6 hX5.lt
      clear HA hS5 hX5 hb6
      have hbad : (∀ z, cB z → sx ≠ itoa z) → ∀ m, dH m → s ≠ dS m := by
       intro hno m hm e
       have hw1 := (Hps.o ▸ HRd.o : RdT (k : Int) p0 (eM 32 s) j r n).word HF.o Hp.o hm e
       rw [Hr2.o] at hw1
       have hw2 := List.append_cancel_left hw1
       rcases HD.o with ⟨h1, _⟩ | ⟨h1, _⟩
       ·rw [h1] at hw2; cases hw2
       ·rw [h1] at hw2
        injection hw2 with hw2 _
        exact hno _ (hm.fit f (by have := hw.2.2; exact this)) hw2
      have Hbad := bA hbad
      clear hbad
      rcases hA with ⟨rfl, hv, hvn⟩ | ⟨⟨t, q', rfl⟩, hvn⟩
      ·have HI := bA (bBJ v hv w6 (hT.below hS6.B))
       have Hvn := bA hvn
       clear hvn
       go_wp2_with fail
       refine Calls.mono HI.o ?_
       rintro e w7 ⟨rfl, hb7⟩
       have hS7 := hS6.below hb7
       have hX7 := hX6.below hb7 hX6.lt
       clear HI hS6 hX6 hb7
       by_cases heq : itoa v = sx
       ·rw [heq]
        have x1 := hX7.cell 1
        simp only [Yl] at x1
        have nf := hS7.N.frozen f
        obtain ⟨y, hy⟩ : ∃ y, w7.cell? ⟨gw + 1 + 1, f, none⟩ = some y := by
         have h6 : f < 6 := hw.2.2
         exact ⟨_, (hS7.N.cell f).trans (by rw [List.getElem?_toArray]; exact Vx (by simpa using h6))⟩
        obtain ⟨hr2, hi5⟩ : r2 = sx :: r5 ∧ is5 = is2 := by
         rcases HD.o with ⟨_, h1⟩ | h1
         ·exact absurd (heq.trans h1) (bPU v)
         ·exact h1
        have hSp := bA (hS7.put v hw.2.1 hw.2.2)
        have hRn := bA (HRd.o.next Hp.o hv (r3 := r5) (by rw [Hr2.o, hr2, heq]))
        subst hi5
        clear hr2 heq
        go_wp2_with fail
        go_roundg (pn - (j + 1))
        case measure => exact Jg
        case rel => exact ⟨j + 1, A5, c5, r5, _, Zb, by go_num, rfl, hSp.out, hRn.out⟩
       ·have hne : (itoa v == sx) = false := by rw [beq_eq_false_iff_ne]; exact heq
        have Heq := bA heq
        clear heq
        generalize hiv : itoa v = iv at *
        have Hiv := bA hiv
        clear hiv
        have hZ := hS7.Z
        refine Kh fun z0 z1 z2 z3 z4 z5 zf zf1 zf2 zf3 zf4 zf5 lZ => ?_
        have hBk := hS7.B
        simp only [Yl] at z0 z1 z2 z3 z4 z5
        go_wp2_with fail
        refine bodyPost_ret (v := .tuple #[.agg #[.int .i64 0, .int .i64 0, .int .i64 0, .int .i64 0, .int .i64 0, .int .i64 0], .bool false]) (by simp [results, results50, go_sem, z0, z1, z2, z3, z4, z5, Vw, Vv]; try rfl) rfl ⟨⟨0, 0, 0, 0, 0, 0⟩, false, rfl, ?_, Or.inr (And.intro rfl ?_)⟩
        ·exact Yc
        intro m hm e
        refine Hbad.o (fun z hz ez => ?_) m hm e
        apply Heq.o
        rw [← Hiv.o, Hvn.o z hz ez, ← ez]
      ·have Hvn := bA hvn
       clear hvn
       have hZ := hS6.Z
       refine Kh fun z0 z1 z2 z3 z4 z5 zf zf1 zf2 zf3 zf4 zf5 lZ => ?_
       have hBk := hS6.B
       simp only [Yl] at z0 z1 z2 z3 z4 z5
       go_wp2_with fail
       refine bodyPost_ret (v := .tuple #[.agg #[.int .i64 0, .int .i64 0, .int .i64 0, .int .i64 0, .int .i64 0, .int .i64 0], .bool false]) (by simp [results, results50, go_sem, z0, z1, z2, z3, z4, z5, Vw, Vv]; try rfl) rfl ⟨⟨0, 0, 0, 0, 0, 0⟩, false, rfl, ?_, Or.inr (And.intro rfl ?_)⟩
       ·exact Yc
       intro m hm e
       exact Hbad.o Hvn.o m hm e
   ·obtain rfl : j = pn := Zb
    have hZ := hS.Z
    refine Kh fun z0 z1 z2 z3 z4 z5 zf zf1 zf2 zf3 zf4 zf5 lZ => ?_
    have hBk := hS.B
    have n0 := hS.N.cell 0
    have n1 := hS.N.cell 1
    have n2 := hS.N.cell 2
    have n3 := hS.N.cell 3
    have n4 := hS.N.cell 4
    have n5 := hS.N.cell 5
    have i0 := hS.I.cell 0
    have p1 := hS.P.cell 0
    simp only [Yl] at z0 z1 z2 z3 z4 z5 n0 n1 n2 n3 n4 n5 i0 p1
    clear hS hZ
    have hRd := bA (Hps.o ▸ HRd.o : RdT (k : Int) p0 (eM 32 s) j r n)
    cases is0 with
    | true =>
     cases r with
     | nil =>
      have hdn := bA ((by rw [Hpn.o]; exact hRd.out : RdT (k : Int) p0 (eM 32 s) (cC (k : Int)).length [] n).done HF.o)
      go_upto_region 17 with fail
      go_region
      all_goals (go_wp2_with fail)
      all_goals refine bodyPost_ret (v := .tuple #[.agg #[.int .i64 n.op, .int .i64 n.d, .int .i64 n.a, .int .i64 n.b, .int .i64 n.t, .int .i64 n.e], .bool true]) (by simp [results, results50, go_sem, z0, z1, z2, z3, z4, z5, Vw, Vv]; try rfl) rfl ⟨n, true, rfl, ?_, Or.inl (And.intro rfl hdn.out)⟩
      ·exact Yc
     | cons x r' =>
      rw [List.length_cons] at *
      have l9 : (((r'.length + 1 : Nat) : Int) == 0) = false := by rw [beq_eq_false_iff_ne]; omega
      have hdn := bA (fun m (hm : dH m) (e : s = dS m) => (hRd.out.left HF.o hm e).2.2)
      go_upto_region 17 with fail
      go_region
      all_goals (go_wp2_with fail)
      all_goals refine bodyPost_ret (v := .tuple #[.agg #[.int .i64 n.op, .int .i64 n.d, .int .i64 n.a, .int .i64 n.b, .int .i64 n.t, .int .i64 n.e], .bool false]) (by simp [results, results50, go_sem, z0, z1, z2, z3, z4, z5, Vw, Vv]; try first | rfl | omega) rfl ⟨n, false, rfl, ?_, Or.inr (And.intro rfl ?_)⟩
      ·exact Yc
      ·intro m hm e
       have h9 := hdn.out m hm e
       rw [List.drop_of_length_le (by have := Hpn.o; omega)] at h9
       cases h9
    | false =>
     have hdn := bA (fun m (hm : dH m) (e : s = dS m) => (hRd.out.left HF.o hm e).1)
     go_upto_region 17 with fail
     go_region
     all_goals (go_wp2_with fail)
     all_goals refine bodyPost_ret (v := .tuple #[.agg #[.int .i64 n.op, .int .i64 n.d, .int .i64 n.a, .int .i64 n.b, .int .i64 n.t, .int .i64 n.e], .bool false]) (by simp [results, results50, go_sem, z0, z1, z2, z3, z4, z5, Vw, Vv]; try first | rfl | omega) rfl ⟨n, false, rfl, ?_, Or.inr (And.intro rfl ?_)⟩
     ·exact Yc
     ·intro m hm e
      have h9 := hdn.out m hm e
      cases h9
end
section
open Go.Lib
theorem uG : ∀ {l l' : List Nd} {rest : List UInt8}, (∀ m ∈ l, dH m) → (∀ m ∈ l', dH m) → cS l ++ rest = cS l' → ∃ t, l' = l ++ t ∧ rest = cS t
 | [], l', rest, _, _, h => ⟨l', rfl, h⟩
 | a :: l, [], rest, _, _, h => by simp [cS, fD] at h
 | a :: l, b :: l', rest, h1, h2, h => by
  have h : dS a ++ 10 :: (cS l ++ rest) = dS b ++ 10 :: cS l' := by simpa [cS, fD] using h
  obtain ⟨e1, e2⟩ := kD (jH (h1 a Zf).op) (jH (h2 b Zf).op) h
  obtain ⟨t, e3, e4⟩ := uG (fun m hm => h1 m (by simp [hm])) (fun m hm => h2 m (by simp [hm])) e2
  exact ⟨t, by rw [bCS (h1 a Zf) (h2 b Zf) e1, e3]; rfl, e4⟩
theorem nE (n : Int) (l : List Nd) (rest : List UInt8) : cD n l ++ rest = (kO ++ itoa n) ++ 10 :: (cS l ++ rest) := by
 unfold cD
 simp
theorem rK (n : Int) : (10 : UInt8) ∉ kO ++ itoa n := by
 intro hm
 rcases List.mem_append.1 hm with h1 | h1
 ·revert h1; decide
 ·exact iM n 10 Ze h1
theorem vO {n r : Int} {l l' : List Nd} {rest : List UInt8} (hl : ∀ m ∈ l, dH m) (hl' : ∀ m ∈ l', dH m) (h : cD n l ++ rest = cD r l') : r = n ∧ ∃ t, l' = l ++ t ∧ rest = cS t := by
 have h2 := nE r l' []
 rw [List.append_nil, List.append_nil] at h2
 rw [nE, h2] at h
 obtain ⟨e1, e2⟩ := kD (rK n) (rK r) h
 exact ⟨(wF (List.append_cancel_left e1)).symm, uG hl hl' e2⟩
theorem bPH {s : List UInt8} (H : ∀ r t, cB r → s ≠ (kO ++ itoa r) ++ 10 :: t) : oH s := by
 intro r l hc hf hs
 obtain ⟨_, _, h1, h2, _⟩ := jL hc
 have h3 := nE r l []
 rw [List.append_nil, List.append_nil] at h3
 exact H r (cS l) ⟨Zb, Zb⟩ (hs.trans h3)
theorem bIH {s : List UInt8} {n : Int} {l : List Nd} {rest : List UInt8} (hs : s = cD n l ++ rest) (hl : ∀ m ∈ l, dH m) (hne : rest ≠ []) (H : ∀ m t, dH m → rest ≠ dS m ++ 10 :: t) : oH s := by
 intro r l' hc hf hs'
 have hl' := gP hc hf
 obtain ⟨_, t, h1, h2⟩ := vO hl hl' (hs.symm.trans hs')
 cases t with
 | nil => exact hne h2
 | cons m t => exact H m (cS t) (hl' m (by rw [h1]; simp)) (by rw [h2]; simp [cS, fD])
theorem bMY {s : List UInt8} {n : Int} {l : List Nd} {rest : List UInt8} (hs : s = cD n l ++ rest) (hl : ∀ m ∈ l, dH m) (h : (rest = [] ∧ chk n l ≠ 0) ∨ 256 < l.length) : oH s := by
 intro r l' hc hf hs'
 have hl' := gP hc hf
 obtain ⟨h0, t, h1, h2⟩ := vO hl hl' (hs.symm.trans hs')
 rcases h with ⟨h3, h4⟩ | h3
 ·cases t with
  | nil => rw [List.append_nil] at h1; rw [← h0, ← h1] at h4; exact h4 hc
  | cons m t => rw [h3] at h2; simp [cS, fD] at h2
 ·obtain ⟨_, h4, _⟩ := jL hc
  rw [h1, Vz] at h4
  omega
theorem bFT {n : Int} {l : List Nd} {m : Nd} {r : List UInt8} : cD n l ++ (dS m ++ 10 :: r) = cD n (l ++ [m]) ++ r := by
 rw [nE, nE]
 simp [cS, fD]
end
section
open Go.RowKit
open Go.Lib
theorem uF (k : Nat) (hk : k < 13) (w : World) : (Instr.index 77 (.agg gI) (.int .i64 (k : Int))).run prog w = .ok (cE (opW (k : Int))) w := by
 have h0 : k = 0 ∨ k = 1 ∨ k = 2 ∨ k = 3 ∨ k = 4 ∨ k = 5 ∨ k = 6 ∨ k = 7 ∨ k = 8 ∨ k = 9 ∨ k = 10 ∨ k = 11 ∨ k = 12 := Zb
 rcases h0 with rfl | rfl | rfl | rfl | rfl | rfl | rfl | rfl | rfl | rfl | rfl | rfl | rfl <;> simp [Instr.index, run_underlying underlying77, asIntOf, go_sem, gI] <;> rfl
theorem bIT (regs : Int) (A : Option Addr) (l : List Nd) (cap : Nat) (w : World) (hl : l.length ≤ maxLen) (hA : bH w A l) (hc : chk regs l = 0) (hT : Tv w) (fit : ∀ n ∈ l, ∀ i, i < 6 → cB (n.fld i)) :
  Calls prog 21 #[.agg #[.int .i64 regs, .slice A l.length cap]] w fun e w' => e = .returned (.tuple #[cE (cD regs l), .int .i64 0]) ∧ Below w.heap.size w w' := by
 have HC := fun W h => bA (fZ regs A l cap W hl h)
 rw [hc] at HC
 obtain ⟨h1, h256, hr1, hr64, ho⟩ := jL hc
 have hri : cB regs := ⟨Zb, Zb⟩
 have L1 := itoa_length_le regs hri.1 hri.2
 have EQ : (⟨#[114, 101, 103, 115, 32]⟩ : ByteArray) ++ ⟨(itoa regs).toArray⟩ ++ ⟨#[10]⟩ = ⟨(cD regs []).toArray⟩ := by
  apply ByteArray.ext
  simp [cD, cS, kO]
 have LS0 : (cD regs []).length ≤ 27 := pX (l := []) hri Zf
 have Ho := bA ho
 have Fit := bA fit
 have Hri := bA hri
 have HI := fun W hW => bA (bBJ regs hri W hW)
 clear ho fit hri hc
 go_enter func21, ntmps21
 go_wp2_with (first
  | (go_at_call 10; refine ((HC _ (hA.below Yc)).out).mono ?_; rintro e w1 ⟨rfl, hb1⟩; have hP1 := Blk.below (Blk.new w 24 #[.int .i64 regs, .slice A l.length cap]) hb1 Zf; have c0 := hP1.cell 0; have c1 := hP1.cell 1; have lP := hP1.lt; simp only [Yl] at c0 c1; have hB1 : Below w.heap.size w w1 := (((Bnq _ _)).trans (hb1.mono Zf)))
  | (go_at_call 49; refine ((HI _ (hT.below (hB1.alloc Zb _))).out).mono ?_; rintro e w2 ⟨rfl, hb2⟩; have hd2 := (Bd.fresh w1).below hb2; have hB2 : Below w1.heap.size w1 w2 := ((Bnq _ _)).trans (hb2.mono Zf))
  | (go_at_call 51; refine (WrS w1.heap.size w1.heap.size [] (cD regs []) _ hd2 Zh hB2.size).mono ?_; rintro e w3 ⟨rfl, hd3, hb3, -⟩; have hB3 := hB2.trans hb3; have hP3 := hP1.below hB3 lP; have c3 := hP3.cell 1; simp only [Yl] at c3))
 rw [List.nil_append] at hd3
 go_loopg [24] (l.length) (fun gk i wr => ∃ k : Nat, k ≤ l.length ∧ i = .int .i64 k ∧ gk = l.length - k ∧ Bd w1.heap.size w1.heap.size (cD regs (l.take k)) wr ∧ Below w1.heap.size w1 wr)
 case atStart => exact ⟨0, Nat.zero_le _, rfl, Zb, hd3, hB3⟩
 case round =>
  obtain ⟨k, hk, rfl, hgk, hd, hBl⟩ := hrel
  have Hgk := bA hgk
  clear hgk EQ HC HI hd2 hd3 hb2 hb3 c0 c1 c3 hB2 hB3 hP3 hb1 L1 LS0
  have hz := hBl.size
  have LS : (cD regs (l.take k)).length ≤ 27 + k * 199 := by
   have := pX (l := l.take k) Hri.o fun n hn => Fit.out n (List.mem_of_mem_take hn)
   rw [List.length_take, Nat.min_eq_left hk] at this
   exact this
  by_cases hlt : k < l.length
  ·obtain ⟨ab, ao, x, rfl, hab, hx, hxl⟩ := (hA.below (hB1.trans (hBl.mono hB1.size))).get hlt
   have hmem := V4 hx
   obtain ⟨op, d, a, b, t, e⟩ := x
   obtain ⟨kk, rfl⟩ : ∃ kk : Nat, op = (kk : Int) := ⟨op.toNat, by have := (Ho.o _ hmem).1; simp only at this; omega⟩
   have hk13 : kk < 13 := by have := (Ho.o _ hmem).2; simp only at this; omega
   have ES := vQ (regs := regs) hx
   have hfx := Fit.out _ hmem
   obtain ⟨k0, k1⟩ := Ikq (k := k) (n := l.length) (by omega)
   obtain ⟨c0, c1, c2, c3, c4, c5⟩ := hxl
   have ES := bA ES
   have Hfx := bA hfx
   generalize hsa : cD regs (l.take k) = sa at *
   clear hsa hx hmem
   go_upto_region 9 with fail
   go_cut [] (fun wx => Bd w1.heap.size w1.heap.size (sa ++ opW (kk : Int)) wx ∧ Blk wx wr.heap.size 39 #[.int .i64 (kk : Int), .int .i64 d, .int .i64 a, .int .i64 b, .int .i64 t, .int .i64 e] ∧ Below w1.heap.size w1 wx)
   case first =>
    have hix := fun W => uF kk hk13 W
    have hW := Blk.new wr 39 #[.int .i64 (kk : Int), .int .i64 d, .int .i64 a, .int .i64 b, .int .i64 t, .int .i64 e]
    have hlo := uY (kk : Int)
    have lW := hW.lt
    have lb := hd.lt
    have hdW := hd.alloc (.cells #[.int .i64 (kk : Int), .int .i64 d, .int .i64 a, .int .i64 b, .int .i64 t, .int .i64 e] 39)
    have hBW : Below w1.heap.size w1 (wr.alloc (.cells #[.int .i64 (kk : Int), .int .i64 d, .int .i64 a, .int .i64 b, .int .i64 t, .int .i64 e] 39)) := hBl.alloc hz _
    generalize wr.alloc (.cells #[.int .i64 (kk : Int), .int .i64 d, .int .i64 a, .int .i64 b, .int .i64 t, .int .i64 e] 39) = wa at *
    have cW := hW.cell 0
    simp only [List.getElem?_toArray, List.getElem?_cons_zero] at cW
    clear hd hBl
    go_region_with (first
     | (go_at_call 45; refine (zE _).mono ?_; rintro e w4 ⟨rfl, hb4⟩; have hN4 := (hW.drew).below hb4 lW; have hd4 := (hdW.drew).below hb4; have c4 := hN4.cell 0; simp only [List.getElem?_toArray, List.getElem?_cons_zero] at c4; have hB4 : Below w1.heap.size w1 w4 := (hBW.drew).trans (hb4.mono (hBW.size)))
     | (go_at_call 51; refine (WrS w1.heap.size w1.heap.size sa (opW (kk : Int)) _ hd4 Zb hB4.size).mono ?_; rintro e w5 ⟨rfl, hd5, hb5, hk5⟩))
    all_goals (go_wp2_with fail)
    all_goals go_meet
    all_goals exact ⟨hd5, hN4.others hk5 Zb Ze, hB4.trans hb5⟩
   case rest =>
    have lb := hd.lt
    clear hd hBl c0 c1 c2 c3 c4 c5 hz
    obtain ⟨hd, hN, hBl⟩ := hcut
    have lN := hN.lt
    have hz := hBl.size
    have NL := bCT ⟨(kk : Int), d, a, b, t, e⟩
    have LN := zD Hfx.o
    rw [NL] at LN
    have hp4 := rC (kk : Int)
    have hpw := gQ (kk : Int)
    have hpa := fun W hN => bA (yX wr.heap.size kk d a b t e W hN hk13)
    unfold tU sY at hpa
    have ES2 : cD regs (l.take (k + 1)) = sa ++ (opW (kk : Int) ++ (cC (kk : Int)).flatMap (qS ⟨(kk : Int), d, a, b, t, e⟩)) ++ [10] := by
     rw [ES.out]
     unfold fD
     rw [NL]
     simp
    have ES2 := bA ES2
    clear ES NL
    simp only at LN
    generalize opW (kk : Int) = ow at *
    generalize cC (kk : Int) = ps at *
    generalize hg7 : wr.heap.size = g7 at *
    clear hg7
    have LS' : sa.length ≤ 27 + k * 199 := LS
    simp only [Vz] at LN
    go_wp2_with (refine ((hpa _ hN).out).mono ?_; rintro ee w4 ⟨q, rfl, hq, hq4, hb4⟩; have hd4 := hd.below hb4; have hN4 := hN.below hb4 lN; have hB4 : Below w1.heap.size w1 w4 := hBl.trans (hb4.mono hz))
    clear hpa
    go_loopg [35] (ps.length) (fun gk i wi => ∃ j : Nat, j ≤ ps.length ∧ i = .int .i64 j ∧ gk = ps.length - j ∧ Bd w1.heap.size w1.heap.size (sa ++ (ow ++ (ps.take j).flatMap (qS ⟨(kk : Int), d, a, b, t, e⟩))) wi ∧ Blk wi g7 39 #[.int .i64 (kk : Int), .int .i64 d, .int .i64 a, .int .i64 b, .int .i64 t, .int .i64 e] ∧ Blk wi q 99 (ps.flatMap fun p => [cE p.1, .pointer (some ⟨g7, p.2, none⟩)]).toArray ∧ Below w1.heap.size w1 wi)
    case atStart => exact ⟨0, Nat.zero_le _, rfl, Zb, by simpa using hd4, hN4, hq4, hB4⟩
    case round =>
     obtain ⟨j, hj, rfl, hgj, hdi, hNi, hqi, hBi⟩ := hrel
     have Hgj := bA hgj
     clear hgj hd4 hN4 hq4 hB4 hb4 hd hN hBl
     have hzi := hBi.size
     have LF := xY (qS ⟨(kk : Int), d, a, b, t, e⟩) ps j
     by_cases hjl : j < ps.length
     ·obtain ⟨⟨wd, f⟩, hp⟩ : ∃ p, ps[j]? = some p := ⟨_, Vx hjl⟩
      have hw := hpw _ (V4 hp)
      have pg := sZ (fun p : List UInt8 × Nat => cE p.1) (fun p => .pointer (some ⟨g7, p.2, none⟩)) ps j _ hp
      have cq0 := hqi.cell (j * 2)
      have cq1 := hqi.cell (j * 2 + 1)
      rw [List.getElem?_toArray, pg.1] at cq0
      rw [List.getElem?_toArray, pg.2] at cq1
      have hf6 : f < 6 := hw.2.2
      have cN := hNi.cell f
      have hcf := (⟨(kk : Int), d, a, b, t, e⟩ : Nd).fld_cell hf6
      have hz64 := Hfx.o f hf6
      have Fsp := wR (qS ⟨(kk : Int), d, a, b, t, e⟩) hp
      have hpt : qS ⟨(kk : Int), d, a, b, t, e⟩ (wd, f) = (if wd = [] then [] else 32 :: wd) ++ 32 :: itoa ((⟨(kk : Int), d, a, b, t, e⟩ : Nd).fld f) := rfl
      rw [hpt] at Fsp
      generalize (⟨(kk : Int), d, a, b, t, e⟩ : Nd).fld f = z at *
      have hcf : #[Value.int .i64 (kk : Int), .int .i64 d, .int .i64 a, .int .i64 b, .int .i64 t, .int .i64 e][f]? = some (.int .i64 z) := by rw [← hcf]; simp [Nd.cells]
      rw [hcf] at cN
      have LZ := itoa_length_le z hz64.1 hz64.2
      have EQZ : (⟨#[32]⟩ : ByteArray) ++ ⟨(itoa z).toArray⟩ = ⟨(32 :: itoa z).toArray⟩ := by apply ByteArray.ext; simp
      have EQW : (⟨#[32]⟩ : ByteArray) ++ ⟨wd.toArray⟩ = ⟨(32 :: wd).toArray⟩ := by apply ByteArray.ext; simp
      have lNi := hNi.lt
      have hTi : Tv wr := hT.below (hB1.trans (hBi.mono hB1.size))
      obtain ⟨j0, j1⟩ := Ikq (k := j) (n := ps.length) (by omega)
      have LW : wd.length ≤ 4 := by rcases hw.1 with h | h | h <;> rw [show wd = _ from h] <;> decide
      have ltB := hdi.lt
      have ltQ := hqi.lt
      have HIZ := fun W hW => bA (bBJ z hz64 W hW)
      clear hz64 hw pg hpw
      have Fsp := bA Fsp
      by_cases hwd : wd = []
      ·subst hwd
       go_wp2_with (refine ((HIZ _ (hTi.below ((Bnq _ _)))).out).mono ?_; rintro ee w5 ⟨rfl, hb5⟩; have hd5 := (hdi.alloc _).below hb5; have hN5 := (hNi.alloc _).below hb5 Zd; have hq5 := (hqi.alloc _).below hb5 Zd; have hB5 : Below w1.heap.size w1 w5 := (hBi.alloc hzi _).trans (hb5.mono Zd))
       go_wp2_with (refine (WrS w1.heap.size w1.heap.size _ (32 :: itoa z) _ hd5 Xe hB5.size).mono ?_; rintro ee w6 ⟨rfl, hd6, hb6, hk6⟩)
       go_roundg (ps.length - (j + 1))
       case measure => have := Hgj.o; omega
       case rel => exact ⟨j + 1, Zb, by go_num, rfl, (by rw [Fsp.out]; simpa using hd6), hN5.others hk6 Zb Ze, hq5.others hk6 Zb Ze, hB5.trans hb6⟩
      ·have hcmp : wd.isEmpty = false := by
        cases wd with
        | nil => exact absurd rfl hwd
        | cons x r => rfl
       rw [if_neg hwd] at hpt
       have Fsp : List.flatMap (qS ⟨(kk : Int), d, a, b, t, e⟩) (ps.take (j + 1)) = List.flatMap (qS ⟨(kk : Int), d, a, b, t, e⟩) (ps.take j) ++ ((32 :: wd) ++ 32 :: itoa z) := by rw [Fsp.out, if_neg hwd]
       have Fsp := bA Fsp
       go_wp2_with (refine (WrS w1.heap.size w1.heap.size _ (32 :: wd) _ (hdi.alloc _) Xe ((hBi.alloc hzi _).size)).mono ?_; rintro ee w5 ⟨rfl, hd5, hb5, hk5⟩; have hN5 := (hNi.alloc _).others hk5 Zb Ze; have hq5 := (hqi.alloc _).others hk5 Zb Ze; have hp5 := (Blk.new wr 99 #[.string ⟨wd.toArray⟩, .pointer (some ⟨g7, f, none⟩)]).others hk5 Zb Ze; have hB5 : Below w1.heap.size w1 w5 := (hBi.alloc hzi _).trans hb5; have c51 := hp5.cell 1; have c5f := hN5.cell f; rw [hcf] at c5f; simp only [Yl] at c51)
       have hT5 : Tv w5 := hT.below (hB1.trans (hB5.mono hB1.size))
       go_wp2_with (refine ((HIZ _ hT5).out).mono ?_; rintro ee w6 ⟨rfl, hb6⟩; have hd6 := hd5.below hb6; have hN6 := hN5.below hb6 hN5.lt; have hq6 := hq5.below hb6 hq5.lt; have hB6 : Below w1.heap.size w1 w6 := hB5.trans (hb6.mono hB5.size))
       go_wp2_with (refine (WrS w1.heap.size w1.heap.size _ (32 :: itoa z) _ hd6 Xe hB6.size).mono ?_; rintro ee w7 ⟨rfl, hd7, hb7, hk7⟩)
       go_roundg (ps.length - (j + 1))
       case measure => have := Hgj.o; omega
       case rel => exact ⟨j + 1, Zb, by go_num, rfl, (by rw [Fsp.out]; simpa using hd7), hN6.others hk7 Zb Ze, hq6.others hk7 Zb Ze, hB6.trans hb7⟩
     ·obtain rfl : j = ps.length := Zb
      rw [List.take_length] at hdi LF
      have hlen : (sa ++ (ow ++ ps.flatMap (qS ⟨(kk : Int), d, a, b, t, e⟩))).length + 1 ≤ 1000000 := by
       simp only [Vz]
       omega
      go_wp2_with (refine (WrB w1.heap.size w1.heap.size _ 10 _ hdi hlen hzi).mono ?_; rintro ee w8 ⟨rfl, hd8, hb8, -⟩)
      go_roundg (l.length - (k + 1))
      case measure => exact Jg
      case rel => exact ⟨k + 1, Zb, by go_num, rfl, (by rw [ES2.out]; exact hd8), hBi.trans hb8⟩
  ·obtain rfl : k = l.length := Zb
   go_wp2_with (refine (BdStr w1.heap.size w1.heap.size _ _ hd hz).mono ?_; rintro e w9 ⟨rfl, hb9⟩)
   go_ret2
   exact ⟨rfl, hB1.trans ((hBl.trans hb9).mono hB1.size)⟩
end
section
open Go.RowKit
open Go.Lib Go.Maps
def bOM (s : List UInt8) (w : World) (e : Ending) (w' : World) : Prop :=
 ∃ (regs : Int) (l : List Nd) (v : Value) (ok : Bool), e = .returned (.tuple #[.agg #[.int .i64 regs, v], .int .i64 (if ok then 0 else 1)]) ∧ cO w' w.heap.size 39 v l ∧ Below w.heap.size w w' ∧ zT s regs l ok
theorem mA.grown {g k : Nat} {w w' : World} {row : Option Nat} (h : mA g k w) (hg : w.grownBy w' row) (hr : row ≠ some g) : mA g k w' := by
 obtain ⟨es, clock, hh, F, r⟩ := h
 exact ⟨es, clock, (hg.block g (cJ hh) (fun e => hr e.symm)).trans hh, F, r⟩
theorem mA.ne_row {g k B : Nat} {w : World} {e : TypeId} {v : Value} {l : List Nd} (h : mA g k w) (hr : cO w B e v l) : v.ownBlock ≠ some g := by
 obtain ⟨es, clock, hh, F, r⟩ := h
 rcases hr.open with ⟨rfl, _⟩ | ⟨g', cap, cur, rfl, _, hh', _⟩
 ·exact Jb
 ·intro he
  simp [Value.ownBlock] at he
  subst he
  rw [hh] at hh'
  cases hh'
theorem bEZ (s : List UInt8) (hs : s.length ≤ 4294967280) (w : World) (hT : Tv w) : Calls prog 20 #[cE s] w (bOM s w) := by
 obtain ⟨i3, h3i, h3z, h3s, h3b⟩ := info_parts iG
 have hmm := @run_makeMap prog
 go_enter func20, ntmps20
 go_upto_region 3 with (refine (zE _).mono ?_; rintro e w1 ⟨rfl, hb1⟩)
 have hZ := ((Blk.new w 24 #[.int .i64 0, .slice none 0 0]).alloc (.map #[] 0)).below hb1 Zh
 have hM : mA (w.heap.size + 1) 0 w1 := by
  have h0 := World.ownsMap_made (H := Unit) (w.alloc (.cells #[.int .i64 0, .slice none 0 0] 24)) prog 9 (plainElem prog 3)
  rw [show (w.alloc (.cells #[.int .i64 0, .slice none 0 0] 24)).heap.size = w.heap.size + 1 by simp] at h0
  exact mA.below h0 hb1
 have hB : Below w.heap.size w w1 := (((Bnq _ _)).alloc Zf _).trans (hb1.mono Zh)
 clear hb1
 go_loopg [5, 6, 20] (13) (fun gk a5 a6 i wr => ∃ k : Nat, k ≤ 13 ∧ i = .int .i64 k ∧ gk = 13 - k ∧ mA (w.heap.size + 1) k wr ∧ Blk wr w.heap.size 24 #[.int .i64 0, .slice none 0 0] ∧ Below w.heap.size w wr)
 case atStart => exact ⟨0, Zb, rfl, Zb, hM, hZ, hB⟩
 case round =>
  obtain ⟨k, hk, rfl, hgk, hMk, hZk, hBk⟩ := hrel
  have Hgk := bA hgk
  clear hgk hM hZ hB
  by_cases hlt : k < 13
  ·have hix := fun W => uF k hlt W
   have k1 : (k : Int) < 13 := Zb
   have hol : (opW (k : Int)).length ≤ 4294967280 := by have := uY (k : Int); omega
   go_wp2_with (at_mapUpdate; refine wpList_mapUpdate_own _ rfl _ _ _ 76 rfl 9 3 bNI underlying76 _ (w.heap.size + 1) k _ rfl hMk Zw _ _ _ rfl rfl (bNK hol) _ [] (plainElem_int underlying3 (WalkArith.wf_i64 Zb)) ?_; intro w3 hown3 hgrow3)
   go_roundg (13 - (k + 1))
   case measure => exact Jg
   case rel => exact ⟨k + 1, Zb, by go_num, rfl, hown3, hZk.grown hgrow3 Zf, hBk.grown hgrow3 hBk.size (fun q hq => by cases hq; omega)⟩
  ·obtain rfl : k = 13 := Zb
   have hT1 := hT.below hBk
   have HT0 := bA hT
   clear hT hlt hk
   have HC := bA (bQS s hs wr hT1)
   go_wp2_with fail
   refine Calls.mono HC.o ?_
   rintro e w4 ⟨head, rest, is, rfl, hb4, hC⟩
   have hT4 := hT1.below hb4
   have hM4 := hMk.below hb4
   have hZ4 := hZk.below hb4 hZk.lt
   have hB4 := hBk.trans (hb4.mono hBk.size)
   have hhl : head.length ≤ 4294967280 ∧ rest.length ≤ s.length := by
    rcases hC with ⟨_, h, _⟩ | ⟨_, _, h1, h2⟩
    ·have := congrArg List.length h
     simp at this
     omega
    ·rw [h1, h2]; simp; omega
   clear HC hT1 hMk hZk hBk hb4
   have HP := bA (bON head kO w4)
   have HCc := bA hC
   clear hC
   go_wp2_with fail
   refine Calls.mono HP.o ?_
   rintro e w5 ⟨dg, fine, rfl, hw5, hPf⟩
   subst hw5
   have hdg : dg.length ≤ 4294967280 := by
    rcases hPf with ⟨_, h⟩ | ⟨_, h, _⟩
    ·have := congrArg List.length h
     rw [Vz] at this
     omega
    ·rw [h]; exact hhl.1
   have HPf := bA hPf
   have HA := bA (bOT dg hdg _ hT4)
   clear hPf HP
   go_wp2_with fail
   refine Calls.mono HA.o ?_
   rintro e w6 ⟨v, er, rfl, hb6, hA⟩
   have hT6 := hT4.below hb6
   have hM6 := hM4.below hb6
   have hZ6 := hZ4.below hb6 hZ4.lt
   have hB6 := hB4.trans (hb6.mono hB4.size)
   clear HA hT4 hM4 hZ4 hB4 hb6
   have hA0 : (er = .nilIface ∨ ∃ t q, er = .iface t q) := by
    rcases hA with ⟨h, _⟩ | ⟨h, _⟩
    ·exact .inl h
    ·exact .inr h
   have HAa := bA hA
   clear hA
   go_upto_region 11 with fail
   have hP6 := Blk.new w6 24 #[.int .i64 v, .slice none 0 0]
   have hgp : w.heap.size + 1 < w6.heap.size := hM6.lt
   replace hT6 := hT6.below ((Below.refl _ _).alloc (Nat.le_refl _) (.cells #[.int .i64 v, .slice none 0 0] 24))
   replace hM6 := hM6.alloc (.cells #[.int .i64 v, .slice none 0 0] 24)
   replace hZ6 := hZ6.alloc (.cells #[.int .i64 v, .slice none 0 0] 24)
   replace hB6 := hB6.alloc hB6.size (.cells #[.int .i64 v, .slice none 0 0] 24)
   generalize w6.alloc (.cells #[.int .i64 v, .slice none 0 0] 24) = w7 at *
   generalize w6.heap.size = gp at *
   have hno : (∀ r, cB r → is = true → fine = true → dg = itoa r → False) → oH s := by
    intro H
    refine bPH fun r y hr e => ?_
    rcases HCc.o with ⟨h1, h2, h3⟩ | ⟨h1, h2, _⟩
    ·rw [e] at h2
     obtain ⟨e1, _⟩ := kD (rK r) h3 h2
     rcases HPf.o with ⟨h4, h5⟩ | ⟨h4, _, h5⟩
     ·rw [h5] at e1
      exact H r hr h1 h4 (List.append_cancel_left e1).symm
     ·exact h5 _ e1.symm
    ·rw [e] at h2
     exact h2 Zf
   have Hno := bA hno
   clear hno
   go_cut [61] (fun s61 wx => ∃ bad : Bool, s61 = .bool bad ∧ (bad = false → is = true ∧ fine = true ∧ dg = itoa v ∧ cB v) ∧ (bad = true → oH s) ∧ Tv wx ∧ mA (w.heap.size + 1) 13 wx ∧ Blk wx w.heap.size 24 #[.int .i64 0, .slice none 0 0] ∧ Blk wx gp 24 #[.int .i64 v, .slice none 0 0] ∧ Below w.heap.size w wx)
   case first =>
    cases is with
    | false =>
     go_wp2_with fail
     go_meet
     exact ⟨true, rfl, (fun h => by cases h), (fun _ => Hno.o fun r hr h1 _ _ => by cases h1), hT6, hM6, hZ6, hP6, hB6⟩
    | true =>
     cases fine with
     | false =>
      go_wp2_with fail
      go_meet
      exact ⟨true, rfl, (fun h => by cases h), (fun _ => Hno.o fun r hr _ h1 _ => by cases h1), hT6, hM6, hZ6, hP6, hB6⟩
     | true =>
      rcases HAa.o with ⟨rfl, hv, hvn⟩ | ⟨⟨t, q', rfl⟩, hvn⟩
      ·have HI := bA (bBJ v hv w7 hT6)
       have Hvn := bA hvn
       clear hvn hA0
       go_wp2_with fail
       refine Calls.mono HI.o ?_
       rintro e w8 ⟨rfl, hb8⟩
       have hS8 := bA (And.intro (hT6.below hb8) (And.intro (hM6.below hb8) (And.intro (hZ6.below hb8 hZ6.lt) (And.intro (hP6.below hb8 hP6.lt) (hB6.trans (hb8.mono hB6.size))))))
       clear HI hT6 hM6 hZ6 hP6 hB6 hb8
       by_cases heq : itoa v = dg
       ·have Heq := bA heq
        rw [heq]
        clear heq
        go_wp2_with fail
        go_meet
        exact ⟨false, rfl, (fun _ => ⟨Xt, Xt, Heq.o.symm, hv⟩), (fun h => by cases h), hS8.out⟩
       ·have hne : (itoa v == dg) = false := by rw [beq_eq_false_iff_ne]; exact heq
        have Heq := bA heq
        clear heq
        generalize hiv : itoa v = iv at *
        have Hiv := bA hiv
        clear hiv
        go_wp2_with fail
        go_meet
        exact ⟨true, rfl, (fun h => by cases h), (fun _ => Hno.o fun r hr _ _ h1 => Heq.o (by rw [← Hiv.o, Hvn.o r hr h1, ← h1])), hS8.out⟩
      ·have Hvn := bA hvn
       clear hvn hA0
       go_wp2_with fail
       go_meet
       exact ⟨true, rfl, (fun h => by cases h), (fun _ => Hno.o fun r hr _ _ h1 => Hvn.o r hr h1), hT6, hM6, hZ6, hP6, hB6⟩
   case rest =>
    obtain ⟨bad, rfl, hg, hb, hT, hM, hZ, hP, hB⟩ := hcut
    have Hg := bA hg
    have Hb := bA hb
    clear hg hb hT6 hM6 hZ6 hP6 hB6
    cases bad with
    | true =>
     have z0 := hZ.cell 0
     have z1 := hZ.cell 1
     have zf0 := hZ.frozen 0
     have zf1 := hZ.frozen 1
     have lZ := hZ.lt
     simp only [Yl] at z0 z1
     go_wp2_with fail
     refine bodyPost_ret (v := .tuple #[.agg #[.int .i64 0, .slice none 0 0], .int .i64 1]) (by simp [results, results20, go_sem, z0, z1, zf0, zf1, Vw, Vv]; try rfl) rfl ⟨0, [], _, false, rfl, bO.nil_ _ _ _, ?_, Or.inr ⟨rfl, rfl, rfl, ?_⟩⟩
     ·exact (hB.setCell (Nat.le_refl _) _).setCell (Nat.le_refl _) _
     exact Hb.o Xt
    | false =>
     have hgood := Hg.o Xt
     obtain ⟨h1, h2, h3, hv⟩ := hgood
     subst h1 h2
     have hs0 : s = cD v [] ++ rest := by
      rcases HCc.o with ⟨_, h4, _⟩ | ⟨h4, _⟩
      ·rcases HPf.o with ⟨_, h5⟩ | ⟨h5, _⟩
       ·rw [h4, h5, h3, nE]; simp [cS]
       ·cases h5
      ·cases h4
     have Hs0 := bA hs0
     clear h3 hs0 Hg Hb
     go_wp2_with fail
     go_loopg [8, 9, 15, 16, 17] (257) (fun gk a8 a9 a15 a16 a17 wr => ∃ (l : List Nd) (V : Value) (rt : List UInt8), a8 = cE rt ∧ gk = 257 - l.length ∧ l.length ≤ 257 ∧ rt.length ≤ 4294967280 ∧ s = cD v l ++ rt ∧ (∀ m ∈ l, dH m) ∧ cO wr w.heap.size 39 V l ∧ Blk wr gp 24 #[.int .i64 v, V] ∧ Tv wr ∧ mA (w.heap.size + 1) 13 wr ∧ Blk wr w.heap.size 24 #[.int .i64 0, .slice none 0 0] ∧ Below w.heap.size w wr)
     case atStart => exact ⟨[], .slice none 0 0, rest, rfl, rfl, Zf, Zb, Hs0.o, (fun m hm => by cases hm), bO.nil_ _ _ _, hP, hT, hM, hZ, hB⟩
     case round =>
      clear hT hM hZ hP hB
      obtain ⟨l, V, rt, rfl, hgk, hl7, hrl, hs1, hsh, hN, hP, hT, hM, hZ, hB⟩ := hrel
      have Hgk := bA hgk
      have Hs := bA hs1
      have Hsh := bA hsh
      clear hgk hs1 hsh
      obtain ⟨An, cn, rfl, _, _⟩ := hN.shape
      have lP := hP.lt
      refine Wl fun p0 p1 => ?_
      by_cases hrt : rt = []
      ·subst hrt
       have HK := bA (fZ v An l cn wr Zw hN.nodes)
       by_cases hc : chk v l = 0
       ·rw [hc] at HK
        have Hc := bA hc
        clear hc
        go_wp2_with fail
        refine Calls.mono HK.o ?_
        rintro e w6 ⟨rfl, hb6⟩
        have hZ6 := hZ.below hb6 hZ.lt
        have hP6 := hP.below hb6 hP.lt
        have hB6 := hB.trans (hb6.mono hB.size)
        have z0 := hZ6.cell 0
        have z1 := hZ6.cell 1
        have zf0 := hZ6.frozen 0
        have zf1 := hZ6.frozen 1
        have p0 := hP6.cell 0
        have p1 := hP6.cell 1
        have lZ := hZ6.lt
        have hNz := bA (hN.ne_blk hZ Ze)
        simp only [Yl] at z0 z1 p0 p1
        clear hZ
        go_wp2_with fail
        refine bodyPost_ret (v := .tuple #[.agg #[.int .i64 v, .slice An l.length cn], .int .i64 0]) (by simp [results, results20, go_sem, z0, z1, zf0, zf1, Vw, Vv]; try rfl) rfl ⟨v, l, _, true, rfl, ?_, ?_, Or.inl ⟨rfl, Hc.o, (fun m hm i hi => (Hsh.o m hm).fit i hi), ?_⟩⟩
        ·exact ((hN.below' hb6).far hNz.out _).far hNz.out _
        ·exact Js
        ·rw [Hs.o]; simp
       ·have hn0 : (chk v l != 0) = true := by simp [hc]
        have Hc := bA hc
        clear hc
        generalize hgz : chk v l = cz at *
        have Hgz := bA hgz
        clear hgz
        go_wp2_with fail
        refine Calls.mono HK.o ?_
        rintro e w6 ⟨rfl, hb6⟩
        have hZ6 := hZ.below hb6 hZ.lt
        have hB6 := hB.trans (hb6.mono hB.size)
        clear hZ
        refine Kt fun zf0 zf1 lZ z0 z1 => ?_
        go_wp2_with fail
        refine bodyPost_ret (v := .tuple #[.agg #[.int .i64 0, .slice none 0 0], .int .i64 1]) (by simp [results, results20, go_sem, z0, z1, zf0, zf1, Vw, Vv]; try rfl) rfl ⟨0, [], _, false, rfl, bO.nil_ _ _ _, ?_, Or.inr ⟨rfl, rfl, rfl, ?_⟩⟩
        ·exact Js
        exact bMY Hs.o Hsh.o (Or.inl ⟨rfl, by rw [Hgz.o]; exact Hc.o⟩)
      ·have he : rt.isEmpty = false := by simpa using hrt
       have Hrt := bA hrt
       clear hrt
       by_cases hl6 : l.length ≤ 256
       ·have d1 : decide ((l.length : Int) ≤ 256) = true := decide_eq_true Zb
        have HC := bA (bQS rt hrl wr hT)
        go_wp2_with fail
        refine Calls.mono HC.o ?_
        rintro e w4 ⟨ln, rt', is, rfl, hb4, hC⟩
        have hll : ln.length ≤ 4294967280 ∧ rt'.length ≤ 4294967280 := by
         rcases hC with ⟨_, h, _⟩ | ⟨_, _, h1, h2⟩
         ·have := congrArg List.length h
          simp at this
          omega
         ·rw [h1, h2]; simp; omega
        have HCc := bA hC
        have hS4 := bA (And.intro (hN.below' hb4) (And.intro (hP.below hb4 hP.lt) (And.intro (hT.below hb4) (And.intro (hM.below hb4) (And.intro (hZ.below hb4 hZ.lt) (hB.trans (hb4.mono hB.size)))))))
        clear HC hC hN hP hT hM hZ hB hb4 p0 p1 lP
        have HNd := bA (bMX ln hll.1 (w.heap.size + 1) w4 hS4.out.2.2.1 hS4.out.2.2.2.1)
        go_wp2_with fail
        refine Calls.mono HNd.o ?_
        rintro e w5 ⟨x, ok, rfl, hb5, hx⟩
        go_upto_region 17 with fail
        obtain ⟨hN4, hP4, hT4, hM4, hZ4, hB4⟩ := hS4.out
        have hb5 : Below w4.heap.size w4 (w5.alloc (.cells #[.int .i64 x.op, .int .i64 x.d, .int .i64 x.a, .int .i64 x.b, .int .i64 x.t, .int .i64 x.e] 39)) := hb5.alloc hb5.size _
        have hX5 := Blk.new w5 39 #[.int .i64 x.op, .int .i64 x.d, .int .i64 x.a, .int .i64 x.b, .int .i64 x.t, .int .i64 x.e]
        generalize w5.alloc (.cells #[.int .i64 x.op, .int .i64 x.d, .int .i64 x.a, .int .i64 x.b, .int .i64 x.t, .int .i64 x.e] 39) = w6 at *
        generalize w5.heap.size = gx at *
        have hN6 := hN4.below' hb5
        have hP6 := hP4.below hb5 hP4.lt
        have hT6 := hT4.below hb5
        have hM6 := hM4.below hb5
        have hZ6 := hZ4.below hb5 hZ4.lt
        have hB6 := hB4.trans (hb5.mono hB4.size)
        have Hx := bA hx
        clear hx hN4 hP4 hT4 hM4 hZ4 hB4 hb5 hS4 HNd
        cases is with
        | false =>
         clear hT6 hM6 hN6
         refine Kt fun zf0 zf1 lZ z0 z1 => ?_
         go_wp2_with fail
         refine bodyPost_ret (v := .tuple #[.agg #[.int .i64 0, .slice none 0 0], .int .i64 1]) (by simp [results, results20, go_sem, z0, z1, zf0, zf1, Vw, Vv]; try rfl) rfl ⟨0, [], _, false, rfl, bO.nil_ _ _ _, ?_, Or.inr ⟨rfl, rfl, rfl, ?_⟩⟩
         ·exact Js
         refine bIH Hs.o Hsh.o Hrt.o fun m t hm e => ?_
         rcases HCc.o with ⟨h1, _⟩ | ⟨_, h1, _⟩
         ·cases h1
         ·exact h1 Xo
        | true =>
         have hCt : rt = ln ++ 10 :: rt' ∧ 10 ∉ ln := by
          rcases HCc.o with ⟨_, h1⟩ | ⟨h1, _⟩
          ·exact h1
          ·cases h1
         have HCt := bA hCt
         clear hCt
         cases ok with
         | false =>
          clear hT6 hM6 hN6
          refine Kt fun zf0 zf1 lZ z0 z1 => ?_
          go_wp2_with fail
          refine bodyPost_ret (v := .tuple #[.agg #[.int .i64 0, .slice none 0 0], .int .i64 1]) (by simp [results, results20, go_sem, z0, z1, zf0, zf1, Vw, Vv]; try rfl) rfl ⟨0, [], _, false, rfl, bO.nil_ _ _ _, ?_, Or.inr ⟨rfl, rfl, rfl, ?_⟩⟩
          ·exact Js
          refine bIH Hs.o Hsh.o Hrt.o fun m t hm e => ?_
          rw [HCt.o.1] at e
          obtain ⟨e1, _⟩ := kD HCt.o.2 (jH hm.op) e
          rcases Hx.o with ⟨h1, _⟩ | ⟨_, h1⟩
          ·cases h1
          ·exact h1 m hm e1
         | true =>
          have hxs : dH x ∧ ln = dS x := by
           rcases Hx.o with ⟨_, h1⟩ | ⟨h1, _⟩
           ·exact h1
           ·cases h1
          have Hxs := bA hxs
          clear hxs
          have p1 := hP6.cell 1
          have x0 := hX5.cell 0
          have x1 := hX5.cell 1
          have x2 := hX5.cell 2
          have x3 := hX5.cell 3
          have x4 := hX5.cell 4
          have x5 := hX5.cell 5
          simp only [Yl] at p1 x0 x1 x2 x3 x4 x5
          go_wp2_with (at_builtin; refine bK (v := .slice An l.length cn) (l := l) (base := w.heap.size) rfl _ _ _ rfl i3 _ 48 underlying22 h3i h3z h3s h3b rfl rfl (hN6.alloc _) (some ⟨w6.heap.size, 0, none⟩) 1 1 [x] rfl rfl (cH rfl) Zr Zd (by have := hB6.size; simp <;> omega) ?_; intro v9 w9 hr9 hg9 hat9; obtain ⟨A9, c9, hv9, _, _⟩ := hr9.shape; subst hv9; simp only [Vz, V8] at hr9 hat9 ⊢; have hP9 := Blk.grown (hP6.alloc (.cells #[.int .i64 x.op, .int .i64 x.d, .int .i64 x.a, .int .i64 x.b, .int .i64 x.t, .int .i64 x.e] 39)) hg9 (hN6.ne_blk hP6 Ze); have q0 := hP9.cell 0; have q1 := hP9.cell 1; have qf := hP9.frozen 1; simp only [Yl] at q0 q1)
          have hZ9 := Blk.grown (hZ6.alloc (.cells #[.int .i64 x.op, .int .i64 x.d, .int .i64 x.a, .int .i64 x.b, .int .i64 x.t, .int .i64 x.e] 39)) hg9 (hN6.ne_blk hZ6 Ze)
          have hM9 := mA.grown (hM6.alloc (.cells #[.int .i64 x.op, .int .i64 x.d, .int .i64 x.a, .int .i64 x.b, .int .i64 x.t, .int .i64 x.e] 39)) hg9 (hM6.ne_row hN6)
          have hB9 : Below w.heap.size w w9 := Below.grown (hB6.alloc hB6.size (.cells #[.int .i64 x.op, .int .i64 x.d, .int .i64 x.a, .int .i64 x.b, .int .i64 x.t, .int .i64 x.e] 39)) hg9 (by have := hB6.size; simp; omega) (fun q hq => (hN6.lt q hq).1)
          have hB10 := hB9.setCell (p := ⟨gp, 1, none⟩) Zi (.slice A9 (l.length + 1) c9)
          have e1 : (l ++ [x]).length = l.length + 1 := Zf
          go_roundg (257 - (l.length + 1))
          case measure => exact Jg
          case rel => exact ⟨l ++ [x], _, rt', rfl, by rw [e1], by rw [e1]; omega, hll.2, by rw [Hs.o, HCt.o.1, Hxs.o.2, bFT], (fun m hm => by rcases List.mem_append.1 hm with h1 | h1; exact Hsh.o m h1; rw [List.mem_singleton.1 h1]; exact Hxs.o.1), hr9.far (hr9.ne_blk hP9 Ze) _, hP9.set_ 1 _, HT0.o.below hB10, hM9.far Zi _, hZ9.far Zi _, hB10⟩
       ·have d1 : decide ((l.length : Int) ≤ 256) = false := decide_eq_false Zb
        have hcn : chk v l ≠ 0 := fun e => by have := (jL e).2.1; omega
        have HK := bA (fZ v An l cn wr Zw hN.nodes)
        have hc := hcn
        clear hcn
        ·have hn0 : (chk v l != 0) = true := by simp [hc]
         have Hc := bA hc
         clear hc
         generalize hgz : chk v l = cz at *
         have Hgz := bA hgz
         clear hgz
         go_wp2_with fail
         refine Calls.mono HK.o ?_
         rintro e w6 ⟨rfl, hb6⟩
         have hZ6 := hZ.below hb6 hZ.lt
         have hB6 := hB.trans (hb6.mono hB.size)
         clear hZ
         refine Kt fun zf0 zf1 lZ z0 z1 => ?_
         go_wp2_with fail
         refine bodyPost_ret (v := .tuple #[.agg #[.int .i64 0, .slice none 0 0], .int .i64 1]) (by simp [results, results20, go_sem, z0, z1, zf0, zf1, Vw, Vv]; try rfl) rfl ⟨0, [], _, false, rfl, bO.nil_ _ _ _, ?_, Or.inr ⟨rfl, rfl, rfl, ?_⟩⟩
         ·exact Js
         exact bMY Hs.o Hsh.o (Or.inr Zb)
end
section
open Go.RowKit
def bFF (s : List UInt8) (ns : List Int) (t : List UInt8) (code : Int) : Prop :=
 (oH s ∧ code = 1 ∧ t = []) ∨ (∃ r l c r' l', chk r l = 0 ∧ Fit l ∧ s = cD r l ∧ kE r l ns c r' l' ∧ ((c ≠ 0 ∧ code = c ∧ t = []) ∨ (c = 0 ∧ code = 0 ∧ t = cD r' l' ∧ chk r' l' = 0 ∧ Fit l')))
def bIV (s : List UInt8) (ns : List Int) (w : World) (e : Ending) (w' : World) : Prop :=
 ∃ t code, e = .returned (.tuple #[cE t, .int .i64 code]) ∧ Below w.heap.size w w' ∧ bFF s ns t code
theorem kE.fine {r : Int} {l : List Nd} {ns : List Int} {r' : Int} {l' : List Nd} (h : kE r l ns 0 r' l') (hf : Fit l) : bM r l ∧ (∀ n ∈ ns, 1 ≤ n ∧ n ≤ 4) ∧ Psq ns r l 0 r' l' ∧ bM r' l' ∧ Fit l' := by
 rcases h with ⟨a, b, _⟩ | ⟨_, _, b, _⟩ | ⟨_, _, _, b, _⟩ | ⟨a, _, b, c⟩
 ·exact absurd b.symm a
 ·cases b
 ·cases b
 ·have hR := bS a
  have hR' := c.right rfl hR
  exact ⟨hR, b, c, hR', bRS hR' (c.ao rfl hR (bRT hf))⟩
theorem sK (s : List UInt8) (hs : s.length ≤ 4294967280) (S : Option Addr) (ns : List Int) (ci : Nat) (w : World) (hI : bG w S (bN ns)) (hnl : ns.length ≤ maxLen) (hwf : ∀ n ∈ ns, (Lit.int .i64 n).wf = true) (hT : Tv w) :
  Calls prog 6 #[cE s, .slice S ns.length ci] w (bIV s ns w) := by
 have HR := bA (bEZ s hs w hT)
 go_enter func6, ntmps6
 go_wp2_with fail
 refine Calls.mono HR.o ?_
 rintro e w1 ⟨regs, l, v, ok, rfl, hN1, hb1, hg⟩
 obtain ⟨A1, c1, rfl, _, hc1⟩ := hN1.shape
 have Hg := bA hg
 clear HR hg
 cases ok with
 | false =>
  rw [if_neg Zf]
  have hno : oH s := by
   rcases Hg.o with ⟨h, _⟩ | ⟨_, _, _, h⟩
   ·cases h
   ·exact h
  have Hno := bA hno
  clear hno
  go_wp2_with fail
  go_ret2
  exact ⟨[], 1, rfl, hb1.alloc hb1.size _, .inl ⟨Hno.o, rfl, rfl⟩⟩
 | true =>
  rw [if_pos rfl]
  obtain ⟨hc, hf, hsh⟩ : chk regs l = 0 ∧ Fit l ∧ s = cD regs l := by
   rcases Hg.o with ⟨_, h1, h2, h3⟩ | ⟨h, _⟩
   ·exact ⟨h1, h2, h3⟩
   ·cases h
  refine Wy fun hB2 hQ2 hN2 => ?_
  have HP := bA (xH regs A1 l c1 S ns ci _ hN2.nodes (by unfold maxLen; have := (bS hc).hi; omega) (hI.below hB2) hnl hwf)
  have q0 := hQ2.cell 0
  have q1 := hQ2.cell 1
  simp only [Yl] at q0 q1
  have Hc := bA hc
  have Hf := bA hf
  have Hsh := bA hsh
  clear hc hf hsh hN1 hb1
  go_wp2_with fail
  refine Calls.mono HP.o ?_
  rintro e w3 ⟨c, r', l', v', rfl, hp, hN3, hb3⟩
  obtain ⟨A3, c3, rfl, _, hc3⟩ := hN3.shape
  have hB3 := hB2.trans (hb3.mono hB2.size)
  have Hp := bA hp
  clear HP hp hQ2 hN2 hb3 hB2 q0 q1
  by_cases hc0 : c = 0
  ·subst hc0
   obtain ⟨hR, hin, hps, hR', hF'⟩ := Hp.o.fine Hf.o
   refine Wz fun hB4 hQ4 hN4 => ?_
   have HS := bA (bIT r' A3 l' c3 _ (by unfold maxLen; have := hR'.hi; omega) hN4.nodes hR'.chk (hT.below hB4) hF')
   have q0 := hQ4.cell 0
   have q1 := hQ4.cell 1
   simp only [Yl] at q0 q1
   have HF' := bA hF'
   have HR' := bA hR'
   clear hR hin hps hR' hF' hN3 hN4 hQ4
   go_wp2_with fail
   refine Calls.mono HS.o ?_
   rintro e w5 ⟨rfl, hb5⟩
   go_wp2_with fail
   go_ret2
   exact ⟨_, 0, rfl, hB4.trans (hb5.mono hB4.size), .inr ⟨regs, l, 0, r', l', Hc.o, Hf.o, Hsh.o, Hp.o, .inr ⟨rfl, rfl, rfl, HR'.o.chk, HF'.o⟩⟩⟩
  ·have hne : (c != 0) = true := by simp [hc0]
   have Hc0 := bA hc0
   clear hc0
   go_wp2_with fail
   go_ret2
   exact ⟨[], c, rfl, hB3.alloc hB3.size _, .inr ⟨regs, l, c, r', l', Hc.o, Hf.o, Hsh.o, Hp.o, .inl ⟨Hc0.o, rfl, rfl⟩⟩⟩
end
end Go.Proofs.YtmghkonmfbpjcabGreatDoor
