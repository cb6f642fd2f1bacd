/- Parts. -/
import Derived.Test.YtmghkonmfbpjcaaGreatDoorGL
import Derived.Shelf.SlSortCmp.NoneTotal
set_option linter.unusedVariables false
set_option linter.unusedSimpArgs false
set_option maxRecDepth 100000
set_option maxHeartbeats 4000000
namespace Go.Proofs.YtmghkonmfbpjcaaGreatDoor
open Go.RowKit
open Go.Proofs.Tryz
section
open Go.Shelf Go.Lib Go.Sort
def yF : Go.Shelf.Ren := ⟨fun | 6 => 29 | 15 => 71 | 14 => 70 | 28 => 124 | 29 => 125 | 20 => 116 | 21 => 117 | 22 => 118 | 23 => 119 | 24 => 120 | 25 => 121 | 26 => 122 | 27 => 123 | 46 => 149 | 47 => 150 | 48 => 151 | 49 => 152 | 50 => 153 | 57 => 175 | n => n, fun | 22 => 31 | 24 => 66 | 25 => 69 | 3 => 3 | 39 => 127 | 0 => 0 | 53 => 174 | 55 => 158 | 4 => 4 | 46 => 168 | 45 => 167 | 50 => 165 | 5 => 5 | 9 => 9 | 66 => 198 | 70 => 85 | 76 => 218 | 77 => 219 | n => n, fun | n => n⟩
theorem bPG : Go.Proofs.SlLaysF0.n6 prog yF := {
 mixed := Zc
 f6 := ⟨f29.name, Ze, func29.trans (congrArg some Zc)⟩
 f14 := ⟨f70.name, Ze, func70.trans (congrArg some Zc)⟩
 f15 := func71.trans (congrArg some Zc)
 f20 := ⟨f116.name, Ze, func116.trans (congrArg some Zc)⟩
 f21 := ⟨f117.name, Ze, func117.trans (congrArg some Zc)⟩
 f22 := ⟨f118.name, Ze, func118.trans (congrArg some Zc)⟩
 f23 := ⟨f119.name, Ze, func119.trans (congrArg some Zc)⟩
 f24 := ⟨f120.name, Ze, func120.trans (congrArg some Zc)⟩
 f25 := ⟨f121.name, Ze, func121.trans (congrArg some Zc)⟩
 f26 := ⟨f122.name, Ze, func122.trans (congrArg some Zc)⟩
 f27 := ⟨f123.name, Ze, func123.trans (congrArg some Zc)⟩
 f28 := func124.trans (congrArg some Zc)
 f29 := func125.trans (congrArg some Zc)
 f46 := ⟨f149.name, Ze, func149.trans (congrArg some Zc)⟩
 f47 := func150.trans (congrArg some Zc)
 f48 := func151.trans (congrArg some Zc)
 f49 := ⟨f152.name, Ze, func152.trans (congrArg some Zc)⟩
 f50 := ⟨f153.name, Ze, func153.trans (congrArg some Zc)⟩
 f57 := ⟨f175.name, Ze, func175.trans (congrArg some Zc)⟩
 t0 := underlying0
 a0 := isAgg0
 z0 := sizeOf0
 v0 := zeroValue0
 t3 := underlying3
 a3 := isAgg3
 z3 := sizeOf3
 v3 := zeroValue3
 t4 := underlying4
 a4 := isAgg4
 z4 := sizeOf4
 v4 := zeroValue4
 t5 := underlying5
 a5 := isAgg5
 z5 := sizeOf5
 v5 := zeroValue5
 t9 := underlying9
 a9 := isAgg9
 z9 := sizeOf9
 v9 := zeroValue9
 t22 := underlying31
 a22 := isAgg31
 z22 := sizeOf31
 v22 := zeroValue31
 t25 := underlying69
 a25 := isAgg69
 z25 := sizeOf69
 v25 := zeroValue69
 t39 := underlying127
 a39 := isAgg127
 z39 := sizeOf127
 v39 := zeroValue127
 t45 := underlying167
 a45 := isAgg167
 z45 := sizeOf167
 v45 := zeroValue167
 t46 := underlying168
 a46 := isAgg168
 z46 := sizeOf168
 v46 := zeroValue168
 t50 := underlying165
 a50 := isAgg165
 z50 := sizeOf165
 v50 := zeroValue165
 t53 := underlying174
 a53 := isAgg174
 z53 := sizeOf174
 v53 := zeroValue174
 t55 := underlying158
 a55 := isAgg158
 z55 := sizeOf158
 v55 := zeroValue158
 t66 := underlying198
 a66 := isAgg198
 z66 := sizeOf198
 v66 := zeroValue198
 t70 := underlying85
 a70 := isAgg85
 z70 := sizeOf85
 v70 := zeroValue85
 t76 := underlying218
 a76 := isAgg218
 z76 := sizeOf218
 v76 := zeroValue218
 t77 := underlying219
 a77 := isAgg219
 z77 := sizeOf219
 v77 := zeroValue219 }
theorem wJ (cs : List Ct) (k : Nat) (hk : k < cs.length * 4) : (flatK Ct.cells 4 cs.toArray)[k]! = ((eA cs)[k]?).getD (.bool false) := by (
 rw [get_flatK _ _ _ _ Yb]
 have h4 : k % 4 < 4 := Nat.mod_lt _ Zb
 have hd : k / 4 < cs.length := Zb
 have hg := nQ cs (k / 4) (k % 4) h4
 rw [show k / 4 * 4 + k % 4 = k by omega, Vs hd, Option.bind_some] at hg
 rw [hg]
 rw [getElem!_pos _ (k / 4) (by simpa using hd)]
 simp only [List.getElem_toArray]
 rw [getElem!_pos _ (k % 4) (by rw [Ct.cells_len]; exact h4), Vs (by rw [Ct.cells_len]; exact h4)]
 rfl)
theorem xO {d : Array Ct} {cs : List Ct} (hs : SortedIn (ltOf fun x y : Ct => bDL x.1 y.1) 0 d.size d) (hn : (d.toList.map Prod.fst).Nodup) : Asc d.toList := by (
 unfold Asc
 rw [List.pairwise_iff_getElem]
 intro i j hi hj hij
 have hi2 : i < d.size := by simpa using hi
 have hj2 : j < d.size := by simpa using hj
 have h := hs i j (Nat.zero_le _) hij hj2
 unfold ltOf at h
 rw [uT, getElem!_pos d j hj2, getElem!_pos d i hi2] at h
 have hne : (d[i]).1 ≠ (d[j]).1 := by (
 have := List.pairwise_iff_getElem.1 hn i j (by simpa using hi) (by simpa using hj) hij
 simpa using this)
 simp only [Array.getElem_toList]
 exact (pT hne).resolve_right Xi)
theorem bAP {B g cap : Nat} {e : TypeId} {cs : List Ct} {w : World} (hr : cX w B e (.slice (some ⟨g, 0, none⟩) cs.length cap) cs) (hl : cs.length < 4611686018427387904) (hn : (cs.map Prod.fst).Nodup) :
 Calls prog 29 #[.slice (some ⟨g, 0, none⟩) cs.length cap, .func (.func 30) #[] #[]] w fun en w' => en = .returned (.tuple #[]) ∧ ∃ ds : List Ct, ds.Perm cs ∧ Asc ds ∧ cX w' B e (.slice (some ⟨g, 0, none⟩) cs.length cap) ds ∧ w.grownBy w' (some g) := by (
 rcases hr.open with ⟨hv, _⟩ | ⟨g', cap', cur, hv, hb, hh, h1, h2, h3, hc⟩
 · cases hv
 injection hv with hA hn' hcp
 injection hA with hA
 injection hA with hg _
 subst hg hcp
 have hlt : g < w.heap.size := bW hh
 have eg : ∀ args w, (callFunc 30 args).run prog w = .ok (.enter 30 args) w := enters_of func30 Zc rfl
 have hH : HoldsK Ct.cells 4 w g 0 cs.toArray := fun j hj => by (
 have hj4 : j < cs.length * 4 := by simpa using hj
 have hcj := hc j hj4
 have hjl : j < (eA cs).length := by rw [jE]; exact hj4
 rw [Nat.zero_add]
 refine ⟨?_, by simp [World.frozen?, hh]⟩
 rw [wJ cs j hj4, Vs hjl]
 simp only [World.cell?, hh, hcj, Vs hjl]
 simp)
 have hcon := AnyQ.slices_SortFunc bPG 4 isAgg66 sizeOf66 Ct.cells Ct.cells_len (fun x v hv => by simp [Ct.cells] at hv; rcases hv with rfl | rfl | rfl | rfl <;> rfl) (fun x y : Ct => bDL x.1 y.1) bNW 30 #[] g 0 cap cs.toArray w eg (bDM g 0 cs.toArray.size w) hH hlt (by simpa using hl)
 change Calls prog 29 _ _ _ at hcon
 simp only [List.size_toArray] at hcon
 refine hcon.mono ?_
 rintro en w' ⟨rfl, d', n, os, hp, hs, rfl⟩
 obtain ⟨hsz, _, hperm⟩ := hp
 have hsz' : d'.size = cs.length := by simpa using hsz
 have hperm' : d'.toList.Perm cs := by (
 have h0 : (d'.extract 0 cs.length) = d' := by rw [← hsz']; simp
 rw [h0] at hperm
 simpa using hperm)
 have hnd : (d'.toList.map Prod.fst).Nodup := (hperm'.map Prod.fst).nodup_iff.2 hn
 have hhw : (sortWorldK Ct.cells 4 w g 0 n d' os).heap[g]? = some (.cells (putCells id 0 (flatK Ct.cells 4 d') cur) e (0, 0)) := by (
 unfold sortWorldK grow putRowK putRow mapBlock Go.Sort.ahead
 simp only
 rw [Array.getElem?_append_left (by simpa using hlt), Array.getElem?_modify]
 simp [hh, onCells])
 refine ⟨rfl, d'.toList, hperm', xO (cs := cs) (by rw [hsz']; simpa using hs) hnd, ?_, ?_⟩
 · (
 have hq := cX.close (w := sortWorldK Ct.cells 4 w g 0 n d' os) (base := B) (e := e) (g := g) (cap := cap) (l := d'.toList) hb hhw (by simpa [hsz'] using h1) h2 (by simpa [putCells] using h3) (fun k hk => ?_)
 · (
 have hle : d'.toList.length = cs.length := by simpa using hsz'
 rw [hle] at hq
 exact hq)
 · (
 have hk' : k < d'.size * 4 := by simpa using hk
 have hkc : k < cur.size := Zb
 unfold putCells
 rw [Array.getElem?_mapIdx, Array.getElem?_eq_getElem hkc, Option.map_some, if_pos ⟨Nat.zero_le _, by simpa using hk'⟩]
 have := wJ d'.toList k hk
 rw [Array.toArray_toList] at this
 rw [Nat.sub_zero, this]
 have hjl : k < (eA d'.toList).length := by rw [jE]; exact hk
 rw [Vs hjl]
 rfl))
 · (
 refine ⟨rfl, rfl, rfl, ?_, fun k hk hne => ?_⟩
 · (
 unfold sortWorldK grow putRowK putRow mapBlock Go.Sort.ahead
 simp)
 · (
 unfold sortWorldK grow putRowK putRow mapBlock Go.Sort.ahead
 simp only
 rw [Array.getElem?_append_left Yb, Array.getElem?_modify, if_neg (fun e => hne (by rw [e]))])))
theorem bAO {B : Nat} {e : TypeId} {v : Value} {cs : List Ct} {w : World} (hr : cX w B e v cs) (hl : cs.length < 4611686018427387904) (hn : (cs.map Prod.fst).Nodup) :
 Calls prog 29 #[v, .func (.func 30) #[] #[]] w fun en w' => en = .returned (.tuple #[]) ∧ ∃ ds : List Ct, ds.Perm cs ∧ Asc ds ∧ cX w' B e v ds ∧ w.grownBy w' v.ownBlock := by (
 rcases hr.open with ⟨rfl, rfl⟩ | ⟨g, cap, cur, rfl, _⟩
 · (
 refine (AnyF.slices_SortFunc_none (P := prog) (ρ := yF) bPG none 0 (.func (.func 30) #[] #[]) w).mono ?_
 rintro en w' ⟨rfl, rfl⟩
 exact ⟨rfl, [], List.Perm.refl _, List.Pairwise.nil, hr, World.grownBy.refl _ _⟩)
 · exact bAP hr hl hn)
end
end Go.Proofs.YtmghkonmfbpjcaaGreatDoor
