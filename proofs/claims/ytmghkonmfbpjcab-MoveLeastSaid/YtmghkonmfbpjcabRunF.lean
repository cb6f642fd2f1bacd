/- RunF. -/
import Derived.Test.YtmghkonmfbpjcabGI
import Derived.Shelf.SlSortCmp.NoneTotal
import Derived.Test.YtmghkonmfbpjcabGA
set_option linter.unusedVariables false
set_option linter.unusedSimpArgs false
namespace Go.Proofs.Ytmghkonmfbpjcab
section
open Go.RowKit
open Go.Shelf Go.Lib Go.Sort
set_option maxHeartbeats 4000000
def sortF_ren : Go.Shelf.Ren := ⟨fun | 6 => 32 | 15 => 60 | 14 => 59 | 28 => 91 | 29 => 92 | 20 => 83 | 21 => 84 | 22 => 85 | 23 => 86 | 24 => 87 | 25 => 88 | 26 => 89 | 27 => 90 | 46 => 99 | 47 => 100 | 48 => 101 | 49 => 102 | 50 => 103 | 57 => 106 | n => n, fun | 22 => 31 | 24 => 75 | 25 => 78 | 3 => 3 | 39 => 108 | 0 => 0 | 53 => 133 | 55 => 135 | 4 => 4 | 46 => 126 | 45 => 125 | 50 => 130 | 5 => 5 | 9 => 9 | 66 => 138 | 70 => 64 | 76 => 145 | 77 => 146 | n => n, fun | n => n⟩
theorem sortF : Go.Proofs.SlLaysF0.n6 Try.prog sortF_ren := {
 mixed := by kernel_rfl
 f6 := ⟨Try.f32.name, by decide, Try.func32.trans (congrArg some (by kernel_rfl))⟩
 f14 := ⟨Try.f59.name, by decide, Try.func59.trans (congrArg some (by kernel_rfl))⟩
 f15 := Try.func60.trans (congrArg some (by kernel_rfl))
 f20 := ⟨Try.f83.name, by decide, Try.func83.trans (congrArg some (by kernel_rfl))⟩
 f21 := ⟨Try.f84.name, by decide, Try.func84.trans (congrArg some (by kernel_rfl))⟩
 f22 := ⟨Try.f85.name, by decide, Try.func85.trans (congrArg some (by kernel_rfl))⟩
 f23 := ⟨Try.f86.name, by decide, Try.func86.trans (congrArg some (by kernel_rfl))⟩
 f24 := ⟨Try.f87.name, by decide, Try.func87.trans (congrArg some (by kernel_rfl))⟩
 f25 := ⟨Try.f88.name, by decide, Try.func88.trans (congrArg some (by kernel_rfl))⟩
 f26 := ⟨Try.f89.name, by decide, Try.func89.trans (congrArg some (by kernel_rfl))⟩
 f27 := ⟨Try.f90.name, by decide, Try.func90.trans (congrArg some (by kernel_rfl))⟩
 f28 := Try.func91.trans (congrArg some (by kernel_rfl))
 f29 := Try.func92.trans (congrArg some (by kernel_rfl))
 f46 := ⟨Try.f99.name, by decide, Try.func99.trans (congrArg some (by kernel_rfl))⟩
 f47 := Try.func100.trans (congrArg some (by kernel_rfl))
 f48 := Try.func101.trans (congrArg some (by kernel_rfl))
 f49 := ⟨Try.f102.name, by decide, Try.func102.trans (congrArg some (by kernel_rfl))⟩
 f50 := ⟨Try.f103.name, by decide, Try.func103.trans (congrArg some (by kernel_rfl))⟩
 f57 := ⟨Try.f106.name, by decide, Try.func106.trans (congrArg some (by kernel_rfl))⟩
 t0 := Try.underlying0
 a0 := Try.isAgg0
 z0 := Try.sizeOf0
 v0 := Try.zeroValue0
 t3 := Try.underlying3
 a3 := Try.isAgg3
 z3 := Try.sizeOf3
 v3 := Try.zeroValue3
 t4 := Try.underlying4
 a4 := Try.isAgg4
 z4 := Try.sizeOf4
 v4 := Try.zeroValue4
 t5 := Try.underlying5
 a5 := Try.isAgg5
 z5 := Try.sizeOf5
 v5 := Try.zeroValue5
 t9 := Try.underlying9
 a9 := Try.isAgg9
 z9 := Try.sizeOf9
 v9 := Try.zeroValue9
 t22 := Try.underlying31
 a22 := Try.isAgg31
 z22 := Try.sizeOf31
 v22 := Try.zeroValue31
 t25 := Try.underlying78
 a25 := Try.isAgg78
 z25 := Try.sizeOf78
 v25 := Try.zeroValue78
 t39 := Try.underlying108
 a39 := Try.isAgg108
 z39 := Try.sizeOf108
 v39 := Try.zeroValue108
 t45 := Try.underlying125
 a45 := Try.isAgg125
 z45 := Try.sizeOf125
 v45 := Try.zeroValue125
 t46 := Try.underlying126
 a46 := Try.isAgg126
 z46 := Try.sizeOf126
 v46 := Try.zeroValue126
 t50 := Try.underlying130
 a50 := Try.isAgg130
 z50 := Try.sizeOf130
 v50 := Try.zeroValue130
 t53 := Try.underlying133
 a53 := Try.isAgg133
 z53 := Try.sizeOf133
 v53 := Try.zeroValue133
 t55 := Try.underlying135
 a55 := Try.isAgg135
 z55 := Try.sizeOf135
 v55 := Try.zeroValue135
 t66 := Try.underlying138
 a66 := Try.isAgg138
 z66 := Try.sizeOf138
 v66 := Try.zeroValue138
 t70 := Try.underlying64
 a70 := Try.isAgg64
 z70 := Try.sizeOf64
 v70 := Try.zeroValue64
 t76 := Try.underlying145
 a76 := Try.isAgg145
 z76 := Try.sizeOf145
 v76 := Try.zeroValue145
 t77 := Try.underlying146
 a77 := Try.isAgg146
 z77 := Try.sizeOf146
 v77 := Try.zeroValue146 }
theorem cells_get! (cs : List Ct) (k : Nat) (hk : k < cs.length * 4) : (flatK Ct.cells 4 cs.toArray)[k]! = ((ccells cs)[k]?).getD (.bool false) := by (
 rw [get_flatK _ _ _ _ (by simpa using hk)]
 have h4 : k % 4 < 4 := Nat.mod_lt _ (by omega)
 have hd : k / 4 < cs.length := by omega
 have hg := ccells_get cs (k / 4) (k % 4) h4
 rw [show k / 4 * 4 + k % 4 = k by omega, List.getElem?_eq_getElem hd, Option.bind_some] at hg
 rw [hg]
 rw [getElem!_pos _ (k / 4) (by simpa using hd)]
 simp only [List.getElem_toArray]
 rw [getElem!_pos _ (k % 4) (by rw [Ct.cells_len]; exact h4), List.getElem?_eq_getElem (by rw [Ct.cells_len]; exact h4)]
 rfl)
theorem asc_of_sorted {d : Array Ct} {cs : List Ct} (hs : SortedIn (ltOf fun x y : Ct => cmpT x.1 y.1) 0 d.size d) (hn : (d.toList.map Prod.fst).Nodup) : Asc d.toList := by (
 unfold Asc
 rw [List.pairwise_iff_getElem]
 intro i j hi hj hij
 have hi2 : i < d.size := by simpa using hi
 have hj2 : j < d.size := by simpa using hj
 have h := hs i j (Nat.zero_le _) hij hj2
 unfold ltOf at h
 rw [cmpT_lt, getElem!_pos d j hj2, getElem!_pos d i hi2] at h
 have hne : (d[i]).1 ≠ (d[j]).1 := by (
 have := List.pairwise_iff_getElem.1 hn i j (by simpa using hi) (by simpa using hj) hij
 simpa using this)
 simp only [Array.getElem_toList]
 exact (ltT_total hne).resolve_right (by rw [h]; simp))
theorem SortFunc_any {B g cap : Nat} {e : TypeId} {cs : List Ct} {w : World} (hr : CRow w B e (.slice (some ⟨g, 0, none⟩) cs.length cap) cs) (hl : cs.length < 4611686018427387904) (hn : (cs.map Prod.fst).Nodup) :
 Calls Try.prog 32 #[.slice (some ⟨g, 0, none⟩) cs.length cap, .func (.func 33) #[] #[]] w fun en w' => en = .returned (.tuple #[]) ∧ ∃ ds : List Ct, ds.Perm cs ∧ Asc ds ∧ CRow w' B e (.slice (some ⟨g, 0, none⟩) cs.length cap) ds ∧ w.grownBy w' (some g) := by (
 rcases hr.open with ⟨hv, _⟩ | ⟨g', cap', cur, hv, hb, hh, h1, h2, h3, hc⟩
 · cases hv
 injection hv with hA hn' hcp
 injection hA with hA
 injection hA with hg _
 subst hg hcp
 have hlt : g < w.heap.size := lt_of_heap hh
 have eg : ∀ args w, (callFunc 33 args).run Try.prog w = .ok (.enter 33 args) w := enters_of Try.func33 (by kernel_rfl) rfl
 have hH : HoldsK Ct.cells 4 w g 0 cs.toArray := fun j hj => by (
 have hj4 : j < cs.length * 4 := by simpa using hj
 have hcj := hc j hj4
 have hjl : j < (ccells cs).length := by rw [ccells_len]; exact hj4
 rw [Nat.zero_add]
 refine ⟨?_, by simp [World.frozen?, hh]⟩
 rw [cells_get! cs j hj4, List.getElem?_eq_getElem hjl]
 simp only [World.cell?, hh, hcj, List.getElem?_eq_getElem hjl]
 simp)
 have hcon := AnyQ.slices_SortFunc sortF 4 Try.isAgg75 Try.sizeOf75 Ct.cells Ct.cells_len (fun x v hv => by simp [Ct.cells] at hv; rcases hv with rfl | rfl | rfl | rfl <;> rfl) (fun x y : Ct => cmpT x.1 y.1) swo_run 33 #[] g 0 cap cs.toArray w eg (cmpLays_run g 0 cs.toArray.size w) hH hlt (by simpa using hl)
 change Calls Try.prog 32 _ _ _ at hcon
 simp only [List.size_toArray] at hcon
 refine hcon.mono ?_
 rintro en w' ⟨rfl, d', n, os, hp, hs, rfl⟩
 obtain ⟨hsz, _, hperm⟩ := hp
 have hsz' : d'.size = cs.length := by simpa using hsz
 have hperm' : d'.toList.Perm cs := by (
 have h0 : (d'.extract 0 cs.length) = d' := by rw [← hsz']; simp
 rw [h0] at hperm
 simpa using hperm)
 have hnd : (d'.toList.map Prod.fst).Nodup := (hperm'.map Prod.fst).nodup_iff.2 hn
 have hhw : (sortWorldK Ct.cells 4 w g 0 n d' os).heap[g]? = some (.cells (putCells id 0 (flatK Ct.cells 4 d') cur) e (0, 0)) := by (
 unfold sortWorldK grow putRowK putRow mapBlock Go.Sort.ahead
 simp only
 rw [Array.getElem?_append_left (by simpa using hlt), Array.getElem?_modify]
 simp [hh, onCells])
 refine ⟨rfl, d'.toList, hperm', asc_of_sorted (cs := cs) (by rw [hsz']; simpa using hs) hnd, ?_, ?_⟩
 · (
 have hq := CRow.close (w := sortWorldK Ct.cells 4 w g 0 n d' os) (base := B) (e := e) (g := g) (cap := cap) (l := d'.toList) hb hhw (by simpa [hsz'] using h1) h2 (by simpa [putCells] using h3) (fun k hk => ?_)
 · (
 have hle : d'.toList.length = cs.length := by simpa using hsz'
 rw [hle] at hq
 exact hq)
 · (
 have hk' : k < d'.size * 4 := by simpa using hk
 have hkc : k < cur.size := by omega
 unfold putCells
 rw [Array.getElem?_mapIdx, Array.getElem?_eq_getElem hkc, Option.map_some, if_pos ⟨Nat.zero_le _, by simpa using hk'⟩]
 have := cells_get! d'.toList k hk
 rw [Array.toArray_toList] at this
 rw [Nat.sub_zero, this]
 have hjl : k < (ccells d'.toList).length := by rw [ccells_len]; exact hk
 rw [List.getElem?_eq_getElem hjl]
 rfl))
 · (
 refine ⟨rfl, rfl, rfl, ?_, fun k hk hne => ?_⟩
 · (
 unfold sortWorldK grow putRowK putRow mapBlock Go.Sort.ahead
 simp)
 · (
 unfold sortWorldK grow putRowK putRow mapBlock Go.Sort.ahead
 simp only
 rw [Array.getElem?_append_left (by simpa using hk), Array.getElem?_modify, if_neg (fun e => hne (by rw [e]))])))
theorem SortFunc_row {B : Nat} {e : TypeId} {v : Value} {cs : List Ct} {w : World} (hr : CRow w B e v cs) (hl : cs.length < 4611686018427387904) (hn : (cs.map Prod.fst).Nodup) :
 Calls Try.prog 32 #[v, .func (.func 33) #[] #[]] w fun en w' => en = .returned (.tuple #[]) ∧ ∃ ds : List Ct, ds.Perm cs ∧ Asc ds ∧ CRow w' B e v ds ∧ w.grownBy w' v.ownBlock := by (
 rcases hr.open with ⟨rfl, rfl⟩ | ⟨g, cap, cur, rfl, _⟩
 · (
 refine (AnyF.slices_SortFunc_none (P := Try.prog) (ρ := sortF_ren) sortF none 0 (.func (.func 33) #[] #[]) w).mono ?_
 rintro en w' ⟨rfl, rfl⟩
 exact ⟨rfl, [], List.Perm.refl _, List.Pairwise.nil, hr, World.grownBy.refl _ _⟩)
 · exact SortFunc_any hr hl hn)
end
end Go.Proofs.Ytmghkonmfbpjcab
