/- slices.SortFunc of the counts. -/
import Derived.Test.YtmghkonmfbpjcabDoorRunO
import Derived.Test.YtmghkonmfbpjcabDoorCRow2
import Derived.Shelf.SlSortCmp.NoneTotal
namespace Go.Proofs.YtmghkonmfbpjcabDoor
set_option linter.unusedVariables false
set_option linter.unusedSimpArgs false
open Go.RowKit
open Go.Shelf Go.Lib Go.Sort
set_option maxHeartbeats 4000000

def sortF_ren : Go.Shelf.Ren := ⟨fun | 6 => 29 | 15 => 61 | 14 => 60 | 28 => 82 | 29 => 83 | 20 => 74 | 21 => 75 | 22 => 76 | 23 => 77 | 24 => 78 | 25 => 79 | 26 => 80 | 27 => 81 | 46 => 95 | 47 => 96 | 48 => 97 | 49 => 98 | 50 => 99 | 57 => 114 | n => n, fun | 22 => 31 | 24 => 42 | 25 => 74 | 3 => 3 | 39 => 122 | 0 => 0 | 53 => 138 | 55 => 59 | 4 => 4 | 46 => 132 | 45 => 131 | 50 => 107 | 5 => 5 | 9 => 9 | 66 => 152 | 70 => 89 | 76 => 169 | 77 => 170 | n => n, fun | n => n⟩
theorem sortF : Go.Proofs.SlLaysF0.n6 Tryd.prog sortF_ren := {
  mixed := by kernel_rfl
  f6 := ⟨Tryd.f29.name, by decide, Tryd.func29.trans (congrArg some (by kernel_rfl))⟩
  f14 := ⟨Tryd.f60.name, by decide, Tryd.func60.trans (congrArg some (by kernel_rfl))⟩
  f15 := Tryd.func61.trans (congrArg some (by kernel_rfl))
  f20 := ⟨Tryd.f74.name, by decide, Tryd.func74.trans (congrArg some (by kernel_rfl))⟩
  f21 := ⟨Tryd.f75.name, by decide, Tryd.func75.trans (congrArg some (by kernel_rfl))⟩
  f22 := ⟨Tryd.f76.name, by decide, Tryd.func76.trans (congrArg some (by kernel_rfl))⟩
  f23 := ⟨Tryd.f77.name, by decide, Tryd.func77.trans (congrArg some (by kernel_rfl))⟩
  f24 := ⟨Tryd.f78.name, by decide, Tryd.func78.trans (congrArg some (by kernel_rfl))⟩
  f25 := ⟨Tryd.f79.name, by decide, Tryd.func79.trans (congrArg some (by kernel_rfl))⟩
  f26 := ⟨Tryd.f80.name, by decide, Tryd.func80.trans (congrArg some (by kernel_rfl))⟩
  f27 := ⟨Tryd.f81.name, by decide, Tryd.func81.trans (congrArg some (by kernel_rfl))⟩
  f28 := Tryd.func82.trans (congrArg some (by kernel_rfl))
  f29 := Tryd.func83.trans (congrArg some (by kernel_rfl))
  f46 := ⟨Tryd.f95.name, by decide, Tryd.func95.trans (congrArg some (by kernel_rfl))⟩
  f47 := Tryd.func96.trans (congrArg some (by kernel_rfl))
  f48 := Tryd.func97.trans (congrArg some (by kernel_rfl))
  f49 := ⟨Tryd.f98.name, by decide, Tryd.func98.trans (congrArg some (by kernel_rfl))⟩
  f50 := ⟨Tryd.f99.name, by decide, Tryd.func99.trans (congrArg some (by kernel_rfl))⟩
  f57 := ⟨Tryd.f114.name, by decide, Tryd.func114.trans (congrArg some (by kernel_rfl))⟩
  t0 := Tryd.underlying0
  a0 := Tryd.isAgg0
  z0 := Tryd.sizeOf0
  v0 := Tryd.zeroValue0
  t3 := Tryd.underlying3
  a3 := Tryd.isAgg3
  z3 := Tryd.sizeOf3
  v3 := Tryd.zeroValue3
  t4 := Tryd.underlying4
  a4 := Tryd.isAgg4
  z4 := Tryd.sizeOf4
  v4 := Tryd.zeroValue4
  t5 := Tryd.underlying5
  a5 := Tryd.isAgg5
  z5 := Tryd.sizeOf5
  v5 := Tryd.zeroValue5
  t9 := Tryd.underlying9
  a9 := Tryd.isAgg9
  z9 := Tryd.sizeOf9
  v9 := Tryd.zeroValue9
  t22 := Tryd.underlying31
  a22 := Tryd.isAgg31
  z22 := Tryd.sizeOf31
  v22 := Tryd.zeroValue31
  t25 := Tryd.underlying74
  a25 := Tryd.isAgg74
  z25 := Tryd.sizeOf74
  v25 := Tryd.zeroValue74
  t39 := Tryd.underlying122
  a39 := Tryd.isAgg122
  z39 := Tryd.sizeOf122
  v39 := Tryd.zeroValue122
  t45 := Tryd.underlying131
  a45 := Tryd.isAgg131
  z45 := Tryd.sizeOf131
  v45 := Tryd.zeroValue131
  t46 := Tryd.underlying132
  a46 := Tryd.isAgg132
  z46 := Tryd.sizeOf132
  v46 := Tryd.zeroValue132
  t50 := Tryd.underlying107
  a50 := Tryd.isAgg107
  z50 := Tryd.sizeOf107
  v50 := Tryd.zeroValue107
  t53 := Tryd.underlying138
  a53 := Tryd.isAgg138
  z53 := Tryd.sizeOf138
  v53 := Tryd.zeroValue138
  t55 := Tryd.underlying59
  a55 := Tryd.isAgg59
  z55 := Tryd.sizeOf59
  v55 := Tryd.zeroValue59
  t66 := Tryd.underlying152
  a66 := Tryd.isAgg152
  z66 := Tryd.sizeOf152
  v66 := Tryd.zeroValue152
  t70 := Tryd.underlying89
  a70 := Tryd.isAgg89
  z70 := Tryd.sizeOf89
  v70 := Tryd.zeroValue89
  t76 := Tryd.underlying169
  a76 := Tryd.isAgg169
  z76 := Tryd.sizeOf169
  v76 := Tryd.zeroValue169
  t77 := Tryd.underlying170
  a77 := Tryd.isAgg170
  z77 := Tryd.sizeOf170
  v77 := Tryd.zeroValue170 }

theorem cells_get! (cs : List Ct) (k : Nat) (hk : k < cs.length * 4) : (flatK Ct.cells 4 cs.toArray)[k]! = ((ccells cs)[k]?).getD (.bool false) := by
  rw [get_flatK _ _ _ _ (by simpa using hk)]
  have h4 : k % 4 < 4 := Nat.mod_lt _ (by omega)
  have hd : k / 4 < cs.length := by omega
  have hg := ccells_get cs (k / 4) (k % 4) h4
  rw [show k / 4 * 4 + k % 4 = k by omega, List.getElem?_eq_getElem hd, Option.bind_some] at hg
  rw [hg]
  rw [getElem!_pos _ (k / 4) (by simpa using hd)]
  simp only [List.getElem_toArray]
  rw [getElem!_pos _ (k % 4) (by rw [Ct.cells_len]; exact h4), List.getElem?_eq_getElem (by rw [Ct.cells_len]; exact h4)]
  rfl
theorem asc_of_sorted {d : Array Ct} {cs : List Ct} (hs : SortedIn (ltOf fun x y : Ct => cmpT x.1 y.1) 0 d.size d) (hn : (d.toList.map Prod.fst).Nodup) : Asc d.toList := by
  unfold Asc
  rw [List.pairwise_iff_getElem]
  intro i j hi hj hij
  have hi2 : i < d.size := by simpa using hi
  have hj2 : j < d.size := by simpa using hj
  have h := hs i j (Nat.zero_le _) hij hj2
  unfold ltOf at h
  rw [cmpT_lt, getElem!_pos d j hj2, getElem!_pos d i hi2] at h
  have hne : (d[i]).1 ≠ (d[j]).1 := by
    have := List.pairwise_iff_getElem.1 hn i j (by simpa using hi) (by simpa using hj) hij
    simpa using this
  simp only [Array.getElem_toList]
  exact (ltT_total hne).resolve_right (by rw [h]; simp)
theorem SortFunc_any {B g cap : Nat} {e : TypeId} {cs : List Ct} {w : World} (hr : CRow w B e (.slice (some ⟨g, 0, none⟩) cs.length cap) cs) (hl : cs.length < 4611686018427387904) (hn : (cs.map Prod.fst).Nodup) :
    Calls Tryd.prog 29 #[.slice (some ⟨g, 0, none⟩) cs.length cap, .func (.func 30) #[] #[]] w fun en w' => en = .returned (.tuple #[]) ∧ ∃ ds : List Ct, ds.Perm cs ∧ Asc ds ∧ CRow w' B e (.slice (some ⟨g, 0, none⟩) cs.length cap) ds ∧ w.grownBy w' (some g) := by
  rcases hr.open with ⟨hv, _⟩ | ⟨g', cap', cur, hv, hb, hh, h1, h2, h3, hc⟩
  · cases hv
  injection hv with hA hn' hcp
  injection hA with hA
  injection hA with hg _
  subst hg hcp
  have hlt : g < w.heap.size := lt_of_heap hh
  have eg : ∀ args w, (callFunc 30 args).run Tryd.prog w = .ok (.enter 30 args) w := enters_of Tryd.func30 (by kernel_rfl) rfl
  have hH : HoldsK Ct.cells 4 w g 0 cs.toArray := fun j hj => by
    have hj4 : j < cs.length * 4 := by simpa using hj
    have hcj := hc j hj4
    have hjl : j < (ccells cs).length := by rw [ccells_len]; exact hj4
    rw [Nat.zero_add]
    refine ⟨?_, by simp [World.frozen?, hh]⟩
    rw [cells_get! cs j hj4, List.getElem?_eq_getElem hjl]
    simp only [World.cell?, hh, hcj, List.getElem?_eq_getElem hjl]
    simp
  have hcon := AnyQ.slices_SortFunc sortF 4 Tryd.isAgg42 Tryd.sizeOf42 Ct.cells Ct.cells_len (fun x v hv => by simp [Ct.cells] at hv; rcases hv with rfl | rfl | rfl | rfl <;> rfl) (fun x y : Ct => cmpT x.1 y.1) swo_run 30 #[] g 0 cap cs.toArray w eg (cmpLays_run g 0 cs.toArray.size w) hH hlt (by simpa using hl)
  change Calls Tryd.prog 29 _ _ _ at hcon
  simp only [List.size_toArray] at hcon
  refine hcon.mono ?_
  rintro en w' ⟨rfl, d', n, os, hp, hs, rfl⟩
  obtain ⟨hsz, _, hperm⟩ := hp
  have hsz' : d'.size = cs.length := by simpa using hsz
  have hperm' : d'.toList.Perm cs := by
    have h0 : (d'.extract 0 cs.length) = d' := by rw [← hsz']; simp
    rw [h0] at hperm
    simpa using hperm
  have hnd : (d'.toList.map Prod.fst).Nodup := (hperm'.map Prod.fst).nodup_iff.2 hn
  have hhw : (sortWorldK Ct.cells 4 w g 0 n d' os).heap[g]? = some (.cells (putCells id 0 (flatK Ct.cells 4 d') cur) e (0, 0)) := by
    unfold sortWorldK grow putRowK putRow mapBlock Go.Sort.ahead
    simp only
    rw [Array.getElem?_append_left (by simpa using hlt), Array.getElem?_modify]
    simp [hh, onCells]
  refine ⟨rfl, d'.toList, hperm', asc_of_sorted (cs := cs) (by rw [hsz']; simpa using hs) hnd, ?_, ?_⟩
  · have hq := CRow.close (w := sortWorldK Ct.cells 4 w g 0 n d' os) (base := B) (e := e) (g := g) (cap := cap) (l := d'.toList) hb hhw (by simpa [hsz'] using h1) h2 (by simpa [putCells] using h3) (fun k hk => ?_)
    · have hle : d'.toList.length = cs.length := by simpa using hsz'
      rw [hle] at hq
      exact hq
    · have hk' : k < d'.size * 4 := by simpa using hk
      have hkc : k < cur.size := by omega
      unfold putCells
      rw [Array.getElem?_mapIdx, Array.getElem?_eq_getElem hkc, Option.map_some, if_pos ⟨Nat.zero_le _, by simpa using hk'⟩]
      have := cells_get! d'.toList k hk
      rw [Array.toArray_toList] at this
      rw [Nat.sub_zero, this]
      have hjl : k < (ccells d'.toList).length := by rw [ccells_len]; exact hk
      rw [List.getElem?_eq_getElem hjl]
      rfl
  · refine ⟨rfl, rfl, rfl, ?_, fun k hk hne => ?_⟩
    · unfold sortWorldK grow putRowK putRow mapBlock Go.Sort.ahead
      simp
    · unfold sortWorldK grow putRowK putRow mapBlock Go.Sort.ahead
      simp only
      rw [Array.getElem?_append_left (by simpa using hk), Array.getElem?_modify, if_neg (fun e => hne (by rw [e]))]
/-- whatever the row, nil too -/
theorem SortFunc_row {B : Nat} {e : TypeId} {v : Value} {cs : List Ct} {w : World} (hr : CRow w B e v cs) (hl : cs.length < 4611686018427387904) (hn : (cs.map Prod.fst).Nodup) :
    Calls Tryd.prog 29 #[v, .func (.func 30) #[] #[]] w fun en w' => en = .returned (.tuple #[]) ∧ ∃ ds : List Ct, ds.Perm cs ∧ Asc ds ∧ CRow w' B e v ds ∧ w.grownBy w' v.ownBlock := by
  rcases hr.open with ⟨rfl, rfl⟩ | ⟨g, cap, cur, rfl, _⟩
  · refine (AnyF.slices_SortFunc_none (P := Tryd.prog) (ρ := sortF_ren) sortF none 0 (.func (.func 30) #[] #[]) w).mono ?_
    rintro en w' ⟨rfl, rfl⟩
    exact ⟨rfl, [], List.Perm.refl _, List.Pairwise.nil, hr, World.grownBy.refl _ _⟩
  · exact SortFunc_any hr hl hn
end Go.Proofs.YtmghkonmfbpjcabDoor
