/- PROVED HERE: whatever comes in (program, passes, string, passes), hoistwaylaw.WholePasses returns true and leaves its arguments as they were. CONDITIONS: what comes in is of bulk at most 1048576 (the given second form); internal/strconv.uint64pow10, strconv.ErrRange, strconv.ErrSyntax and the other listed variables read as their initialisers lay them (tied to the program's text by the card). -/
import Derived.Test.YtmghkonmfbpjcabGreatDoorGN
import Derived.Test.YtmghkonmfbpjcabGreatDoorTie
import Derived.Test.YtmghkonmfbpjcabGreatDoorCards
namespace Go.Proofs.YtmghkonmfbpjcabGreatDoor
set_option linter.unusedVariables false
set_option linter.unusedSimpArgs false
open Go.ChangeShapes Go.WideShapes Go.ChangeAt Go.WideMaps Go.WideElems Go.RowKit

set_option maxRecDepth 100000 in
theorem wholePasses_contract (H : Type) (enc : TypeId × Value → H) (W : World) (base : Nat) (args : Array Value) (ds gs : List (DataW H)) (before : List MemPlace)
    (hval0 : ∀ (j : Nat) t v, Tryz.f3.params[j]? = some t → args[j]? = some v → Value.okWide Tryz.prog W .any base t v)
    (hW : DataW.Whole enc Tryz.prog Tryz.f3.params.toList Rows.wholePassesSpec.vars false W args.toList ds gs before) (hk : Rows.uptoSmall H (ds ++ gs) = true) (hT : Tv W) :
    Calls Tryz.prog 3 args W fun e W' => ∃ v, e = .returned v ∧ Rows.wholePassesSpec.post enc Tryz.prog Tryz.f3 false true false false W args v W' := by
  have hval : ∀ (j : Nat) t v, Tryz.f3.params[j]? = some t → args[j]? = some v → Value.okWide Tryz.prog W .any base t v := hval0
  have hW' := hW
  obtain ⟨p, q, hA0, hV, rfl, hfz, hnd⟩ := hW
  have hA : DataW.TrodAll enc Tryz.prog W 0 (fun _ => true) true Tryz.f3.params.toList args.toList ds p := hA0
  rw [Tryz.params3] at hA hval
  obtain ⟨v0, v1, v2, v3, d0, d1, d2, d3, p0, p1, p2, p3, rfl, rfl, rfl, h0, h1, h2, h3⟩ := trodAll_four hA
  obtain ⟨rfl, rfl⟩ := trodVars_none hV
  have k0 := h0
  have k1 := h1
  have k2 := h2
  have k3 := h3
  have hlt := fun x hx => hW'.lt x hx
  obtain ⟨r0, A0, l0, cap0, rfl, hml0, hN0⟩ := bPE (hval 0 24 v0 rfl rfl) h0
  obtain ⟨S1, ci1, inp1, rfl, hia1, hib1, hI1, hwf1⟩ := wH (hval 1 25 v1 rfl rfl) h1
  obtain ⟨line, rfl, hd2, hp2, ws⟩ := Go.ChangeMaps.open_string Tryz.underlying9 (hval 2 9 v2 rfl rfl) h2
  obtain ⟨S3, ci3, inp3, rfl, hia3, hib3, hI3, hwf3⟩ := wH (hval 3 25 v3 rfl rfl) h3
  have hlen : line.data.toList.length ≤ 4294967280 := by
    have hb : decide (Rows.uptoBulkAll ([d0, d1, d2, d3] ++ []) ≤ 1048576) = true := hk
    replace hb := of_decide_eq_true hb
    rw [hd2] at hb
    simp only [List.cons_append, List.nil_append, List.append_nil, Rows.uptoBulkAll, Rows.uptoBulk] at hb
    omega
  clear hA0 hval0
  obtain ⟨⟨sl⟩⟩ := line
  refine (uT r0 A0 l0 cap0 S1 inp1 ci1 sl S3 inp3 ci3 W hN0 hml0 hI1 (Nat.le_trans hia1 hib1) hwf1 hlen hI3 (Nat.le_trans hia3 hib3) hwf3 hT).mono fun e W' ⟨he, hw⟩ => ?_
  subst he
  exact ⟨_, rfl, bMO (pa := _) (pv := []) hW' (fun _ _ _ => trodAll_mk1 (shut_bool Tryz.underlying4 true))
    (fun sp hsp => trodAll_mk4 (WideElems.Trod_stays Tryz.laidOut (by kernel_rfl) (of_decide_eq_true (by kernel_rfl)) k0 (fun y hy => hw.same (hlt y (by simp [hy]))) (fun y hy => hsp y (by simp [hy]))) (WideElems.Trod_stays Tryz.laidOut (by kernel_rfl) (of_decide_eq_true (by kernel_rfl)) k1 (fun y hy => hw.same (hlt y (by simp [hy]))) (fun y hy => hsp y (by simp [hy]))) (WideElems.Trod_stays Tryz.laidOut (by kernel_rfl) (of_decide_eq_true (by kernel_rfl)) k2 (fun y hy => hw.same (hlt y (by simp [hy]))) (fun y hy => hsp y (by simp [hy]))) (WideElems.Trod_stays Tryz.laidOut (by kernel_rfl) (of_decide_eq_true (by kernel_rfl)) k3 (fun y hy => hw.same (hlt y (by simp [hy]))) (fun y hy => hsp y (by simp [hy]))))
    (fun _ _ => rfl) (by simp) hw (ok_one (by kernel_rfl) rfl (okWide_bool_mk Tryz.underlying4 true))⟩
theorem wholePasses_reads (os : Os) {H : Type} (enc : TypeId × Value → H) : ∃ places, DataW.whole enc Tryz.prog ((bAA os).forCall (fun _ _ => 0) ⟨#[], #[.agg #[.int .i64 0, .slice none 0 0], .slice none 0 0, .string ⟨#[]⟩, .slice none 0 0], []⟩).memory Tryz.f3.params.toList Rows.wholePassesSpec.vars false (#[.agg #[.int .i64 0, .slice none 0 0], .slice none 0 0, .string ⟨#[]⟩, .slice none 0 0] : Array Value).toList 8 = some ([.agg [.lit (.int .i64 0), .nil], .nil, .lit (.string []), .nil], [], places) :=
  ⟨[], by kernel_rfl⟩
set_option maxRecDepth 100000 in
theorem wholePasses_lifted (os : Os) (started : os.Started) (H : Type) (enc : TypeId × Value → H) (F : Stop.Interp) :
    ReturnsInHanded {} Tryz.checked os 3 .any ((Rows.OpenSpec.upto Rows.wholePassesSpec).preRow enc Tryz.prog Tryz.f3 Rows.wholePassesUptoRow.domain false Rows.wholePassesUptoRow.laid) (((Rows.OpenSpec.upto Rows.wholePassesSpec).at F).post enc Tryz.prog Tryz.f3 false true false false) := by
  obtain ⟨places, hx⟩ := wholePasses_reads os enc
  refine returnsInHanded_of_row (C := Tryz.checked) (s := Rows.OpenSpec.upto Rows.wholePassesSpec) Tryz.own started (by kernel_rfl) Tryz.func3
    (witness_row_atRef (enc := enc) (C := Tryz.checked) false (bAA os) #[.agg #[.int .i64 0, .slice none 0 0], .slice none 0 0, .string ⟨#[]⟩, .slice none 0 0] rfl (by kernel_rfl) (by kernel_rfl) (by kernel_rfl)
      (OpenSpec.preRow_of_cond 8 hx (by kernel_rfl) (fun k hk => by cases hk; kernel_rfl) (by kernel_rfl) (bQY os))) ?_
  intro W base args ds gs before hval hW _ hcond hwt hL hsh _
  exact wholePasses_contract H enc W base args ds gs before hval hW (hcond _ rfl) (bFM hL hsh)

theorem wholePassesUpto_holds : Rows.WholePassesUptoSaid :=
  OpenClaim.holds_of_cond 3 Tryz.f3 rfl rfl rfl rfl rfl rfl rfl ⟨rfl, rfl, rfl, rfl, rfl⟩ rfl rfl rfl rfl rfl (by kernel_rfl) Tryz.func3 (by kernel_rfl)
    (of_decide_eq_true (by kernel_rfl)) (by unfold Func.isWrapper; first | (rw [if_pos (by decide +kernel)]; kernel_rfl) | (rw [if_neg (by decide +kernel)]; exact ⟨rfl, rfl⟩))
    (fun os started H enc _ F => by rw [OpenClaim.pre_eq_preRow]; exact wholePasses_lifted os started H enc F)

theorem wholePassesUpto_card : Rows.WholePassesUptoCardSaid :=
  Claim7.holds_tied_plain_at .later [] _ _ _ _ wholePassesUpto_holds (fun _ h => by cases h) (by kernel_rfl) (fun _ h => by cases h) wholePassesUpto_row_tie rfl ⟨rfl, rfl⟩ (by kernel_rfl) rfl
    (fun f fn hf hfn => by
      obtain rfl : f = 3 := Option.some.inj ((show Tryz.prog.funcNamed "hoistway/hoistwaylaw.WholePasses" = some 3 by kernel_rfl).symm.trans hf) |>.symm
      obtain rfl : fn = Tryz.f3 := (Option.some.inj (Tryz.func3.symm.trans hfn)).symm
      exact ⟨by kernel_rfl, fun j t ht => by
        rw [Tryz.params3] at ht
        have hm : t ∈ [24, 25, 9, 25] := by simpa using Array.mem_of_getElem? ht
        have hall : ([24, 25, 9, 25].all fun u => !Tryz.prog.wantsStandIn u) = true := by kernel_rfl
        exact (show Tryz.prog.wantsStandIn t = false by simpa using List.all_eq_true.1 hall t hm)⟩)
    (by kernel_rfl)
#print axioms wholePassesUpto_card
end Go.Proofs.YtmghkonmfbpjcabGreatDoor
