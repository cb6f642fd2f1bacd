/- PROVED HERE: whatever program, flow and answer come in, hoistwaylaw.FlowGreatest returns true and leaves its arguments as they were. No condition. -/
import Derived.Test.YtmghkonmfbpjcaaArgs
import Derived.Test.YtmghkonmfbpjcaaFlowGr
import Derived.Test.YtmghkonmfbpjcaaRows
namespace Go.Proofs.Ytmghkonmfbpjcaa
set_option linter.unusedVariables false
set_option linter.unusedSimpArgs false
open Go.ChangeShapes Go.WideShapes Go.ChangeAt Go.RowKit

theorem Try.own : ownKnob Try.prog.godebug = none := by kernel_rfl
theorem Try.laidOut : laidOutB Try.prog = true := by kernel_rfl

/-- the law, whatever its input -/
theorem FlowGreatest_any (regs : Int) (A : Option Addr) (l : List Nd) (cap : Nat) (bk em : Bool) (G P Q T X : Option Addr) (g p q t xn gc pc qc tc xc : Nat) (gen pass plus lt x : List Bool) (w : World)
    (hA : NodesAt w A l) (hml : l.length ≤ maxLen) (hxm : xn ≤ maxLen) (hG : ValsAt w G (bools gen)) (hP : ValsAt w P (bools pass)) (hQ : ValsAt w Q (bools plus)) (hT : ValsAt w T (bools lt)) (hX : ValsAt w X (bools x))
    (hg : gen.length = g) (hp : pass.length = p) (hq : plus.length = q) (ht : lt.length = t) (hx : x.length = xn) :
    Calls Try.prog 4 #[.agg #[.int .i64 regs, .slice A l.length cap], .agg #[.bool bk, .bool em, .slice G g gc, .slice P p pc, .slice Q q qc, .slice T t tc], .slice X xn xc] w
      fun e w' => e = .returned (.bool true) ∧ Below w.heap.size w w' := by
  by_cases hfe : fchk regs l g p q t = 0
  · by_cases hxn : xn = l.length
    · exact great_ok regs A l cap bk em G P Q T X g p q t xn gc pc qc tc xc w gen pass plus lt x hA hml hxm hfe hG hP hQ hT hX hg hp hq ht hx (holdsB (flowS bk em gen pass plus lt l) l.length x) 0
        (fun W hW => Holds_ok regs A l cap bk em G P Q T X g p q t xn gc pc qc tc xc W (hA.below hW) hml gen pass plus lt x (hG.below hW) (hP.below hW) (hQ.below hW) (hT.below hW) (hX.below hW) hg hp hq ht hx hfe hxn)
        (fun _ h => (holdsB_iff (hx.trans hxn)).1 h)
    · exact great_ok regs A l cap bk em G P Q T X g p q t xn gc pc qc tc xc w gen pass plus lt x hA hml hxm hfe hG hP hQ hT hX hg hp hq ht hx false 1
        (fun W hW => Holds_len regs A l cap bk em G P Q T X g p q t xn gc pc qc tc xc W (hA.below hW) hml hfe hxn hxm)
        (fun _ h => Bool.noConfusion h)
  · exact great_err regs A l cap bk em G P Q T X g p q t xn gc pc qc tc xc w hA hml hxm hfe

set_option maxRecDepth 100000 in
theorem flowGreatest_lifted (os : Os) (started : os.Started) (H : Type) (enc : TypeId × Value → H) :
    ReturnsInHanded {} Try.checked os 4 .any (Rows.flowGreatestSpec.pre6 enc Try.prog Try.f4 Rows.flowGreatestRow.domain false) (Rows.flowGreatestSpec.post enc Try.prog Try.f4 false true false false) := by
  refine returnsInHanded_of_change (C := Try.checked) Try.own started (by kernel_rfl) Try.func4
    (ChangeSpec.witness6 (enc := enc) (C := Try.checked) false ⟨#[], #[.agg #[.int .i64 0, .slice none 0 0], .agg #[.bool false, .bool false, .slice none 0 0, .slice none 0 0, .slice none 0 0, .slice none 0 0], .slice none 0 0], []⟩ 8 (by kernel_rfl) (by kernel_rfl) (by kernel_rfl) (by kernel_rfl)) ?_
  intro W base args ds gs before hval0 hW hcnd _
  have hval : ∀ (j : Nat) t v, Try.f4.params[j]? = some t → args[j]? = some v → Value.okWide Try.prog W .any base t v := hval0
  have hW' := hW
  obtain ⟨p, q, hA0, hV, rfl, hfz, hnd⟩ := hW
  have hA : DataW.TrodAll enc Try.prog W 0 (fun _ => true) true Try.f4.params.toList args.toList ds p := hA0
  rw [Try.params4] at hA hval
  obtain ⟨v0, v1, v2, d0, d1, d2, p0, p1, p2, rfl, rfl, rfl, h0, h1, h2⟩ := trodAll_three hA
  obtain ⟨rfl, rfl⟩ := trodVars_none hV
  have k0 := h0
  have k1 := h1
  have k2 := h2
  have hlt := fun x hx => hW'.lt x hx
  obtain ⟨regs, A, l, cap, rfl, hml, hN⟩ := prog_in (hval 0 24 v0 rfl rfl) h0
  obtain ⟨bk, em, G, P, Q, T, g, p, q, t, gc, pc, qc, tc, gen, pass, plus, lt, rfl, ⟨hg, _, hG⟩, ⟨hp, _, hP⟩, ⟨hq, _, hQ⟩, ⟨ht, _, hT⟩⟩ := flow_in (hval 1 27 v1 rfl rfl) h1
  obtain ⟨X, xn, xc, x, rfl, hx, hxm, hX⟩ := yesno_in (hval 2 25 v2 rfl rfl) h2
  clear hA0 hval0
  refine (FlowGreatest_any regs A l cap bk em G P Q T X g p q t xn gc pc qc tc xc gen pass plus lt x W hN hml hxm hG hP hQ hT hX hg hp hq ht hx).mono fun e W' ⟨he, hw⟩ => ?_
  subst he
  exact ⟨_, rfl, post_low (pa := _) (pv := []) hW' (fun _ _ _ => trodAll_mk1 (shut_bool Try.underlying4 true))
    (fun sp hsp => trodAll_mk3 (WideElems.Trod_stays Try.laidOut (by kernel_rfl) (of_decide_eq_true (by kernel_rfl)) k0 (fun y hy => hw.same (hlt y (by simp [hy]))) (fun y hy => hsp y (by simp [hy])))
      (WideElems.Trod_stays Try.laidOut (by kernel_rfl) (of_decide_eq_true (by kernel_rfl)) k1 (fun y hy => hw.same (hlt y (by simp [hy]))) (fun y hy => hsp y (by simp [hy])))
      (WideElems.Trod_stays Try.laidOut (by kernel_rfl) (of_decide_eq_true (by kernel_rfl)) k2 (fun y hy => hw.same (hlt y (by simp [hy]))) (fun y hy => hsp y (by simp [hy]))))
    (fun _ _ => rfl) (by simp) hw (ok_one (by kernel_rfl) rfl (okWide_bool_mk Try.underlying4 true))⟩

theorem flowGreatest_holds : Rows.FlowGreatestSaid :=
  OpenClaim.holds_of_wide 4 Try.f4 rfl rfl rfl rfl rfl rfl rfl ⟨rfl, rfl, rfl, rfl, rfl⟩ rfl rfl rfl rfl rfl (by kernel_rfl) Try.func4 (by kernel_rfl)
    (of_decide_eq_true (by kernel_rfl)) (by unfold Func.isWrapper; rw [if_neg (by decide +kernel)]; exact ⟨rfl, rfl⟩)
    (fun os started H enc _ => flowGreatest_lifted os started H enc)
#print axioms flowGreatest_holds
end Go.Proofs.Ytmghkonmfbpjcaa
