/- The row of FnExactJobSheets: for every input the law returns true and leaves its arguments as they were; no condition. -/
import Derived.Test.YtanllimeiofaaaaRows
import Derived.Test.YtanllimeiofaaaaPureFnExactJobSheets
import Derived.WalkKit
import Derived.ProofKit
import Derived.OpenShut
import Derived.ShutString
import Derived.ChangeOld
import Derived.Below
import Derived.SizedLaws
namespace Go.Proofs.Ytanllimeiofaaaa.fnExactJobSheets
open Go.ChangeShapes Go.WideShapes Go.ChangeAt Go.RowKit Go.Proofs.Ytanllimeiofaaaa.PFnExactJobSheets Go.Proofs.Ytanllimeiofaaaa.Opened Go.Proofs.YtanllimeiofaaaaW.PrintWords
set_option linter.unusedVariables false
theorem own : ownKnob Try.prog.godebug = none := by kernel_rfl
theorem laidOut : laidOutB Try.prog = true := by kernel_rfl
set_option maxRecDepth 100000 in
theorem lifted (os : Os) (started : os.Started) (H : Type) (enc : TypeId × Value → H) :
    ReturnsInHanded {} Try.checked os 14 .any (Rows.fnExactJobSheetsSpec.pre6 enc Try.prog Try.f14 Rows.fnExactJobSheetsRow.domain false) (Rows.fnExactJobSheetsSpec.post enc Try.prog Try.f14 false true false false) := by
  refine returnsInHanded_of_change_sized (C := Try.checked) own started (by kernel_rfl) Try.func14
    (ChangeSpec.witness6 (enc := enc) (C := Try.checked) false ⟨#[], #[.agg #[.int .i64 0, .int .i64 0, .int .i64 0, .bool false, .int .i64 0, .bool false]], []⟩ 8 (by kernel_rfl) (by kernel_rfl) (by kernel_rfl) (by kernel_rfl)) ?_
  intro W base args ds gs before hval0 hW hcnd hsz0 _
  have hval : ∀ (j : Nat) t v, Try.f14.params[j]? = some t → args[j]? = some v → Value.okWide Try.prog W .any base t v := hval0
  have hW' := hW
  obtain ⟨p, q, hA0, hV, rfl, hfz, hnd⟩ := hW
  have hA : DataW.TrodAll enc Try.prog W 0 (fun _ => true) true Try.f14.params.toList args.toList ds p := hA0
  rw [Try.params14] at hA hval
  obtain ⟨v0, vs0, d0, ds0, p0, q0, hargs, rfl, rfl, h0, r0⟩ := trodAll_cons hA
  obtain ⟨rfl, rfl, rfl⟩ := trodAll_nil r0
  obtain rfl : args = #[v0] := by cases args; simp_all
  obtain ⟨rfl, rfl⟩ := trodVars_none hV
  have k0 := h0
  have lt0 : ∀ x ∈ p0, x.block < W.heap.size := by obtain ⟨m, hm⟩ := k0; exact DataW.trod_lt m _ _ _ hm
  obtain ⟨cs0, y0, e0, K0, G0⟩ := agg_of op64 Try.underlying64 (hval 0 64 v0 rfl rfl) h0
  obtain ⟨a0_0, a0_1, a0_2, a0_3, a0_4, a0_5⟩ := y0
  obtain ⟨_, _, rfl, hk0_0, _, _, rfl, hk0_1, _, _, rfl, hk0_2, _, _, rfl, hk0_3, _, _, rfl, hk0_4, hk0_5⟩ := K0
  obtain ⟨g0_0, g0_1, g0_2, g0_3, g0_4, g0_5⟩ := G0
  obtain rfl := hk0_0
  obtain rfl := hk0_1
  obtain rfl := hk0_2
  obtain rfl := hk0_3
  obtain rfl := hk0_4
  obtain rfl := hk0_5
  obtain rfl : v0 = .agg #[.int .i64 a0_0, .int .i64 a0_1, .int .i64 a0_2, .bool a0_3, .int .i64 a0_4, .bool a0_5] := e0
  clear hA0 hval0 hsz0
  obtain ⟨k, hk⟩ := PureFnExactJobSheets.pure a0_0 a0_1 a0_2 a0_3 a0_4 a0_5 g0_0 g0_1 g0_2 g0_4
  refine (laws_FnExactJobSheets.calls k a0_0 a0_1 a0_2 a0_3 a0_4 a0_5 true W hk).mono fun e W' ⟨he, bel0⟩ => ?_
  have bel : Below W.heap.size W W' := bel0
  subst he
  exact ⟨_, rfl, _, _, _, [], _, [], hW', trodAll_mk1 (shut_bool Try.underlying4 _), (trodAll_cons_mk (Below.trod laidOut (by kernel_rfl) (of_decide_eq_true (by kernel_rfl)) k0 bel lt0) trodAll_mk0), rfl, bel.frame _, fun h => by cases h⟩
theorem over : Rows.fnExactJobSheetsRow.holds Try.pinned (OpenSpec.ofChange Rows.fnExactJobSheetsSpec) :=
  OpenClaim.holds_of_wide 14 Try.f14 rfl rfl rfl rfl rfl rfl rfl ⟨rfl, rfl, rfl, rfl, rfl⟩ rfl rfl rfl rfl rfl (by kernel_rfl) Try.func14 (by kernel_rfl)
    (of_decide_eq_true (by kernel_rfl)) (by unfold Func.isWrapper; first | (rw [if_pos (by decide +kernel)]; kernel_rfl) | (rw [if_neg (by decide +kernel)]; exact ⟨rfl, rfl⟩))
    (fun os started H enc _ => lifted os started H enc)
theorem proved : Rows.FnExactJobSheetsSaid := over
#print axioms proved
end Go.Proofs.Ytanllimeiofaaaa.fnExactJobSheets
namespace Go.Proofs.Ytanllimeiofaaaa
/-- The row, under a short name, for the claim. -/
theorem fnExactJobSheets_holds : Rows.FnExactJobSheetsSaid := fnExactJobSheets.proved
end Go.Proofs.Ytanllimeiofaaaa
