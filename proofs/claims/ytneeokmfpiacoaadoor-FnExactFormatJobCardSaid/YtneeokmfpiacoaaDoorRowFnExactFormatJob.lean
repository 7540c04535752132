/- The row of FnExactFormatJob: for every input the law returns true and leaves its arguments as they were; the listed variables hold what the program's text lays there. -/
import Derived.Test.YtneeokmfpiacoaaDoorRows
import Derived.Test.YtneeokmfpiacoaaDoorPureFnExactFormatJob
import Derived.WalkKit
import Derived.ProofKit
import Derived.OpenShut
import Derived.ShutString
import Derived.ChangeOld
import Derived.Below
import Derived.SizedLaws
import Derived.SevenTiedAt
import Derived.Test.YtneeokmfpiacoaaDoorWrap
import Derived.Test.YtneeokmfpiacoaaDoorTie
import Derived.Test.YtneeokmfpiacoaaDoorCards
namespace Go.Proofs.YtneeokmfpiacoaaDoor.fnExactFormatJob
open Go.ChangeShapes Go.WideShapes Go.ChangeAt Go.RowKit Go.Proofs.YtneeokmfpiacoaaDoor.PFnExactFormatJob Go.Proofs.YtneeokmfpiacoaaDoor.Opened Go.Proofs.YtneeokmfpiacoaaDoorW.PrintWords Go.Proofs.YtneeokmfpiacoaaDoorW.PrintMore
set_option linter.unusedVariables false
theorem own : ownKnob Tryd.prog.godebug = none := by kernel_rfl
theorem laidOut : laidOutB Tryd.prog = true := by kernel_rfl
set_option maxRecDepth 100000 in
theorem lifted (os : Os) (started : os.Started) (H : Type) (enc : TypeId × Value → H) :
    ReturnsInHanded {} Tryd.checked os 3 .any (fun w args => (Rows.fnExactFormatJobSpec.pre enc Tryd.prog Tryd.f3 Rows.fnExactFormatJobRow.domain false w args ∧ laidMetH Tryd.prog Rows.fnExactFormatJobRow.laid w) ∧ sizedMet enc Tryd.prog Tryd.f3 (OpenSpec.ofChange Rows.fnExactFormatJobSpec) false w args) (Rows.fnExactFormatJobSpec.post enc Tryd.prog Tryd.f3 false true false false) := by
  refine wrap (X := fun w _ => laidMetH Tryd.prog Rows.fnExactFormatJobRow.laid w) (C := Tryd.checked) (fun _ _ _ hh h => h.of_heap hh) own started (by kernel_rfl) Tryd.func3
    (ChangeSpec.witness_shaped (enc := enc) (C := Tryd.checked) (os := os) (X := fun w _ => laidMetH Tryd.prog Rows.fnExactFormatJobRow.laid w) false (World.laidAll Tryd.prog os Rows.fnExactFormatJobRow.laid) #[.agg #[.int .i64 0, .int .i64 0, .int .i64 0, .bool false, .int .i64 0, .bool false]] 8 (World.laidAll_os _ _ _) (World.shaped_of_ZipB (by kernel_rfl) (by kernel_rfl)) (by kernel_rfl) (by kernel_rfl) (by kernel_rfl) (met os _ (by kernel_rfl) (by kernel_rfl) (by kernel_rfl))) ?_
  intro W base args ds gs before hval0 hW _ hsz0 hL hsh
  have hT : Tabs W := tabs_of (by kernel_rfl) (List.mem_of_getElem? (i := 2) (by kernel_rfl)) hL hsh
  have hval : ∀ (j : Nat) t v, Tryd.f3.params[j]? = some t → args[j]? = some v → Value.okWide Tryd.prog W .any base t v := hval0
  have hW' := hW
  obtain ⟨p, q, hA0, hV, rfl, hfz, hnd⟩ := hW
  have hA : DataW.TrodAll enc Tryd.prog W 0 (fun _ => true) true Tryd.f3.params.toList args.toList ds p := hA0
  rw [Tryd.params3] at hA hval
  obtain ⟨v0, vs0, d0, ds0, p0, q0, hargs, rfl, rfl, h0, r0⟩ := trodAll_cons hA
  obtain ⟨rfl, rfl, rfl⟩ := trodAll_nil r0
  obtain rfl : args = #[v0] := by cases args; simp_all
  obtain ⟨rfl, rfl⟩ := trodVars_none hV
  have k0 := h0
  have lt0 : ∀ x ∈ p0, x.block < W.heap.size := by obtain ⟨m, hm⟩ := k0; exact DataW.trod_lt m _ _ _ hm
  obtain ⟨cs0, y0, e0, K0, G0⟩ := agg_of op23 Tryd.underlying23 (hval 0 23 v0 rfl rfl) h0
  obtain ⟨a0_0, a0_1, a0_2, a0_3, a0_4, a0_5⟩ := y0
  obtain ⟨_, _, rfl, hk0_0, _, _, rfl, hk0_1, _, _, rfl, hk0_2, _, _, rfl, hk0_3, _, _, rfl, hk0_4, hk0_5⟩ := K0
  obtain ⟨g0_0, g0_1, g0_2, g0_3, g0_4, g0_5⟩ := G0
  obtain rfl := hk0_0
  obtain rfl := hk0_1
  obtain rfl := hk0_2
  obtain rfl := hk0_3
  obtain rfl := hk0_4
  obtain rfl := hk0_5
  obtain rfl : v0 = .agg #[.int .i64 a0_0, .int .i64 a0_1, .int .i64 a0_2, .bool a0_3, .int .i64 a0_4, .bool a0_5] := e0
  clear hA0 hval0 hsz0
  obtain ⟨k, hk⟩ := PureFnExactFormatJob.pure a0_0 a0_1 a0_2 a0_3 a0_4 a0_5 g0_0 g0_1 g0_2 g0_4
  refine (laws_FnExactFormatJob.calls k a0_0 a0_1 a0_2 a0_3 a0_4 a0_5 true W hk hT).mono fun e W' ⟨he, bel0⟩ => ?_
  have bel : Below W.heap.size W W' := bel0
  subst he
  exact ⟨_, rfl, _, _, _, [], _, [], hW', trodAll_mk1 (shut_bool Tryd.underlying4 _), (trodAll_cons_mk (Below.trod laidOut (by kernel_rfl) (of_decide_eq_true (by kernel_rfl)) k0 bel lt0) trodAll_mk0), rfl, bel.frame _, fun h => by cases h⟩
theorem over : Rows.fnExactFormatJobRow.holds Tryd.pinned (OpenSpec.ofChange Rows.fnExactFormatJobSpec) :=
  OpenClaim.holds_of_wide 3 Tryd.f3 rfl rfl rfl rfl rfl rfl rfl ⟨rfl, rfl, rfl, rfl, rfl⟩ rfl rfl rfl rfl rfl (by kernel_rfl) Tryd.func3 (by kernel_rfl)
    (of_decide_eq_true (by kernel_rfl)) (by unfold Func.isWrapper; first | (rw [if_pos (by decide +kernel)]; kernel_rfl) | (rw [if_neg (by decide +kernel)]; exact ⟨rfl, rfl⟩))
    (fun os started H enc _ => lifted os started H enc)
theorem card_holds : Rows.FnExactFormatJobCardSaid :=
  Claim7.holds_tied_plain_at .later [] [.data, .data, .data] true (true, "39944dfd3c55cfccc07faa23954dd1288181915b5653d3ba0e2389bfb5a3f3ed") false
    over (fun _ h => by cases h) (by kernel_rfl) (fun _ h => by cases h) fnExactFormatJob_row_tie rfl ⟨rfl, rfl⟩ (by kernel_rfl) rfl
    (fun f fn hf hfn => by
      obtain rfl : f = 3 := Option.some.inj ((show Tryd.prog.funcNamed Rows.fnExactFormatJobRow.func = some 3 by kernel_rfl).symm.trans hf) |>.symm
      obtain rfl : fn = Tryd.f3 := (Option.some.inj (Tryd.func3.symm.trans hfn)).symm
      exact ⟨by kernel_rfl, fun j t ht => by
        have hm : t ∈ Tryd.f3.params.toList := by simpa using Array.mem_of_getElem? ht
        have hall : (Tryd.f3.params.toList.all fun u => !Tryd.prog.wantsStandIn u) = true := by kernel_rfl
        exact (show Tryd.prog.wantsStandIn t = false by simpa using List.all_eq_true.1 hall t hm)⟩)
    (by kernel_rfl)
theorem proved : Rows.FnExactFormatJobCardSaid := card_holds
#print axioms proved
end Go.Proofs.YtneeokmfpiacoaaDoor.fnExactFormatJob
namespace Go.Proofs.YtneeokmfpiacoaaDoor
/-- The row, under a short name, for the claim. -/
theorem fnExactFormatJob_holds : Rows.FnExactFormatJobCardSaid := fnExactFormatJob.proved
end Go.Proofs.YtneeokmfpiacoaaDoor
