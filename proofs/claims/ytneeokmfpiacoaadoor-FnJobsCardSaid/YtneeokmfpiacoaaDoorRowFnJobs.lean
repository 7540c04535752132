/- The row of FnJobs: for every input the law returns true and leaves its arguments as they were; the listed variables hold what the program's text lays there. -/
import Derived.Test.YtneeokmfpiacoaaDoorRows
import Derived.Test.YtneeokmfpiacoaaDoorPureFnJobs
import Derived.WalkKit
import Derived.ProofKit
import Derived.OpenShut
import Derived.ShutString
import Derived.ChangeOld
import Derived.Below
import Derived.SizedLaws
import Derived.SevenTiedAt
import Derived.Test.YtneeokmfpiacoaaDoorWrap
import Derived.Test.YtneeokmfpiacoaaDoorTie
import Derived.Test.YtneeokmfpiacoaaDoorCards
namespace Go.Proofs.YtneeokmfpiacoaaDoor.fnJobs
open Go.ChangeShapes Go.WideShapes Go.ChangeAt Go.RowKit Go.Proofs.YtneeokmfpiacoaaDoor.PFnJobs Go.Proofs.YtneeokmfpiacoaaDoor.Opened Go.Proofs.YtneeokmfpiacoaaDoorW.PrintWords Go.Proofs.YtneeokmfpiacoaaDoorW.PrintMore
set_option linter.unusedVariables false
theorem own : ownKnob Tryd.prog.godebug = none := by kernel_rfl
theorem laidOut : laidOutB Tryd.prog = true := by kernel_rfl
set_option maxRecDepth 100000 in
theorem lifted (os : Os) (started : os.Started) (H : Type) (enc : TypeId × Value → H) :
    ReturnsInHanded {} Tryd.checked os 5 .any (fun w args => (Rows.fnJobsSpec.pre enc Tryd.prog Tryd.f5 Rows.fnJobsRow.domain false w args ∧ laidMetH Tryd.prog Rows.fnJobsRow.laid w) ∧ sizedMet enc Tryd.prog Tryd.f5 (OpenSpec.ofChange Rows.fnJobsSpec) false w args) (Rows.fnJobsSpec.post enc Tryd.prog Tryd.f5 false true false false) := by
  refine wrap (X := fun w _ => laidMetH Tryd.prog Rows.fnJobsRow.laid w) (C := Tryd.checked) (fun _ _ _ hh h => h.of_heap hh) own started (by kernel_rfl) Tryd.func5
    (ChangeSpec.witness_shaped (enc := enc) (C := Tryd.checked) (os := os) (X := fun w _ => laidMetH Tryd.prog Rows.fnJobsRow.laid w) false (World.laidAll Tryd.prog os Rows.fnJobsRow.laid) #[.slice none 0 0] 8 (World.laidAll_os _ _ _) (World.shaped_of_ZipB (by kernel_rfl) (by kernel_rfl)) (by kernel_rfl) (by kernel_rfl) (by kernel_rfl) (met os _ (by kernel_rfl) (by kernel_rfl) (by kernel_rfl))) ?_
  intro W base args ds gs before hval0 hW _ hsz0 hL hsh
  have hT : Tabs W := tabs_of (by kernel_rfl) (List.mem_of_getElem? (i := 2) (by kernel_rfl)) hL hsh
  have hval : ∀ (j : Nat) t v, Tryd.f5.params[j]? = some t → args[j]? = some v → Value.okWide Tryd.prog W .any base t v := hval0
  have hW' := hW
  obtain ⟨p, q, hA0, hV, rfl, hfz, hnd⟩ := hW
  have hA : DataW.TrodAll enc Tryd.prog W 0 (fun _ => true) true Tryd.f5.params.toList args.toList ds p := hA0
  rw [Tryd.params5] at hA hval
  obtain ⟨v0, vs0, d0, ds0, p0, q0, hargs, rfl, rfl, h0, r0⟩ := trodAll_cons hA
  obtain ⟨rfl, rfl, rfl⟩ := trodAll_nil r0
  obtain rfl : args = #[v0] := by cases args; simp_all
  obtain ⟨rfl, rfl⟩ := trodVars_none hV
  have k0 := h0
  have lt0 : ∀ x ∈ p0, x.block < W.heap.size := by obtain ⟨m, hm⟩ := k0; exact DataW.trod_lt m _ _ _ hm
  obtain ⟨A0, c0, l0, rfl, hc0, hr0, gl0, g0⟩ := slice_of (Opn.slice (0 : Int) Tryd.underlying33 (by kernel_rfl) (Opn.int Tryd.underlying5)) Tryd.underlying33 (hval 0 33 v0 rfl rfl) h0
  clear hA0 hval0 hsz0
  obtain ⟨k, hk⟩ := PureFnJobs.pure l0 gl0 g0
  refine (laws_FnJobs.calls k A0 c0 l0 true W hr0 hc0 hk hT).mono fun e W' ⟨he, bel0⟩ => ?_
  have bel : Below W.heap.size W W' := bel0
  subst he
  exact ⟨_, rfl, _, _, _, [], _, [], hW', trodAll_mk1 (shut_bool Tryd.underlying4 _), (trodAll_cons_mk (Below.trod laidOut (by kernel_rfl) (of_decide_eq_true (by kernel_rfl)) k0 bel lt0) trodAll_mk0), rfl, bel.frame _, fun h => by cases h⟩
theorem over : Rows.fnJobsRow.holds Tryd.pinned (OpenSpec.ofChange Rows.fnJobsSpec) :=
  OpenClaim.holds_of_wide 5 Tryd.f5 rfl rfl rfl rfl rfl rfl rfl ⟨rfl, rfl, rfl, rfl, rfl⟩ rfl rfl rfl rfl rfl (by kernel_rfl) Tryd.func5 (by kernel_rfl)
    (of_decide_eq_true (by kernel_rfl)) (by unfold Func.isWrapper; first | (rw [if_pos (by decide +kernel)]; kernel_rfl) | (rw [if_neg (by decide +kernel)]; exact ⟨rfl, rfl⟩))
    (fun os started H enc _ => lifted os started H enc)
theorem card_holds : Rows.FnJobsCardSaid :=
  Claim7.holds_tied_plain_at .later [] [.data, .data, .data, .data, .pinned] true (true, "39944dfd3c55cfccc07faa23954dd1288181915b5653d3ba0e2389bfb5a3f3ed") false
    over (fun _ h => by cases h) (by kernel_rfl) (fun _ h => by cases h) fnJobs_row_tie rfl ⟨rfl, rfl⟩ (by kernel_rfl) rfl
    (fun f fn hf hfn => by
      obtain rfl : f = 5 := Option.some.inj ((show Tryd.prog.funcNamed Rows.fnJobsRow.func = some 5 by kernel_rfl).symm.trans hf) |>.symm
      obtain rfl : fn = Tryd.f5 := (Option.some.inj (Tryd.func5.symm.trans hfn)).symm
      exact ⟨by kernel_rfl, fun j t ht => by
        have hm : t ∈ Tryd.f5.params.toList := by simpa using Array.mem_of_getElem? ht
        have hall : (Tryd.f5.params.toList.all fun u => !Tryd.prog.wantsStandIn u) = true := by kernel_rfl
        exact (show Tryd.prog.wantsStandIn t = false by simpa using List.all_eq_true.1 hall t hm)⟩)
    (by kernel_rfl)
theorem proved : Rows.FnJobsCardSaid := card_holds
#print axioms proved
end Go.Proofs.YtneeokmfpiacoaaDoor.fnJobs
namespace Go.Proofs.YtneeokmfpiacoaaDoor
/-- The row, under a short name, for the claim. -/
theorem fnJobs_holds : Rows.FnJobsCardSaid := fnJobs.proved
end Go.Proofs.YtneeokmfpiacoaaDoor
