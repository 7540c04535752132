/- The row of FnExactFetchGlyph: for every input the law returns true and leaves its arguments as they were; no condition. -/
import Derived.Test.YtphjcllhlecpfaaRows
import Derived.Test.YtphjcllhlecpfaaPureFnExactFetchGlyph
import Derived.WalkKit
import Derived.ProofKit
import Derived.OpenShut
import Derived.ShutString
import Derived.ChangeOld
import Derived.Below
import Derived.SizedLaws
namespace Go.Proofs.Ytphjcllhlecpfaa.fnExactFetchGlyph
open Go.ChangeShapes Go.WideShapes Go.ChangeAt Go.RowKit Go.Proofs.Ytphjcllhlecpfaa.PFnExactFetchGlyph Go.Proofs.Ytphjcllhlecpfaa.Opened Go.Proofs.YtphjcllhlecpfaaW.PrintWords
set_option linter.unusedVariables false
theorem own : ownKnob Try.prog.godebug = none := by kernel_rfl
theorem laidOut : laidOutB Try.prog = true := by kernel_rfl
set_option maxRecDepth 100000 in
theorem lifted (os : Os) (started : os.Started) (H : Type) (enc : TypeId × Value → H) :
    ReturnsInHanded {} Try.checked os 6 .any (Rows.fnExactFetchGlyphSpec.pre6 enc Try.prog Try.f6 Rows.fnExactFetchGlyphRow.domain false) (Rows.fnExactFetchGlyphSpec.post enc Try.prog Try.f6 false true false false) := by
  refine returnsInHanded_of_change_sized (C := Try.checked) own started (by kernel_rfl) Try.func6
    (ChangeSpec.witness6 (enc := enc) (C := Try.checked) false ⟨#[], #[.agg #[.slice none 0 0, .int .i64 0, .int .i64 0], .int .i64 0, .slice none 0 0], []⟩ 8 (by kernel_rfl) (by kernel_rfl) (by kernel_rfl) (by kernel_rfl)) ?_
  intro W base args ds gs before hval0 hW hcnd hsz0 _
  have hval : ∀ (j : Nat) t v, Try.f6.params[j]? = some t → args[j]? = some v → Value.okWide Try.prog W .any base t v := hval0
  have hW' := hW
  obtain ⟨p, q, hA0, hV, rfl, hfz, hnd⟩ := hW
  have hA : DataW.TrodAll enc Try.prog W 0 (fun _ => true) true Try.f6.params.toList args.toList ds p := hA0
  rw [Try.params6] at hA hval
  obtain ⟨v0, vs0, d0, ds0, p0, q0, hargs, rfl, rfl, h0, r0⟩ := trodAll_cons hA
  obtain ⟨v1, vs1, d1, ds1, p1, q1, rfl, rfl, rfl, h1, r1⟩ := trodAll_cons r0
  obtain ⟨v2, vs2, d2, ds2, p2, q2, rfl, rfl, rfl, h2, r2⟩ := trodAll_cons r1
  obtain ⟨rfl, rfl, rfl⟩ := trodAll_nil r2
  obtain rfl : args = #[v0, v1, v2] := by cases args; simp_all
  obtain ⟨rfl, rfl⟩ := trodVars_none hV
  have k0 := h0
  have lt0 : ∀ x ∈ p0, x.block < W.heap.size := by obtain ⟨m, hm⟩ := k0; exact DataW.trod_lt m _ _ _ hm
  have k1 := h1
  have lt1 : ∀ x ∈ p1, x.block < W.heap.size := by obtain ⟨m, hm⟩ := k1; exact DataW.trod_lt m _ _ _ hm
  have k2 := h2
  have lt2 : ∀ x ∈ p2, x.block < W.heap.size := by obtain ⟨m, hm⟩ := k2; exact DataW.trod_lt m _ _ _ hm
  obtain ⟨cs0, y0, e0, K0, G0⟩ := agg_of op45 Try.underlying45 (hval 0 45 v0 rfl rfl) h0
  obtain ⟨l0_0, a0_1, a0_2⟩ := y0
  obtain ⟨_, _, rfl, hk0_0, _, _, rfl, hk0_1, hk0_2⟩ := K0
  obtain ⟨g0_0, g0_1, g0_2⟩ := G0
  obtain ⟨A0_0, c0_0, rfl, hc0_0, hr0_0⟩ := hk0_0
  obtain rfl := hk0_1
  obtain rfl := hk0_2
  obtain rfl : v0 = .agg #[.slice A0_0 l0_0.length c0_0, .int .i64 a0_1, .int .i64 a0_2] := e0
  obtain ⟨a1, rfl, g1⟩ := int_of Try.underlying3 (hval 1 3 v1 rfl rfl) h1
  obtain ⟨A2, c2, l2, rfl, hc2, hr2, gl2, g2⟩ := slice_of (Opn.slice z69 Try.underlying43 (by kernel_rfl) (op69)) Try.underlying43 (hval 2 43 v2 rfl rfl) h2
  clear hA0 hval0 hsz0
  obtain ⟨k, hk⟩ := PureFnExactFetchGlyph.pure l0_0 a0_1 a0_2 a1 l2 g0_0 g0_1 g0_2 g1 gl2 g2
  refine (laws_FnExactFetchGlyph.calls k A0_0 c0_0 l0_0 a0_1 a0_2 a1 A2 c2 l2 true W hr0_0 hc0_0 hr2 hc2 hk).mono fun e W' ⟨he, bel0⟩ => ?_
  have bel : Below W.heap.size W W' := bel0
  subst he
  exact ⟨_, rfl, _, _, _, [], _, [], hW', trodAll_mk1 (shut_bool Try.underlying4 _), (trodAll_cons_mk (Below.trod laidOut (by kernel_rfl) (of_decide_eq_true (by kernel_rfl)) k0 bel lt0) (trodAll_cons_mk (Below.trod laidOut (by kernel_rfl) (of_decide_eq_true (by kernel_rfl)) k1 bel lt1) (trodAll_cons_mk (Below.trod laidOut (by kernel_rfl) (of_decide_eq_true (by kernel_rfl)) k2 bel lt2) trodAll_mk0))), rfl, bel.frame _, fun h => by cases h⟩
theorem over : Rows.fnExactFetchGlyphRow.holds Try.pinned (OpenSpec.ofChange Rows.fnExactFetchGlyphSpec) :=
  OpenClaim.holds_of_wide 6 Try.f6 rfl rfl rfl rfl rfl rfl rfl ⟨rfl, rfl, rfl, rfl, rfl⟩ rfl rfl rfl rfl rfl (by kernel_rfl) Try.func6 (by kernel_rfl)
    (of_decide_eq_true (by kernel_rfl)) (by unfold Func.isWrapper; first | (rw [if_pos (by decide +kernel)]; kernel_rfl) | (rw [if_neg (by decide +kernel)]; exact ⟨rfl, rfl⟩))
    (fun os started H enc _ => lifted os started H enc)
theorem proved : Rows.FnExactFetchGlyphSaid := over
#print axioms proved
end Go.Proofs.Ytphjcllhlecpfaa.fnExactFetchGlyph
namespace Go.Proofs.Ytphjcllhlecpfaa
/-- The row, under a short name, for the claim. -/
theorem fnExactFetchGlyph_holds : Rows.FnExactFetchGlyphSaid := fnExactFetchGlyph.proved
end Go.Proofs.Ytphjcllhlecpfaa
