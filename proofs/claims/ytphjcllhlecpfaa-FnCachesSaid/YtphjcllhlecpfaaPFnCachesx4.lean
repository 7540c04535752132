/- Written by a program of this session (a turned copy of the kit's printer): what each Go function answers, and that it does. -/
import Derived.Test.YtphjcllhlecpfaaPFnCachesx0
import Derived.Test.YtphjcllhlecpfaaPFnCachesx2
import Derived.Test.YtphjcllhlecpfaaPFnCachesx3
namespace Go.Proofs.Ytphjcllhlecpfaa.PFnCaches
open Go.RowKit Go.Proofs.YtphjcllhlecpfaaW.PrintWords Go.Proofs.YtphjcllhlecpfaaW.PrintLast Go.Proofs.YtphjcllhlecpfaaW.PrintMore
attribute [local go_sem] Go.Proofs.Ytphjcllhlecpfaa.Cells.cell_set_at max2_int min2_int max_two min_two max_three min_three max_four min_four   -- for this text's walks alone
set_option linter.unusedVariables false
set_option linter.unusedSimpArgs false

/-! ### spec_FetchGlyph: function 25 -/
mutual
def spec_FetchGlyph.j0 : Nat → Int → List (S32) → Bool → List (S32) → Int → Int → List (S32) → Int → Int → Option ((List (S32)) × Int × Int × Int × Int × List Int × Bool)
 | 0, _, _, _, _, _, _, _, _, _ => none
 | k + 1, x1, x2, x28, x194000, x194001, x194002, x202000, x202001, x202002 => if x28 = true then (some (x202000, x202001, x202002, 0, 0, ([] : List Int), false)) else ((spec_l25Find.f k x194000 x1).bind fun t203 => (if t203 ≥ 0 then (if 0 ≤ t203 then (if t203 < (x202000.length : Int) then ((some (([] : List (S32)) : List (S32))).bind fun y206 => (if t203 ≤ (x202000.length : Int) then ((some (x202000.take (t203 : Int).toNat : List (S32))).bind fun y209 => (if y206.length + y209.length < 3518437208883 then ((some (y206 ++ y209 : List (S32))).bind fun y214 => (if 0 ≤ (wrap64 (t203 + 1)) then (if (wrap64 (t203 + 1)) ≤ (x202000.length : Int) then ((some (x202000.drop ((wrap64 (t203 + 1)) : Int).toNat : List (S32))).bind fun y217 => (if y214.length + y217.length < 3518437208883 then ((some (y214 ++ y217 : List (S32))).bind fun y222 => ((some (([(⟨(rd_T32 x202000 t203).f0, (rd_T32 x202000 t203).f1, (rd_T32 x202000 t203).f2⟩ : S32)] : List (S32)) : List (S32))).bind fun y225 => (if y225.length + y222.length < 3518437208883 then ((spec_l25Glyph.f ((rd_T32 x202000 t203).f0) ((rd_T32 x202000 t203).f1) ((rd_T32 x202000 t203).f2)).bind fun bt231 => (some ((y225 ++ y222), wrap64 (x194001 + 1), x202002, bt231.1, bt231.2.1, bt231.2.2, true))) else (none)))) else (none))) else (none)) else (none))) else (none))) else (none))) else (none)) else (none)) else ((spec_l25Find.f k x2 x1).bind fun t236 => (if t236 < 0 then (some (x202000, x202001, x202002, 0, 0, ([] : List Int), false)) else (if 0 ≤ t236 then (if t236 < (x2.length : Int) then ((spec_l25Glyph.f ((rd_T32 x2 t236).f0) ((rd_T32 x2 t236).f1) ((rd_T32 x2 t236).f2)).bind fun bt238 => ((some (([(⟨bt238.1, bt238.2.1, bt238.2.2⟩ : S32)] : List (S32)) : List (S32))).bind fun y243 => (if y243.length + x202000.length < 3518437208883 then (spec_FetchGlyph.l0 k x2 t236 (y243 ++ x202000) x202001 (wrap64 (x194002 + 1))) else (none)))) else (none)) else (none))))))
def spec_FetchGlyph.l0 : Nat → List (S32) → Int → List (S32) → Int → Int → Option ((List (S32)) × Int × Int × Int × Int × List Int × Bool)
 | 0, _, _, _, _, _ => none
 | k + 1, x2, x13, x202000, x202001, x202002 => (spec_CacheSize.f k x202000 x202001 x202002).bind fun t249 => (if t249 > 20 then (if 0 ≤ (wrap64 ((x202000.length : Int) - 1)) then (if (wrap64 ((x202000.length : Int) - 1)) ≤ (x202000.length : Int) then (spec_FetchGlyph.l0 k x2 x13 (x202000.take ((wrap64 ((x202000.length : Int) - 1)) : Int).toNat) x202001 x202002) else (none)) else (none)) else (if 0 ≤ x13 then (if x13 < (x2.length : Int) then ((spec_l25Glyph.f ((rd_T32 x2 x13).f0) ((rd_T32 x2 x13).f1) ((rd_T32 x2 x13).f2)).bind fun bt254 => (some (x202000, x202001, x202002, bt254.1, bt254.2.1, bt254.2.2, true))) else (none)) else (none)))
end
def spec_FetchGlyph.f (k : Nat) (l0_0 : List (S32)) (a0_1 : Int) (a0_2 : Int) (a1 : Int) (l2 : List (S32)) : Option ((List (S32)) × Int × Int × Int × Int × List Int × Bool) := (spec_l25Copy.f k l0_0 a0_1 a0_2).bind fun bt196 => ((spec_CacheOk.f k l0_0 a0_1 a0_2).bind fun t202 => (if t202 = true then (if a0_1 = 100000 then (spec_FetchGlyph.j0 k a1 l2 true l0_0 a0_1 a0_2 bt196.1 bt196.2.1 bt196.2.2) else (spec_FetchGlyph.j0 k a1 l2 (a0_2 == 100000) l0_0 a0_1 a0_2 bt196.1 bt196.2.1 bt196.2.2)) else (spec_FetchGlyph.j0 k a1 l2 true l0_0 a0_1 a0_2 bt196.1 bt196.2.1 bt196.2.2)))
theorem spec_FetchGlyph.mono_l : ∀ k, (∀ y0 y1 y2 y3 y4 y5 y6 y7 y8, LeO (spec_FetchGlyph.j0 k y0 y1 y2 y3 y4 y5 y6 y7 y8) (spec_FetchGlyph.j0 (k + 1) y0 y1 y2 y3 y4 y5 y6 y7 y8)) ∧ (∀ y0 y1 y2 y3 y4, LeO (spec_FetchGlyph.l0 k y0 y1 y2 y3 y4) (spec_FetchGlyph.l0 (k + 1) y0 y1 y2 y3 y4))
 | 0 => ⟨fun _ _ _ _ _ _ _ _ _ r h => by simp [spec_FetchGlyph.j0] at h, fun _ _ _ _ _ r h => by simp [spec_FetchGlyph.l0] at h⟩
 | k + 1 => by
  obtain ⟨ih0, ih1⟩ := spec_FetchGlyph.mono_l k
  refine ⟨?_, ?_⟩
  ·intro y0 y1 y2 y3 y4 y5 y6 y7 y8
   unfold spec_FetchGlyph.j0
   repeat' first
   | (with_reducible exact ih0 _ _ _ _ _ _ _ _ _)
   | (with_reducible exact ih1 _ _ _ _ _)
   | (with_reducible exact spec_CacheOk.mono _ _ _ _)
   | (with_reducible exact spec_CacheSize.mono _ _ _ _)
   | (with_reducible exact spec_l25Copy.mono _ _ _ _)
   | (with_reducible exact spec_l25Find.mono _ _ _)
   | (with_reducible exact LeO.refl _)
   | (with_reducible exact LeO.none _)
   | (with_reducible refine LeO.ite ?_ ?_)
   | (with_reducible refine LeO.bind ?_ (fun _ => ?_))
   | exact ih0 _ _ _ _ _ _ _ _ _
   | exact ih1 _ _ _ _ _
   | exact spec_CacheOk.mono _ _ _ _
   | exact spec_CacheSize.mono _ _ _ _
   | exact spec_l25Copy.mono _ _ _ _
   | exact spec_l25Find.mono _ _ _
   | exact LeO.none _
   | refine LeO.ite ?_ ?_
   | refine LeO.bind ?_ (fun _ => ?_)
  ·intro y0 y1 y2 y3 y4
   unfold spec_FetchGlyph.l0
   repeat' first
   | (with_reducible exact ih0 _ _ _ _ _ _ _ _ _)
   | (with_reducible exact ih1 _ _ _ _ _)
   | (with_reducible exact spec_CacheOk.mono _ _ _ _)
   | (with_reducible exact spec_CacheSize.mono _ _ _ _)
   | (with_reducible exact spec_l25Copy.mono _ _ _ _)
   | (with_reducible exact spec_l25Find.mono _ _ _)
   | (with_reducible exact LeO.refl _)
   | (with_reducible exact LeO.none _)
   | (with_reducible refine LeO.ite ?_ ?_)
   | (with_reducible refine LeO.bind ?_ (fun _ => ?_))
   | exact ih0 _ _ _ _ _ _ _ _ _
   | exact ih1 _ _ _ _ _
   | exact spec_CacheOk.mono _ _ _ _
   | exact spec_CacheSize.mono _ _ _ _
   | exact spec_l25Copy.mono _ _ _ _
   | exact spec_l25Find.mono _ _ _
   | exact LeO.none _
   | refine LeO.ite ?_ ?_
   | refine LeO.bind ?_ (fun _ => ?_)
theorem spec_FetchGlyph.mono : ∀ a0 a1 a2 a3 a4 k, LeO (spec_FetchGlyph.f k a0 a1 a2 a3 a4) (spec_FetchGlyph.f (k + 1) a0 a1 a2 a3 a4) := by
 intro a0 a1 a2 a3 a4 k
 obtain ⟨ih0, ih1⟩ := spec_FetchGlyph.mono_l k
 unfold spec_FetchGlyph.f
 repeat' first
   | (with_reducible exact ih0 _ _ _ _ _ _ _ _ _)
   | (with_reducible exact ih1 _ _ _ _ _)
   | (with_reducible exact spec_CacheOk.mono _ _ _ _)
   | (with_reducible exact spec_CacheSize.mono _ _ _ _)
   | (with_reducible exact spec_l25Copy.mono _ _ _ _)
   | (with_reducible exact spec_l25Find.mono _ _ _)
   | (with_reducible exact LeO.refl _)
   | (with_reducible exact LeO.none _)
   | (with_reducible refine LeO.ite ?_ ?_)
   | (with_reducible refine LeO.bind ?_ (fun _ => ?_))
   | exact ih0 _ _ _ _ _ _ _ _ _
   | exact ih1 _ _ _ _ _
   | exact spec_CacheOk.mono _ _ _ _
   | exact spec_CacheSize.mono _ _ _ _
   | exact spec_l25Copy.mono _ _ _ _
   | exact spec_l25Find.mono _ _ _
   | exact LeO.none _
   | refine LeO.ite ?_ ?_
   | refine LeO.bind ?_ (fun _ => ?_)
def spec_FetchGlyph.T7 : Bool × List (List Nat × List Nat) := (true, [([], []), ([], []), ([1], [1]), ([], []), ([2, 3], [2, 3]), ([0, 4], [0, 4]), ([], []), ([6], [6]), ([], []), ([8], [8]), ([7, 9], [7, 9]), ([5, 10, 5], [5, 10]), ([11, 11, 0, 1, 2, 3, 4, 5, 6, 7, 8, 9, 10, 11], [11])])
def spec_FetchGlyph.B7 : List Nat := [0, 0, 2, 0, 14, 31, 0, 64, 0, 256, 960, 2047, 4095]
theorem spec_FetchGlyph.tab7 : rtab .any (opsOf Try.f25 7) = spec_FetchGlyph.T7 := by kernel_rfl
theorem spec_FetchGlyph.bits7 : waitsOk spec_FetchGlyph.T7.2 spec_FetchGlyph.B7 = true := by kernel_rfl
def spec_FetchGlyph.T14 : Bool × List (List Nat × List Nat) := (true, [([], []), ([], []), ([0, 1], [0, 1]), ([2], [2]), ([3], [3]), ([4], [4]), ([], []), ([6], [6]), ([5, 7, 4], [5, 7]), ([0, 1, 2, 3, 4, 5, 6, 7, 8], []), ([9, 8, 8, 0, 1, 2, 3, 4, 5, 6, 7, 8], [8, 9])])
def spec_FetchGlyph.B14 : List Nat := [0, 0, 3, 7, 15, 31, 0, 64, 255, 511, 1023]
theorem spec_FetchGlyph.tab14 : rtab .any (opsOf Try.f25 14) = spec_FetchGlyph.T14 := by kernel_rfl
theorem spec_FetchGlyph.bits14 : waitsOk spec_FetchGlyph.T14.2 spec_FetchGlyph.B14 = true := by kernel_rfl
def spec_FetchGlyph.T18 : Bool × List (List Nat × List Nat) := (true, [([], []), ([], []), ([], []), ([1, 2], [1, 2]), ([3], [3]), ([4], [4]), ([0, 5, 0], [0]), ([5, 6, 0, 1, 2, 3, 4, 5, 6], [5]), ([7, 0, 1, 2, 3, 4, 5, 6, 7], [])])
def spec_FetchGlyph.B18 : List Nat := [0, 0, 0, 6, 14, 30, 63, 127, 255]
theorem spec_FetchGlyph.tab18 : rtab .any (opsOf Try.f25 18) = spec_FetchGlyph.T18 := by kernel_rfl
theorem spec_FetchGlyph.bits18 : waitsOk spec_FetchGlyph.T18.2 spec_FetchGlyph.B18 = true := by kernel_rfl
set_option maxHeartbeats 8000000 in
set_option maxRecDepth 100000 in
theorem spec_FetchGlyph.calls (k : Nat) (A0_0 : Option Addr) (c0_0 : Nat) (l0_0 : List (S32)) (a0_1 : Int) (a0_2 : Int) (a1 : Int) (A2 : Option Addr) (c2 : Nat) (l2 : List (S32)) (r1 : List (S32)) (r2 : Int) (r3 : Int) (r4 : Int) (r5 : Int) (r6 : List Int) (r7 : Bool) (w : World) (hr0_0 : Kd.C k32 w A0_0 l0_0.length l0_0) (hc0_0 : l0_0.length ≤ c0_0) (hr2 : Kd.C k32 w A2 l2.length l2) (hc2 : l2.length ≤ c2) (h : spec_FetchGlyph.f k l0_0 a0_1 a0_2 a1 l2 = some (r1, r2, r3, r4, r5, r6, r7)) :
  Calls Try.prog 25 #[.agg #[.slice A0_0 l0_0.length c0_0, .int .i64 a0_1, .int .i64 a0_2], .int .i64 a1, .slice A2 l2.length c2] w fun e w' => ∃ v0_ v5_ : Value, e = .returned (.tuple #[.agg #[v0_, .int .i64 r2, .int .i64 r3], .agg #[.int .i64 r4, .int .i64 r5, v5_], .bool r7]) ∧ Kd.N k32 32 w' w.heap.size (fun k_ => (w.heap.size ≤ k_) ∧ some k_ ≠ (v5_ : Value).ownBlock) v0_ r1 ∧ Kd.R (Kd.int .i64) 3 w' w.heap.size (fun k_ => (w.heap.size ≤ k_)) v5_ r6 ∧ Below w.heap.size w w' := by
 have hu26 := Try.underlying26
 have hu32 := Try.underlying32
 have HR0_0 := Am hr0_0
 have HC0_0 := Am hc0_0
 clear hr0_0 hc0_0
 have HR2 := Am hr2
 have HC2 := Am hc2
 clear hr2 hc2
 have HB := Am (Below.refl w.heap.size w)
 have H : ((spec_l25Copy.f k l0_0 a0_1 a0_2).bind fun bt196 => ((spec_CacheOk.f k l0_0 a0_1 a0_2).bind fun t202 => (if t202 = true then (if a0_1 = 100000 then (spec_FetchGlyph.j0 k a1 l2 true l0_0 a0_1 a0_2 bt196.1 bt196.2.1 bt196.2.2) else (spec_FetchGlyph.j0 k a1 l2 (a0_2 == 100000) l0_0 a0_1 a0_2 bt196.1 bt196.2.1 bt196.2.2)) else (spec_FetchGlyph.j0 k a1 l2 true l0_0 a0_1 a0_2 bt196.1 bt196.2.1 bt196.2.2)))) = some (r1, r2, r3, r4, r5, r6, r7) := h
 clear h
 replace H := Option.bind_eq_some_iff.mp H
 obtain ⟨⟨t196, t199, t200⟩, A40, H⟩ := H
 replace H : ((spec_CacheOk.f k l0_0 a0_1 a0_2).bind fun t202 => (if t202 = true then (if a0_1 = 100000 then (spec_FetchGlyph.j0 k a1 l2 true l0_0 a0_1 a0_2 t196 t199 t200) else (spec_FetchGlyph.j0 k a1 l2 (a0_2 == 100000) l0_0 a0_1 a0_2 t196 t199 t200)) else (spec_FetchGlyph.j0 k a1 l2 true l0_0 a0_1 a0_2 t196 t199 t200))) = some (r1, r2, r3, r4, r5, r6, r7) := H
 have A4 := Am A40
 clear A40
 have HC5 := Am H
 clear H
 go_enter Try.func25, Try.ntmps25
 go_upto_region 2 with (first | ((with_reducible refine gate_dst (N := 3) rfl ?_); refine box_event ?hg (N := 3) ?hd (cs := #[.slice A0_0 l0_0.length c0_0, .int .i64 a0_1, .int .i64 a0_2]) (t := 26) ?hr ?_; (case hd => rfl); (case hg => rfl); (case hr => first | (go_simp; done) | (go_simp; rfl)); intro gb193 hg w6 hbox hb; have n0_ := Am (below_step (jzH HB) hb); have n1_ := Am (hbox); have n2_ := Am ((by rw [hg]; exact (below_size (jzH HB)) : w.heap.size ≤ gb193)); have n3_ := Am ((by rw [hg]; exact (below_size (jzH HB)) : w.heap.size ≤ gb193)); clear HB; have HB := n0_; have BK193 := n1_; have GW193 := n2_; have GE193 := n3_; clear n0_ n1_ n2_ n3_; clear hb hbox hg) | ((with_reducible refine gate_dst (N := 6) rfl ?_); refine box_event ?hg (N := 6) ?hd (cs := #[.slice none 0 0, .int .i64 0, .int .i64 0]) (t := 26) ?hr ?_; (case hd => rfl); (case hg => rfl); (case hr => first | (go_simp; done) | (go_simp; rfl)); intro gb194 hg w7 hbox hb; have n0_ := Am (blk_below (g := gb193) (o := .cells #[.slice A0_0 l0_0.length c0_0, .int .i64 a0_1, .int .i64 a0_2] 26 (0, 0)) (jzB BK193) hb); have n1_ := Am (below_step (jzG HB) hb); have n2_ := Am (hbox); have n3_ := Am ((by rw [hg]; exact (below_size (jzG HB)) : w.heap.size ≤ gb194)); have n4_ := Am ((by rw [hg]; exact (below_size (jzG HB)) : w.heap.size ≤ gb194)); have n5_ := Am ((by rw [hg]; exact Nat.ne_of_lt (blk_lt (g := gb193) (o := .cells #[.slice A0_0 l0_0.length c0_0, .int .i64 a0_1, .int .i64 a0_2] 26 (0, 0)) (jzB BK193)) : gb193 ≠ gb194)); have n6_ := Am ((by rw [hg]; exact Nat.ne_of_gt (blk_lt (g := gb193) (o := .cells #[.slice A0_0 l0_0.length c0_0, .int .i64 a0_1, .int .i64 a0_2] 26 (0, 0)) (jzB BK193)) : gb194 ≠ gb193)); clear BK193; clear HB; have BK193 := n0_; have HB := n1_; have BK194 := n2_; have GW194 := n3_; have GE194 := n4_; have NB193_194 := n5_; have NB194_193 := n6_; clear n0_ n1_ n2_ n3_ n4_ n5_ n6_; clear hb hbox hg) | ((with_reducible refine gate_dst (N := 7) rfl ?_); refine box_event ?hg (N := 7) ?hd (cs := #[.int .i64 0, .int .i64 0, .slice none 0 0]) (t := 32) ?hr ?_; (case hd => rfl); (case hg => rfl); (case hr => first | (go_simp; done) | (go_simp; rfl)); intro gb195 hg w8 hbox hb; have n0_ := Am (blk_below (g := gb193) (o := .cells #[.slice A0_0 l0_0.length c0_0, .int .i64 a0_1, .int .i64 a0_2] 26 (0, 0)) (jzB BK193) hb); have n1_ := Am (blk_below (g := gb194) (o := .cells #[.slice none 0 0, .int .i64 0, .int .i64 0] 26 (0, 0)) (jzB BK194) hb); have n2_ := Am (below_step (jzG HB) hb); have n3_ := Am (hbox); have n4_ := Am ((by rw [hg]; exact (below_size (jzG HB)) : w.heap.size ≤ gb195)); have n5_ := Am ((by rw [hg]; exact (below_size (jzG HB)) : w.heap.size ≤ gb195)); have n6_ := Am ((by rw [hg]; exact Nat.ne_of_lt (blk_lt (g := gb193) (o := .cells #[.slice A0_0 l0_0.length c0_0, .int .i64 a0_1, .int .i64 a0_2] 26 (0, 0)) (jzB BK193)) : gb193 ≠ gb195)); have n7_ := Am ((by rw [hg]; exact Nat.ne_of_gt (blk_lt (g := gb193) (o := .cells #[.slice A0_0 l0_0.length c0_0, .int .i64 a0_1, .int .i64 a0_2] 26 (0, 0)) (jzB BK193)) : gb195 ≠ gb193)); have n8_ := Am ((by rw [hg]; exact Nat.ne_of_lt (blk_lt (g := gb194) (o := .cells #[.slice none 0 0, .int .i64 0, .int .i64 0] 26 (0, 0)) (jzB BK194)) : gb194 ≠ gb195)); have n9_ := Am ((by rw [hg]; exact Nat.ne_of_gt (blk_lt (g := gb194) (o := .cells #[.slice none 0 0, .int .i64 0, .int .i64 0] 26 (0, 0)) (jzB BK194)) : gb195 ≠ gb194)); clear BK193; clear BK194; clear HB; have BK193 := n0_; have BK194 := n1_; have HB := n2_; have BK195 := n3_; have GW195 := n4_; have GE195 := n5_; have NB193_195 := n6_; have NB195_193 := n7_; have NB194_195 := n8_; have NB195_194 := n9_; clear n0_ n1_ n2_ n3_ n4_ n5_ n6_ n7_ n8_ n9_; clear hb hbox hg; have hnb9 := NB193_194.out; have hnc9 := NB194_193.out; have hnb10 := NB193_195.out; have hnc10 := NB195_193.out; have hcz11_0 : w8.cell? ⟨gb193, 0, none⟩ = some (.slice A0_0 l0_0.length c0_0) := (b8 BK193.out 0).trans rfl; have hcz11_1 : w8.cell? ⟨gb193, 1, none⟩ = some (.int .i64 a0_1) := (b8 BK193.out 1).trans rfl; have hcz11_2 : w8.cell? ⟨gb193, 2, none⟩ = some (.int .i64 a0_2) := (b8 BK193.out 2).trans rfl; have hfz11_0 := blk_frozen BK193.out 0; have hfz11_1 := blk_frozen BK193.out 1; have hfz11_2 := blk_frozen BK193.out 2) | ((with_reducible refine gate_callee (f := 41) rfl ?_); refine goesL_ (some 15) rfl rfl Try.func41 (by kernel_rfl) rfl #[.agg #[.slice A0_0 l0_0.length c0_0, .int .i64 a0_1, .int .i64 a0_2]] rfl jzA ?_; (with_reducible refine (spec_l25Copy.calls k _ _ l0_0 a0_1 a0_2 t196 t199 t200 _ ?side1 ?side2 A4.out).mono ?_); (case side1 => exact jzC HR0_0 HB); (case side2 => exact HC0_0.out); rintro e w12 ⟨v197, rfl, ho0, hb⟩; refine ⟨_, rfl, ?_⟩; have n0_ := Am (Kd.N_lower (Kd.N_mono (ok' := fun k_ => (w.heap.size ≤ k_) ∧ k_ ≠ gb193 ∧ k_ ≠ gb194 ∧ k_ ≠ gb195) (Kd.S_N (Kd.S_bound ho0)) (fun k_ hk_ => ⟨(Nat.le_trans (below_size (jzG HB)) hk_.2.1), (Kd.freshB (g := gb193) (o := .cells #[.slice A0_0 l0_0.length c0_0, .int .i64 a0_1, .int .i64 a0_2] 26 (0, 0)) (jzB BK193) k_ hk_.2.1), (Kd.freshB (g := gb194) (o := .cells #[.slice none 0 0, .int .i64 0, .int .i64 0] 26 (0, 0)) (jzB BK194) k_ hk_.2.1), (Kd.freshB (g := gb195) (o := .cells #[.int .i64 0, .int .i64 0, .slice none 0 0] 32 (0, 0)) (jzB BK195) k_ hk_.2.1)⟩)) (below_size (jzG HB))); have n1_ := Am (blk_below (g := gb193) (o := .cells #[.slice A0_0 l0_0.length c0_0, .int .i64 a0_1, .int .i64 a0_2] 26 (0, 0)) (jzB BK193) hb); have n2_ := Am (blk_below (g := gb194) (o := .cells #[.slice none 0 0, .int .i64 0, .int .i64 0] 26 (0, 0)) (jzB BK194) hb); have n3_ := Am (blk_below (g := gb195) (o := .cells #[.int .i64 0, .int .i64 0, .slice none 0 0] 32 (0, 0)) (jzB BK195) hb); have n4_ := Am (below_step (jzG HB) hb); clear BK193; clear BK194; clear BK195; clear HB; have HO198 := n0_; have BK193 := n1_; have BK194 := n2_; have BK195 := n3_; have HB := n4_; clear n0_ n1_ n2_ n3_ n4_; (try clear hb); (try clear hb2); (try clear hk); (try clear hi); (try clear ho0)) | ((with_reducible refine gate_dst (N := 9) rfl ?_); refine box_event ?hg (N := 9) ?hd (cs := #[.slice none 0 0, .int .i64 0, .int .i64 0]) (t := 26) ?hr ?_; (case hd => rfl); (case hg => rfl); (case hr => first | (go_simp; done) | (go_simp; rfl)); intro gb201 hg w13 hbox hb; have n0_ := Am (Kd.N_below (Kd.N_elderB (jzN HO198) gb201 (Nat.le_of_eq hg.symm)) hb); have n1_ := Am (blk_below (g := gb193) (o := .cells #[.slice A0_0 l0_0.length c0_0, .int .i64 a0_1, .int .i64 a0_2] 26 (0, 0)) (jzB BK193) hb); have n2_ := Am (blk_below (g := gb194) (o := .cells #[.slice none 0 0, .int .i64 0, .int .i64 0] 26 (0, 0)) (jzB BK194) hb); have n3_ := Am (blk_below (g := gb195) (o := .cells #[.int .i64 0, .int .i64 0, .slice none 0 0] 32 (0, 0)) (jzB BK195) hb); have n4_ := Am (below_step (jzG HB) hb); have n5_ := Am (hbox); have n6_ := Am ((by rw [hg]; exact (below_size (jzG HB)) : w.heap.size ≤ gb201)); have n7_ := Am ((by rw [hg]; exact (below_size (jzG HB)) : w.heap.size ≤ gb201)); have n8_ := Am ((by rw [hg]; exact Nat.ne_of_lt (blk_lt (g := gb193) (o := .cells #[.slice A0_0 l0_0.length c0_0, .int .i64 a0_1, .int .i64 a0_2] 26 (0, 0)) (jzB BK193)) : gb193 ≠ gb201)); have n9_ := Am ((by rw [hg]; exact Nat.ne_of_gt (blk_lt (g := gb193) (o := .cells #[.slice A0_0 l0_0.length c0_0, .int .i64 a0_1, .int .i64 a0_2] 26 (0, 0)) (jzB BK193)) : gb201 ≠ gb193)); have n10_ := Am ((by rw [hg]; exact Nat.ne_of_lt (blk_lt (g := gb194) (o := .cells #[.slice none 0 0, .int .i64 0, .int .i64 0] 26 (0, 0)) (jzB BK194)) : gb194 ≠ gb201)); have n11_ := Am ((by rw [hg]; exact Nat.ne_of_gt (blk_lt (g := gb194) (o := .cells #[.slice none 0 0, .int .i64 0, .int .i64 0] 26 (0, 0)) (jzB BK194)) : gb201 ≠ gb194)); have n12_ := Am ((by rw [hg]; exact Nat.ne_of_lt (blk_lt (g := gb195) (o := .cells #[.int .i64 0, .int .i64 0, .slice none 0 0] 32 (0, 0)) (jzB BK195)) : gb195 ≠ gb201)); have n13_ := Am ((by rw [hg]; exact Nat.ne_of_gt (blk_lt (g := gb195) (o := .cells #[.int .i64 0, .int .i64 0, .slice none 0 0] 32 (0, 0)) (jzB BK195)) : gb201 ≠ gb195)); clear HO198; clear BK193; clear BK194; clear BK195; clear HB; have HO198 := n0_; have BK193 := n1_; have BK194 := n2_; have BK195 := n3_; have HB := n4_; have BK201 := n5_; have GW201 := n6_; have GE201 := n7_; have NB193_201 := n8_; have NB201_193 := n9_; have NB194_201 := n10_; have NB201_194 := n11_; have NB195_201 := n12_; have NB201_195 := n13_; clear n0_ n1_ n2_ n3_ n4_ n5_ n6_ n7_ n8_ n9_ n10_ n11_ n12_ n13_; clear hb hbox hg; obtain ⟨Ao14, co14, eo14⟩ := Kd.N_slice HO198.out; subst eo14; have hnb15 := NB201_193.out; have hnc15 := NB193_201.out; have hnb16 := NB201_194.out; have hnc16 := NB194_201.out; have hnb17 := NB201_195.out; have hnc17 := NB195_201.out; have hcz18_0 : w13.cell? ⟨gb201, 0, none⟩ = some (.slice none 0 0) := (b8 BK201.out 0).trans rfl; have hcz18_1 : w13.cell? ⟨gb201, 1, none⟩ = some (.int .i64 0) := (b8 BK201.out 1).trans rfl; have hcz18_2 : w13.cell? ⟨gb201, 2, none⟩ = some (.int .i64 0) := (b8 BK201.out 2).trans rfl; have hfz18_0 := blk_frozen BK201.out 0; have hfz18_1 := blk_frozen BK201.out 1; have hfz18_2 := blk_frozen BK201.out 2))
 (try simp only [Act.put, zA, zB, zC])
 go_cut [28] (fun v28 wc => ∃ (kq : Nat) (x28_4 : Bool), v28 = .bool x28_4 ∧ Aside0 (spec_FetchGlyph.j0 kq a1 l2 x28_4 l0_0 a0_1 a0_2 t196 t199 t200 = some (r1, r2, r3, r4, r5, r6, r7)) ∧ Aside0 (kq ≤ k) ∧ Aside0 (Kd.N k32 32 wc w.heap.size (fun k_ => (w.heap.size ≤ k_) ∧ k_ ≠ gb193 ∧ k_ ≠ gb194 ∧ k_ ≠ gb195 ∧ k_ ≠ gb201) (.slice Ao14 t196.length co14) t196) ∧ Aside0 (wc.heap[gb193]? = some (.cells #[(.slice A0_0 l0_0.length c0_0), .int .i64 a0_1, .int .i64 a0_2] 26 (0, 0))) ∧ Aside0 (wc.heap[gb194]? = some (.cells #[(.slice none 0 0), .int .i64 0, .int .i64 0] 26 (0, 0))) ∧ Aside0 (wc.heap[gb195]? = some (.cells #[.int .i64 0, .int .i64 0, (.slice none 0 0)] 32 (0, 0))) ∧ Aside0 (wc.heap[gb201]? = some (.cells #[(.slice Ao14 t196.length co14), .int .i64 t199, .int .i64 t200] 26 (0, 0))) ∧ Aside0 (Below w.heap.size w wc))
 case first =>
  have H := HC5.out
  clear HC5
  replace H := Option.bind_eq_some_iff.mp H
  obtain ⟨t202, A190, H⟩ := H
  replace H : (if t202 = true then (if a0_1 = 100000 then (spec_FetchGlyph.j0 k a1 l2 true l0_0 a0_1 a0_2 t196 t199 t200) else (spec_FetchGlyph.j0 k a1 l2 (a0_2 == 100000) l0_0 a0_1 a0_2 t196 t199 t200)) else (spec_FetchGlyph.j0 k a1 l2 true l0_0 a0_1 a0_2 t196 t199 t200)) = some (r1, r2, r3, r4, r5, r6, r7) := H
  have A19 := Am A190
  clear A190
  by_cases c20 : t202 = true
  ·subst c20
   have H1 : (if a0_1 = 100000 then (spec_FetchGlyph.j0 k a1 l2 true l0_0 a0_1 a0_2 t196 t199 t200) else (spec_FetchGlyph.j0 k a1 l2 (a0_2 == 100000) l0_0 a0_1 a0_2 t196 t199 t200)) = some (r1, r2, r3, r4, r5, r6, r7) := by rw [if_pos rfl] at H; exact H
   clear H
   have H := H1
   clear H1
   by_cases c21 : a0_1 = 100000
   ·rw [if_pos c21] at H
    have c21b0 : (a0_1 == 100000) = true := beq_iff_eq.mpr c21
    have c21b1 : (a0_1 != 100000) = false := bne_eq_false_iff_eq.mpr c21
    clear c21
    (first | rw [c21b0] | (simp only [i64_w, i32_w]; rw [c21b0]) | skip)
    have H' := Am H
    clear H
    have hnb22 := NB193_194.out
    have hnc22 := NB194_193.out
    have hnb23 := NB193_195.out
    have hnc23 := NB195_193.out
    have hnb24 := NB193_201.out
    have hnc24 := NB201_193.out
    have hcz25_0 : w13.cell? ⟨gb193, 0, none⟩ = some (.slice A0_0 l0_0.length c0_0) := (b8 BK193.out 0).trans rfl
    have hcz25_1 : w13.cell? ⟨gb193, 1, none⟩ = some (.int .i64 a0_1) := (b8 BK193.out 1).trans rfl
    have hcz25_2 : w13.cell? ⟨gb193, 2, none⟩ = some (.int .i64 a0_2) := (b8 BK193.out 2).trans rfl
    have hfz25_0 := blk_frozen BK193.out 0
    have hfz25_1 := blk_frozen BK193.out 1
    have hfz25_2 := blk_frozen BK193.out 2
    go_wp2_with (first | ((with_reducible refine gate_callee (f := 43) rfl ?_); refine goesL_ (some 17) rfl rfl Try.func43 (by kernel_rfl) rfl #[.agg #[.slice A0_0 l0_0.length c0_0, .int .i64 a0_1, .int .i64 a0_2]] rfl jzA ?_; (with_reducible refine (spec_CacheOk.calls k _ _ l0_0 a0_1 a0_2 true _ ?side1 ?side2 A19.out).mono ?_); (case side1 => exact Kd.C_below HR0_0.out (jzG HB)); (case side2 => exact HC0_0.out); rintro e w26 ⟨rfl, hb⟩; refine ⟨_, rfl, ?_⟩; have n0_ := Am (Kd.N_below (by (with_reducible repeat (first | apply Kd.N_alloc | apply Kd.N_drewN | apply Kd.N_drew)); exact (Kd.N_mono (Kd.N_far (p := ⟨gb201, 2, none⟩) (Kd.N_far (p := ⟨gb201, 1, none⟩) (Kd.N_far (p := ⟨gb201, 0, none⟩) (Kd.N_mono HO198.out (fun k_ hk => (⟨hk, hk.2⟩ : _ ∧ k_ ≠ gb201))) (fun _ hk => hk.2) (.slice Ao14 t196.length co14)) (fun _ hk => hk.2) (.int .i64 t199)) (fun _ hk => hk.2) (.int .i64 t200)) (fun _ h_ => h_.1))) hb); have n1_ := Am (blk_below (g := gb193) (o := .cells #[.slice A0_0 l0_0.length c0_0, .int .i64 a0_1, .int .i64 a0_2] 26 (0, 0)) (jzF BK193 NB193_201) hb); have n2_ := Am (blk_below (g := gb194) (o := .cells #[.slice none 0 0, .int .i64 0, .int .i64 0] 26 (0, 0)) (jzF BK194 NB194_201) hb); have n3_ := Am (blk_below (g := gb195) (o := .cells #[.int .i64 0, .int .i64 0, .slice none 0 0] 32 (0, 0)) (jzF BK195 NB195_201) hb); have n4_ := Am (blk_below (g := gb201) (o := .cells #[.slice Ao14 t196.length co14, .int .i64 t199, .int .i64 t200] 26 (0, 0)) (by (with_reducible repeat (first | refine b1 ?_ _ | refine b2 ?_ | refine b3 ?_ _)); refine blk_put (cs := #[.slice Ao14 t196.length co14, .int .i64 t199, .int .i64 0]) ?_ 2 _ rfl; (with_reducible repeat (first | refine b1 ?_ _ | refine b2 ?_ | refine b3 ?_ _)); refine blk_put (cs := #[.slice Ao14 t196.length co14, .int .i64 0, .int .i64 0]) ?_ 1 _ rfl; (with_reducible repeat (first | refine b1 ?_ _ | refine b2 ?_ | refine b3 ?_ _)); refine blk_put (cs := #[.slice none 0 0, .int .i64 0, .int .i64 0]) ?_ 0 _ rfl; (with_reducible repeat (first | refine b1 ?_ _ | refine b2 ?_ | refine b3 ?_ _)); exact BK201.out) hb); have n5_ := Am (below_step (jzG HB) hb); clear HO198; clear BK193; clear BK194; clear BK195; clear BK201; clear HB; have HO198 := n0_; have BK193 := n1_; have BK194 := n2_; have BK195 := n3_; have BK201 := n4_; have HB := n5_; clear n0_ n1_ n2_ n3_ n4_ n5_; (try clear hb); (try clear hb2); (try clear hk); (try clear hi); have hcz27_0 : w26.cell? ⟨gb193, 0, none⟩ = some (.slice A0_0 l0_0.length c0_0) := (b8 BK193.out 0).trans rfl; have hcz27_1 : w26.cell? ⟨gb193, 1, none⟩ = some (.int .i64 a0_1) := (b8 BK193.out 1).trans rfl; have hcz27_2 : w26.cell? ⟨gb193, 2, none⟩ = some (.int .i64 a0_2) := (b8 BK193.out 2).trans rfl; have hfz27_0 := blk_frozen BK193.out 0; have hfz27_1 := blk_frozen BK193.out 1; have hfz27_2 := blk_frozen BK193.out 2))
    go_meet
    case rel => exact ⟨_, (true), (by first | rfl | (simp; done) | (simp [*]; done)), H', ⟨by first | omega | exact Nat.le_refl _⟩, ⟨by (with_reducible repeat (first | apply Kd.N_alloc | apply Kd.N_drewN | apply Kd.N_drew)); exact Kd.N_mono HO198.out (fun _ hk => ⟨hk.1.1, ⟨hk.1.2.1, ⟨hk.1.2.2.1, ⟨hk.1.2.2.2, hk.2⟩⟩⟩⟩)⟩, ⟨by (with_reducible repeat (first | refine b1 ?_ _ | refine b2 ?_ | refine b3 ?_ _)); exact BK193.out⟩, ⟨by (with_reducible repeat (first | refine b1 ?_ _ | refine b2 ?_ | refine b3 ?_ _)); exact BK194.out⟩, ⟨by (with_reducible repeat (first | refine b1 ?_ _ | refine b2 ?_ | refine b3 ?_ _)); exact BK195.out⟩, ⟨by (with_reducible repeat (first | refine b1 ?_ _ | refine b2 ?_ | refine b3 ?_ _)); exact BK201.out⟩, ⟨jzG HB⟩⟩
   ·rw [if_neg c21] at H
    have c21b0 : (a0_1 == 100000) = false := beq_eq_false_iff_ne.mpr c21
    have c21b1 : (a0_1 != 100000) = true := bne_iff_ne.mpr c21
    (first | rw [c21b0] | (simp only [i64_w, i32_w]; rw [c21b0]) | skip)
    have H' := Am H
    clear H
    have hnb28 := NB193_194.out
    have hnc28 := NB194_193.out
    have hnb29 := NB193_195.out
    have hnc29 := NB195_193.out
    have hnb30 := NB193_201.out
    have hnc30 := NB201_193.out
    have hcz31_0 : w13.cell? ⟨gb193, 0, none⟩ = some (.slice A0_0 l0_0.length c0_0) := (b8 BK193.out 0).trans rfl
    have hcz31_1 : w13.cell? ⟨gb193, 1, none⟩ = some (.int .i64 a0_1) := (b8 BK193.out 1).trans rfl
    have hcz31_2 : w13.cell? ⟨gb193, 2, none⟩ = some (.int .i64 a0_2) := (b8 BK193.out 2).trans rfl
    have hfz31_0 := blk_frozen BK193.out 0
    have hfz31_1 := blk_frozen BK193.out 1
    have hfz31_2 := blk_frozen BK193.out 2
    go_wp2_with (first | ((with_reducible refine gate_callee (f := 43) rfl ?_); refine goesL_ (some 17) rfl rfl Try.func43 (by kernel_rfl) rfl #[.agg #[.slice A0_0 l0_0.length c0_0, .int .i64 a0_1, .int .i64 a0_2]] rfl jzA ?_; (with_reducible refine (spec_CacheOk.calls k _ _ l0_0 a0_1 a0_2 true _ ?side1 ?side2 A19.out).mono ?_); (case side1 => exact Kd.C_below HR0_0.out (jzG HB)); (case side2 => exact HC0_0.out); rintro e w32 ⟨rfl, hb⟩; refine ⟨_, rfl, ?_⟩; have n0_ := Am (Kd.N_below (by (with_reducible repeat (first | apply Kd.N_alloc | apply Kd.N_drewN | apply Kd.N_drew)); exact (Kd.N_mono (Kd.N_far (p := ⟨gb201, 2, none⟩) (Kd.N_far (p := ⟨gb201, 1, none⟩) (Kd.N_far (p := ⟨gb201, 0, none⟩) (Kd.N_mono HO198.out (fun k_ hk => (⟨hk, hk.2⟩ : _ ∧ k_ ≠ gb201))) (fun _ hk => hk.2) (.slice Ao14 t196.length co14)) (fun _ hk => hk.2) (.int .i64 t199)) (fun _ hk => hk.2) (.int .i64 t200)) (fun _ h_ => h_.1))) hb); have n1_ := Am (blk_below (g := gb193) (o := .cells #[.slice A0_0 l0_0.length c0_0, .int .i64 a0_1, .int .i64 a0_2] 26 (0, 0)) (jzF BK193 NB193_201) hb); have n2_ := Am (blk_below (g := gb194) (o := .cells #[.slice none 0 0, .int .i64 0, .int .i64 0] 26 (0, 0)) (jzF BK194 NB194_201) hb); have n3_ := Am (blk_below (g := gb195) (o := .cells #[.int .i64 0, .int .i64 0, .slice none 0 0] 32 (0, 0)) (jzF BK195 NB195_201) hb); have n4_ := Am (blk_below (g := gb201) (o := .cells #[.slice Ao14 t196.length co14, .int .i64 t199, .int .i64 t200] 26 (0, 0)) (by (with_reducible repeat (first | refine b1 ?_ _ | refine b2 ?_ | refine b3 ?_ _)); refine blk_put (cs := #[.slice Ao14 t196.length co14, .int .i64 t199, .int .i64 0]) ?_ 2 _ rfl; (with_reducible repeat (first | refine b1 ?_ _ | refine b2 ?_ | refine b3 ?_ _)); refine blk_put (cs := #[.slice Ao14 t196.length co14, .int .i64 0, .int .i64 0]) ?_ 1 _ rfl; (with_reducible repeat (first | refine b1 ?_ _ | refine b2 ?_ | refine b3 ?_ _)); refine blk_put (cs := #[.slice none 0 0, .int .i64 0, .int .i64 0]) ?_ 0 _ rfl; (with_reducible repeat (first | refine b1 ?_ _ | refine b2 ?_ | refine b3 ?_ _)); exact BK201.out) hb); have n5_ := Am (below_step (jzG HB) hb); clear HO198; clear BK193; clear BK194; clear BK195; clear BK201; clear HB; have HO198 := n0_; have BK193 := n1_; have BK194 := n2_; have BK195 := n3_; have BK201 := n4_; have HB := n5_; clear n0_ n1_ n2_ n3_ n4_ n5_; (try clear hb); (try clear hb2); (try clear hk); (try clear hi); have hcz33_0 : w32.cell? ⟨gb193, 0, none⟩ = some (.slice A0_0 l0_0.length c0_0) := (b8 BK193.out 0).trans rfl; have hcz33_1 : w32.cell? ⟨gb193, 1, none⟩ = some (.int .i64 a0_1) := (b8 BK193.out 1).trans rfl; have hcz33_2 : w32.cell? ⟨gb193, 2, none⟩ = some (.int .i64 a0_2) := (b8 BK193.out 2).trans rfl; have hfz33_0 := blk_frozen BK193.out 0; have hfz33_1 := blk_frozen BK193.out 1; have hfz33_2 := blk_frozen BK193.out 2))
    go_meet
    case rel => exact ⟨_, ((a0_2 == 100000)), (by first | rfl | (simp; done) | (simp [*]; done)), H', ⟨by first | omega | exact Nat.le_refl _⟩, ⟨by (with_reducible repeat (first | apply Kd.N_alloc | apply Kd.N_drewN | apply Kd.N_drew)); exact Kd.N_mono HO198.out (fun _ hk => ⟨hk.1.1, ⟨hk.1.2.1, ⟨hk.1.2.2.1, ⟨hk.1.2.2.2, hk.2⟩⟩⟩⟩)⟩, ⟨by (with_reducible repeat (first | refine b1 ?_ _ | refine b2 ?_ | refine b3 ?_ _)); exact BK193.out⟩, ⟨by (with_reducible repeat (first | refine b1 ?_ _ | refine b2 ?_ | refine b3 ?_ _)); exact BK194.out⟩, ⟨by (with_reducible repeat (first | refine b1 ?_ _ | refine b2 ?_ | refine b3 ?_ _)); exact BK195.out⟩, ⟨by (with_reducible repeat (first | refine b1 ?_ _ | refine b2 ?_ | refine b3 ?_ _)); exact BK201.out⟩, ⟨jzG HB⟩⟩
  ·replace c20 := Bool.eq_false_iff.mpr c20
   subst c20
   have H1 : (spec_FetchGlyph.j0 k a1 l2 true l0_0 a0_1 a0_2 t196 t199 t200) = some (r1, r2, r3, r4, r5, r6, r7) := by rw [if_neg (show ¬ (false = true) by decide)] at H; exact H
   clear H
   have H := H1
   clear H1
   have H' := Am H
   clear H
   have hnb34 := NB193_194.out
   have hnc34 := NB194_193.out
   have hnb35 := NB193_195.out
   have hnc35 := NB195_193.out
   have hnb36 := NB193_201.out
   have hnc36 := NB201_193.out
   have hcz37_0 : w13.cell? ⟨gb193, 0, none⟩ = some (.slice A0_0 l0_0.length c0_0) := (b8 BK193.out 0).trans rfl
   have hcz37_1 : w13.cell? ⟨gb193, 1, none⟩ = some (.int .i64 a0_1) := (b8 BK193.out 1).trans rfl
   have hcz37_2 : w13.cell? ⟨gb193, 2, none⟩ = some (.int .i64 a0_2) := (b8 BK193.out 2).trans rfl
   have hfz37_0 := blk_frozen BK193.out 0
   have hfz37_1 := blk_frozen BK193.out 1
   have hfz37_2 := blk_frozen BK193.out 2
   go_wp2_with (first | ((with_reducible refine gate_callee (f := 43) rfl ?_); refine goesL_ (some 17) rfl rfl Try.func43 (by kernel_rfl) rfl #[.agg #[.slice A0_0 l0_0.length c0_0, .int .i64 a0_1, .int .i64 a0_2]] rfl jzA ?_; (with_reducible refine (spec_CacheOk.calls k _ _ l0_0 a0_1 a0_2 false _ ?side1 ?side2 A19.out).mono ?_); (case side1 => exact Kd.C_below HR0_0.out (jzG HB)); (case side2 => exact HC0_0.out); rintro e w38 ⟨rfl, hb⟩; refine ⟨_, rfl, ?_⟩; have n0_ := Am (Kd.N_below (by (with_reducible repeat (first | apply Kd.N_alloc | apply Kd.N_drewN | apply Kd.N_drew)); exact (Kd.N_mono (Kd.N_far (p := ⟨gb201, 2, none⟩) (Kd.N_far (p := ⟨gb201, 1, none⟩) (Kd.N_far (p := ⟨gb201, 0, none⟩) (Kd.N_mono HO198.out (fun k_ hk => (⟨hk, hk.2⟩ : _ ∧ k_ ≠ gb201))) (fun _ hk => hk.2) (.slice Ao14 t196.length co14)) (fun _ hk => hk.2) (.int .i64 t199)) (fun _ hk => hk.2) (.int .i64 t200)) (fun _ h_ => h_.1))) hb); have n1_ := Am (blk_below (g := gb193) (o := .cells #[.slice A0_0 l0_0.length c0_0, .int .i64 a0_1, .int .i64 a0_2] 26 (0, 0)) (jzF BK193 NB193_201) hb); have n2_ := Am (blk_below (g := gb194) (o := .cells #[.slice none 0 0, .int .i64 0, .int .i64 0] 26 (0, 0)) (jzF BK194 NB194_201) hb); have n3_ := Am (blk_below (g := gb195) (o := .cells #[.int .i64 0, .int .i64 0, .slice none 0 0] 32 (0, 0)) (jzF BK195 NB195_201) hb); have n4_ := Am (blk_below (g := gb201) (o := .cells #[.slice Ao14 t196.length co14, .int .i64 t199, .int .i64 t200] 26 (0, 0)) (by (with_reducible repeat (first | refine b1 ?_ _ | refine b2 ?_ | refine b3 ?_ _)); refine blk_put (cs := #[.slice Ao14 t196.length co14, .int .i64 t199, .int .i64 0]) ?_ 2 _ rfl; (with_reducible repeat (first | refine b1 ?_ _ | refine b2 ?_ | refine b3 ?_ _)); refine blk_put (cs := #[.slice Ao14 t196.length co14, .int .i64 0, .int .i64 0]) ?_ 1 _ rfl; (with_reducible repeat (first | refine b1 ?_ _ | refine b2 ?_ | refine b3 ?_ _)); refine blk_put (cs := #[.slice none 0 0, .int .i64 0, .int .i64 0]) ?_ 0 _ rfl; (with_reducible repeat (first | refine b1 ?_ _ | refine b2 ?_ | refine b3 ?_ _)); exact BK201.out) hb); have n5_ := Am (below_step (jzG HB) hb); clear HO198; clear BK193; clear BK194; clear BK195; clear BK201; clear HB; have HO198 := n0_; have BK193 := n1_; have BK194 := n2_; have BK195 := n3_; have BK201 := n4_; have HB := n5_; clear n0_ n1_ n2_ n3_ n4_ n5_; (try clear hb); (try clear hb2); (try clear hk); (try clear hi)))
   go_meet
   case rel => exact ⟨_, (true), (by first | rfl | (simp; done) | (simp [*]; done)), H', ⟨by first | omega | exact Nat.le_refl _⟩, ⟨by (with_reducible repeat (first | apply Kd.N_alloc | apply Kd.N_drewN | apply Kd.N_drew)); exact Kd.N_mono HO198.out (fun _ hk => ⟨hk.1.1, ⟨hk.1.2.1, ⟨hk.1.2.2.1, ⟨hk.1.2.2.2, hk.2⟩⟩⟩⟩)⟩, ⟨by (with_reducible repeat (first | refine b1 ?_ _ | refine b2 ?_ | refine b3 ?_ _)); exact BK193.out⟩, ⟨by (with_reducible repeat (first | refine b1 ?_ _ | refine b2 ?_ | refine b3 ?_ _)); exact BK194.out⟩, ⟨by (with_reducible repeat (first | refine b1 ?_ _ | refine b2 ?_ | refine b3 ?_ _)); exact BK195.out⟩, ⟨by (with_reducible repeat (first | refine b1 ?_ _ | refine b2 ?_ | refine b3 ?_ _)); exact BK201.out⟩, ⟨jzG HB⟩⟩
 case rest =>
  clear HC5
  try clear c1
  try clear c2
  try clear p2
  try clear c3
  try clear c4
  try clear c9
  try clear c10
  try clear c15
  try clear c16
  try clear c17
  try clear c20
  try clear c21
  try clear c21b0
  try clear c21b1
  try clear c22
  try clear c23
  try clear c24
  try clear c25
  try clear c28
  try clear c29
  try clear c30
  try clear c34
  try clear c35
  try clear c36
  try clear hcz11_0
  try clear hcz11_1
  try clear hcz11_2
  try clear hcz18_0
  try clear hcz18_1
  try clear hcz18_2
  try clear hcz25_0
  try clear hcz25_1
  try clear hcz25_2
  try clear hcz27_0
  try clear hcz27_1
  try clear hcz27_2
  try clear hcz31_0
  try clear hcz31_1
  try clear hcz31_2
  try clear hcz33_0
  try clear hcz33_1
  try clear hcz33_2
  try clear hcz37_0
  try clear hcz37_1
  try clear hcz37_2
  try clear hfz11_0
  try clear hfz11_1
  try clear hfz11_2
  try clear hfz18_0
  try clear hfz18_1
  try clear hfz18_2
  try clear hfz25_0
  try clear hfz25_1
  try clear hfz25_2
  try clear hfz27_0
  try clear hfz27_1
  try clear hfz27_2
  try clear hfz31_0
  try clear hfz31_1
  try clear hfz31_2
  try clear hfz33_0
  try clear hfz33_1
  try clear hfz33_2
  try clear hfz37_0
  try clear hfz37_1
  try clear hfz37_2
  obtain ⟨kq, x28_4, rfl, HA, HJ4, HO_202000, BK193, BK194, BK195, BK201, HB⟩ := hcut
  cases kq with
  | zero => exact absurd HA.out (by simp [spec_FetchGlyph.j0])
  | succ kj4 =>
   have H := HA.out
   clear HA
   simp only [spec_FetchGlyph.j0] at H
   by_cases c39 : x28_4 = true
   ·subst c39
    have H1 : (some (t196, t199, t200, 0, 0, ([] : List Int), false)) = some (r1, r2, r3, r4, r5, r6, r7) := by rw [if_pos rfl] at H; exact H
    clear H
    have H := H1
    clear H1
    simp only [Option.some.injEq, Prod.mk.injEq] at H
    obtain ⟨rfl, rfl, rfl, rfl, rfl, rfl, rfl⟩ := H
    have hnb40 := NB201_193.out
    have hnc40 := NB193_201.out
    have hnb41 := NB201_194.out
    have hnc41 := NB194_201.out
    have hnb42 := NB201_195.out
    have hnc42 := NB195_201.out
    have hcz43_0 : wc.cell? ⟨gb201, 0, none⟩ = some (.slice Ao14 t196.length co14) := (b8 BK201.out 0).trans rfl
    have hcz43_1 : wc.cell? ⟨gb201, 1, none⟩ = some (.int .i64 t199) := (b8 BK201.out 1).trans rfl
    have hcz43_2 : wc.cell? ⟨gb201, 2, none⟩ = some (.int .i64 t200) := (b8 BK201.out 2).trans rfl
    have hfz43_0 := blk_frozen BK201.out 0
    have hfz43_1 := blk_frozen BK201.out 1
    have hfz43_2 := blk_frozen BK201.out 2
    have hnb44 := NB194_193.out
    have hnc44 := NB193_194.out
    have hnb45 := NB194_195.out
    have hnc45 := NB195_194.out
    have hcz46_0 : wc.cell? ⟨gb194, 0, none⟩ = some (.slice none 0 0) := (b8 BK194.out 0).trans rfl
    have hcz46_1 : wc.cell? ⟨gb194, 1, none⟩ = some (.int .i64 0) := (b8 BK194.out 1).trans rfl
    have hcz46_2 : wc.cell? ⟨gb194, 2, none⟩ = some (.int .i64 0) := (b8 BK194.out 2).trans rfl
    have hfz46_0 := blk_frozen BK194.out 0
    have hfz46_1 := blk_frozen BK194.out 1
    have hfz46_2 := blk_frozen BK194.out 2
    have hnb47 := NB195_193.out
    have hnc47 := NB193_195.out
    have hcz48_0 : wc.cell? ⟨gb195, 0, none⟩ = some (.int .i64 0) := (b8 BK195.out 0).trans rfl
    have hcz48_1 : wc.cell? ⟨gb195, 1, none⟩ = some (.int .i64 0) := (b8 BK195.out 1).trans rfl
    have hcz48_2 : wc.cell? ⟨gb195, 2, none⟩ = some (.slice none 0 0) := (b8 BK195.out 2).trans rfl
    have hfz48_0 := blk_frozen BK195.out 0
    have hfz48_1 := blk_frozen BK195.out 1
    have hfz48_2 := blk_frozen BK195.out 2
    go_wp2
    refine bodyPost_ret (results_list (rs := [.cell 6 26, .cell 7 32, .tmp 8]) rfl (by simp) (.cell gb194 26 #[.slice Ao14 t196.length co14, .int .i64 t199, .int .i64 t200] (0, 0) _ rfl (by (with_reducible repeat (first | refine b1 ?_ _ | refine b2 ?_ | refine b3 ?_ _)); refine blk_far ?_ NB194_195.out _; (with_reducible repeat (first | refine b1 ?_ _ | refine b2 ?_ | refine b3 ?_ _)); refine blk_far ?_ NB194_195.out _; (with_reducible repeat (first | refine b1 ?_ _ | refine b2 ?_ | refine b3 ?_ _)); refine blk_far ?_ NB194_195.out _; (with_reducible repeat (first | refine b1 ?_ _ | refine b2 ?_ | refine b3 ?_ _)); refine blk_put (cs := #[.slice Ao14 t196.length co14, .int .i64 t199, .int .i64 0]) ?_ 2 _ rfl; (with_reducible repeat (first | refine b1 ?_ _ | refine b2 ?_ | refine b3 ?_ _)); refine blk_put (cs := #[.slice Ao14 t196.length co14, .int .i64 0, .int .i64 0]) ?_ 1 _ rfl; (with_reducible repeat (first | refine b1 ?_ _ | refine b2 ?_ | refine b3 ?_ _)); refine blk_put (cs := #[.slice none 0 0, .int .i64 0, .int .i64 0]) ?_ 0 _ rfl; (with_reducible repeat (first | refine b1 ?_ _ | refine b2 ?_ | refine b3 ?_ _)); exact BK194.out) Try.underlying26 rfl (by kernel_rfl) (.cell gb195 32 #[.int .i64 0, .int .i64 0, .slice none 0 0] (0, 0) _ rfl (by (with_reducible repeat (first | refine b1 ?_ _ | refine b2 ?_ | refine b3 ?_ _)); refine blk_put (cs := #[.int .i64 0, .int .i64 0, .slice none 0 0]) ?_ 2 _ rfl; (with_reducible repeat (first | refine b1 ?_ _ | refine b2 ?_ | refine b3 ?_ _)); refine blk_put (cs := #[.int .i64 0, .int .i64 0, .slice none 0 0]) ?_ 1 _ rfl; (with_reducible repeat (first | refine b1 ?_ _ | refine b2 ?_ | refine b3 ?_ _)); refine blk_put (cs := #[.int .i64 0, .int .i64 0, .slice none 0 0]) ?_ 0 _ rfl; (with_reducible repeat (first | refine b1 ?_ _ | refine b2 ?_ | refine b3 ?_ _)); refine blk_far ?_ NB195_194.out _; (with_reducible repeat (first | refine b1 ?_ _ | refine b2 ?_ | refine b3 ?_ _)); refine blk_far ?_ NB195_194.out _; (with_reducible repeat (first | refine b1 ?_ _ | refine b2 ?_ | refine b3 ?_ _)); refine blk_far ?_ NB195_194.out _; (with_reducible repeat (first | refine b1 ?_ _ | refine b2 ?_ | refine b3 ?_ _)); exact BK195.out) Try.underlying32 rfl (by kernel_rfl) (.tmp .nil)))) rfl ?_
    exact ⟨_, _, by first | rfl | (simp [errW_none, errW_some] <;> rfl) | (simp [*, errW_none, errW_some] <;> rfl), by (with_reducible repeat (first | apply Kd.N_alloc | apply Kd.N_drewN | apply Kd.N_drew)); exact Kd.N_mono (Kd.N_far (p := ⟨gb195, 2, none⟩) (Kd.N_far (p := ⟨gb195, 1, none⟩) (Kd.N_far (p := ⟨gb195, 0, none⟩) (Kd.N_far (p := ⟨gb194, 2, none⟩) (Kd.N_far (p := ⟨gb194, 1, none⟩) (Kd.N_far (p := ⟨gb194, 0, none⟩) (Kd.N_mono (Kd.N_mono HO_202000.out (fun k_ hk => (⟨hk, hk.2.2.1⟩ : _ ∧ k_ ≠ gb194))) (fun k_ hk => (⟨hk, hk.1.2.2.2.1⟩ : _ ∧ k_ ≠ gb195))) (fun _ hk => hk.1.2) (.slice Ao14 t196.length co14)) (fun _ hk => hk.1.2) (.int .i64 t199)) (fun _ hk => hk.1.2) (.int .i64 t200)) (fun _ hk => hk.2) (.int .i64 0)) (fun _ hk => hk.2) (.int .i64 0)) (fun _ hk => hk.2) (.slice none 0 0)) (fun _ hk => ⟨hk.1.1.1, (by simp [Value.ownBlock])⟩), by first | exact Kd.R_nil _ _ _ _ _ | exact Kd.N_nil _ _ _ _ _ | exact Kd.V_nil _ _ _ _ _ | exact Kd.Q_nil _ _ _ _ _ | exact Kd.S_nil _ _ _ _ _, jzG HB⟩
   ·replace c39 := Bool.eq_false_iff.mpr c39
    subst c39
    have H1 : ((spec_l25Find.f kj4 l0_0 a1).bind fun t203 => (if t203 ≥ 0 then (if 0 ≤ t203 then (if t203 < (t196.length : Int) then ((some (([] : List (S32)) : List (S32))).bind fun y206 => (if t203 ≤ (t196.length : Int) then ((some (t196.take (t203 : Int).toNat : List (S32))).bind fun y209 => (if y206.length + y209.length < 3518437208883 then ((some (y206 ++ y209 : List (S32))).bind fun y214 => (if 0 ≤ (wrap64 (t203 + 1)) then (if (wrap64 (t203 + 1)) ≤ (t196.length : Int) then ((some (t196.drop ((wrap64 (t203 + 1)) : Int).toNat : List (S32))).bind fun y217 => (if y214.length + y217.length < 3518437208883 then ((some (y214 ++ y217 : List (S32))).bind fun y222 => ((some (([(⟨(rd_T32 t196 t203).f0, (rd_T32 t196 t203).f1, (rd_T32 t196 t203).f2⟩ : S32)] : List (S32)) : List (S32))).bind fun y225 => (if y225.length + y222.length < 3518437208883 then ((spec_l25Glyph.f ((rd_T32 t196 t203).f0) ((rd_T32 t196 t203).f1) ((rd_T32 t196 t203).f2)).bind fun bt231 => (some ((y225 ++ y222), wrap64 (a0_1 + 1), t200, bt231.1, bt231.2.1, bt231.2.2, true))) else (none)))) else (none))) else (none)) else (none))) else (none))) else (none))) else (none)) else (none)) else ((spec_l25Find.f kj4 l2 a1).bind fun t236 => (if t236 < 0 then (some (t196, t199, t200, 0, 0, ([] : List Int), false)) else (if 0 ≤ t236 then (if t236 < (l2.length : Int) then ((spec_l25Glyph.f ((rd_T32 l2 t236).f0) ((rd_T32 l2 t236).f1) ((rd_T32 l2 t236).f2)).bind fun bt238 => ((some (([(⟨bt238.1, bt238.2.1, bt238.2.2⟩ : S32)] : List (S32)) : List (S32))).bind fun y243 => (if y243.length + t196.length < 3518437208883 then (spec_FetchGlyph.l0 kj4 l2 t236 (y243 ++ t196) t199 (wrap64 (a0_2 + 1))) else (none)))) else (none)) else (none)))))) = some (r1, r2, r3, r4, r5, r6, r7) := by rw [if_neg (show ¬ (false = true) by decide)] at H; exact H
    clear H
    have H := H1
    clear H1
    replace H := Option.bind_eq_some_iff.mp H
    obtain ⟨t203, A490, H⟩ := H
    replace H : (if t203 ≥ 0 then (if 0 ≤ t203 then (if t203 < (t196.length : Int) then ((some (([] : List (S32)) : List (S32))).bind fun y206 => (if t203 ≤ (t196.length : Int) then ((some (t196.take (t203 : Int).toNat : List (S32))).bind fun y209 => (if y206.length + y209.length < 3518437208883 then ((some (y206 ++ y209 : List (S32))).bind fun y214 => (if 0 ≤ (wrap64 (t203 + 1)) then (if (wrap64 (t203 + 1)) ≤ (t196.length : Int) then ((some (t196.drop ((wrap64 (t203 + 1)) : Int).toNat : List (S32))).bind fun y217 => (if y214.length + y217.length < 3518437208883 then ((some (y214 ++ y217 : List (S32))).bind fun y222 => ((some (([(⟨(rd_T32 t196 t203).f0, (rd_T32 t196 t203).f1, (rd_T32 t196 t203).f2⟩ : S32)] : List (S32)) : List (S32))).bind fun y225 => (if y225.length + y222.length < 3518437208883 then ((spec_l25Glyph.f ((rd_T32 t196 t203).f0) ((rd_T32 t196 t203).f1) ((rd_T32 t196 t203).f2)).bind fun bt231 => (some ((y225 ++ y222), wrap64 (a0_1 + 1), t200, bt231.1, bt231.2.1, bt231.2.2, true))) else (none)))) else (none))) else (none)) else (none))) else (none))) else (none))) else (none)) else (none)) else ((spec_l25Find.f kj4 l2 a1).bind fun t236 => (if t236 < 0 then (some (t196, t199, t200, 0, 0, ([] : List Int), false)) else (if 0 ≤ t236 then (if t236 < (l2.length : Int) then ((spec_l25Glyph.f ((rd_T32 l2 t236).f0) ((rd_T32 l2 t236).f1) ((rd_T32 l2 t236).f2)).bind fun bt238 => ((some (([(⟨bt238.1, bt238.2.1, bt238.2.2⟩ : S32)] : List (S32)) : List (S32))).bind fun y243 => (if y243.length + t196.length < 3518437208883 then (spec_FetchGlyph.l0 kj4 l2 t236 (y243 ++ t196) t199 (wrap64 (a0_2 + 1))) else (none)))) else (none)) else (none))))) = some (r1, r2, r3, r4, r5, r6, r7) := H
    have A49 := Am A490
    clear A490
    by_cases c50 : t203 ≥ 0
    ·rw [if_pos c50] at H
     have c50b0 : decide (0 ≤ t203) = true := decide_eq_true c50
     clear c50
     by_cases c51 : 0 ≤ t203
     ·rw [if_pos c51] at H
      have c51b0 : decide (0 ≤ t203) = true := decide_eq_true c51
      clear c51
      by_cases c52 : t203 < (t196.length : Int)
      ·rw [if_pos c52] at H
       have c52b0 : decide (t203 < (t196.length : Int)) = true := decide_eq_true c52
       clear c52
       obtain ⟨y206, hy206⟩ : ∃ y_ : List (S32), y_ = (([] : List (S32))) := ⟨_, rfl⟩
       replace H : (if t203 ≤ (t196.length : Int) then ((some (t196.take (t203 : Int).toNat : List (S32))).bind fun y209 => (if y206.length + y209.length < 3518437208883 then ((some (y206 ++ y209 : List (S32))).bind fun y214 => (if 0 ≤ (wrap64 (t203 + 1)) then (if (wrap64 (t203 + 1)) ≤ (t196.length : Int) then ((some (t196.drop ((wrap64 (t203 + 1)) : Int).toNat : List (S32))).bind fun y217 => (if y214.length + y217.length < 3518437208883 then ((some (y214 ++ y217 : List (S32))).bind fun y222 => ((some (([(⟨(rd_T32 t196 t203).f0, (rd_T32 t196 t203).f1, (rd_T32 t196 t203).f2⟩ : S32)] : List (S32)) : List (S32))).bind fun y225 => (if y225.length + y222.length < 3518437208883 then ((spec_l25Glyph.f ((rd_T32 t196 t203).f0) ((rd_T32 t196 t203).f1) ((rd_T32 t196 t203).f2)).bind fun bt231 => (some ((y225 ++ y222), wrap64 (a0_1 + 1), t200, bt231.1, bt231.2.1, bt231.2.2, true))) else (none)))) else (none))) else (none)) else (none))) else (none))) else (none)) = some (r1, r2, r3, r4, r5, r6, r7) := by first | (rw [hy206]; with_reducible exact H) | (have H2_ := (Option.bind_some _ _).symm.trans H; rw [hy206]; with_reducible exact H2_) | (have H2_ := (Option.bind_some _ _).symm.trans H; with_reducible exact H2_) | with_reducible exact H | (rw [hy206]; exact H) | exact H
       have Ny206 := Am hy206
       clear hy206
       have c53b0 := eq_true (of_decide_eq_true jzS : 0 ≤ t203)
       by_cases c54 : t203 ≤ (t196.length : Int)
       ·rw [if_pos c54] at H
        have c54b0 := eq_true c54
        have c54b1 : decide (t203 ≤ (t196.length : Int)) = true := decide_eq_true c54
        clear c54
        obtain ⟨y209, hy209⟩ : ∃ y_ : List (S32), y_ = (t196.take (t203 : Int).toNat) := ⟨_, rfl⟩
        replace H : (if y206.length + y209.length < 3518437208883 then ((some (y206 ++ y209 : List (S32))).bind fun y214 => (if 0 ≤ (wrap64 (t203 + 1)) then (if (wrap64 (t203 + 1)) ≤ (t196.length : Int) then ((some (t196.drop ((wrap64 (t203 + 1)) : Int).toNat : List (S32))).bind fun y217 => (if y214.length + y217.length < 3518437208883 then ((some (y214 ++ y217 : List (S32))).bind fun y222 => ((some (([(⟨(rd_T32 t196 t203).f0, (rd_T32 t196 t203).f1, (rd_T32 t196 t203).f2⟩ : S32)] : List (S32)) : List (S32))).bind fun y225 => (if y225.length + y222.length < 3518437208883 then ((spec_l25Glyph.f ((rd_T32 t196 t203).f0) ((rd_T32 t196 t203).f1) ((rd_T32 t196 t203).f2)).bind fun bt231 => (some ((y225 ++ y222), wrap64 (a0_1 + 1), t200, bt231.1, bt231.2.1, bt231.2.2, true))) else (none)))) else (none))) else (none)) else (none))) else (none)) = some (r1, r2, r3, r4, r5, r6, r7) := by first | (rw [hy209]; with_reducible exact H) | (have H2_ := (Option.bind_some _ _).symm.trans H; rw [hy209]; with_reducible exact H2_) | (have H2_ := (Option.bind_some _ _).symm.trans H; with_reducible exact H2_) | with_reducible exact H | (rw [hy209]; exact H) | exact H
        have Ny209 := Am hy209
        clear hy209
        by_cases c55 : y206.length + y209.length < 3518437208883
        ·rw [if_pos c55] at H
         have LMc55 := Am c55
         clear c55
         obtain ⟨y214, hy214⟩ : ∃ y_ : List (S32), y_ = (y206 ++ y209) := ⟨_, rfl⟩
         replace H : (if 0 ≤ (wrap64 (t203 + 1)) then (if (wrap64 (t203 + 1)) ≤ (t196.length : Int) then ((some (t196.drop ((wrap64 (t203 + 1)) : Int).toNat : List (S32))).bind fun y217 => (if y214.length + y217.length < 3518437208883 then ((some (y214 ++ y217 : List (S32))).bind fun y222 => ((some (([(⟨(rd_T32 t196 t203).f0, (rd_T32 t196 t203).f1, (rd_T32 t196 t203).f2⟩ : S32)] : List (S32)) : List (S32))).bind fun y225 => (if y225.length + y222.length < 3518437208883 then ((spec_l25Glyph.f ((rd_T32 t196 t203).f0) ((rd_T32 t196 t203).f1) ((rd_T32 t196 t203).f2)).bind fun bt231 => (some ((y225 ++ y222), wrap64 (a0_1 + 1), t200, bt231.1, bt231.2.1, bt231.2.2, true))) else (none)))) else (none))) else (none)) else (none)) = some (r1, r2, r3, r4, r5, r6, r7) := by first | (rw [hy214]; with_reducible exact H) | (have H2_ := (Option.bind_some _ _).symm.trans H; rw [hy214]; with_reducible exact H2_) | (have H2_ := (Option.bind_some _ _).symm.trans H; with_reducible exact H2_) | with_reducible exact H | (rw [hy214]; exact H) | exact H
         have Ny214 := Am hy214
         clear hy214
         obtain ⟨ji56, hji56⟩ : ∃ j_ : Int, (wrap64 (t203 + 1)) = j_ := ⟨_, rfl⟩
         replace H : (if 0 ≤ (ji56) then (if (ji56) ≤ (t196.length : Int) then ((some (t196.drop ((ji56) : Int).toNat : List (S32))).bind fun y217 => (if y214.length + y217.length < 3518437208883 then ((some (y214 ++ y217 : List (S32))).bind fun y222 => ((some (([(⟨(rd_T32 t196 t203).f0, (rd_T32 t196 t203).f1, (rd_T32 t196 t203).f2⟩ : S32)] : List (S32)) : List (S32))).bind fun y225 => (if y225.length + y222.length < 3518437208883 then ((spec_l25Glyph.f ((rd_T32 t196 t203).f0) ((rd_T32 t196 t203).f1) ((rd_T32 t196 t203).f2)).bind fun bt231 => (some ((y225 ++ y222), wrap64 (a0_1 + 1), t200, bt231.1, bt231.2.1, bt231.2.2, true))) else (none)))) else (none))) else (none)) else (none)) = some (r1, r2, r3, r4, r5, r6, r7) := by first | (rw [hji56] at H; exact H) | (simp only [hji56] at H ⊢; exact H)
         (try rw [hji56] at A49)
         have hji56w : (IntKind.i64.wrap (t203 + 1)) = ji56 := (i64_w _).trans hji56
         by_cases c57 : 0 ≤ (ji56)
         ·rw [if_pos c57] at H
          have c57b0 := eq_true c57
          have c57b1 : decide (0 ≤ (ji56)) = true := decide_eq_true c57
          clear c57
          by_cases c58 : (ji56) ≤ (t196.length : Int)
          ·rw [if_pos c58] at H
           have c58b0 := eq_true c58
           have c58b1 : decide ((ji56) ≤ (t196.length : Int)) = true := decide_eq_true c58
           clear c58
           obtain ⟨y217, hy217⟩ : ∃ y_ : List (S32), y_ = (t196.drop ((ji56) : Int).toNat) := ⟨_, rfl⟩
           replace H : (if y214.length + y217.length < 3518437208883 then ((some (y214 ++ y217 : List (S32))).bind fun y222 => ((some (([(⟨(rd_T32 t196 t203).f0, (rd_T32 t196 t203).f1, (rd_T32 t196 t203).f2⟩ : S32)] : List (S32)) : List (S32))).bind fun y225 => (if y225.length + y222.length < 3518437208883 then ((spec_l25Glyph.f ((rd_T32 t196 t203).f0) ((rd_T32 t196 t203).f1) ((rd_T32 t196 t203).f2)).bind fun bt231 => (some ((y225 ++ y222), wrap64 (a0_1 + 1), t200, bt231.1, bt231.2.1, bt231.2.2, true))) else (none)))) else (none)) = some (r1, r2, r3, r4, r5, r6, r7) := by first | (rw [hy217]; with_reducible exact H) | (have H2_ := (Option.bind_some _ _).symm.trans H; rw [hy217]; with_reducible exact H2_) | (have H2_ := (Option.bind_some _ _).symm.trans H; with_reducible exact H2_) | with_reducible exact H | (rw [hy217]; exact H) | exact H
           have Ny217 := Am hy217
           clear hy217
           by_cases c59 : y214.length + y217.length < 3518437208883
           ·rw [if_pos c59] at H
            have LMc59 := Am c59
            clear c59
            obtain ⟨y222, hy222⟩ : ∃ y_ : List (S32), y_ = (y214 ++ y217) := ⟨_, rfl⟩
            replace H : ((some (([(⟨(rd_T32 t196 t203).f0, (rd_T32 t196 t203).f1, (rd_T32 t196 t203).f2⟩ : S32)] : List (S32)) : List (S32))).bind fun y225 => (if y225.length + y222.length < 3518437208883 then ((spec_l25Glyph.f ((rd_T32 t196 t203).f0) ((rd_T32 t196 t203).f1) ((rd_T32 t196 t203).f2)).bind fun bt231 => (some ((y225 ++ y222), wrap64 (a0_1 + 1), t200, bt231.1, bt231.2.1, bt231.2.2, true))) else (none))) = some (r1, r2, r3, r4, r5, r6, r7) := by first | (rw [hy222]; with_reducible exact H) | (have H2_ := (Option.bind_some _ _).symm.trans H; rw [hy222]; with_reducible exact H2_) | (have H2_ := (Option.bind_some _ _).symm.trans H; with_reducible exact H2_) | with_reducible exact H | (rw [hy222]; exact H) | exact H
            have Ny222 := Am hy222
            clear hy222
            obtain ⟨y225, hy225⟩ : ∃ y_ : List (S32), y_ = (([(⟨(rd_T32 t196 t203).f0, (rd_T32 t196 t203).f1, (rd_T32 t196 t203).f2⟩ : S32)] : List (S32))) := ⟨_, rfl⟩
            replace H : (if y225.length + y222.length < 3518437208883 then ((spec_l25Glyph.f ((rd_T32 t196 t203).f0) ((rd_T32 t196 t203).f1) ((rd_T32 t196 t203).f2)).bind fun bt231 => (some ((y225 ++ y222), wrap64 (a0_1 + 1), t200, bt231.1, bt231.2.1, bt231.2.2, true))) else (none)) = some (r1, r2, r3, r4, r5, r6, r7) := by first | (rw [hy225]; with_reducible exact H) | (have H2_ := (Option.bind_some _ _).symm.trans H; rw [hy225]; with_reducible exact H2_) | (have H2_ := (Option.bind_some _ _).symm.trans H; with_reducible exact H2_) | with_reducible exact H | (rw [hy225]; exact H) | exact H
            have Ny225 := Am hy225
            clear hy225
            by_cases c60 : y225.length + y222.length < 3518437208883
            ·rw [if_pos c60] at H
             have LMc60 := Am c60
             clear c60
             obtain ⟨y228, hy228⟩ : ∃ y_ : List (S32), y_ = (y225 ++ y222) := ⟨_, rfl⟩
             replace H : ((spec_l25Glyph.f ((rd_T32 t196 t203).f0) ((rd_T32 t196 t203).f1) ((rd_T32 t196 t203).f2)).bind fun bt231 => (some (y228, wrap64 (a0_1 + 1), t200, bt231.1, bt231.2.1, bt231.2.2, true))) = some (r1, r2, r3, r4, r5, r6, r7) := by first | (rw [hy228]; with_reducible exact H) | (have H2_ := (Option.bind_some _ _).symm.trans H; rw [hy228]; with_reducible exact H2_) | (have H2_ := (Option.bind_some _ _).symm.trans H; with_reducible exact H2_) | with_reducible exact H | (rw [hy228]; exact H) | exact H
             have Ny228 := Am hy228
             clear hy228
             replace H := Option.bind_eq_some_iff.mp H
             obtain ⟨⟨t231, t232, t233⟩, A610, H⟩ := H
             replace H : (some (y228, wrap64 (a0_1 + 1), t200, t231, t232, t233, true)) = some (r1, r2, r3, r4, r5, r6, r7) := H
             have A61 := Am A610
             clear A610
             simp only [Option.some.injEq, Prod.mk.injEq] at H
             obtain ⟨rfl, rfl, rfl, rfl, rfl, rfl, rfl⟩ := H
             have hnb62 := NB193_194.out
             have hnc62 := NB194_193.out
             have hnb63 := NB193_195.out
             have hnc63 := NB195_193.out
             have hnb64 := NB193_201.out
             have hnc64 := NB201_193.out
             have hcz65_0 : wc.cell? ⟨gb193, 0, none⟩ = some (.slice A0_0 l0_0.length c0_0) := (b8 BK193.out 0).trans rfl
             have hcz65_1 : wc.cell? ⟨gb193, 1, none⟩ = some (.int .i64 a0_1) := (b8 BK193.out 1).trans rfl
             have hcz65_2 : wc.cell? ⟨gb193, 2, none⟩ = some (.int .i64 a0_2) := (b8 BK193.out 2).trans rfl
             have hfz65_0 := blk_frozen BK193.out 0
             have hfz65_1 := blk_frozen BK193.out 1
             have hfz65_2 := blk_frozen BK193.out 2
             try go_wp2_with (first | ((with_reducible refine gate_callee (f := 42) rfl ?_); refine goesL_ (some 34) rfl rfl Try.func42 (by kernel_rfl) rfl #[.slice A0_0 l0_0.length c0_0, .int .i64 a1] rfl jzA ?_; (with_reducible refine (spec_l25Find.calls kj4 _ _ l0_0 a1 t203 _ ?side1 ?side2 A49.out).mono ?_); (case side1 => exact jzC HR0_0 HB); (case side2 => exact HC0_0.out); rintro e w66 ⟨rfl, hb⟩; refine ⟨_, rfl, ?_⟩; have n0_ := Am (Kd.N_below (jzN HO_202000) hb); have n1_ := Am (blk_below (g := gb193) (o := .cells #[.slice A0_0 l0_0.length c0_0, .int .i64 a0_1, .int .i64 a0_2] 26 (0, 0)) (jzB BK193) hb); have n2_ := Am (blk_below (g := gb194) (o := .cells #[.slice none 0 0, .int .i64 0, .int .i64 0] 26 (0, 0)) (jzB BK194) hb); have n3_ := Am (blk_below (g := gb195) (o := .cells #[.int .i64 0, .int .i64 0, .slice none 0 0] 32 (0, 0)) (jzB BK195) hb); have n4_ := Am (blk_below (g := gb201) (o := .cells #[.slice Ao14 t196.length co14, .int .i64 t199, .int .i64 t200] 26 (0, 0)) (jzB BK201) hb); have n5_ := Am (below_step (jzG HB) hb); clear HO_202000; clear BK193; clear BK194; clear BK195; clear BK201; clear HB; have HO_202000 := n0_; have BK193 := n1_; have BK194 := n2_; have BK195 := n3_; have BK201 := n4_; have HB := n5_; clear n0_ n1_ n2_ n3_ n4_ n5_; (try clear hb); (try clear hb2); (try clear hk); (try clear hi); have hnb67 := NB201_194.out; have hnc67 := NB194_201.out; have hnb68 := NB201_195.out; have hnc68 := NB195_201.out; have hcz69_0 : w66.cell? ⟨gb201, 0, none⟩ = some (.slice Ao14 t196.length co14) := (b8 BK201.out 0).trans rfl; have hcz69_1 : w66.cell? ⟨gb201, 1, none⟩ = some (.int .i64 t199) := (b8 BK201.out 1).trans rfl; have hcz69_2 : w66.cell? ⟨gb201, 2, none⟩ = some (.int .i64 t200) := (b8 BK201.out 2).trans rfl; have hfz69_0 := blk_frozen BK201.out 0; have hfz69_1 := blk_frozen BK201.out 1; have hfz69_2 := blk_frozen BK201.out 2; have p204 : 0 ≤ (t203 : Int) := of_decide_eq_true jzS; have q204 : t203 < (t196.length : Int) := of_decide_eq_true jzS; obtain ⟨ad204, A204_2, c204_2, e204, hx204_0, hx204_1, hx204_2, hl204_2, hi204_2⟩ := at_T32 (Kd.N_reads' HO_202000.out).2.2 t203 p204 q204; cases e204; obtain ⟨ce204, hce204, hMe204, hcc204⟩ := Kd.N_get HO_202000.out z32 t203 p204 (by first | exact q204 | exact of_decide_eq_true jzS | (have e_ := (Kd.N_reads' HO_202000.out).1; omega)); obtain ⟨ua204_2, uc204_2, rfl, ul204_2, ge204_2⟩ := k32_openF hMe204; have hv204_2 := hcc204 2 _ rfl; rw [add_field _ _ 2 (by omega)] at hv204_2; replace hv204_2 := Option.some.inj (hv204_2.symm.trans hx204_2); injection hv204_2 with hva_ hvn_ hvc_; rw [hva_] at ge204_2; rw [hvc_] at ul204_2; have HL204_2 := Am (show Kd.V (Kd.int .i64) 3 _ w.heap.size _ _ ((rd_T32 t196 t203).f2) from Kd.V_mk ul204_2 ge204_2); clear hva_ hvn_ hvc_ ge204_2 ul204_2; clear hcc204 hce204; have HR204_2 := Am hi204_2; have HC204_2 := Am hl204_2; clear hi204_2 hl204_2; replace p204 := eq_true p204; replace q204 := eq_true q204) | ((with_reducible refine gate_dst (N := 11) rfl ?_); refine box_event ?hg (N := 11) ?hd (cs := #[.int .i64 0, .int .i64 0, .slice none 0 0]) (t := 32) ?hr ?_; (case hd => rfl); (case hg => rfl); (case hr => first | (go_simp; done) | (go_simp; rfl)); intro gb205 hg w70 hbox hb; have n0_ := Am (Kd.N_below (Kd.N_elderB (jzN HO_202000) gb205 (Nat.le_of_eq hg.symm)) hb); have n1_ := Am (Kd.V_below (Kd.V_elderB (by (with_reducible repeat (first | apply Kd.V_alloc | apply Kd.V_drewN | apply Kd.V_drew)); exact HL204_2.out) gb205 (Nat.le_of_eq hg.symm)) hb); have n2_ := Am (blk_below (g := gb193) (o := .cells #[.slice A0_0 l0_0.length c0_0, .int .i64 a0_1, .int .i64 a0_2] 26 (0, 0)) (jzB BK193) hb); have n3_ := Am (blk_below (g := gb194) (o := .cells #[.slice none 0 0, .int .i64 0, .int .i64 0] 26 (0, 0)) (jzB BK194) hb); have n4_ := Am (blk_below (g := gb195) (o := .cells #[.int .i64 0, .int .i64 0, .slice none 0 0] 32 (0, 0)) (jzB BK195) hb); have n5_ := Am (blk_below (g := gb201) (o := .cells #[.slice (some ad204) t196.length co14, .int .i64 t199, .int .i64 t200] 26 (0, 0)) (jzB BK201) hb); have n6_ := Am (Kd.C_below (by repeat (first | (with_reducible exact HR204_2.out) | (with_reducible refine Kd.C_alloc ?_ _) | (with_reducible refine Kd.C_drewN ?_ _) | (with_reducible refine Kd.C_drew ?_) | exact HR204_2.out)) hb); have n7_ := Am (below_step (jzG HB) hb); have n8_ := Am (hbox); have n9_ := Am ((by rw [hg]; exact (below_size (jzG HB)) : w.heap.size ≤ gb205)); have n10_ := Am ((by rw [hg]; exact (below_size (jzG HB)) : w.heap.size ≤ gb205)); have n11_ := Am ((by rw [hg]; exact Nat.ne_of_lt (blk_lt (g := gb193) (o := .cells #[.slice A0_0 l0_0.length c0_0, .int .i64 a0_1, .int .i64 a0_2] 26 (0, 0)) (jzB BK193)) : gb193 ≠ gb205)); have n12_ := Am ((by rw [hg]; exact Nat.ne_of_gt (blk_lt (g := gb193) (o := .cells #[.slice A0_0 l0_0.length c0_0, .int .i64 a0_1, .int .i64 a0_2] 26 (0, 0)) (jzB BK193)) : gb205 ≠ gb193)); have n13_ := Am ((by rw [hg]; exact Nat.ne_of_lt (blk_lt (g := gb194) (o := .cells #[.slice none 0 0, .int .i64 0, .int .i64 0] 26 (0, 0)) (jzB BK194)) : gb194 ≠ gb205)); have n14_ := Am ((by rw [hg]; exact Nat.ne_of_gt (blk_lt (g := gb194) (o := .cells #[.slice none 0 0, .int .i64 0, .int .i64 0] 26 (0, 0)) (jzB BK194)) : gb205 ≠ gb194)); have n15_ := Am ((by rw [hg]; exact Nat.ne_of_lt (blk_lt (g := gb195) (o := .cells #[.int .i64 0, .int .i64 0, .slice none 0 0] 32 (0, 0)) (jzB BK195)) : gb195 ≠ gb205)); have n16_ := Am ((by rw [hg]; exact Nat.ne_of_gt (blk_lt (g := gb195) (o := .cells #[.int .i64 0, .int .i64 0, .slice none 0 0] 32 (0, 0)) (jzB BK195)) : gb205 ≠ gb195)); have n17_ := Am ((by rw [hg]; exact Nat.ne_of_lt (blk_lt (g := gb201) (o := .cells #[.slice (some ad204) t196.length co14, .int .i64 t199, .int .i64 t200] 26 (0, 0)) (jzB BK201)) : gb201 ≠ gb205)); have n18_ := Am ((by rw [hg]; exact Nat.ne_of_gt (blk_lt (g := gb201) (o := .cells #[.slice (some ad204) t196.length co14, .int .i64 t199, .int .i64 t200] 26 (0, 0)) (jzB BK201)) : gb205 ≠ gb201)); clear HO_202000; clear HL204_2; clear BK193; clear BK194; clear BK195; clear BK201; clear HR204_2; clear HB; have HO_202000 := n0_; have HL204_2 := n1_; have BK193 := n2_; have BK194 := n3_; have BK195 := n4_; have BK201 := n5_; have HR204_2 := n6_; have HB := n7_; have BK205 := n8_; have GW205 := n9_; have GE205 := n10_; have NB193_205 := n11_; have NB205_193 := n12_; have NB194_205 := n13_; have NB205_194 := n14_; have NB195_205 := n15_; have NB205_195 := n16_; have NB201_205 := n17_; have NB205_201 := n18_; clear n0_ n1_ n2_ n3_ n4_ n5_ n6_ n7_ n8_ n9_ n10_ n11_ n12_ n13_ n14_ n15_ n16_ n17_ n18_; clear hb hbox hg; have hnb71 := NB205_193.out; have hnc71 := NB193_205.out; have hnb72 := NB205_194.out; have hnc72 := NB194_205.out; have hnb73 := NB205_195.out; have hnc73 := NB195_205.out; have hnb74 := NB205_201.out; have hnc74 := NB201_205.out; have hcz75_0 : w70.cell? ⟨gb205, 0, none⟩ = some (.int .i64 0) := (b8 BK205.out 0).trans rfl; have hcz75_1 : w70.cell? ⟨gb205, 1, none⟩ = some (.int .i64 0) := (b8 BK205.out 1).trans rfl; have hcz75_2 : w70.cell? ⟨gb205, 2, none⟩ = some (.slice none 0 0) := (b8 BK205.out 2).trans rfl; have hfz75_0 := blk_frozen BK205.out 0; have hfz75_1 := blk_frozen BK205.out 1; have hfz75_2 := blk_frozen BK205.out 2))
             have n0_ : Aside0 (Kd.N k32 32 (((w70.setCell ⟨gb205, 0, none⟩ (.int .i64 ((rd_T32 t196 t203).f0))).setCell ⟨gb205, 1, none⟩ (.int .i64 ((rd_T32 t196 t203).f1))).setCell ⟨gb205, 2, none⟩ (.slice A204_2 ((rd_T32 t196 t203).f2).length c204_2)) w.heap.size (fun k_ => (w.heap.size ≤ k_) ∧ k_ ≠ gb193 ∧ k_ ≠ gb194 ∧ k_ ≠ gb195 ∧ k_ ≠ gb201 ∧ k_ ≠ gb205) (.slice (some ad204) t196.length co14) t196) := ⟨by (with_reducible repeat (first | apply Kd.N_alloc | apply Kd.N_drewN | apply Kd.N_drew)); exact Kd.N_mono (Kd.N_far (p := ⟨gb205, 2, none⟩) (Kd.N_far (p := ⟨gb205, 1, none⟩) (Kd.N_far (p := ⟨gb205, 0, none⟩) (Kd.N_mono HO_202000.out (fun k_ hk => (⟨hk, hk.2⟩ : _ ∧ k_ ≠ gb205))) (fun _ hk => hk.2) (.int .i64 ((rd_T32 t196 t203).f0))) (fun _ hk => hk.2) (.int .i64 ((rd_T32 t196 t203).f1))) (fun _ hk => hk.2) (.slice A204_2 ((rd_T32 t196 t203).f2).length c204_2)) (fun _ hk => ⟨hk.1.1.1, ⟨hk.1.1.2.1, ⟨hk.1.1.2.2.1, ⟨hk.1.1.2.2.2.1, ⟨hk.1.1.2.2.2.2, hk.1.2⟩⟩⟩⟩⟩)⟩
             have n1_ : Aside0 (Kd.V (Kd.int .i64) 3 (((w70.setCell ⟨gb205, 0, none⟩ (.int .i64 ((rd_T32 t196 t203).f0))).setCell ⟨gb205, 1, none⟩ (.int .i64 ((rd_T32 t196 t203).f1))).setCell ⟨gb205, 2, none⟩ (.slice A204_2 ((rd_T32 t196 t203).f2).length c204_2)) w.heap.size (fun k_ => (w.heap.size ≤ k_) ∧ some k_ ≠ (.slice (some ad204) t196.length co14 : Value).ownBlock ∧ k_ ≠ gb193 ∧ k_ ≠ gb194 ∧ k_ ≠ gb195 ∧ k_ ≠ gb201 ∧ k_ ≠ gb205) (.slice A204_2 ((rd_T32 t196 t203).f2).length c204_2) ((rd_T32 t196 t203).f2)) := ⟨by (with_reducible repeat (first | apply Kd.V_alloc | apply Kd.V_drewN | apply Kd.V_drew)); exact Kd.V_mono (Kd.V_far (p := ⟨gb205, 2, none⟩) (Kd.V_far (p := ⟨gb205, 1, none⟩) (Kd.V_far (p := ⟨gb205, 0, none⟩) (Kd.V_mono HL204_2.out (fun k_ hk => (⟨hk, hk.2⟩ : _ ∧ k_ ≠ gb205))) (fun _ hk => hk.2) (.int .i64 ((rd_T32 t196 t203).f0))) (fun _ hk => hk.2) (.int .i64 ((rd_T32 t196 t203).f1))) (fun _ hk => hk.2) (.slice A204_2 ((rd_T32 t196 t203).f2).length c204_2)) (fun _ hk => ⟨hk.1.1.1.1, ⟨hk.1.1.2, ⟨hk.1.1.1.2.1, ⟨hk.1.1.1.2.2.1, ⟨hk.1.1.1.2.2.2.1, ⟨hk.1.1.1.2.2.2.2, hk.1.2⟩⟩⟩⟩⟩⟩)⟩
             have n2_ : Aside0 ((((w70.setCell ⟨gb205, 0, none⟩ (.int .i64 ((rd_T32 t196 t203).f0))).setCell ⟨gb205, 1, none⟩ (.int .i64 ((rd_T32 t196 t203).f1))).setCell ⟨gb205, 2, none⟩ (.slice A204_2 ((rd_T32 t196 t203).f2).length c204_2)).heap[gb193]? = some (.cells #[.slice A0_0 l0_0.length c0_0, .int .i64 a0_1, .int .i64 a0_2] 26 (0, 0))) := ⟨by (with_reducible repeat (first | refine b1 ?_ _ | refine b2 ?_ | refine b3 ?_ _)); refine blk_far ?_ NB193_205.out _; (with_reducible repeat (first | refine b1 ?_ _ | refine b2 ?_ | refine b3 ?_ _)); refine blk_far ?_ NB193_205.out _; (with_reducible repeat (first | refine b1 ?_ _ | refine b2 ?_ | refine b3 ?_ _)); refine blk_far ?_ NB193_205.out _; (with_reducible repeat (first | refine b1 ?_ _ | refine b2 ?_ | refine b3 ?_ _)); exact BK193.out⟩
             have n3_ : Aside0 ((((w70.setCell ⟨gb205, 0, none⟩ (.int .i64 ((rd_T32 t196 t203).f0))).setCell ⟨gb205, 1, none⟩ (.int .i64 ((rd_T32 t196 t203).f1))).setCell ⟨gb205, 2, none⟩ (.slice A204_2 ((rd_T32 t196 t203).f2).length c204_2)).heap[gb194]? = some (.cells #[.slice none 0 0, .int .i64 0, .int .i64 0] 26 (0, 0))) := ⟨by (with_reducible repeat (first | refine b1 ?_ _ | refine b2 ?_ | refine b3 ?_ _)); refine blk_far ?_ NB194_205.out _; (with_reducible repeat (first | refine b1 ?_ _ | refine b2 ?_ | refine b3 ?_ _)); refine blk_far ?_ NB194_205.out _; (with_reducible repeat (first | refine b1 ?_ _ | refine b2 ?_ | refine b3 ?_ _)); refine blk_far ?_ NB194_205.out _; (with_reducible repeat (first | refine b1 ?_ _ | refine b2 ?_ | refine b3 ?_ _)); exact BK194.out⟩
             have n4_ : Aside0 ((((w70.setCell ⟨gb205, 0, none⟩ (.int .i64 ((rd_T32 t196 t203).f0))).setCell ⟨gb205, 1, none⟩ (.int .i64 ((rd_T32 t196 t203).f1))).setCell ⟨gb205, 2, none⟩ (.slice A204_2 ((rd_T32 t196 t203).f2).length c204_2)).heap[gb195]? = some (.cells #[.int .i64 0, .int .i64 0, .slice none 0 0] 32 (0, 0))) := ⟨by (with_reducible repeat (first | refine b1 ?_ _ | refine b2 ?_ | refine b3 ?_ _)); refine blk_far ?_ NB195_205.out _; (with_reducible repeat (first | refine b1 ?_ _ | refine b2 ?_ | refine b3 ?_ _)); refine blk_far ?_ NB195_205.out _; (with_reducible repeat (first | refine b1 ?_ _ | refine b2 ?_ | refine b3 ?_ _)); refine blk_far ?_ NB195_205.out _; (with_reducible repeat (first | refine b1 ?_ _ | refine b2 ?_ | refine b3 ?_ _)); exact BK195.out⟩
             have n5_ : Aside0 ((((w70.setCell ⟨gb205, 0, none⟩ (.int .i64 ((rd_T32 t196 t203).f0))).setCell ⟨gb205, 1, none⟩ (.int .i64 ((rd_T32 t196 t203).f1))).setCell ⟨gb205, 2, none⟩ (.slice A204_2 ((rd_T32 t196 t203).f2).length c204_2)).heap[gb201]? = some (.cells #[.slice (some ad204) t196.length co14, .int .i64 t199, .int .i64 t200] 26 (0, 0))) := ⟨by (with_reducible repeat (first | refine b1 ?_ _ | refine b2 ?_ | refine b3 ?_ _)); refine blk_far ?_ NB201_205.out _; (with_reducible repeat (first | refine b1 ?_ _ | refine b2 ?_ | refine b3 ?_ _)); refine blk_far ?_ NB201_205.out _; (with_reducible repeat (first | refine b1 ?_ _ | refine b2 ?_ | refine b3 ?_ _)); refine blk_far ?_ NB201_205.out _; (with_reducible repeat (first | refine b1 ?_ _ | refine b2 ?_ | refine b3 ?_ _)); exact BK201.out⟩
             have n6_ : Aside0 ((((w70.setCell ⟨gb205, 0, none⟩ (.int .i64 ((rd_T32 t196 t203).f0))).setCell ⟨gb205, 1, none⟩ (.int .i64 ((rd_T32 t196 t203).f1))).setCell ⟨gb205, 2, none⟩ (.slice A204_2 ((rd_T32 t196 t203).f2).length c204_2)).heap[gb205]? = some (.cells #[.int .i64 ((rd_T32 t196 t203).f0), .int .i64 ((rd_T32 t196 t203).f1), .slice A204_2 ((rd_T32 t196 t203).f2).length c204_2] 32 (0, 0))) := ⟨by (with_reducible repeat (first | refine b1 ?_ _ | refine b2 ?_ | refine b3 ?_ _)); refine blk_put (cs := #[.int .i64 ((rd_T32 t196 t203).f0), .int .i64 ((rd_T32 t196 t203).f1), .slice none 0 0]) ?_ 2 _ rfl; (with_reducible repeat (first | refine b1 ?_ _ | refine b2 ?_ | refine b3 ?_ _)); refine blk_put (cs := #[.int .i64 ((rd_T32 t196 t203).f0), .int .i64 0, .slice none 0 0]) ?_ 1 _ rfl; (with_reducible repeat (first | refine b1 ?_ _ | refine b2 ?_ | refine b3 ?_ _)); refine blk_put (cs := #[.int .i64 0, .int .i64 0, .slice none 0 0]) ?_ 0 _ rfl; (with_reducible repeat (first | refine b1 ?_ _ | refine b2 ?_ | refine b3 ?_ _)); exact BK205.out⟩
             have n7_ : Aside0 (Below w.heap.size w (((w70.setCell ⟨gb205, 0, none⟩ (.int .i64 ((rd_T32 t196 t203).f0))).setCell ⟨gb205, 1, none⟩ (.int .i64 ((rd_T32 t196 t203).f1))).setCell ⟨gb205, 2, none⟩ (.slice A204_2 ((rd_T32 t196 t203).f2).length c204_2))) := ⟨jzG HB⟩
             (try clear HO_202000)
             (try clear HL204_2)
             (try clear BK193)
             (try clear BK194)
             (try clear BK195)
             (try clear BK201)
             (try clear BK205)
             (try clear HB)
             generalize (((w70.setCell ⟨gb205, 0, none⟩ (.int .i64 ((rd_T32 t196 t203).f0))).setCell ⟨gb205, 1, none⟩ (.int .i64 ((rd_T32 t196 t203).f1))).setCell ⟨gb205, 2, none⟩ (.slice A204_2 ((rd_T32 t196 t203).f2).length c204_2)) = w76 at n0_ n1_ n2_ n3_ n4_ n5_ n6_ n7_ ⊢
             have HO_202000 := n0_
             have HL204_2 := n1_
             have BK193 := n2_
             have BK194 := n3_
             have BK195 := n4_
             have BK201 := n5_
             have BK205 := n6_
             have HB := n7_
             clear n0_ n1_ n2_ n3_ n4_ n5_ n6_ n7_
             have n0_ := Am (Kd.N_drew HO_202000.out)
             have n1_ := Am (Kd.V_drew HL204_2.out)
             have n2_ := Am (b2 BK193.out)
             have n3_ := Am (b2 BK194.out)
             have n4_ := Am (b2 BK195.out)
             have n5_ := Am (b2 BK201.out)
             have n6_ := Am (b2 BK205.out)
             have n7_ := Am (b6 HB.out)
             clear HO_202000
             clear HL204_2
             clear BK193
             clear BK194
             clear BK195
             clear BK201
             clear BK205
             clear HB
             have HO_202000 := n0_
             have HL204_2 := n1_
             have BK193 := n2_
             have BK194 := n3_
             have BK195 := n4_
             have BK201 := n5_
             have BK205 := n6_
             have HB := n7_
             clear n0_ n1_ n2_ n3_ n4_ n5_ n6_ n7_
             have q78 : (t203 : Int) ≤ ((t196.length : Int) : Int) := of_decide_eq_true jzS
             obtain ⟨i078, hi078, _, hsz78, _⟩ := info_parts info32
             have hroom78 : t196.length ≤ co14 := (Kd.N_reads' HO_202000.out).2.1
             have hC78 : Kd.F k32 _ _ (some ad204) t196.length t196 := (Kd.V_at (base := w.heap.size) (Kd.N_V HO_202000.out)).2.2
             have hcut78 := cut_to (P := Try.prog) 24 32 .i64 Try.underlying24 hi078 (some ad204) t196.length co14 t203 (of_decide_eq_true jzS) q78 hroom78
             have hr78 := Kd.F_take (m := (t203 : Int).toNat) hC78 (by omega)
             have hy78 : y209.length = (t203 : Int).toNat := (by rw [Ny209.out, List.length_take]; omega)
             rw [← Ny209.out] at hr78
             rw [← hy78] at hcut78
             have HO213 := Am (show Kd.V k32 32 _ w.heap.size _ (.slice (some ad204) y209.length co14) y209 from Kd.V_mk (by omega) hr78)
             have HC213 := Am (show y209.length ≤ co14 from by omega)
             clear hr78 hC78 hroom78 hi078 hsz78
             have KY78 := Am hy78
             clear hy78
             replace q78 := eq_true q78
             have q79 : ((ji56) : Int) ≤ ((t196.length : Int) : Int) := of_decide_eq_true jzS
             obtain ⟨i079, hi079, _, hsz79, _⟩ := info_parts info32
             have hroom79 : t196.length ≤ co14 := (Kd.N_reads' HO_202000.out).2.1
             have hC79 : Kd.F k32 _ _ (some ad204) t196.length t196 := (Kd.V_at (base := w.heap.size) (Kd.N_V HO_202000.out)).2.2
             have q079 : (0 : Int) ≤ ((ji56) : Int) := of_decide_eq_true jzS
             have hcut79 := cut_from (P := Try.prog) 24 32 .i64 Try.underlying24 hi079 3 hsz79 (some ad204) t196.length co14 (ji56) q079 q79
             have hr79 := Kd.F_cut (m := ((ji56) : Int).toNat) (c := co14) hC79 (by omega) hroom79
             obtain ⟨A79, hA79⟩ : ∃ A1, A1 = (if co14 = ((ji56) : Int).toNat then (some ad204) else ((some ad204) : Option Addr).map (·.add (((ji56) : Int).toNat * 3))) := ⟨_, rfl⟩
             obtain ⟨c79, hc79⟩ : ∃ c1, c1 = co14 - ((ji56) : Int).toNat := ⟨_, rfl⟩
             have hy79 : y217.length = t196.length - ((ji56) : Int).toNat := (by rw [Ny217.out, List.length_drop] <;> omega)
             rw [show (t196).drop ((ji56) : Int).toNat = y217 from Ny217.out.symm] at hr79
             replace hr79 : Kd.F k32 _ _ A79 y217.length y217 := (by rw [hA79]; exact hr79)
             rw [← hy79, ← hA79, ← hc79] at hcut79
             have HO221 := Am (show Kd.V k32 32 _ w.heap.size _ (.slice A79 y217.length c79) y217 from Kd.V_mk (by rw [hy79, hc79]; exact Nat.sub_le_sub_right hroom79 _) hr79)
             have HC221 := Am (show y217.length ≤ c79 from by rw [hy79, hc79]; exact Nat.sub_le_sub_right hroom79 _)
             clear hr79 hC79 hroom79 hi079 hsz79 hc79
             have KY79 := Am hy79
             have KA79 := Am hA79
             clear hy79 hA79
             replace q79 := eq_true q79
             refine start_ (n := 13) (S := fun w' => w'.cell? ⟨gb201, 0, none⟩ = some (.slice (some ad204) t196.length co14) ∧ w'.cell? ⟨gb201, 1, none⟩ = some (.int .i64 t199) ∧ w'.cell? ⟨gb201, 2, none⟩ = some (.int .i64 t200)) (ds := []) #[F,F,F,F,F,F,F,F,F,F,F,F,F] (by kernel_rfl) rfl rfl ⟨(b8 BK201.out 0).trans rfl, (b8 BK201.out 1).trans rfl, (b8 BK201.out 2).trans rfl⟩ (fun hHeld => ?_); refine with_tabW spec_FetchGlyph.tab7 spec_FetchGlyph.bits7 (fun HT_ HW_ => ?_)
             generalize w76.drew = w77 at HO_202000 HL204_2 BK193 BK194 BK195 BK201 BK205 HB HO213 HO221 hHeld ⊢
             refine pure_ (i := 1) (N := some 43) (v := ?_) (a' := ?_) #[F,T,F,F,F,F,F,F,F,F,F,F,F] rfl rfl (any_of HT_.out (by kernel_rfl)) (fun _ _ _ h => h) (Or.inl ⟨by rfl, ?_⟩) ?_ ?_
             rotate_left; intro w'; go_simp; with_reducible rfl; rotate_left; simp only [Act.put, zA, zB, zC, i64_w, i32_w]; rfl
             refine pure_ (i := 3) (N := some 45) (v := ?_) (a' := ?_) #[F,T,F,T,F,F,F,F,F,F,F,F,F] rfl rfl (any_of HT_.out (by kernel_rfl)) (fun _ _ _ h => h) (Or.inl ⟨by rfl, ?_⟩) ?_ ?_
             rotate_left; intro w'; go_simp; with_reducible rfl; rotate_left; simp only [Act.put, zA, zB, zC, i64_w, i32_w]; rfl
             refine pure_ (i := 6) (N := some 48) (v := ?_) (a' := ?_) #[F,T,F,T,F,F,T,F,F,F,F,F,F] rfl rfl (any_of HT_.out (by kernel_rfl)) (fun _ _ _ h => h) (Or.inl ⟨by rfl, ?_⟩) ?_ ?_
             rotate_left; intro w'; go_simp; with_reducible rfl; rotate_left; simp only [Act.put, zA, zB, zC, i64_w, i32_w]; rfl
             refine pure_ (i := 8) (N := some 50) (v := ?_) (a' := ?_) #[F,T,F,T,F,F,T,F,T,F,F,F,F] rfl rfl (any_of HT_.out (by kernel_rfl)) (fun _ _ _ h => h) (Or.inl ⟨by rfl, ?_⟩) ?_ ?_
             rotate_left; intro w'; go_simp; with_reducible rfl; rotate_left; simp only [Act.put, zA, zB, zC, i64_w, i32_w]; rfl
             refine pure_ (i := 9) (N := some 51) (v := ?_) (a' := ?_) #[F,T,F,T,F,F,T,F,T,T,F,F,F] rfl rfl (any_of HT_.out (by kernel_rfl)) (fun _ _ _ h => h) (Or.inl ⟨by rfl, ?_⟩) ?_ ?_
             rotate_left; intro w'; go_simp; with_reducible rfl; rotate_left; simp only [Act.put, zA, zB, zC, i64_w, i32_w]; rfl
             refine take_ (i := 2) (N := some 44) (v := ?_) (a' := ?_) #[F,T,T,T,F,F,T,F,T,T,F,F,F] rfl rfl (take_ofW HT_.out HW_.out (by kernel_rfl)) (fun _ _ _ h => h) (Or.inl ⟨by rfl, ?_⟩) hHeld ?_ ?_
             rotate_left; rintro w' ⟨s0, s1, s2⟩; go_simp; with_reducible rfl; rotate_left; simp only [Act.put, zA, zB, zC, i64_w, i32_w]; rfl
             refine pure_ (i := 4) (N := some 46) (v := ?_) (a' := ?_) #[F,T,T,T,T,F,T,F,T,T,F,F,F] rfl rfl (any_of HT_.out (by kernel_rfl)) (fun _ _ _ h => h) (Or.inl ⟨by rfl, ?_⟩) ?_ ?_
             rotate_left; intro w'; go_simp; with_reducible rfl; rotate_left; simp only [Act.put, zA, zB, zC, i64_w, i32_w]; rfl
             refine take_ (i := 7) (N := some 49) (v := ?_) (a' := ?_) #[F,T,T,T,T,F,T,T,T,T,F,F,F] rfl rfl (take_ofW HT_.out HW_.out (by kernel_rfl)) (fun _ _ _ h => h) (Or.inl ⟨by rfl, ?_⟩) hHeld ?_ ?_
             rotate_left; rintro w' ⟨s0, s1, s2⟩; go_simp; with_reducible rfl; rotate_left; simp only [Act.put, zA, zB, zC, i64_w, i32_w]; rfl
             refine pure_ (i := 10) (N := some 52) (v := ?_) (a' := ?_) #[F,T,T,T,T,F,T,T,T,T,T,F,F] rfl rfl (any_of HT_.out (by kernel_rfl)) (fun _ _ _ h => h) (Or.inl ⟨by rfl, ?_⟩) ?_ ?_
             rotate_left; intro w'; go_simp; with_reducible rfl; rotate_left; simp only [Act.put, zA, zB, zC, i64_w, i32_w]; rfl
             refine one_ (i := 0) (N := some 42) #[T,T,T,T,T,F,T,T,T,T,T,F,F] rfl rfl (one_of HT_.out (by kernel_rfl)) (by decide) (fun K hK => ?_)
             refine Kd.N_lit_step k32 _ 32 ?hg (N' := 42) ?hd (xs := ([] : List (S32))) (inner := []) (ok := (fun k_ => (w.heap.size ≤ k_) ∧ some k_ ≠ (.slice (some ad204) t196.length co14 : Value).ownBlock ∧ k_ ≠ gb193 ∧ k_ ≠ gb194 ∧ k_ ≠ gb195 ∧ k_ ≠ gb201 ∧ k_ ≠ gb205)) (okp := (fun k_ => (w.heap.size ≤ k_) ∧ some k_ ≠ (.slice (some ad204) t196.length co14 : Value).ownBlock ∧ k_ ≠ gb193 ∧ k_ ≠ gb194 ∧ k_ ≠ gb195 ∧ k_ ≠ gb201 ∧ k_ ≠ gb205)) ?hr ?hp (fun _ hk => hk) ((show ∀ k_, w77.heap.size ≤ k_ → (fun k_ => (w.heap.size ≤ k_) ∧ some k_ ≠ (.slice (some ad204) t196.length co14 : Value).ownBlock ∧ k_ ≠ gb193 ∧ k_ ≠ gb194 ∧ k_ ≠ gb195 ∧ k_ ≠ gb201 ∧ k_ ≠ gb205) k_ from fun k_ hk => ⟨(Nat.le_trans (below_size (jzG HB)) hk), Kd.fresh' (Kd.N_lt (jzN HO_202000)) k_ hk, Kd.freshB (g := gb193) (o := .cells #[.slice A0_0 l0_0.length c0_0, .int .i64 a0_1, .int .i64 a0_2] 26 (0, 0)) (jzB BK193) k_ hk, Kd.freshB (g := gb194) (o := .cells #[.slice none 0 0, .int .i64 0, .int .i64 0] 26 (0, 0)) (jzB BK194) k_ hk, Kd.freshB (g := gb195) (o := .cells #[.int .i64 0, .int .i64 0, .slice none 0 0] 32 (0, 0)) (jzB BK195) k_ hk, Kd.freshB (g := gb201) (o := .cells #[.slice (some ad204) t196.length co14, .int .i64 t199, .int .i64 t200] 26 (0, 0)) (jzB BK201) k_ hk, Kd.freshB (g := gb205) (o := .cells #[.int .i64 ((rd_T32 t196 t203).f0), .int .i64 ((rd_T32 t196 t203).f1), .slice A204_2 ((rd_T32 t196 t203).f2).length c204_2] 32 (0, 0)) (jzB BK205) k_ hk⟩) _ (Nat.le_refl _)) (Below.refl _ _) (Nat.le_refl _) (by simp) ?_; (case hd => rfl); (case hg => rfl); (case hr => first | (go_simp; done) | (go_simp; rfl)); (case hp => exact (Reps.none _ _))
             intro v207 w80 ho81 hb hg_ hnew_
             clear hg_ hnew_
             (first | rw [← Ny206.out] at ho81 | (simp only [Int.reduceToNat] at ho81; rw [← Ny206.out] at ho81))
             have n0_ := Am (Kd.N_elder' (jzN HO_202000) (Kd.N_base ho81) hb)
             have n1_ := Am (Kd.V_elder' (by (with_reducible repeat (first | apply Kd.V_alloc | apply Kd.V_drewN | apply Kd.V_drew)); exact HL204_2.out) (Kd.N_base ho81) hb)
             have n2_ := Am (Kd.V_elder' (by (with_reducible repeat (first | apply Kd.V_alloc | apply Kd.V_drewN | apply Kd.V_drew)); exact HO213.out) (Kd.N_base ho81) hb)
             have n3_ := Am (Kd.V_elder' (by (with_reducible repeat (first | apply Kd.V_alloc | apply Kd.V_drewN | apply Kd.V_drew)); exact HO221.out) (Kd.N_base ho81) hb)
             have n4_ := Am (Kd.N_lower ho81 (below_size (jzG HB)))
             have n5_ := Am (blk_below (g := gb193) (o := .cells #[.slice A0_0 l0_0.length c0_0, .int .i64 a0_1, .int .i64 a0_2] 26 (0, 0)) (jzB BK193) hb)
             have n6_ := Am (blk_below (g := gb194) (o := .cells #[.slice none 0 0, .int .i64 0, .int .i64 0] 26 (0, 0)) (jzB BK194) hb)
             have n7_ := Am (blk_below (g := gb195) (o := .cells #[.int .i64 0, .int .i64 0, .slice none 0 0] 32 (0, 0)) (jzB BK195) hb)
             have n8_ := Am (blk_below (g := gb201) (o := .cells #[.slice (some ad204) t196.length co14, .int .i64 t199, .int .i64 t200] 26 (0, 0)) (jzB BK201) hb)
             have n9_ := Am (blk_below (g := gb205) (o := .cells #[.int .i64 ((rd_T32 t196 t203).f0), .int .i64 ((rd_T32 t196 t203).f1), .slice A204_2 ((rd_T32 t196 t203).f2).length c204_2] 32 (0, 0)) (jzB BK205) hb)
             have n10_ := Am (below_step (jzG HB) hb)
             clear HO_202000
             clear HL204_2
             clear HO213
             clear HO221
             clear BK193
             clear BK194
             clear BK195
             clear BK201
             clear BK205
             clear HB
             have HO_202000 := n0_
             have HL204_2 := n1_
             have HO213 := n2_
             have HO221 := n3_
             have HO208 := n4_
             have BK193 := n5_
             have BK194 := n6_
             have BK195 := n7_
             have BK201 := n8_
             have BK205 := n9_
             have HB := n10_
             clear n0_ n1_ n2_ n3_ n4_ n5_ n6_ n7_ n8_ n9_ n10_
             clear hb ho81
             refine hK.out _ _ ⟨(b8 BK201.out 0).trans rfl, (b8 BK201.out 1).trans rfl, (b8 BK201.out 2).trans rfl⟩ (fun hHeld => ?_)
             clear hK K
             refine norm_ (a' := ?_) ?_ ?_
             rotate_left
             ·show Act.put _ (some 42) _ = _
              simp only [Act.put, zA, zB, zC, i64_w, i32_w]
              rfl
             refine one_ (i := 5) (N := some 47) #[T,T,T,T,T,T,T,T,T,T,T,F,F] rfl rfl (one_of HT_.out (by kernel_rfl)) (by decide) (fun K hK => ?_)
             refine Kd.N_append_rows_step k32 (w0 := w) w.heap.size (by rfl) (.tmp 42) (.tmp 46) 24 32 (.agg #[(.int .i64 0), (.int .i64 0), (.slice none 0 0)]) 40 rfl Try.underlying24 info32 rfl (by decide) (by omega) v207 y206 y209 _ _ _ (fun k_ => (w.heap.size ≤ k_) ∧ k_ ≠ gb193 ∧ k_ ≠ gb194 ∧ k_ ≠ gb195 ∧ k_ ≠ gb201 ∧ k_ ≠ gb205) (fun k_ => ((fun k_ => (w.heap.size ≤ k_) ∧ k_ ≠ gb193 ∧ k_ ≠ gb194 ∧ k_ ≠ gb195 ∧ k_ ≠ gb201 ∧ k_ ≠ gb205)) k_ ∧ some k_ ≠ (v207 : Value).ownBlock) rfl rfl ?aO ?aR (fun _ hk => hk) ?aF ?aB ?aS ?aL ?_
             (case aR => exact (by skip; exact Kd.V_F (Kd.V_mono (ok' := (fun k_ => ((fun k_ => (w.heap.size ≤ k_) ∧ k_ ≠ gb193 ∧ k_ ≠ gb194 ∧ k_ ≠ gb195 ∧ k_ ≠ gb201 ∧ k_ ≠ gb205)) k_ ∧ some k_ ≠ (v207 : Value).ownBlock)) (HO213.out) (fun k_ hk => ⟨⟨hk.1.1, ⟨hk.1.2.1, ⟨hk.1.2.2.1, ⟨hk.1.2.2.2.1, ⟨hk.1.2.2.2.2.1, hk.1.2.2.2.2.2⟩⟩⟩⟩⟩, hk.2⟩))))
             (case aB => exact (jzG HB))
             (case aF => exact (fun k_ hk => ⟨(Nat.le_trans (below_size (jzG HB)) hk), Kd.freshB (g := gb193) (o := .cells #[.slice A0_0 l0_0.length c0_0, .int .i64 a0_1, .int .i64 a0_2] 26 (0, 0)) (jzB BK193) k_ hk, Kd.freshB (g := gb194) (o := .cells #[.slice none 0 0, .int .i64 0, .int .i64 0] 26 (0, 0)) (jzB BK194) k_ hk, Kd.freshB (g := gb195) (o := .cells #[.int .i64 0, .int .i64 0, .slice none 0 0] 32 (0, 0)) (jzB BK195) k_ hk, Kd.freshB (g := gb201) (o := .cells #[.slice (some ad204) t196.length co14, .int .i64 t199, .int .i64 t200] 26 (0, 0)) (jzB BK201) k_ hk, Kd.freshB (g := gb205) (o := .cells #[.int .i64 ((rd_T32 t196 t203).f0), .int .i64 ((rd_T32 t196 t203).f1), .slice A204_2 ((rd_T32 t196 t203).f2).length c204_2] 32 (0, 0)) (jzB BK205) k_ hk⟩))
             (case aO => exact (by (with_reducible repeat (first | apply Kd.N_alloc | apply Kd.N_drewN | apply Kd.N_drew)); exact Kd.N_mono HO208.out (fun _ hk => ⟨hk.1, ⟨hk.2.2.1, ⟨hk.2.2.2.1, ⟨hk.2.2.2.2.1, ⟨hk.2.2.2.2.2.1, hk.2.2.2.2.2.2⟩⟩⟩⟩⟩)))
             (case aS => exact (below_size (jzG HB)))
             (case aL => have := LMc55.out; omega)
             intro v215 w82 ho hb hg hat
             rw [← Ny214.out] at ho
             have n0_ := Am (Kd.N_afterv (ok := (fun k_ => (w.heap.size ≤ k_) ∧ k_ ≠ gb193 ∧ k_ ≠ gb194 ∧ k_ ≠ gb195 ∧ k_ ≠ gb201 ∧ k_ ≠ gb205)) (jzN HO_202000) hg hat)
             have n1_ := Am (blk_grown (g := gb193) (o := .cells #[.slice A0_0 l0_0.length c0_0, .int .i64 a0_1, .int .i64 a0_2] 26 (0, 0)) (jzB BK193) hg (Kd.N_ne HO208.out BK193.out (by decide)))
             have n2_ := Am (blk_grown (g := gb194) (o := .cells #[.slice none 0 0, .int .i64 0, .int .i64 0] 26 (0, 0)) (jzB BK194) hg (Kd.N_ne HO208.out BK194.out (by decide)))
             have n3_ := Am (blk_grown (g := gb195) (o := .cells #[.int .i64 0, .int .i64 0, .slice none 0 0] 32 (0, 0)) (jzB BK195) hg (Kd.N_away HO208.out (fun _ hk => hk.2.2.2.2.1)))
             have n4_ := Am (blk_grown (g := gb201) (o := .cells #[.slice (some ad204) t196.length co14, .int .i64 t199, .int .i64 t200] 26 (0, 0)) (jzB BK201) hg (Kd.N_ne HO208.out BK201.out (by decide)))
             have n5_ := Am (Kd.V_afterv (ok := (fun k_ => (w.heap.size ≤ k_) ∧ some k_ ≠ (.slice (some ad204) t196.length co14 : Value).ownBlock ∧ k_ ≠ gb193 ∧ k_ ≠ gb194 ∧ k_ ≠ gb195 ∧ k_ ≠ gb201 ∧ k_ ≠ gb205)) (by (with_reducible repeat (first | apply Kd.V_alloc | apply Kd.V_drewN | apply Kd.V_drew)); exact HL204_2.out) hg hat)
             have n6_ := Am (blk_grown (g := gb205) (o := .cells #[.int .i64 ((rd_T32 t196 t203).f0), .int .i64 ((rd_T32 t196 t203).f1), .slice A204_2 ((rd_T32 t196 t203).f2).length c204_2] 32 (0, 0)) (jzB BK205) hg (Kd.N_away HO208.out (fun _ hk => hk.2.2.2.2.2.2)))
             have n7_ := Am (Kd.V_afterv (ok := (fun k_ => (w.heap.size ≤ k_) ∧ k_ ≠ gb193 ∧ k_ ≠ gb194 ∧ k_ ≠ gb195 ∧ k_ ≠ gb201 ∧ k_ ≠ gb205)) (by (with_reducible repeat (first | apply Kd.V_alloc | apply Kd.V_drewN | apply Kd.V_drew)); exact HO213.out) hg hat)
             have n8_ := Am (Kd.V_afterv (ok := (fun k_ => (w.heap.size ≤ k_) ∧ k_ ≠ gb193 ∧ k_ ≠ gb194 ∧ k_ ≠ gb195 ∧ k_ ≠ gb201 ∧ k_ ≠ gb205)) (by (with_reducible repeat (first | apply Kd.V_alloc | apply Kd.V_drewN | apply Kd.V_drew)); exact HO221.out) hg hat)
             have n9_ := Am (hb)
             have n10_ := Am (ho)
             clear HO_202000
             clear BK193
             clear BK194
             clear BK195
             clear BK201
             clear HL204_2
             clear BK205
             clear HO213
             clear HO221
             clear HB
             clear HO208
             have HO_202000 := n0_
             have BK193 := n1_
             have BK194 := n2_
             have BK195 := n3_
             have BK201 := n4_
             have HL204_2 := n5_
             have BK205 := n6_
             have HO213 := n7_
             have HO221 := n8_
             have HB := n9_
             have HO216 := n10_
             clear n0_ n1_ n2_ n3_ n4_ n5_ n6_ n7_ n8_ n9_ n10_
             clear ho hb hg hat
             refine hK.out _ _ ⟨(b8 BK201.out 0).trans rfl, (b8 BK201.out 1).trans rfl, (b8 BK201.out 2).trans rfl⟩ (fun hHeld => ?_)
             clear hK K
             refine norm_ (a' := ?_) ?_ ?_
             rotate_left
             ·show Act.put _ (some 47) _ = _
              simp only [Act.put, zA, zB, zC, i64_w, i32_w]
              rfl
             refine one_ (i := 11) (N := some 53) #[T,T,T,T,T,T,T,T,T,T,T,T,F] rfl rfl (one_of HT_.out (by kernel_rfl)) (by decide) (fun K hK => ?_)
             refine Kd.N_append_rows_step k32 (w0 := w) w.heap.size (by rfl) (.tmp 47) (.tmp 52) 24 32 (.agg #[(.int .i64 0), (.int .i64 0), (.slice none 0 0)]) 40 rfl Try.underlying24 info32 rfl (by decide) (by omega) v215 y214 y217 _ _ _ (fun k_ => (w.heap.size ≤ k_) ∧ k_ ≠ gb193 ∧ k_ ≠ gb194 ∧ k_ ≠ gb195 ∧ k_ ≠ gb201 ∧ k_ ≠ gb205) (fun k_ => ((fun k_ => (w.heap.size ≤ k_) ∧ k_ ≠ gb193 ∧ k_ ≠ gb194 ∧ k_ ≠ gb195 ∧ k_ ≠ gb201 ∧ k_ ≠ gb205)) k_ ∧ some k_ ≠ (v215 : Value).ownBlock) rfl rfl ?aO ?aR (fun _ hk => hk) ?aF ?aB ?aS ?aL ?_
             (case aR => exact (by skip; exact Kd.V_F (Kd.V_mono (ok' := (fun k_ => ((fun k_ => (w.heap.size ≤ k_) ∧ k_ ≠ gb193 ∧ k_ ≠ gb194 ∧ k_ ≠ gb195 ∧ k_ ≠ gb201 ∧ k_ ≠ gb205)) k_ ∧ some k_ ≠ (v215 : Value).ownBlock)) (HO221.out) (fun k_ hk => ⟨⟨hk.1.1, ⟨hk.1.2.1, ⟨hk.1.2.2.1, ⟨hk.1.2.2.2.1, ⟨hk.1.2.2.2.2.1, hk.1.2.2.2.2.2⟩⟩⟩⟩⟩, hk.2⟩))))
             (case aB => exact (jzG HB))
             (case aF => exact (fun k_ hk => ⟨(Nat.le_trans (below_size (jzG HB)) hk), Kd.freshB (g := gb193) (o := .cells #[.slice A0_0 l0_0.length c0_0, .int .i64 a0_1, .int .i64 a0_2] 26 (0, 0)) (jzB BK193) k_ hk, Kd.freshB (g := gb194) (o := .cells #[.slice none 0 0, .int .i64 0, .int .i64 0] 26 (0, 0)) (jzB BK194) k_ hk, Kd.freshB (g := gb195) (o := .cells #[.int .i64 0, .int .i64 0, .slice none 0 0] 32 (0, 0)) (jzB BK195) k_ hk, Kd.freshB (g := gb201) (o := .cells #[.slice (some ad204) t196.length co14, .int .i64 t199, .int .i64 t200] 26 (0, 0)) (jzB BK201) k_ hk, Kd.freshB (g := gb205) (o := .cells #[.int .i64 ((rd_T32 t196 t203).f0), .int .i64 ((rd_T32 t196 t203).f1), .slice A204_2 ((rd_T32 t196 t203).f2).length c204_2] 32 (0, 0)) (jzB BK205) k_ hk⟩))
             (case aO => exact (jzN HO216))
             (case aS => exact (below_size (jzG HB)))
             (case aL => have := LMc59.out; omega)
             intro v223 w83 ho hb hg hat
             rw [← Ny222.out] at ho
             have n0_ := Am (Kd.N_afterv (ok := (fun k_ => (w.heap.size ≤ k_) ∧ k_ ≠ gb193 ∧ k_ ≠ gb194 ∧ k_ ≠ gb195 ∧ k_ ≠ gb201 ∧ k_ ≠ gb205)) (jzN HO_202000) hg hat)
             have n1_ := Am (blk_grown (g := gb193) (o := .cells #[.slice A0_0 l0_0.length c0_0, .int .i64 a0_1, .int .i64 a0_2] 26 (0, 0)) (jzB BK193) hg (Kd.N_ne HO216.out BK193.out (by decide)))
             have n2_ := Am (blk_grown (g := gb194) (o := .cells #[.slice none 0 0, .int .i64 0, .int .i64 0] 26 (0, 0)) (jzB BK194) hg (Kd.N_ne HO216.out BK194.out (by decide)))
             have n3_ := Am (blk_grown (g := gb195) (o := .cells #[.int .i64 0, .int .i64 0, .slice none 0 0] 32 (0, 0)) (jzB BK195) hg (Kd.N_away HO216.out (fun _ hk => hk.2.2.2.1)))
             have n4_ := Am (blk_grown (g := gb201) (o := .cells #[.slice (some ad204) t196.length co14, .int .i64 t199, .int .i64 t200] 26 (0, 0)) (jzB BK201) hg (Kd.N_ne HO216.out BK201.out (by decide)))
             have n5_ := Am (Kd.V_afterv (ok := (fun k_ => (w.heap.size ≤ k_) ∧ some k_ ≠ (.slice (some ad204) t196.length co14 : Value).ownBlock ∧ k_ ≠ gb193 ∧ k_ ≠ gb194 ∧ k_ ≠ gb195 ∧ k_ ≠ gb201 ∧ k_ ≠ gb205)) (by (with_reducible repeat (first | apply Kd.V_alloc | apply Kd.V_drewN | apply Kd.V_drew)); exact HL204_2.out) hg hat)
             have n6_ := Am (blk_grown (g := gb205) (o := .cells #[.int .i64 ((rd_T32 t196 t203).f0), .int .i64 ((rd_T32 t196 t203).f1), .slice A204_2 ((rd_T32 t196 t203).f2).length c204_2] 32 (0, 0)) (jzB BK205) hg (Kd.N_away HO216.out (fun _ hk => hk.2.2.2.2.2)))
             have n7_ := Am (Kd.V_afterv (ok := (fun k_ => (w.heap.size ≤ k_) ∧ k_ ≠ gb193 ∧ k_ ≠ gb194 ∧ k_ ≠ gb195 ∧ k_ ≠ gb201 ∧ k_ ≠ gb205)) (by (with_reducible repeat (first | apply Kd.V_alloc | apply Kd.V_drewN | apply Kd.V_drew)); exact HO213.out) hg hat)
             have n8_ := Am (Kd.V_afterv (ok := (fun k_ => (w.heap.size ≤ k_) ∧ k_ ≠ gb193 ∧ k_ ≠ gb194 ∧ k_ ≠ gb195 ∧ k_ ≠ gb201 ∧ k_ ≠ gb205)) (by (with_reducible repeat (first | apply Kd.V_alloc | apply Kd.V_drewN | apply Kd.V_drew)); exact HO221.out) hg hat)
             have n9_ := Am (hb)
             have n10_ := Am (ho)
             clear HO_202000
             clear BK193
             clear BK194
             clear BK195
             clear BK201
             clear HL204_2
             clear BK205
             clear HO213
             clear HO221
             clear HB
             clear HO216
             have HO_202000 := n0_
             have BK193 := n1_
             have BK194 := n2_
             have BK195 := n3_
             have BK201 := n4_
             have HL204_2 := n5_
             have BK205 := n6_
             have HO213 := n7_
             have HO221 := n8_
             have HB := n9_
             have HO224 := n10_
             clear n0_ n1_ n2_ n3_ n4_ n5_ n6_ n7_ n8_ n9_ n10_
             clear ho hb hg hat
             refine hK.out _ _ ⟨(b8 BK201.out 0).trans rfl, (b8 BK201.out 1).trans rfl, (b8 BK201.out 2).trans rfl⟩ (fun hHeld => ?_)
             clear hK K
             refine norm_ (a' := ?_) ?_ ?_
             rotate_left
             ·show Act.put _ (some 53) _ = _
              simp only [Act.put, zA, zB, zC, i64_w, i32_w]
              rfl
             refine pure_ (i := 12) (N := some 12) (v := ?_) (a' := ?_) #[T,T,T,T,T,T,T,T,T,T,T,T,T] rfl rfl (any_of HT_.out (by kernel_rfl)) (fun _ _ _ h => h) (Or.inl ⟨by rfl, ?_⟩) ?_ ?_
             rotate_left; intro w'; go_simp; with_reducible rfl; rotate_left; simp only [Act.put, zA, zB, zC, i64_w, i32_w]; rfl
             refine done_ (done_of HT_.out (by kernel_rfl)) ?_
             have hcz84_0 : w83.cell? ⟨gb205, 0, none⟩ = some (.int .i64 ((rd_T32 t196 t203).f0)) := (b8 BK205.out 0).trans rfl
             have hcz84_1 : w83.cell? ⟨gb205, 1, none⟩ = some (.int .i64 ((rd_T32 t196 t203).f1)) := (b8 BK205.out 1).trans rfl
             have hcz84_2 : w83.cell? ⟨gb205, 2, none⟩ = some (.slice A204_2 ((rd_T32 t196 t203).f2).length c204_2) := (b8 BK205.out 2).trans rfl
             have hfz84_0 := blk_frozen BK205.out 0
             have hfz84_1 := blk_frozen BK205.out 1
             have hfz84_2 := blk_frozen BK205.out 2
             try go_wp2_with (first | ((with_reducible refine gate_dst (N := 55) rfl ?_); refine Kd.N_lit k32 _ 32 ?hg (N' := 55) ?hd (xs := ([(⟨(rd_T32 t196 t203).f0, (rd_T32 t196 t203).f1, (rd_T32 t196 t203).f2⟩ : S32)] : List (S32))) (inner := [.int .i64 ((rd_T32 t196 t203).f0), .int .i64 ((rd_T32 t196 t203).f1), .slice A204_2 ((rd_T32 t196 t203).f2).length c204_2]) (ok := (fun k_ => (w.heap.size ≤ k_) ∧ some k_ ≠ (.slice (some ad204) t196.length co14 : Value).ownBlock ∧ some k_ ≠ (v223 : Value).ownBlock ∧ k_ ≠ gb193 ∧ k_ ≠ gb194 ∧ k_ ≠ gb195 ∧ k_ ≠ gb201 ∧ k_ ≠ gb205)) (okp := (fun k_ => (w.heap.size ≤ k_) ∧ some k_ ≠ (.slice (some ad204) t196.length co14 : Value).ownBlock ∧ some k_ ≠ (v223 : Value).ownBlock ∧ k_ ≠ gb193 ∧ k_ ≠ gb194 ∧ k_ ≠ gb195 ∧ k_ ≠ gb201 ∧ k_ ≠ gb205)) ?hr ?hp (fun _ hk => hk) ((show ∀ k_, w83.heap.size ≤ k_ → (fun k_ => (w.heap.size ≤ k_) ∧ some k_ ≠ (.slice (some ad204) t196.length co14 : Value).ownBlock ∧ some k_ ≠ (v223 : Value).ownBlock ∧ k_ ≠ gb193 ∧ k_ ≠ gb194 ∧ k_ ≠ gb195 ∧ k_ ≠ gb201 ∧ k_ ≠ gb205) k_ from fun k_ hk => ⟨(Nat.le_trans (below_size (jzG HB)) hk), Kd.fresh' (Kd.N_lt (jzN HO_202000)) k_ hk, Kd.fresh' (Kd.N_lt (jzN HO224)) k_ hk, Kd.freshB (g := gb193) (o := .cells #[.slice A0_0 l0_0.length c0_0, .int .i64 a0_1, .int .i64 a0_2] 26 (0, 0)) (jzB BK193) k_ hk, Kd.freshB (g := gb194) (o := .cells #[.slice none 0 0, .int .i64 0, .int .i64 0] 26 (0, 0)) (jzB BK194) k_ hk, Kd.freshB (g := gb195) (o := .cells #[.int .i64 0, .int .i64 0, .slice none 0 0] 32 (0, 0)) (jzB BK195) k_ hk, Kd.freshB (g := gb201) (o := .cells #[.slice (some ad204) t196.length co14, .int .i64 t199, .int .i64 t200] 26 (0, 0)) (jzB BK201) k_ hk, Kd.freshB (g := gb205) (o := .cells #[.int .i64 ((rd_T32 t196 t203).f0), .int .i64 ((rd_T32 t196 t203).f1), .slice A204_2 ((rd_T32 t196 t203).f2).length c204_2] 32 (0, 0)) (jzB BK205) k_ hk⟩) _ (Nat.le_refl _)) (Below.refl _ _) (Nat.le_refl _) (by simp) ?_; (case hd => rfl); (case hg => rfl); (case hr => first | (go_simp; done) | (go_simp; rfl)); (case hp => exact (Reps.c3 (show Kd.FK k32 _ _ (⟨(rd_T32 t196 t203).f0, (rd_T32 t196 t203).f1, (rd_T32 t196 t203).f2⟩ : S32) [.int .i64 ((rd_T32 t196 t203).f0), .int .i64 ((rd_T32 t196 t203).f1), .slice A204_2 ((rd_T32 t196 t203).f2).length c204_2] from (k32_mkF _ _ (⟨(rd_T32 t196 t203).f0, (rd_T32 t196 t203).f1, (rd_T32 t196 t203).f2⟩ : S32) (Kd.V_reads' (Kd.V_mono (ok' := (fun k_ => (w.heap.size ≤ k_) ∧ some k_ ≠ (.slice (some ad204) t196.length co14 : Value).ownBlock ∧ some k_ ≠ (v223 : Value).ownBlock ∧ k_ ≠ gb193 ∧ k_ ≠ gb194 ∧ k_ ≠ gb195 ∧ k_ ≠ gb201 ∧ k_ ≠ gb205)) (HL204_2.out) (fun k_ hk => ⟨hk.1.1, ⟨hk.1.2.1, ⟨hk.2, ⟨hk.1.2.2.1, ⟨hk.1.2.2.2.1, ⟨hk.1.2.2.2.2.1, ⟨hk.1.2.2.2.2.2.1, hk.1.2.2.2.2.2.2⟩⟩⟩⟩⟩⟩⟩))).2.1 (Kd.V_F (Kd.V_mono (ok' := (fun k_ => (w.heap.size ≤ k_) ∧ some k_ ≠ (.slice (some ad204) t196.length co14 : Value).ownBlock ∧ some k_ ≠ (v223 : Value).ownBlock ∧ k_ ≠ gb193 ∧ k_ ≠ gb194 ∧ k_ ≠ gb195 ∧ k_ ≠ gb201 ∧ k_ ≠ gb205)) (HL204_2.out) (fun k_ hk => ⟨hk.1.1, ⟨hk.1.2.1, ⟨hk.2, ⟨hk.1.2.2.1, ⟨hk.1.2.2.2.1, ⟨hk.1.2.2.2.2.1, ⟨hk.1.2.2.2.2.2.1, hk.1.2.2.2.2.2.2⟩⟩⟩⟩⟩⟩⟩))))) (Reps.none _ _))); intro v226 w85 ho86 hb hg_ hnew_; clear hg_ hnew_; (first | rw [← Ny225.out] at ho86 | (simp only [Int.reduceToNat] at ho86; rw [← Ny225.out] at ho86)); have n0_ := Am (Kd.N_elder' (jzN HO_202000) (Kd.N_base ho86) hb); have n1_ := Am (Kd.V_elder' (by (with_reducible repeat (first | apply Kd.V_alloc | apply Kd.V_drewN | apply Kd.V_drew)); exact HL204_2.out) (Kd.N_base ho86) hb); have n2_ := Am (Kd.V_elder' (by (with_reducible repeat (first | apply Kd.V_alloc | apply Kd.V_drewN | apply Kd.V_drew)); exact HO213.out) (Kd.N_base ho86) hb); have n3_ := Am (Kd.V_elder' (by (with_reducible repeat (first | apply Kd.V_alloc | apply Kd.V_drewN | apply Kd.V_drew)); exact HO221.out) (Kd.N_base ho86) hb); have n4_ := Am (Kd.N_elder' (jzN HO224) (Kd.N_base ho86) hb); have n5_ := Am (Kd.N_lower ho86 (below_size (jzG HB))); have n6_ := Am (blk_below (g := gb193) (o := .cells #[.slice A0_0 l0_0.length c0_0, .int .i64 a0_1, .int .i64 a0_2] 26 (0, 0)) (jzB BK193) hb); have n7_ := Am (blk_below (g := gb194) (o := .cells #[.slice none 0 0, .int .i64 0, .int .i64 0] 26 (0, 0)) (jzB BK194) hb); have n8_ := Am (blk_below (g := gb195) (o := .cells #[.int .i64 0, .int .i64 0, .slice none 0 0] 32 (0, 0)) (jzB BK195) hb); have n9_ := Am (blk_below (g := gb201) (o := .cells #[.slice (some ad204) t196.length co14, .int .i64 t199, .int .i64 t200] 26 (0, 0)) (jzB BK201) hb); have n10_ := Am (blk_below (g := gb205) (o := .cells #[.int .i64 ((rd_T32 t196 t203).f0), .int .i64 ((rd_T32 t196 t203).f1), .slice A204_2 ((rd_T32 t196 t203).f2).length c204_2] 32 (0, 0)) (jzB BK205) hb); have n11_ := Am (below_step (jzG HB) hb); clear HO_202000; clear HL204_2; clear HO213; clear HO221; clear HO224; clear BK193; clear BK194; clear BK195; clear BK201; clear BK205; clear HB; have HO_202000 := n0_; have HL204_2 := n1_; have HO213 := n2_; have HO221 := n3_; have HO224 := n4_; have HO227 := n5_; have BK193 := n6_; have BK194 := n7_; have BK195 := n8_; have BK201 := n9_; have BK205 := n10_; have HB := n11_; clear n0_ n1_ n2_ n3_ n4_ n5_ n6_ n7_ n8_ n9_ n10_ n11_; clear hb ho86; obtain ⟨Ao88, co88, eo88⟩ := Kd.N_slice HO224.out; subst eo88) | ((with_reducible refine gate_builtin (b := .append) (xs := #[.tmp 55, .tmp 56]) rfl ?_); at_builtin; refine Kd.N_append_rows k32 (w0 := w) w.heap.size rfl (.tmp 55) (.tmp 56) 24 32 (.agg #[(.int .i64 0), (.int .i64 0), (.slice none 0 0)]) 40 rfl Try.underlying24 info32 rfl (by decide) (by omega) v226 y225 y222 _ _ _ (fun k_ => (w.heap.size ≤ k_) ∧ k_ ≠ gb193 ∧ k_ ≠ gb194 ∧ k_ ≠ gb195 ∧ k_ ≠ gb201 ∧ k_ ≠ gb205) (fun k_ => ((fun k_ => (w.heap.size ≤ k_) ∧ k_ ≠ gb193 ∧ k_ ≠ gb194 ∧ k_ ≠ gb195 ∧ k_ ≠ gb201 ∧ k_ ≠ gb205)) k_ ∧ some k_ ≠ (v226 : Value).ownBlock) rfl rfl ?aO ?aR (fun _ hk => hk) ?aF ?aB ?aS ?aL ?_; (case aR => exact (by skip; exact Kd.N_F (Kd.N_mono (ok' := (fun k_ => ((fun k_ => (w.heap.size ≤ k_) ∧ k_ ≠ gb193 ∧ k_ ≠ gb194 ∧ k_ ≠ gb195 ∧ k_ ≠ gb201 ∧ k_ ≠ gb205)) k_ ∧ some k_ ≠ (v226 : Value).ownBlock)) (HO224.out) (fun k_ hk => ⟨⟨hk.1.1, ⟨hk.1.2.1, ⟨hk.1.2.2.1, ⟨hk.1.2.2.2.1, ⟨hk.1.2.2.2.2.1, hk.1.2.2.2.2.2⟩⟩⟩⟩⟩, hk.2⟩)))); (case aB => exact (jzG HB)); (case aF => exact (fun k_ hk => ⟨(Nat.le_trans (below_size (jzG HB)) hk), Kd.freshB (g := gb193) (o := .cells #[.slice A0_0 l0_0.length c0_0, .int .i64 a0_1, .int .i64 a0_2] 26 (0, 0)) (jzB BK193) k_ hk, Kd.freshB (g := gb194) (o := .cells #[.slice none 0 0, .int .i64 0, .int .i64 0] 26 (0, 0)) (jzB BK194) k_ hk, Kd.freshB (g := gb195) (o := .cells #[.int .i64 0, .int .i64 0, .slice none 0 0] 32 (0, 0)) (jzB BK195) k_ hk, Kd.freshB (g := gb201) (o := .cells #[.slice (some ad204) t196.length co14, .int .i64 t199, .int .i64 t200] 26 (0, 0)) (jzB BK201) k_ hk, Kd.freshB (g := gb205) (o := .cells #[.int .i64 ((rd_T32 t196 t203).f0), .int .i64 ((rd_T32 t196 t203).f1), .slice A204_2 ((rd_T32 t196 t203).f2).length c204_2] 32 (0, 0)) (jzB BK205) k_ hk⟩)); (case aO => exact (by (with_reducible repeat (first | apply Kd.N_alloc | apply Kd.N_drewN | apply Kd.N_drew)); exact Kd.N_mono HO227.out (fun _ hk => ⟨hk.1, ⟨hk.2.2.2.1, ⟨hk.2.2.2.2.1, ⟨hk.2.2.2.2.2.1, ⟨hk.2.2.2.2.2.2.1, hk.2.2.2.2.2.2.2⟩⟩⟩⟩⟩))); (case aS => exact (below_size (jzG HB))); (case aL => have := LMc60.out; omega); intro v229 w87 ho hb hg hat; rw [← Ny228.out] at ho; have n0_ := Am (Kd.N_afterv (ok := (fun k_ => (w.heap.size ≤ k_) ∧ some k_ ≠ (.slice Ao88 y222.length co88 : Value).ownBlock ∧ k_ ≠ gb193 ∧ k_ ≠ gb194 ∧ k_ ≠ gb195 ∧ k_ ≠ gb201 ∧ k_ ≠ gb205)) (by (with_reducible repeat (first | apply Kd.N_alloc | apply Kd.N_drewN | apply Kd.N_drew)); exact Kd.N_mono HO_202000.out (fun _ hk => ⟨⟨hk.1.1.1, ⟨hk.1.2, ⟨hk.1.1.2.1, ⟨hk.1.1.2.2.1, ⟨hk.1.1.2.2.2.1, ⟨hk.1.1.2.2.2.2.1, hk.1.1.2.2.2.2.2⟩⟩⟩⟩⟩⟩, hk.2⟩)) hg hat); have n1_ := Am (blk_grown (g := gb193) (o := .cells #[.slice A0_0 l0_0.length c0_0, .int .i64 a0_1, .int .i64 a0_2] 26 (0, 0)) (jzB BK193) hg (Kd.N_ne HO227.out BK193.out (by decide))); have n2_ := Am (blk_grown (g := gb194) (o := .cells #[.slice none 0 0, .int .i64 0, .int .i64 0] 26 (0, 0)) (jzB BK194) hg (Kd.N_ne HO227.out BK194.out (by decide))); have n3_ := Am (blk_grown (g := gb195) (o := .cells #[.int .i64 0, .int .i64 0, .slice none 0 0] 32 (0, 0)) (jzB BK195) hg (Kd.N_away HO227.out (fun _ hk => hk.2.2.2.2.2.1))); have n4_ := Am (blk_grown (g := gb201) (o := .cells #[.slice (some ad204) t196.length co14, .int .i64 t199, .int .i64 t200] 26 (0, 0)) (jzB BK201) hg (Kd.N_ne HO227.out BK201.out (by decide))); have n5_ := Am (Kd.V_afterv (ok := (fun k_ => (w.heap.size ≤ k_) ∧ some k_ ≠ (.slice (some ad204) t196.length co14 : Value).ownBlock ∧ some k_ ≠ (.slice Ao88 y222.length co88 : Value).ownBlock ∧ k_ ≠ gb193 ∧ k_ ≠ gb194 ∧ k_ ≠ gb195 ∧ k_ ≠ gb201 ∧ k_ ≠ gb205)) (by (with_reducible repeat (first | apply Kd.V_alloc | apply Kd.V_drewN | apply Kd.V_drew)); exact Kd.V_mono HL204_2.out (fun _ hk => ⟨⟨hk.1.1.1, ⟨hk.1.1.2.1, ⟨hk.1.2, ⟨hk.1.1.2.2.1, ⟨hk.1.1.2.2.2.1, ⟨hk.1.1.2.2.2.2.1, ⟨hk.1.1.2.2.2.2.2.1, hk.1.1.2.2.2.2.2.2⟩⟩⟩⟩⟩⟩⟩, hk.2⟩)) hg hat); have n6_ := Am (blk_grown (g := gb205) (o := .cells #[.int .i64 ((rd_T32 t196 t203).f0), .int .i64 ((rd_T32 t196 t203).f1), .slice A204_2 ((rd_T32 t196 t203).f2).length c204_2] 32 (0, 0)) (jzB BK205) hg (Kd.N_away HO227.out (fun _ hk => hk.2.2.2.2.2.2.2))); have n7_ := Am (Kd.V_afterv (ok := (fun k_ => (w.heap.size ≤ k_) ∧ some k_ ≠ (.slice Ao88 y222.length co88 : Value).ownBlock ∧ k_ ≠ gb193 ∧ k_ ≠ gb194 ∧ k_ ≠ gb195 ∧ k_ ≠ gb201 ∧ k_ ≠ gb205)) (by (with_reducible repeat (first | apply Kd.V_alloc | apply Kd.V_drewN | apply Kd.V_drew)); exact Kd.V_mono HO213.out (fun _ hk => ⟨⟨hk.1.1.1, ⟨hk.1.2, ⟨hk.1.1.2.1, ⟨hk.1.1.2.2.1, ⟨hk.1.1.2.2.2.1, ⟨hk.1.1.2.2.2.2.1, hk.1.1.2.2.2.2.2⟩⟩⟩⟩⟩⟩, hk.2⟩)) hg hat); have n8_ := Am (Kd.V_afterv (ok := (fun k_ => (w.heap.size ≤ k_) ∧ some k_ ≠ (.slice Ao88 y222.length co88 : Value).ownBlock ∧ k_ ≠ gb193 ∧ k_ ≠ gb194 ∧ k_ ≠ gb195 ∧ k_ ≠ gb201 ∧ k_ ≠ gb205)) (by (with_reducible repeat (first | apply Kd.V_alloc | apply Kd.V_drewN | apply Kd.V_drew)); exact Kd.V_mono HO221.out (fun _ hk => ⟨⟨hk.1.1.1, ⟨hk.1.2, ⟨hk.1.1.2.1, ⟨hk.1.1.2.2.1, ⟨hk.1.1.2.2.2.1, ⟨hk.1.1.2.2.2.2.1, hk.1.1.2.2.2.2.2⟩⟩⟩⟩⟩⟩, hk.2⟩)) hg hat); have n9_ := Am (Kd.N_afterv (ok := (fun k_ => (w.heap.size ≤ k_) ∧ k_ ≠ gb193 ∧ k_ ≠ gb194 ∧ k_ ≠ gb195 ∧ k_ ≠ gb201 ∧ k_ ≠ gb205)) (jzN HO224) hg hat); have n10_ := Am (hb); have n11_ := Am (ho); clear HO_202000; clear BK193; clear BK194; clear BK195; clear BK201; clear HL204_2; clear BK205; clear HO213; clear HO221; clear HO224; clear HB; clear HO227; have HO_202000 := n0_; have BK193 := n1_; have BK194 := n2_; have BK195 := n3_; have BK201 := n4_; have HL204_2 := n5_; have BK205 := n6_; have HO213 := n7_; have HO221 := n8_; have HO224 := n9_; have HB := n10_; have HO230 := n11_; clear n0_ n1_ n2_ n3_ n4_ n5_ n6_ n7_ n8_ n9_ n10_ n11_; clear ho hb hg hat; obtain ⟨Ao89, co89, eo89⟩ := Kd.N_slice HO230.out; subst eo89; have hcz90_0 : w87.cell? ⟨gb201, 0, none⟩ = some (.slice (some ad204) t196.length co14) := (b8 BK201.out 0).trans rfl; have hcz90_1 : w87.cell? ⟨gb201, 1, none⟩ = some (.int .i64 t199) := (b8 BK201.out 1).trans rfl; have hcz90_2 : w87.cell? ⟨gb201, 2, none⟩ = some (.int .i64 t200) := (b8 BK201.out 2).trans rfl; have hfz90_0 := blk_frozen BK201.out 0; have hfz90_1 := blk_frozen BK201.out 1; have hfz90_2 := blk_frozen BK201.out 2; have hcz91_0 : w87.cell? ⟨gb193, 0, none⟩ = some (.slice A0_0 l0_0.length c0_0) := (b8 BK193.out 0).trans rfl; have hcz91_1 : w87.cell? ⟨gb193, 1, none⟩ = some (.int .i64 a0_1) := (b8 BK193.out 1).trans rfl; have hcz91_2 : w87.cell? ⟨gb193, 2, none⟩ = some (.int .i64 a0_2) := (b8 BK193.out 2).trans rfl; have hfz91_0 := blk_frozen BK193.out 0; have hfz91_1 := blk_frozen BK193.out 1; have hfz91_2 := blk_frozen BK193.out 2))
             have n0_ : Aside0 (Kd.N k32 32 ((w87.setCell ⟨gb201, 0, none⟩ (.slice Ao89 y228.length co89)).setCell ⟨gb201, 1, none⟩ (.int .i64 (wrap64 (a0_1 + 1)))) w.heap.size (fun k_ => (w.heap.size ≤ k_) ∧ some k_ ≠ (.slice Ao88 y222.length co88 : Value).ownBlock ∧ some k_ ≠ (.slice Ao89 y228.length co89 : Value).ownBlock ∧ k_ ≠ gb193 ∧ k_ ≠ gb194 ∧ k_ ≠ gb195 ∧ k_ ≠ gb201 ∧ k_ ≠ gb205) (.slice (some ad204) t196.length co14) t196) := ⟨by (with_reducible repeat (first | apply Kd.N_alloc | apply Kd.N_drewN | apply Kd.N_drew)); exact Kd.N_mono (Kd.N_far (p := ⟨gb201, 1, none⟩) (Kd.N_far (p := ⟨gb201, 0, none⟩) (Kd.N_mono HO_202000.out (fun k_ hk => (⟨hk, hk.1.2.2.2.2.2.1⟩ : _ ∧ k_ ≠ gb201))) (fun _ hk => hk.2) (.slice Ao89 y228.length co89)) (fun _ hk => hk.2) (.int .i64 (wrap64 (a0_1 + 1)))) (fun _ hk => ⟨hk.1.1.1, ⟨hk.1.1.2.1, ⟨hk.1.2, ⟨hk.1.1.2.2.1, ⟨hk.1.1.2.2.2.1, ⟨hk.1.1.2.2.2.2.1, ⟨hk.1.1.2.2.2.2.2.1, hk.1.1.2.2.2.2.2.2⟩⟩⟩⟩⟩⟩⟩)⟩
             have n1_ : Aside0 (Kd.V (Kd.int .i64) 3 ((w87.setCell ⟨gb201, 0, none⟩ (.slice Ao89 y228.length co89)).setCell ⟨gb201, 1, none⟩ (.int .i64 (wrap64 (a0_1 + 1)))) w.heap.size (fun k_ => (w.heap.size ≤ k_) ∧ some k_ ≠ (.slice (some ad204) t196.length co14 : Value).ownBlock ∧ some k_ ≠ (.slice Ao88 y222.length co88 : Value).ownBlock ∧ some k_ ≠ (.slice Ao89 y228.length co89 : Value).ownBlock ∧ k_ ≠ gb193 ∧ k_ ≠ gb194 ∧ k_ ≠ gb195 ∧ k_ ≠ gb201 ∧ k_ ≠ gb205) (.slice A204_2 ((rd_T32 t196 t203).f2).length c204_2) ((rd_T32 t196 t203).f2)) := ⟨by (with_reducible repeat (first | apply Kd.V_alloc | apply Kd.V_drewN | apply Kd.V_drew)); exact Kd.V_mono (Kd.V_far (p := ⟨gb201, 1, none⟩) (Kd.V_far (p := ⟨gb201, 0, none⟩) (Kd.V_mono HL204_2.out (fun k_ hk => (⟨hk, hk.1.2.2.2.2.2.2.1⟩ : _ ∧ k_ ≠ gb201))) (fun _ hk => hk.2) (.slice Ao89 y228.length co89)) (fun _ hk => hk.2) (.int .i64 (wrap64 (a0_1 + 1)))) (fun _ hk => ⟨hk.1.1.1, ⟨hk.1.1.2.1, ⟨hk.1.1.2.2.1, ⟨hk.1.2, ⟨hk.1.1.2.2.2.1, ⟨hk.1.1.2.2.2.2.1, ⟨hk.1.1.2.2.2.2.2.1, ⟨hk.1.1.2.2.2.2.2.2.1, hk.1.1.2.2.2.2.2.2.2⟩⟩⟩⟩⟩⟩⟩⟩)⟩
             have n2_ : Aside0 (Kd.V k32 32 ((w87.setCell ⟨gb201, 0, none⟩ (.slice Ao89 y228.length co89)).setCell ⟨gb201, 1, none⟩ (.int .i64 (wrap64 (a0_1 + 1)))) w.heap.size (fun k_ => (w.heap.size ≤ k_) ∧ some k_ ≠ (.slice Ao88 y222.length co88 : Value).ownBlock ∧ some k_ ≠ (.slice Ao89 y228.length co89 : Value).ownBlock ∧ k_ ≠ gb193 ∧ k_ ≠ gb194 ∧ k_ ≠ gb195 ∧ k_ ≠ gb201 ∧ k_ ≠ gb205) (.slice (some ad204) y209.length co14) y209) := ⟨by (with_reducible repeat (first | apply Kd.V_alloc | apply Kd.V_drewN | apply Kd.V_drew)); exact Kd.V_mono (Kd.V_far (p := ⟨gb201, 1, none⟩) (Kd.V_far (p := ⟨gb201, 0, none⟩) (Kd.V_mono HO213.out (fun k_ hk => (⟨hk, hk.1.2.2.2.2.2.1⟩ : _ ∧ k_ ≠ gb201))) (fun _ hk => hk.2) (.slice Ao89 y228.length co89)) (fun _ hk => hk.2) (.int .i64 (wrap64 (a0_1 + 1)))) (fun _ hk => ⟨hk.1.1.1, ⟨hk.1.1.2.1, ⟨hk.1.2, ⟨hk.1.1.2.2.1, ⟨hk.1.1.2.2.2.1, ⟨hk.1.1.2.2.2.2.1, ⟨hk.1.1.2.2.2.2.2.1, hk.1.1.2.2.2.2.2.2⟩⟩⟩⟩⟩⟩⟩)⟩
             have n3_ : Aside0 (Kd.V k32 32 ((w87.setCell ⟨gb201, 0, none⟩ (.slice Ao89 y228.length co89)).setCell ⟨gb201, 1, none⟩ (.int .i64 (wrap64 (a0_1 + 1)))) w.heap.size (fun k_ => (w.heap.size ≤ k_) ∧ some k_ ≠ (.slice Ao88 y222.length co88 : Value).ownBlock ∧ some k_ ≠ (.slice Ao89 y228.length co89 : Value).ownBlock ∧ k_ ≠ gb193 ∧ k_ ≠ gb194 ∧ k_ ≠ gb195 ∧ k_ ≠ gb201 ∧ k_ ≠ gb205) (.slice A79 y217.length c79) y217) := ⟨by (with_reducible repeat (first | apply Kd.V_alloc | apply Kd.V_drewN | apply Kd.V_drew)); exact Kd.V_mono (Kd.V_far (p := ⟨gb201, 1, none⟩) (Kd.V_far (p := ⟨gb201, 0, none⟩) (Kd.V_mono HO221.out (fun k_ hk => (⟨hk, hk.1.2.2.2.2.2.1⟩ : _ ∧ k_ ≠ gb201))) (fun _ hk => hk.2) (.slice Ao89 y228.length co89)) (fun _ hk => hk.2) (.int .i64 (wrap64 (a0_1 + 1)))) (fun _ hk => ⟨hk.1.1.1, ⟨hk.1.1.2.1, ⟨hk.1.2, ⟨hk.1.1.2.2.1, ⟨hk.1.1.2.2.2.1, ⟨hk.1.1.2.2.2.2.1, ⟨hk.1.1.2.2.2.2.2.1, hk.1.1.2.2.2.2.2.2⟩⟩⟩⟩⟩⟩⟩)⟩
             have n4_ : Aside0 (Kd.N k32 32 ((w87.setCell ⟨gb201, 0, none⟩ (.slice Ao89 y228.length co89)).setCell ⟨gb201, 1, none⟩ (.int .i64 (wrap64 (a0_1 + 1)))) w.heap.size (fun k_ => (w.heap.size ≤ k_) ∧ some k_ ≠ (.slice Ao89 y228.length co89 : Value).ownBlock ∧ k_ ≠ gb193 ∧ k_ ≠ gb194 ∧ k_ ≠ gb195 ∧ k_ ≠ gb201 ∧ k_ ≠ gb205) (.slice Ao88 y222.length co88) y222) := ⟨by (with_reducible repeat (first | apply Kd.N_alloc | apply Kd.N_drewN | apply Kd.N_drew)); exact Kd.N_mono (Kd.N_far (p := ⟨gb201, 1, none⟩) (Kd.N_far (p := ⟨gb201, 0, none⟩) (Kd.N_mono HO224.out (fun k_ hk => (⟨hk, hk.1.2.2.2.2.1⟩ : _ ∧ k_ ≠ gb201))) (fun _ hk => hk.2) (.slice Ao89 y228.length co89)) (fun _ hk => hk.2) (.int .i64 (wrap64 (a0_1 + 1)))) (fun _ hk => ⟨hk.1.1.1, ⟨hk.1.2, ⟨hk.1.1.2.1, ⟨hk.1.1.2.2.1, ⟨hk.1.1.2.2.2.1, ⟨hk.1.1.2.2.2.2.1, hk.1.1.2.2.2.2.2⟩⟩⟩⟩⟩⟩)⟩
             have n5_ : Aside0 (Kd.N k32 32 ((w87.setCell ⟨gb201, 0, none⟩ (.slice Ao89 y228.length co89)).setCell ⟨gb201, 1, none⟩ (.int .i64 (wrap64 (a0_1 + 1)))) w.heap.size (fun k_ => (w.heap.size ≤ k_) ∧ k_ ≠ gb193 ∧ k_ ≠ gb194 ∧ k_ ≠ gb195 ∧ k_ ≠ gb201 ∧ k_ ≠ gb205) (.slice Ao89 y228.length co89) y228) := ⟨by (with_reducible repeat (first | apply Kd.N_alloc | apply Kd.N_drewN | apply Kd.N_drew)); exact Kd.N_mono (Kd.N_far (p := ⟨gb201, 1, none⟩) (Kd.N_far (p := ⟨gb201, 0, none⟩) (Kd.N_mono HO230.out (fun k_ hk => (⟨hk, hk.2.2.2.2.1⟩ : _ ∧ k_ ≠ gb201))) (fun _ hk => hk.2) (.slice Ao89 y228.length co89)) (fun _ hk => hk.2) (.int .i64 (wrap64 (a0_1 + 1)))) (fun _ hk => ⟨hk.1.1, ⟨hk.1.2.1, ⟨hk.1.2.2.1, ⟨hk.1.2.2.2.1, ⟨hk.1.2.2.2.2.1, hk.1.2.2.2.2.2⟩⟩⟩⟩⟩)⟩
             have n6_ : Aside0 (((w87.setCell ⟨gb201, 0, none⟩ (.slice Ao89 y228.length co89)).setCell ⟨gb201, 1, none⟩ (.int .i64 (wrap64 (a0_1 + 1)))).heap[gb193]? = some (.cells #[.slice A0_0 l0_0.length c0_0, .int .i64 a0_1, .int .i64 a0_2] 26 (0, 0))) := ⟨by (with_reducible repeat (first | refine b1 ?_ _ | refine b2 ?_ | refine b3 ?_ _)); refine blk_far ?_ NB193_201.out _; (with_reducible repeat (first | refine b1 ?_ _ | refine b2 ?_ | refine b3 ?_ _)); refine blk_far ?_ NB193_201.out _; (with_reducible repeat (first | refine b1 ?_ _ | refine b2 ?_ | refine b3 ?_ _)); exact BK193.out⟩
             have n7_ : Aside0 (((w87.setCell ⟨gb201, 0, none⟩ (.slice Ao89 y228.length co89)).setCell ⟨gb201, 1, none⟩ (.int .i64 (wrap64 (a0_1 + 1)))).heap[gb194]? = some (.cells #[.slice none 0 0, .int .i64 0, .int .i64 0] 26 (0, 0))) := ⟨by (with_reducible repeat (first | refine b1 ?_ _ | refine b2 ?_ | refine b3 ?_ _)); refine blk_far ?_ NB194_201.out _; (with_reducible repeat (first | refine b1 ?_ _ | refine b2 ?_ | refine b3 ?_ _)); refine blk_far ?_ NB194_201.out _; (with_reducible repeat (first | refine b1 ?_ _ | refine b2 ?_ | refine b3 ?_ _)); exact BK194.out⟩
             have n8_ : Aside0 (((w87.setCell ⟨gb201, 0, none⟩ (.slice Ao89 y228.length co89)).setCell ⟨gb201, 1, none⟩ (.int .i64 (wrap64 (a0_1 + 1)))).heap[gb195]? = some (.cells #[.int .i64 0, .int .i64 0, .slice none 0 0] 32 (0, 0))) := ⟨by (with_reducible repeat (first | refine b1 ?_ _ | refine b2 ?_ | refine b3 ?_ _)); refine blk_far ?_ NB195_201.out _; (with_reducible repeat (first | refine b1 ?_ _ | refine b2 ?_ | refine b3 ?_ _)); refine blk_far ?_ NB195_201.out _; (with_reducible repeat (first | refine b1 ?_ _ | refine b2 ?_ | refine b3 ?_ _)); exact BK195.out⟩
             have n9_ : Aside0 (((w87.setCell ⟨gb201, 0, none⟩ (.slice Ao89 y228.length co89)).setCell ⟨gb201, 1, none⟩ (.int .i64 (wrap64 (a0_1 + 1)))).heap[gb201]? = some (.cells #[.slice Ao89 y228.length co89, .int .i64 (wrap64 (a0_1 + 1)), .int .i64 t200] 26 (0, 0))) := ⟨by (with_reducible repeat (first | refine b1 ?_ _ | refine b2 ?_ | refine b3 ?_ _)); refine blk_put (cs := #[.slice Ao89 y228.length co89, .int .i64 t199, .int .i64 t200]) ?_ 1 _ rfl; (with_reducible repeat (first | refine b1 ?_ _ | refine b2 ?_ | refine b3 ?_ _)); refine blk_put (cs := #[.slice (some ad204) t196.length co14, .int .i64 t199, .int .i64 t200]) ?_ 0 _ rfl; (with_reducible repeat (first | refine b1 ?_ _ | refine b2 ?_ | refine b3 ?_ _)); exact BK201.out⟩
             have n10_ : Aside0 (((w87.setCell ⟨gb201, 0, none⟩ (.slice Ao89 y228.length co89)).setCell ⟨gb201, 1, none⟩ (.int .i64 (wrap64 (a0_1 + 1)))).heap[gb205]? = some (.cells #[.int .i64 ((rd_T32 t196 t203).f0), .int .i64 ((rd_T32 t196 t203).f1), .slice A204_2 ((rd_T32 t196 t203).f2).length c204_2] 32 (0, 0))) := ⟨by (with_reducible repeat (first | refine b1 ?_ _ | refine b2 ?_ | refine b3 ?_ _)); refine blk_far ?_ NB205_201.out _; (with_reducible repeat (first | refine b1 ?_ _ | refine b2 ?_ | refine b3 ?_ _)); refine blk_far ?_ NB205_201.out _; (with_reducible repeat (first | refine b1 ?_ _ | refine b2 ?_ | refine b3 ?_ _)); exact BK205.out⟩
             have n11_ : Aside0 (Below w.heap.size w ((w87.setCell ⟨gb201, 0, none⟩ (.slice Ao89 y228.length co89)).setCell ⟨gb201, 1, none⟩ (.int .i64 (wrap64 (a0_1 + 1))))) := ⟨jzG HB⟩
             (try clear HO_202000)
             (try clear HL204_2)
             (try clear HO213)
             (try clear HO221)
             (try clear HO224)
             (try clear HO230)
             (try clear BK193)
             (try clear BK194)
             (try clear BK195)
             (try clear BK201)
             (try clear BK205)
             (try clear HB)
             generalize ((w87.setCell ⟨gb201, 0, none⟩ (.slice Ao89 y228.length co89)).setCell ⟨gb201, 1, none⟩ (.int .i64 (wrap64 (a0_1 + 1)))) = w92 at n0_ n1_ n2_ n3_ n4_ n5_ n6_ n7_ n8_ n9_ n10_ n11_ ⊢
             have HO_202000 := n0_
             have HL204_2 := n1_
             have HO213 := n2_
             have HO221 := n3_
             have HO224 := n4_
             have HO230 := n5_
             have BK193 := n6_
             have BK194 := n7_
             have BK195 := n8_
             have BK201 := n9_
             have BK205 := n10_
             have HB := n11_
             clear n0_ n1_ n2_ n3_ n4_ n5_ n6_ n7_ n8_ n9_ n10_ n11_
             have n0_ := Am (Kd.N_drew HO_202000.out)
             have n1_ := Am (Kd.V_drew HL204_2.out)
             have n2_ := Am (Kd.V_drew HO213.out)
             have n3_ := Am (Kd.V_drew HO221.out)
             have n4_ := Am (Kd.N_drew HO224.out)
             have n5_ := Am (Kd.N_drew HO230.out)
             have n6_ := Am (b2 BK193.out)
             have n7_ := Am (b2 BK194.out)
             have n8_ := Am (b2 BK195.out)
             have n9_ := Am (b2 BK201.out)
             have n10_ := Am (b2 BK205.out)
             have n11_ := Am (b6 HB.out)
             clear HO_202000
             clear HL204_2
             clear HO213
             clear HO221
             clear HO224
             clear HO230
             clear BK193
             clear BK194
             clear BK195
             clear BK201
             clear BK205
             clear HB
             have HO_202000 := n0_
             have HL204_2 := n1_
             have HO213 := n2_
             have HO221 := n3_
             have HO224 := n4_
             have HO230 := n5_
             have BK193 := n6_
             have BK194 := n7_
             have BK195 := n8_
             have BK201 := n9_
             have BK205 := n10_
             have HB := n11_
             clear n0_ n1_ n2_ n3_ n4_ n5_ n6_ n7_ n8_ n9_ n10_ n11_
             refine start_ (n := 6) (S := fun w' => w'.cell? ⟨gb201, 0, none⟩ = some (.slice Ao89 y228.length co89) ∧ w'.cell? ⟨gb201, 1, none⟩ = some (.int .i64 (wrap64 (a0_1 + 1))) ∧ w'.cell? ⟨gb201, 2, none⟩ = some (.int .i64 t200) ∧ w'.cell? ⟨gb205, 0, none⟩ = some (.int .i64 ((rd_T32 t196 t203).f0)) ∧ w'.cell? ⟨gb205, 1, none⟩ = some (.int .i64 ((rd_T32 t196 t203).f1)) ∧ w'.cell? ⟨gb205, 2, none⟩ = some (.slice A204_2 ((rd_T32 t196 t203).f2).length c204_2)) (ds := []) #[F,F,F,F,F,F] (by kernel_rfl) rfl rfl ⟨(b8 BK201.out 0).trans rfl, (b8 BK201.out 1).trans rfl, (b8 BK201.out 2).trans rfl, (b8 BK205.out 0).trans rfl, (b8 BK205.out 1).trans rfl, (b8 BK205.out 2).trans rfl⟩ (fun hHeld => ?_)
             generalize w92.drew = w93 at HO_202000 HL204_2 HO213 HO221 HO224 HO230 BK193 BK194 BK195 BK201 BK205 HB hHeld ⊢
             refine take_ (i := 0) (N := some 63) (v := ?_) (a' := ?_) #[T,F,F,F,F,F] rfl rfl (by kernel_rfl) (fun _ _ _ h => h) (Or.inl ⟨by rfl, ?_⟩) hHeld ?_ ?_
             rotate_left; rintro w' ⟨s0, s1, s2, s3, s4, s5⟩; go_simp; with_reducible rfl; rotate_left; simp only [Act.put, zA, zB, zC, i64_w, i32_w]; rfl
             refine take_ (i := 1) (N := some 64) (v := ?_) (a' := ?_) #[T,T,F,F,F,F] rfl rfl (by kernel_rfl) (fun _ _ _ h => h) (Or.inl ⟨by rfl, ?_⟩) hHeld ?_ ?_
             rotate_left; rintro w' ⟨s0, s1, s2, s3, s4, s5⟩; go_simp; with_reducible rfl; rotate_left; simp only [Act.put, zA, zB, zC, i64_w, i32_w]; rfl
             refine one_ (i := 2) (N := some 65) #[T,T,T,F,F,F] rfl rfl (by kernel_rfl) (by decide) (fun K hK => ?_)
             refine goes_ Try.func46 (by kernel_rfl) rfl #[.agg #[.int .i64 ((rd_T32 t196 t203).f0), .int .i64 ((rd_T32 t196 t203).f1), .slice A204_2 ((rd_T32 t196 t203).f2).length c204_2]] (by rfl) rfl rfl jzA ?_
             with_reducible refine (spec_l25Glyph.calls ((rd_T32 t196 t203).f0) ((rd_T32 t196 t203).f1) _ _ ((rd_T32 t196 t203).f2) t231 t232 t233 _ ?side1 ?side2 A61.out).mono ?_
             (case side1 => repeat (first | exact ((Kd.V_reads' (by (with_reducible repeat (first | apply Kd.V_alloc | apply Kd.V_drewN | apply Kd.V_drew)); exact HL204_2.out)).2.2) | (with_reducible refine Kd.C_alloc ?_ _) | (with_reducible refine Kd.C_drewN ?_ _) | (with_reducible refine Kd.C_drew ?_)))
             (case side2 => exact HC204_2.out)
             rintro e w94 ⟨v234, rfl, ho0, hb⟩
             refine ⟨_, rfl, ?_⟩
             have n0_ := Am (Kd.N_elder' (jzN HO_202000) (Kd.R_base ho0) hb)
             have n1_ := Am (Kd.V_elder' (by (with_reducible repeat (first | apply Kd.V_alloc | apply Kd.V_drewN | apply Kd.V_drew)); exact HL204_2.out) (Kd.R_base ho0) hb)
             have n2_ := Am (Kd.V_elder' (by (with_reducible repeat (first | apply Kd.V_alloc | apply Kd.V_drewN | apply Kd.V_drew)); exact HO213.out) (Kd.R_base ho0) hb)
             have n3_ := Am (Kd.V_elder' (by (with_reducible repeat (first | apply Kd.V_alloc | apply Kd.V_drewN | apply Kd.V_drew)); exact HO221.out) (Kd.R_base ho0) hb)
             have n4_ := Am (Kd.N_elder' (jzN HO224) (Kd.R_base ho0) hb)
             have n5_ := Am (Kd.N_elder' (jzN HO230) (Kd.R_base ho0) hb)
             have n6_ := Am (Kd.R_lower (Kd.R_newM (M := fun k_ => (w.heap.size ≤ k_)) ho0 (below_size (jzG HB)) (fun k_ h_ => h_)) (below_size (jzG HB)))
             have n7_ := Am (blk_below (g := gb193) (o := .cells #[.slice A0_0 l0_0.length c0_0, .int .i64 a0_1, .int .i64 a0_2] 26 (0, 0)) (jzB BK193) hb)
             have n8_ := Am (blk_below (g := gb194) (o := .cells #[.slice none 0 0, .int .i64 0, .int .i64 0] 26 (0, 0)) (jzB BK194) hb)
             have n9_ := Am (blk_below (g := gb195) (o := .cells #[.int .i64 0, .int .i64 0, .slice none 0 0] 32 (0, 0)) (jzB BK195) hb)
             have n10_ := Am (blk_below (g := gb201) (o := .cells #[.slice Ao89 y228.length co89, .int .i64 (wrap64 (a0_1 + 1)), .int .i64 t200] 26 (0, 0)) (jzB BK201) hb)
             have n11_ := Am (blk_below (g := gb205) (o := .cells #[.int .i64 ((rd_T32 t196 t203).f0), .int .i64 ((rd_T32 t196 t203).f1), .slice A204_2 ((rd_T32 t196 t203).f2).length c204_2] 32 (0, 0)) (jzB BK205) hb)
             have n12_ := Am (below_step (jzG HB) hb)
             clear HO_202000
             clear HL204_2
             clear HO213
             clear HO221
             clear HO224
             clear HO230
             clear BK193
             clear BK194
             clear BK195
             clear BK201
             clear BK205
             clear HB
             have HO_202000 := n0_
             have HL204_2 := n1_
             have HO213 := n2_
             have HO221 := n3_
             have HO224 := n4_
             have HO230 := n5_
             have HO235 := n6_
             have BK193 := n7_
             have BK194 := n8_
             have BK195 := n9_
             have BK201 := n10_
             have BK205 := n11_
             have HB := n12_
             clear n0_ n1_ n2_ n3_ n4_ n5_ n6_ n7_ n8_ n9_ n10_ n11_ n12_
             (try clear hb)
             (try clear hb2)
             (try clear hk)
             (try clear hi)
             (try clear ho0)
             obtain ⟨Ao100, co100, eo100⟩ := Kd.R_slice HO235.out
             (first | subst eo100 | (injection eo100 with f1_ f2_ f3_; have f4_ := f1_.symm; have f5_ := f3_.symm; clear f1_ f2_ f3_; subst f4_; subst f5_))
             refine hK.out _ _ ⟨(b8 BK201.out 0).trans rfl, (b8 BK201.out 1).trans rfl, (b8 BK201.out 2).trans rfl, (b8 BK205.out 0).trans rfl, (b8 BK205.out 1).trans rfl, (b8 BK205.out 2).trans rfl⟩ (fun hHeld => ?_)
             clear hK K
             refine norm_ (a' := ?_) ?_ ?_
             rotate_left
             ·show Act.put _ (some 65) _ = _
              simp only [Act.put, zA, zB, zC, i64_w, i32_w]
              rfl
             refine one_ (i := 3) (N := none) #[T,T,T,T,F,F] rfl rfl (by kernel_rfl) (by decide) (fun K hK => ?_)
             have hs95 : w94.cell? ⟨gb194, 0, none⟩ = some (.slice none 0 0) := (b8 BK194.out 0).trans rfl
             have hfs95 := blk_frozen BK194.out 0
             have hns95_0 := NB193_194.out
             have hns95_2 := NB195_194.out
             have hns95_3 := NB201_194.out
             have hns95_4 := NB205_194.out
             have hms95_0 := NB194_193.out
             have hms95_2 := NB194_195.out
             have hms95_3 := NB194_201.out
             have hms95_4 := NB194_205.out
             have hs96 : w94.cell? ⟨gb194, 1, none⟩ = some (.int .i64 0) := (b8 BK194.out 1).trans rfl
             have hfs96 := blk_frozen BK194.out 1
             have hns96_0 := NB193_194.out
             have hns96_2 := NB195_194.out
             have hns96_3 := NB201_194.out
             have hns96_4 := NB205_194.out
             have hms96_0 := NB194_193.out
             have hms96_2 := NB194_195.out
             have hms96_3 := NB194_201.out
             have hms96_4 := NB194_205.out
             have hs97 : w94.cell? ⟨gb194, 2, none⟩ = some (.int .i64 0) := (b8 BK194.out 2).trans rfl
             have hfs97 := blk_frozen BK194.out 2
             have hns97_0 := NB193_194.out
             have hns97_2 := NB195_194.out
             have hns97_3 := NB201_194.out
             have hns97_4 := NB205_194.out
             have hms97_0 := NB194_193.out
             have hms97_2 := NB194_195.out
             have hms97_3 := NB194_201.out
             have hms97_4 := NB194_205.out
             refine skip_ (w1 := ?_) (by rfl) rfl ?_ ?_
             rotate_left
             ·go_simp
              rfl
             refine hK.out _ _ ⟨((cell_far (p := ⟨gb194, _, none⟩) NB201_194.out _).trans (((cell_far (p := ⟨gb194, _, none⟩) NB201_194.out _).trans (((cell_far (p := ⟨gb194, _, none⟩) NB201_194.out _).trans (hHeld.1)))))), ((cell_far (p := ⟨gb194, _, none⟩) NB201_194.out _).trans (((cell_far (p := ⟨gb194, _, none⟩) NB201_194.out _).trans (((cell_far (p := ⟨gb194, _, none⟩) NB201_194.out _).trans (hHeld.2.1)))))), ((cell_far (p := ⟨gb194, _, none⟩) NB201_194.out _).trans (((cell_far (p := ⟨gb194, _, none⟩) NB201_194.out _).trans (((cell_far (p := ⟨gb194, _, none⟩) NB201_194.out _).trans (hHeld.2.2.1)))))), ((cell_far (p := ⟨gb194, _, none⟩) NB205_194.out _).trans (((cell_far (p := ⟨gb194, _, none⟩) NB205_194.out _).trans (((cell_far (p := ⟨gb194, _, none⟩) NB205_194.out _).trans (hHeld.2.2.2.1)))))), ((cell_far (p := ⟨gb194, _, none⟩) NB205_194.out _).trans (((cell_far (p := ⟨gb194, _, none⟩) NB205_194.out _).trans (((cell_far (p := ⟨gb194, _, none⟩) NB205_194.out _).trans (hHeld.2.2.2.2.1)))))), ((cell_far (p := ⟨gb194, _, none⟩) NB205_194.out _).trans (((cell_far (p := ⟨gb194, _, none⟩) NB205_194.out _).trans (((cell_far (p := ⟨gb194, _, none⟩) NB205_194.out _).trans (hHeld.2.2.2.2.2))))))⟩ (fun hHeld => ?_)
             clear hK K
             refine one_ (i := 4) (N := none) #[T,T,T,T,T,F] rfl rfl (by kernel_rfl) (by decide) (fun K hK => ?_)
             have hs98 : w94.cell? ⟨gb195, 0, none⟩ = some (.int .i64 0) := (b8 BK195.out 0).trans rfl
             have hfs98 := blk_frozen BK195.out 0
             have hns98_0 := NB193_195.out
             have hns98_1 := NB194_195.out
             have hns98_3 := NB201_195.out
             have hns98_4 := NB205_195.out
             have hms98_0 := NB195_193.out
             have hms98_1 := NB195_194.out
             have hms98_3 := NB195_201.out
             have hms98_4 := NB195_205.out
             have hs99 : w94.cell? ⟨gb195, 1, none⟩ = some (.int .i64 0) := (b8 BK195.out 1).trans rfl
             have hfs99 := blk_frozen BK195.out 1
             have hns99_0 := NB193_195.out
             have hns99_1 := NB194_195.out
             have hns99_3 := NB201_195.out
             have hns99_4 := NB205_195.out
             have hms99_0 := NB195_193.out
             have hms99_1 := NB195_194.out
             have hms99_3 := NB195_201.out
             have hms99_4 := NB195_205.out
             have hs101 : w94.cell? ⟨gb195, 2, none⟩ = some (.slice none 0 0) := (b8 BK195.out 2).trans rfl
             have hfs101 := blk_frozen BK195.out 2
             have hns101_0 := NB193_195.out
             have hns101_1 := NB194_195.out
             have hns101_3 := NB201_195.out
             have hns101_4 := NB205_195.out
             have hms101_0 := NB195_193.out
             have hms101_1 := NB195_194.out
             have hms101_3 := NB195_201.out
             have hms101_4 := NB195_205.out
             refine skip_ (w1 := ?_) (by rfl) rfl ?_ ?_
             rotate_left
             ·go_simp
              rfl
             refine hK.out _ _ ⟨((cell_far (p := ⟨gb195, _, none⟩) NB201_195.out _).trans (((cell_far (p := ⟨gb195, _, none⟩) NB201_195.out _).trans (((cell_far (p := ⟨gb195, _, none⟩) NB201_195.out _).trans (hHeld.1)))))), ((cell_far (p := ⟨gb195, _, none⟩) NB201_195.out _).trans (((cell_far (p := ⟨gb195, _, none⟩) NB201_195.out _).trans (((cell_far (p := ⟨gb195, _, none⟩) NB201_195.out _).trans (hHeld.2.1)))))), ((cell_far (p := ⟨gb195, _, none⟩) NB201_195.out _).trans (((cell_far (p := ⟨gb195, _, none⟩) NB201_195.out _).trans (((cell_far (p := ⟨gb195, _, none⟩) NB201_195.out _).trans (hHeld.2.2.1)))))), ((cell_far (p := ⟨gb195, _, none⟩) NB205_195.out _).trans (((cell_far (p := ⟨gb195, _, none⟩) NB205_195.out _).trans (((cell_far (p := ⟨gb195, _, none⟩) NB205_195.out _).trans (hHeld.2.2.2.1)))))), ((cell_far (p := ⟨gb195, _, none⟩) NB205_195.out _).trans (((cell_far (p := ⟨gb195, _, none⟩) NB205_195.out _).trans (((cell_far (p := ⟨gb195, _, none⟩) NB205_195.out _).trans (hHeld.2.2.2.2.1)))))), ((cell_far (p := ⟨gb195, _, none⟩) NB205_195.out _).trans (((cell_far (p := ⟨gb195, _, none⟩) NB205_195.out _).trans (((cell_far (p := ⟨gb195, _, none⟩) NB205_195.out _).trans (hHeld.2.2.2.2.2))))))⟩ (fun hHeld => ?_)
             clear hK K
             refine pure_ (i := 5) (N := some 8) (v := ?_) (a' := ?_) #[T,T,T,T,T,T] rfl rfl (by kernel_rfl) (fun _ _ _ h => h) (Or.inl ⟨by rfl, ?_⟩) ?_ ?_
             rotate_left; intro w'; go_simp; with_reducible rfl; rotate_left; simp only [Act.put, zA, zB, zC, i64_w, i32_w]; rfl
             refine done_ (by kernel_rfl) ?_
             try go_wp2
             refine bodyPost_ret (results_list (rs := [.cell 6 26, .cell 7 32, .tmp 8]) rfl (by simp) (.cell gb194 26 #[.slice Ao89 y228.length co89, .int .i64 (wrap64 (a0_1 + 1)), .int .i64 t200] (0, 0) _ rfl (by (with_reducible repeat (first | refine b1 ?_ _ | refine b2 ?_ | refine b3 ?_ _)); refine blk_far ?_ NB194_195.out _; (with_reducible repeat (first | refine b1 ?_ _ | refine b2 ?_ | refine b3 ?_ _)); refine blk_far ?_ NB194_195.out _; (with_reducible repeat (first | refine b1 ?_ _ | refine b2 ?_ | refine b3 ?_ _)); refine blk_far ?_ NB194_195.out _; (with_reducible repeat (first | refine b1 ?_ _ | refine b2 ?_ | refine b3 ?_ _)); refine blk_put (cs := #[.slice Ao89 y228.length co89, .int .i64 (wrap64 (a0_1 + 1)), .int .i64 0]) ?_ 2 _ rfl; (with_reducible repeat (first | refine b1 ?_ _ | refine b2 ?_ | refine b3 ?_ _)); refine blk_put (cs := #[.slice Ao89 y228.length co89, .int .i64 0, .int .i64 0]) ?_ 1 _ rfl; (with_reducible repeat (first | refine b1 ?_ _ | refine b2 ?_ | refine b3 ?_ _)); refine blk_put (cs := #[.slice none 0 0, .int .i64 0, .int .i64 0]) ?_ 0 _ rfl; (with_reducible repeat (first | refine b1 ?_ _ | refine b2 ?_ | refine b3 ?_ _)); exact BK194.out) Try.underlying26 rfl (by kernel_rfl) (.cell gb195 32 #[.int .i64 t231, .int .i64 t232, .slice Ao100 t233.length co100] (0, 0) _ rfl (by (with_reducible repeat (first | refine b1 ?_ _ | refine b2 ?_ | refine b3 ?_ _)); refine blk_put (cs := #[.int .i64 t231, .int .i64 t232, .slice none 0 0]) ?_ 2 _ rfl; (with_reducible repeat (first | refine b1 ?_ _ | refine b2 ?_ | refine b3 ?_ _)); refine blk_put (cs := #[.int .i64 t231, .int .i64 0, .slice none 0 0]) ?_ 1 _ rfl; (with_reducible repeat (first | refine b1 ?_ _ | refine b2 ?_ | refine b3 ?_ _)); refine blk_put (cs := #[.int .i64 0, .int .i64 0, .slice none 0 0]) ?_ 0 _ rfl; (with_reducible repeat (first | refine b1 ?_ _ | refine b2 ?_ | refine b3 ?_ _)); refine blk_far ?_ NB195_194.out _; (with_reducible repeat (first | refine b1 ?_ _ | refine b2 ?_ | refine b3 ?_ _)); refine blk_far ?_ NB195_194.out _; (with_reducible repeat (first | refine b1 ?_ _ | refine b2 ?_ | refine b3 ?_ _)); refine blk_far ?_ NB195_194.out _; (with_reducible repeat (first | refine b1 ?_ _ | refine b2 ?_ | refine b3 ?_ _)); exact BK195.out) Try.underlying32 rfl (by kernel_rfl) (.tmp .nil)))) rfl ?_
             exact ⟨_, _, by first | rfl | (simp [errW_none, errW_some] <;> rfl) | (simp only [← hji56]; first | rfl | (simp [errW_none, errW_some] <;> rfl)) | (simp [*, errW_none, errW_some] <;> rfl), by (with_reducible repeat (first | apply Kd.N_alloc | apply Kd.N_drewN | apply Kd.N_drew)); exact Kd.N_mono (Kd.N_far (p := ⟨gb195, 2, none⟩) (Kd.N_far (p := ⟨gb195, 1, none⟩) (Kd.N_far (p := ⟨gb195, 0, none⟩) (Kd.N_far (p := ⟨gb194, 2, none⟩) (Kd.N_far (p := ⟨gb194, 1, none⟩) (Kd.N_far (p := ⟨gb194, 0, none⟩) (Kd.N_mono (Kd.N_mono HO230.out (fun k_ hk => (⟨hk, hk.1.2.2.1⟩ : _ ∧ k_ ≠ gb194))) (fun k_ hk => (⟨hk, hk.1.1.2.2.2.1⟩ : _ ∧ k_ ≠ gb195))) (fun _ hk => hk.1.2) (.slice Ao89 y228.length co89)) (fun _ hk => hk.1.2) (.int .i64 (wrap64 (a0_1 + 1)))) (fun _ hk => hk.1.2) (.int .i64 t200)) (fun _ hk => hk.2) (.int .i64 t231)) (fun _ hk => hk.2) (.int .i64 t232)) (fun _ hk => hk.2) (.slice Ao100 t233.length co100)) (fun _ hk => ⟨hk.1.1.1.1, hk.1.1.2⟩), by (with_reducible repeat (first | apply Kd.R_alloc | apply Kd.R_drewN | apply Kd.R_drew)); exact Kd.R_mono (Kd.R_far (p := ⟨gb195, 2, none⟩) (Kd.R_far (p := ⟨gb195, 1, none⟩) (Kd.R_far (p := ⟨gb195, 0, none⟩) (Kd.R_far (p := ⟨gb194, 2, none⟩) (Kd.R_far (p := ⟨gb194, 1, none⟩) (Kd.R_far (p := ⟨gb194, 0, none⟩) (Kd.R_types (Kd.R_types HO235.out BK194.out (by decide)) BK195.out (by decide)) (fun _ hk => hk.1.2) (.slice Ao89 y228.length co89)) (fun _ hk => hk.1.2) (.int .i64 (wrap64 (a0_1 + 1)))) (fun _ hk => hk.1.2) (.int .i64 t200)) (fun _ hk => hk.2) (.int .i64 t231)) (fun _ hk => hk.2) (.int .i64 t232)) (fun _ hk => hk.2) (.slice Ao100 t233.length co100)) (fun _ hk => hk.1.1.1), jzG HB⟩
            ·rw [if_neg c60] at H
             exact absurd H (by simp)
           ·rw [if_neg c59] at H
            exact absurd H (by simp)
          ·rw [if_neg c58] at H
           exact absurd H (by simp)
         ·rw [if_neg c57] at H
          exact absurd H (by simp)
        ·rw [if_neg c55] at H
         exact absurd H (by simp)
       ·rw [if_neg c54] at H
        exact absurd H (by simp)
      ·rw [if_neg c52] at H
       exact absurd H (by simp)
     ·rw [if_neg c51] at H
      exact absurd H (by simp)
    ·rw [if_neg c50] at H
     have c50b0 : decide (0 ≤ t203) = false := decide_eq_false c50
     clear c50
     replace H := Option.bind_eq_some_iff.mp H
     obtain ⟨t236, A1020, H⟩ := H
     replace H : (if t236 < 0 then (some (t196, t199, t200, 0, 0, ([] : List Int), false)) else (if 0 ≤ t236 then (if t236 < (l2.length : Int) then ((spec_l25Glyph.f ((rd_T32 l2 t236).f0) ((rd_T32 l2 t236).f1) ((rd_T32 l2 t236).f2)).bind fun bt238 => ((some (([(⟨bt238.1, bt238.2.1, bt238.2.2⟩ : S32)] : List (S32)) : List (S32))).bind fun y243 => (if y243.length + t196.length < 3518437208883 then (spec_FetchGlyph.l0 kj4 l2 t236 (y243 ++ t196) t199 (wrap64 (a0_2 + 1))) else (none)))) else (none)) else (none))) = some (r1, r2, r3, r4, r5, r6, r7) := H
     have A102 := Am A1020
     clear A1020
     by_cases c103 : t236 < 0
     ·rw [if_pos c103] at H
      have c103b0 : decide (t236 < 0) = true := decide_eq_true c103
      clear c103
      simp only [Option.some.injEq, Prod.mk.injEq] at H
      obtain ⟨rfl, rfl, rfl, rfl, rfl, rfl, rfl⟩ := H
      have hnb104 := NB193_194.out
      have hnc104 := NB194_193.out
      have hnb105 := NB193_195.out
      have hnc105 := NB195_193.out
      have hnb106 := NB193_201.out
      have hnc106 := NB201_193.out
      have hcz107_0 : wc.cell? ⟨gb193, 0, none⟩ = some (.slice A0_0 l0_0.length c0_0) := (b8 BK193.out 0).trans rfl
      have hcz107_1 : wc.cell? ⟨gb193, 1, none⟩ = some (.int .i64 a0_1) := (b8 BK193.out 1).trans rfl
      have hcz107_2 : wc.cell? ⟨gb193, 2, none⟩ = some (.int .i64 a0_2) := (b8 BK193.out 2).trans rfl
      have hfz107_0 := blk_frozen BK193.out 0
      have hfz107_1 := blk_frozen BK193.out 1
      have hfz107_2 := blk_frozen BK193.out 2
      go_wp2_with (first | ((with_reducible refine gate_callee (f := 42) rfl ?_); refine goesL_ (some 34) rfl rfl Try.func42 (by kernel_rfl) rfl #[.slice A0_0 l0_0.length c0_0, .int .i64 a1] rfl jzA ?_; (with_reducible refine (spec_l25Find.calls kj4 _ _ l0_0 a1 t203 _ ?side1 ?side2 A49.out).mono ?_); (case side1 => exact jzC HR0_0 HB); (case side2 => exact HC0_0.out); rintro e w108 ⟨rfl, hb⟩; refine ⟨_, rfl, ?_⟩; have n0_ := Am (Kd.N_below (jzN HO_202000) hb); have n1_ := Am (blk_below (g := gb193) (o := .cells #[.slice A0_0 l0_0.length c0_0, .int .i64 a0_1, .int .i64 a0_2] 26 (0, 0)) (jzB BK193) hb); have n2_ := Am (blk_below (g := gb194) (o := .cells #[.slice none 0 0, .int .i64 0, .int .i64 0] 26 (0, 0)) (jzB BK194) hb); have n3_ := Am (blk_below (g := gb195) (o := .cells #[.int .i64 0, .int .i64 0, .slice none 0 0] 32 (0, 0)) (jzB BK195) hb); have n4_ := Am (blk_below (g := gb201) (o := .cells #[.slice Ao14 t196.length co14, .int .i64 t199, .int .i64 t200] 26 (0, 0)) (jzB BK201) hb); have n5_ := Am (below_step (jzG HB) hb); clear HO_202000; clear BK193; clear BK194; clear BK195; clear BK201; clear HB; have HO_202000 := n0_; have BK193 := n1_; have BK194 := n2_; have BK195 := n3_; have BK201 := n4_; have HB := n5_; clear n0_ n1_ n2_ n3_ n4_ n5_; (try clear hb); (try clear hb2); (try clear hk); (try clear hi)) | ((with_reducible refine gate_callee (f := 42) rfl ?_); refine goesL_ (some 68) rfl rfl Try.func42 (by kernel_rfl) rfl #[.slice A2 l2.length c2, .int .i64 a1] rfl jzA ?_; (with_reducible refine (spec_l25Find.calls kj4 _ _ l2 a1 t236 _ ?side1 ?side2 A102.out).mono ?_); (case side1 => exact jzC HR2 HB); (case side2 => exact HC2.out); rintro e w109 ⟨rfl, hb⟩; refine ⟨_, rfl, ?_⟩; have n0_ := Am (Kd.N_below (jzN HO_202000) hb); have n1_ := Am (blk_below (g := gb193) (o := .cells #[.slice A0_0 l0_0.length c0_0, .int .i64 a0_1, .int .i64 a0_2] 26 (0, 0)) (jzB BK193) hb); have n2_ := Am (blk_below (g := gb194) (o := .cells #[.slice none 0 0, .int .i64 0, .int .i64 0] 26 (0, 0)) (jzB BK194) hb); have n3_ := Am (blk_below (g := gb195) (o := .cells #[.int .i64 0, .int .i64 0, .slice none 0 0] 32 (0, 0)) (jzB BK195) hb); have n4_ := Am (blk_below (g := gb201) (o := .cells #[.slice Ao14 t196.length co14, .int .i64 t199, .int .i64 t200] 26 (0, 0)) (jzB BK201) hb); have n5_ := Am (below_step (jzG HB) hb); clear HO_202000; clear BK193; clear BK194; clear BK195; clear BK201; clear HB; have HO_202000 := n0_; have BK193 := n1_; have BK194 := n2_; have BK195 := n3_; have BK201 := n4_; have HB := n5_; clear n0_ n1_ n2_ n3_ n4_ n5_; (try clear hb); (try clear hb2); (try clear hk); (try clear hi); have hnb110 := NB201_194.out; have hnc110 := NB194_201.out; have hnb111 := NB201_195.out; have hnc111 := NB195_201.out; have hcz112_0 : w109.cell? ⟨gb201, 0, none⟩ = some (.slice Ao14 t196.length co14) := (b8 BK201.out 0).trans rfl; have hcz112_1 : w109.cell? ⟨gb201, 1, none⟩ = some (.int .i64 t199) := (b8 BK201.out 1).trans rfl; have hcz112_2 : w109.cell? ⟨gb201, 2, none⟩ = some (.int .i64 t200) := (b8 BK201.out 2).trans rfl; have hfz112_0 := blk_frozen BK201.out 0; have hfz112_1 := blk_frozen BK201.out 1; have hfz112_2 := blk_frozen BK201.out 2; have hnb113 := NB194_195.out; have hnc113 := NB195_194.out; have hcz114_0 : w109.cell? ⟨gb194, 0, none⟩ = some (.slice none 0 0) := (b8 BK194.out 0).trans rfl; have hcz114_1 : w109.cell? ⟨gb194, 1, none⟩ = some (.int .i64 0) := (b8 BK194.out 1).trans rfl; have hcz114_2 : w109.cell? ⟨gb194, 2, none⟩ = some (.int .i64 0) := (b8 BK194.out 2).trans rfl; have hfz114_0 := blk_frozen BK194.out 0; have hfz114_1 := blk_frozen BK194.out 1; have hfz114_2 := blk_frozen BK194.out 2; have hcz115_0 : w109.cell? ⟨gb195, 0, none⟩ = some (.int .i64 0) := (b8 BK195.out 0).trans rfl; have hcz115_1 : w109.cell? ⟨gb195, 1, none⟩ = some (.int .i64 0) := (b8 BK195.out 1).trans rfl; have hcz115_2 : w109.cell? ⟨gb195, 2, none⟩ = some (.slice none 0 0) := (b8 BK195.out 2).trans rfl; have hfz115_0 := blk_frozen BK195.out 0; have hfz115_1 := blk_frozen BK195.out 1; have hfz115_2 := blk_frozen BK195.out 2))
      refine bodyPost_ret (results_list (rs := [.cell 6 26, .cell 7 32, .tmp 8]) rfl (by simp) (.cell gb194 26 #[.slice Ao14 t196.length co14, .int .i64 t199, .int .i64 t200] (0, 0) _ rfl (by (with_reducible repeat (first | refine b1 ?_ _ | refine b2 ?_ | refine b3 ?_ _)); refine blk_far ?_ NB194_195.out _; (with_reducible repeat (first | refine b1 ?_ _ | refine b2 ?_ | refine b3 ?_ _)); refine blk_far ?_ NB194_195.out _; (with_reducible repeat (first | refine b1 ?_ _ | refine b2 ?_ | refine b3 ?_ _)); refine blk_far ?_ NB194_195.out _; (with_reducible repeat (first | refine b1 ?_ _ | refine b2 ?_ | refine b3 ?_ _)); refine blk_put (cs := #[.slice Ao14 t196.length co14, .int .i64 t199, .int .i64 0]) ?_ 2 _ rfl; (with_reducible repeat (first | refine b1 ?_ _ | refine b2 ?_ | refine b3 ?_ _)); refine blk_put (cs := #[.slice Ao14 t196.length co14, .int .i64 0, .int .i64 0]) ?_ 1 _ rfl; (with_reducible repeat (first | refine b1 ?_ _ | refine b2 ?_ | refine b3 ?_ _)); refine blk_put (cs := #[.slice none 0 0, .int .i64 0, .int .i64 0]) ?_ 0 _ rfl; (with_reducible repeat (first | refine b1 ?_ _ | refine b2 ?_ | refine b3 ?_ _)); exact BK194.out) Try.underlying26 rfl (by kernel_rfl) (.cell gb195 32 #[.int .i64 0, .int .i64 0, .slice none 0 0] (0, 0) _ rfl (by (with_reducible repeat (first | refine b1 ?_ _ | refine b2 ?_ | refine b3 ?_ _)); refine blk_put (cs := #[.int .i64 0, .int .i64 0, .slice none 0 0]) ?_ 2 _ rfl; (with_reducible repeat (first | refine b1 ?_ _ | refine b2 ?_ | refine b3 ?_ _)); refine blk_put (cs := #[.int .i64 0, .int .i64 0, .slice none 0 0]) ?_ 1 _ rfl; (with_reducible repeat (first | refine b1 ?_ _ | refine b2 ?_ | refine b3 ?_ _)); refine blk_put (cs := #[.int .i64 0, .int .i64 0, .slice none 0 0]) ?_ 0 _ rfl; (with_reducible repeat (first | refine b1 ?_ _ | refine b2 ?_ | refine b3 ?_ _)); refine blk_far ?_ NB195_194.out _; (with_reducible repeat (first | refine b1 ?_ _ | refine b2 ?_ | refine b3 ?_ _)); refine blk_far ?_ NB195_194.out _; (with_reducible repeat (first | refine b1 ?_ _ | refine b2 ?_ | refine b3 ?_ _)); refine blk_far ?_ NB195_194.out _; (with_reducible repeat (first | refine b1 ?_ _ | refine b2 ?_ | refine b3 ?_ _)); exact BK195.out) Try.underlying32 rfl (by kernel_rfl) (.tmp .nil)))) rfl ?_
      exact ⟨_, _, by first | rfl | (simp [errW_none, errW_some] <;> rfl) | (simp [*, errW_none, errW_some] <;> rfl), by (with_reducible repeat (first | apply Kd.N_alloc | apply Kd.N_drewN | apply Kd.N_drew)); exact Kd.N_mono (Kd.N_far (p := ⟨gb195, 2, none⟩) (Kd.N_far (p := ⟨gb195, 1, none⟩) (Kd.N_far (p := ⟨gb195, 0, none⟩) (Kd.N_far (p := ⟨gb194, 2, none⟩) (Kd.N_far (p := ⟨gb194, 1, none⟩) (Kd.N_far (p := ⟨gb194, 0, none⟩) (Kd.N_mono (Kd.N_mono HO_202000.out (fun k_ hk => (⟨hk, hk.2.2.1⟩ : _ ∧ k_ ≠ gb194))) (fun k_ hk => (⟨hk, hk.1.2.2.2.1⟩ : _ ∧ k_ ≠ gb195))) (fun _ hk => hk.1.2) (.slice Ao14 t196.length co14)) (fun _ hk => hk.1.2) (.int .i64 t199)) (fun _ hk => hk.1.2) (.int .i64 t200)) (fun _ hk => hk.2) (.int .i64 0)) (fun _ hk => hk.2) (.int .i64 0)) (fun _ hk => hk.2) (.slice none 0 0)) (fun _ hk => ⟨hk.1.1.1, (by simp [Value.ownBlock])⟩), by first | exact Kd.R_nil _ _ _ _ _ | exact Kd.N_nil _ _ _ _ _ | exact Kd.V_nil _ _ _ _ _ | exact Kd.Q_nil _ _ _ _ _ | exact Kd.S_nil _ _ _ _ _, jzG HB⟩
     ·rw [if_neg c103] at H
      have c103b0 : decide (t236 < 0) = false := decide_eq_false c103
      clear c103
      by_cases c116 : 0 ≤ t236
      ·rw [if_pos c116] at H
       have c116b0 : decide (0 ≤ t236) = true := decide_eq_true c116
       clear c116
       by_cases c117 : t236 < (l2.length : Int)
       ·rw [if_pos c117] at H
        have c117b0 : decide (t236 < (l2.length : Int)) = true := decide_eq_true c117
        clear c117
        replace H := Option.bind_eq_some_iff.mp H
        obtain ⟨⟨t238, t239, t240⟩, A1180, H⟩ := H
        replace H : ((some (([(⟨t238, t239, t240⟩ : S32)] : List (S32)) : List (S32))).bind fun y243 => (if y243.length + t196.length < 3518437208883 then (spec_FetchGlyph.l0 kj4 l2 t236 (y243 ++ t196) t199 (wrap64 (a0_2 + 1))) else (none))) = some (r1, r2, r3, r4, r5, r6, r7) := H
        have A118 := Am A1180
        clear A1180
        obtain ⟨y243, hy243⟩ : ∃ y_ : List (S32), y_ = (([(⟨t238, t239, t240⟩ : S32)] : List (S32))) := ⟨_, rfl⟩
        replace H : (if y243.length + t196.length < 3518437208883 then (spec_FetchGlyph.l0 kj4 l2 t236 (y243 ++ t196) t199 (wrap64 (a0_2 + 1))) else (none)) = some (r1, r2, r3, r4, r5, r6, r7) := by first | (rw [hy243]; with_reducible exact H) | (have H2_ := (Option.bind_some _ _).symm.trans H; rw [hy243]; with_reducible exact H2_) | (have H2_ := (Option.bind_some _ _).symm.trans H; with_reducible exact H2_) | with_reducible exact H | (rw [hy243]; exact H) | exact H
        have Ny243 := Am hy243
        clear hy243
        by_cases c119 : y243.length + t196.length < 3518437208883
        ·rw [if_pos c119] at H
         have LMc119 := Am c119
         clear c119
         obtain ⟨y246, hy246⟩ : ∃ y_ : List (S32), y_ = (y243 ++ t196) := ⟨_, rfl⟩
         replace H : (spec_FetchGlyph.l0 kj4 l2 t236 y246 t199 (wrap64 (a0_2 + 1))) = some (r1, r2, r3, r4, r5, r6, r7) := by first | (rw [hy246]; with_reducible exact H) | (have H2_ := (Option.bind_some _ _).symm.trans H; rw [hy246]; with_reducible exact H2_) | (have H2_ := (Option.bind_some _ _).symm.trans H; with_reducible exact H2_) | with_reducible exact H | (rw [hy246]; exact H) | exact H
         have Ny246 := Am hy246
         clear hy246
         have H' := Am H
         clear H
         have hnb120 := NB193_194.out
         have hnc120 := NB194_193.out
         have hnb121 := NB193_195.out
         have hnc121 := NB195_193.out
         have hnb122 := NB193_201.out
         have hnc122 := NB201_193.out
         have hcz123_0 : wc.cell? ⟨gb193, 0, none⟩ = some (.slice A0_0 l0_0.length c0_0) := (b8 BK193.out 0).trans rfl
         have hcz123_1 : wc.cell? ⟨gb193, 1, none⟩ = some (.int .i64 a0_1) := (b8 BK193.out 1).trans rfl
         have hcz123_2 : wc.cell? ⟨gb193, 2, none⟩ = some (.int .i64 a0_2) := (b8 BK193.out 2).trans rfl
         have hfz123_0 := blk_frozen BK193.out 0
         have hfz123_1 := blk_frozen BK193.out 1
         have hfz123_2 := blk_frozen BK193.out 2
         try go_wp2_with (first | ((with_reducible refine gate_callee (f := 42) rfl ?_); refine goesL_ (some 34) rfl rfl Try.func42 (by kernel_rfl) rfl #[.slice A0_0 l0_0.length c0_0, .int .i64 a1] rfl jzA ?_; (with_reducible refine (spec_l25Find.calls kj4 _ _ l0_0 a1 t203 _ ?side1 ?side2 A49.out).mono ?_); (case side1 => exact jzC HR0_0 HB); (case side2 => exact HC0_0.out); rintro e w124 ⟨rfl, hb⟩; refine ⟨_, rfl, ?_⟩; have n0_ := Am (Kd.N_below (jzN HO_202000) hb); have n1_ := Am (blk_below (g := gb193) (o := .cells #[.slice A0_0 l0_0.length c0_0, .int .i64 a0_1, .int .i64 a0_2] 26 (0, 0)) (jzB BK193) hb); have n2_ := Am (blk_below (g := gb194) (o := .cells #[.slice none 0 0, .int .i64 0, .int .i64 0] 26 (0, 0)) (jzB BK194) hb); have n3_ := Am (blk_below (g := gb195) (o := .cells #[.int .i64 0, .int .i64 0, .slice none 0 0] 32 (0, 0)) (jzB BK195) hb); have n4_ := Am (blk_below (g := gb201) (o := .cells #[.slice Ao14 t196.length co14, .int .i64 t199, .int .i64 t200] 26 (0, 0)) (jzB BK201) hb); have n5_ := Am (below_step (jzG HB) hb); clear HO_202000; clear BK193; clear BK194; clear BK195; clear BK201; clear HB; have HO_202000 := n0_; have BK193 := n1_; have BK194 := n2_; have BK195 := n3_; have BK201 := n4_; have HB := n5_; clear n0_ n1_ n2_ n3_ n4_ n5_; (try clear hb); (try clear hb2); (try clear hk); (try clear hi)) | ((with_reducible refine gate_callee (f := 42) rfl ?_); refine goesL_ (some 68) rfl rfl Try.func42 (by kernel_rfl) rfl #[.slice A2 l2.length c2, .int .i64 a1] rfl jzA ?_; (with_reducible refine (spec_l25Find.calls kj4 _ _ l2 a1 t236 _ ?side1 ?side2 A102.out).mono ?_); (case side1 => exact jzC HR2 HB); (case side2 => exact HC2.out); rintro e w125 ⟨rfl, hb⟩; refine ⟨_, rfl, ?_⟩; have n0_ := Am (Kd.N_below (jzN HO_202000) hb); have n1_ := Am (blk_below (g := gb193) (o := .cells #[.slice A0_0 l0_0.length c0_0, .int .i64 a0_1, .int .i64 a0_2] 26 (0, 0)) (jzB BK193) hb); have n2_ := Am (blk_below (g := gb194) (o := .cells #[.slice none 0 0, .int .i64 0, .int .i64 0] 26 (0, 0)) (jzB BK194) hb); have n3_ := Am (blk_below (g := gb195) (o := .cells #[.int .i64 0, .int .i64 0, .slice none 0 0] 32 (0, 0)) (jzB BK195) hb); have n4_ := Am (blk_below (g := gb201) (o := .cells #[.slice Ao14 t196.length co14, .int .i64 t199, .int .i64 t200] 26 (0, 0)) (jzB BK201) hb); have n5_ := Am (below_step (jzG HB) hb); clear HO_202000; clear BK193; clear BK194; clear BK195; clear BK201; clear HB; have HO_202000 := n0_; have BK193 := n1_; have BK194 := n2_; have BK195 := n3_; have BK201 := n4_; have HB := n5_; clear n0_ n1_ n2_ n3_ n4_ n5_; (try clear hb); (try clear hb2); (try clear hk); (try clear hi)))
         have n0_ := Am (Kd.N_drew HO_202000.out)
         have n1_ := Am (b2 BK193.out)
         have n2_ := Am (b2 BK194.out)
         have n3_ := Am (b2 BK195.out)
         have n4_ := Am (b2 BK201.out)
         have n5_ := Am (b6 HB.out)
         clear HO_202000
         clear BK193
         clear BK194
         clear BK195
         clear BK201
         clear HB
         have HO_202000 := n0_
         have BK193 := n1_
         have BK194 := n2_
         have BK195 := n3_
         have BK201 := n4_
         have HB := n5_
         clear n0_ n1_ n2_ n3_ n4_ n5_
         have p237 : 0 ≤ (t236 : Int) := of_decide_eq_true jzS
         have q237 : t236 < (l2.length : Int) := of_decide_eq_true jzS
         obtain ⟨ad237, A237_2, c237_2, e237, hx237_0, hx237_1, hx237_2, hl237_2, hi237_2⟩ := at_T32 HR2.out t236 p237 q237
         have hw237_2 := hx237_2
         have hw237_1 := hx237_1
         have hw237_0 := hx237_0
         cases e237
         replace hx237_0 := (HB.out.cell (World.block_lt_of_cell? w _ hx237_0)).trans hx237_0
         replace hx237_1 := (HB.out.cell (World.block_lt_of_cell? w _ hx237_1)).trans hx237_1
         replace hx237_2 := (HB.out.cell (World.block_lt_of_cell? w _ hx237_2)).trans hx237_2
         have HR237_2 := Am hi237_2
         have HC237_2 := Am hl237_2
         clear hi237_2 hl237_2
         replace p237 := eq_true p237
         replace q237 := eq_true q237
         refine start_ (n := 11) (S := fun w' => w'.cell? ⟨gb201, 0, none⟩ = some (.slice Ao14 t196.length co14) ∧ w'.cell? ⟨gb201, 1, none⟩ = some (.int .i64 t199) ∧ w'.cell? ⟨gb201, 2, none⟩ = some (.int .i64 t200) ∧ w'.cell? (ad237.add ((t236).toNat * 3)) = some (.int .i64 ((rd_T32 l2 t236).f0)) ∧ w'.cell? ⟨(ad237.add ((t236).toNat * 3)).block, (ad237.add ((t236).toNat * 3)).off + 1, none⟩ = some (.int .i64 ((rd_T32 l2 t236).f1)) ∧ w'.cell? ⟨(ad237.add ((t236).toNat * 3)).block, (ad237.add ((t236).toNat * 3)).off + 2, none⟩ = some (.slice A237_2 ((rd_T32 l2 t236).f2).length c237_2)) (ds := [10]) #[F,F,F,F,F,F,F,F,F,F,F] (by kernel_rfl) rfl rfl ⟨(b8 BK201.out 0).trans rfl, (b8 BK201.out 1).trans rfl, (b8 BK201.out 2).trans rfl, ((HB.out.cell (World.block_lt_of_cell? w _ hw237_0)).trans hw237_0), ((HB.out.cell (World.block_lt_of_cell? w _ hw237_1)).trans hw237_1), ((HB.out.cell (World.block_lt_of_cell? w _ hw237_2)).trans hw237_2)⟩ (fun hHeld => ?_); refine with_tabW spec_FetchGlyph.tab14 spec_FetchGlyph.bits14 (fun HT_ HW_ => ?_)
         generalize w125.drew = w126 at HO_202000 BK193 BK194 BK195 BK201 HB HR237_2 hx237_0 hx237_1 hx237_2 hHeld ⊢
         refine pure_ (i := 0) (N := some 73) (v := ?_) (a' := ?_) #[T,F,F,F,F,F,F,F,F,F,F] rfl rfl (any_of HT_.out (by kernel_rfl)) (fun _ _ _ h => h) (Or.inl ⟨by rfl, ?_⟩) ?_ ?_
         rotate_left; intro w'; go_simp; with_reducible rfl; rotate_left; simp only [Act.put, zA, zB, zC, i64_w, i32_w]; rfl
         refine pure_ (i := 1) (N := some 74) (v := ?_) (a' := ?_) #[T,T,F,F,F,F,F,F,F,F,F] rfl rfl (any_of HT_.out (by kernel_rfl)) (fun _ _ _ h => h) (Or.inl ⟨by rfl, ?_⟩) ?_ ?_
         rotate_left; intro w'; go_simp; with_reducible rfl; rotate_left; simp only [Act.put, zA, zB, zC, i64_w, i32_w]; rfl
         refine pure_ (i := 2) (N := some 75) (v := ?_) (a' := ?_) #[T,T,T,F,F,F,F,F,F,F,F] rfl rfl (any_of HT_.out (by kernel_rfl)) (fun _ _ _ h => h) (Or.inl ⟨by rfl, ?_⟩) ?_ ?_
         rotate_left; intro w'; go_simp; with_reducible rfl; rotate_left; simp only [Act.put, zA, zB, zC, i64_w, i32_w]; rfl
         refine pure_ (i := 6) (N := some 79) (v := ?_) (a' := ?_) #[T,T,T,F,F,F,T,F,F,F,F] rfl rfl (any_of HT_.out (by kernel_rfl)) (fun _ _ _ h => h) (Or.inl ⟨by rfl, ?_⟩) ?_ ?_
         rotate_left; intro w'; go_simp; with_reducible rfl; rotate_left; simp only [Act.put, zA, zB, zC, i64_w, i32_w]; rfl
         refine take_ (i := 3) (N := some 76) (v := ?_) (a' := ?_) #[T,T,T,T,F,F,T,F,F,F,F] rfl rfl (take_ofW HT_.out HW_.out (by kernel_rfl)) (fun _ _ _ h => h) (Or.inl ⟨by rfl, ?_⟩) hHeld ?_ ?_
         rotate_left; rintro w' ⟨s0, s1, s2, s3, s4, s5⟩; go_simp; with_reducible rfl; rotate_left; simp only [Act.put, zA, zB, zC, i64_w, i32_w]; rfl
         refine take_ (i := 7) (N := some 80) (v := ?_) (a' := ?_) #[T,T,T,T,F,F,T,T,F,F,F] rfl rfl (take_ofW HT_.out HW_.out (by kernel_rfl)) (fun _ _ _ h => h) (Or.inl ⟨by rfl, ?_⟩) hHeld ?_ ?_
         rotate_left; rintro w' ⟨s0, s1, s2, s3, s4, s5⟩; go_simp; with_reducible rfl; rotate_left; simp only [Act.put, zA, zB, zC, i64_w, i32_w]; rfl
         refine one_ (i := 4) (N := some 77) #[T,T,T,T,T,F,T,T,F,F,F] rfl rfl (one_of HT_.out (by kernel_rfl)) (by decide) (fun K hK => ?_)
         refine goes_ Try.func46 (by kernel_rfl) rfl #[.agg #[.int .i64 ((rd_T32 l2 t236).f0), .int .i64 ((rd_T32 l2 t236).f1), .slice A237_2 ((rd_T32 l2 t236).f2).length c237_2]] (by rfl) rfl rfl jzA ?_
         with_reducible refine (spec_l25Glyph.calls ((rd_T32 l2 t236).f0) ((rd_T32 l2 t236).f1) _ _ ((rd_T32 l2 t236).f2) t238 t239 t240 _ ?side1 ?side2 A118.out).mono ?_
         (case side1 => exact jzC HR237_2 HB)
         (case side2 => exact HC237_2.out)
         rintro e w127 ⟨v241, rfl, ho0, hb⟩
         refine ⟨_, rfl, ?_⟩
         have n0_ := Am (Kd.N_elder' (jzN HO_202000) (Kd.R_base ho0) hb)
         have n1_ := Am (Kd.R_lower (Kd.R_newM (M := fun k_ => (w.heap.size ≤ k_)) ho0 (below_size (jzG HB)) (fun k_ h_ => h_)) (below_size (jzG HB)))
         have n2_ := Am (blk_below (g := gb193) (o := .cells #[.slice A0_0 l0_0.length c0_0, .int .i64 a0_1, .int .i64 a0_2] 26 (0, 0)) (jzB BK193) hb)
         have n3_ := Am (blk_below (g := gb194) (o := .cells #[.slice none 0 0, .int .i64 0, .int .i64 0] 26 (0, 0)) (jzB BK194) hb)
         have n4_ := Am (blk_below (g := gb195) (o := .cells #[.int .i64 0, .int .i64 0, .slice none 0 0] 32 (0, 0)) (jzB BK195) hb)
         have n5_ := Am (blk_below (g := gb201) (o := .cells #[.slice Ao14 t196.length co14, .int .i64 t199, .int .i64 t200] 26 (0, 0)) (jzB BK201) hb)
         have n6_ := Am (below_step (jzG HB) hb)
         clear HO_202000
         clear BK193
         clear BK194
         clear BK195
         clear BK201
         clear HB
         have HO_202000 := n0_
         have HO242 := n1_
         have BK193 := n2_
         have BK194 := n3_
         have BK195 := n4_
         have BK201 := n5_
         have HB := n6_
         clear n0_ n1_ n2_ n3_ n4_ n5_ n6_
         (try clear hb)
         (try clear hb2)
         (try clear hk)
         (try clear hi)
         (try clear ho0)
         obtain ⟨Ao128, co128, eo128⟩ := Kd.R_slice HO242.out
         (first | subst eo128 | (injection eo128 with f1_ f2_ f3_; have f4_ := f1_.symm; have f5_ := f3_.symm; clear f1_ f2_ f3_; subst f4_; subst f5_))
         refine hK.out _ _ ⟨(b8 BK201.out 0).trans rfl, (b8 BK201.out 1).trans rfl, (b8 BK201.out 2).trans rfl, ((HB.out.cell (World.block_lt_of_cell? w _ hw237_0)).trans hw237_0), ((HB.out.cell (World.block_lt_of_cell? w _ hw237_1)).trans hw237_1), ((HB.out.cell (World.block_lt_of_cell? w _ hw237_2)).trans hw237_2)⟩ (fun hHeld => ?_)
         clear hK K
         refine norm_ (a' := ?_) ?_ ?_
         rotate_left
         ·show Act.put _ (some 77) _ = _
          simp only [Act.put, zA, zB, zC, i64_w, i32_w]
          rfl
         refine one_ (i := 5) (N := some 78) #[T,T,T,T,T,T,T,T,F,F,F] rfl rfl (one_of HT_.out (by kernel_rfl)) (by decide) (fun K hK => ?_)
         refine Kd.N_lit_step k32 _ 32 ?hg (N' := 78) ?hd (xs := ([(⟨t238, t239, t240⟩ : S32)] : List (S32))) (inner := [.int .i64 t238, .int .i64 t239, .slice Ao128 t240.length co128]) (ok := (fun k_ => (w.heap.size ≤ k_) ∧ some k_ ≠ (.slice Ao14 t196.length co14 : Value).ownBlock ∧ k_ ≠ gb193 ∧ k_ ≠ gb194 ∧ k_ ≠ gb195 ∧ k_ ≠ gb201)) (okp := (fun k_ => (w.heap.size ≤ k_) ∧ some k_ ≠ (.slice Ao14 t196.length co14 : Value).ownBlock ∧ k_ ≠ gb193 ∧ k_ ≠ gb194 ∧ k_ ≠ gb195 ∧ k_ ≠ gb201)) ?hr ?hp (fun _ hk => hk) ((show ∀ k_, w127.heap.size ≤ k_ → (fun k_ => (w.heap.size ≤ k_) ∧ some k_ ≠ (.slice Ao14 t196.length co14 : Value).ownBlock ∧ k_ ≠ gb193 ∧ k_ ≠ gb194 ∧ k_ ≠ gb195 ∧ k_ ≠ gb201) k_ from fun k_ hk => ⟨(Nat.le_trans (below_size (jzG HB)) hk), Kd.fresh' (Kd.N_lt (jzN HO_202000)) k_ hk, Kd.freshB (g := gb193) (o := .cells #[.slice A0_0 l0_0.length c0_0, .int .i64 a0_1, .int .i64 a0_2] 26 (0, 0)) (jzB BK193) k_ hk, Kd.freshB (g := gb194) (o := .cells #[.slice none 0 0, .int .i64 0, .int .i64 0] 26 (0, 0)) (jzB BK194) k_ hk, Kd.freshB (g := gb195) (o := .cells #[.int .i64 0, .int .i64 0, .slice none 0 0] 32 (0, 0)) (jzB BK195) k_ hk, Kd.freshB (g := gb201) (o := .cells #[.slice Ao14 t196.length co14, .int .i64 t199, .int .i64 t200] 26 (0, 0)) (jzB BK201) k_ hk⟩) _ (Nat.le_refl _)) (Below.refl _ _) (Nat.le_refl _) (by simp) ?_; (case hd => rfl); (case hg => rfl); (case hr => first | (go_simp; done) | (go_simp; rfl)); (case hp => exact (Reps.c3 (show Kd.FK k32 _ _ (⟨t238, t239, t240⟩ : S32) [.int .i64 t238, .int .i64 t239, .slice Ao128 t240.length co128] from (k32_mkF _ _ (⟨t238, t239, t240⟩ : S32) (Kd.R_reads' (Kd.R_mono (ok' := (fun k_ => (w.heap.size ≤ k_) ∧ some k_ ≠ (.slice Ao14 t196.length co14 : Value).ownBlock ∧ k_ ≠ gb193 ∧ k_ ≠ gb194 ∧ k_ ≠ gb195 ∧ k_ ≠ gb201)) (Kd.R_types (Kd.R_types (Kd.R_types (Kd.R_types (Kd.R_apart' (HO242.out) (Kd.N_typed HO_202000.out) (by decide)) BK193.out (by decide)) BK194.out (by decide)) BK195.out (by decide)) BK201.out (by decide)) (fun k_ hk => ⟨hk.1.1.1.1.1.1, ⟨hk.1.1.1.1.2, ⟨hk.1.1.1.2, ⟨hk.1.1.2, ⟨hk.1.2, hk.2⟩⟩⟩⟩⟩))).2.1 (Kd.R_F (Kd.R_mono (ok' := (fun k_ => (w.heap.size ≤ k_) ∧ some k_ ≠ (.slice Ao14 t196.length co14 : Value).ownBlock ∧ k_ ≠ gb193 ∧ k_ ≠ gb194 ∧ k_ ≠ gb195 ∧ k_ ≠ gb201)) (Kd.R_types (Kd.R_types (Kd.R_types (Kd.R_types (Kd.R_apart' (HO242.out) (Kd.N_typed HO_202000.out) (by decide)) BK193.out (by decide)) BK194.out (by decide)) BK195.out (by decide)) BK201.out (by decide)) (fun k_ hk => ⟨hk.1.1.1.1.1.1, ⟨hk.1.1.1.1.2, ⟨hk.1.1.1.2, ⟨hk.1.1.2, ⟨hk.1.2, hk.2⟩⟩⟩⟩⟩))))) (Reps.none _ _)))
         intro v244 w129 ho130 hb hg_ hnew_
         clear hg_ hnew_
         (first | rw [← Ny243.out] at ho130 | (simp only [Int.reduceToNat] at ho130; rw [← Ny243.out] at ho130))
         have n0_ := Am (Kd.N_elder' (jzN HO_202000) (Kd.N_base ho130) hb)
         have n1_ := Am (Kd.N_lower ho130 (below_size (jzG HB)))
         have n2_ := Am (blk_below (g := gb193) (o := .cells #[.slice A0_0 l0_0.length c0_0, .int .i64 a0_1, .int .i64 a0_2] 26 (0, 0)) (jzB BK193) hb)
         have n3_ := Am (blk_below (g := gb194) (o := .cells #[.slice none 0 0, .int .i64 0, .int .i64 0] 26 (0, 0)) (jzB BK194) hb)
         have n4_ := Am (blk_below (g := gb195) (o := .cells #[.int .i64 0, .int .i64 0, .slice none 0 0] 32 (0, 0)) (jzB BK195) hb)
         have n5_ := Am (blk_below (g := gb201) (o := .cells #[.slice Ao14 t196.length co14, .int .i64 t199, .int .i64 t200] 26 (0, 0)) (jzB BK201) hb)
         have n6_ := Am (below_step (jzG HB) hb)
         clear HO_202000
         clear BK193
         clear BK194
         clear BK195
         clear BK201
         clear HB
         clear HO242
         have HO_202000 := n0_
         have HO245 := n1_
         have BK193 := n2_
         have BK194 := n3_
         have BK195 := n4_
         have BK201 := n5_
         have HB := n6_
         clear n0_ n1_ n2_ n3_ n4_ n5_ n6_
         clear hb ho130
         refine hK.out _ _ ⟨(b8 BK201.out 0).trans rfl, (b8 BK201.out 1).trans rfl, (b8 BK201.out 2).trans rfl, ((HB.out.cell (World.block_lt_of_cell? w _ hw237_0)).trans hw237_0), ((HB.out.cell (World.block_lt_of_cell? w _ hw237_1)).trans hw237_1), ((HB.out.cell (World.block_lt_of_cell? w _ hw237_2)).trans hw237_2)⟩ (fun hHeld => ?_)
         clear hK K
         refine norm_ (a' := ?_) ?_ ?_
         rotate_left
         ·show Act.put _ (some 78) _ = _
          simp only [Act.put, zA, zB, zC, i64_w, i32_w]
          rfl
         refine one_ (i := 8) (N := some 81) #[T,T,T,T,T,T,T,T,T,F,F] rfl rfl (one_of HT_.out (by kernel_rfl)) (by decide) (fun K hK => ?_)
         refine Kd.N_append_rows_step k32 (w0 := w) w.heap.size (by rfl) (.tmp 78) (.tmp 80) 24 32 (.agg #[(.int .i64 0), (.int .i64 0), (.slice none 0 0)]) 40 rfl Try.underlying24 info32 rfl (by decide) (by omega) v244 y243 t196 _ _ _ (fun k_ => (w.heap.size ≤ k_) ∧ k_ ≠ gb193 ∧ k_ ≠ gb194 ∧ k_ ≠ gb195 ∧ k_ ≠ gb201) (fun k_ => ((fun k_ => (w.heap.size ≤ k_) ∧ k_ ≠ gb193 ∧ k_ ≠ gb194 ∧ k_ ≠ gb195 ∧ k_ ≠ gb201)) k_ ∧ some k_ ≠ (v244 : Value).ownBlock) rfl rfl ?aO ?aR (fun _ hk => hk) ?aF ?aB ?aS ?aL ?_
         (case aR => exact (by skip; exact Kd.N_F (Kd.N_mono (ok' := (fun k_ => ((fun k_ => (w.heap.size ≤ k_) ∧ k_ ≠ gb193 ∧ k_ ≠ gb194 ∧ k_ ≠ gb195 ∧ k_ ≠ gb201)) k_ ∧ some k_ ≠ (v244 : Value).ownBlock)) (HO_202000.out) (fun k_ hk => ⟨⟨hk.1.1.1, ⟨hk.1.1.2.1, ⟨hk.1.1.2.2.1, ⟨hk.1.1.2.2.2.1, hk.1.1.2.2.2.2⟩⟩⟩⟩, hk.2⟩))))
         (case aB => exact (jzG HB))
         (case aF => exact (fun k_ hk => ⟨(Nat.le_trans (below_size (jzG HB)) hk), Kd.freshB (g := gb193) (o := .cells #[.slice A0_0 l0_0.length c0_0, .int .i64 a0_1, .int .i64 a0_2] 26 (0, 0)) (jzB BK193) k_ hk, Kd.freshB (g := gb194) (o := .cells #[.slice none 0 0, .int .i64 0, .int .i64 0] 26 (0, 0)) (jzB BK194) k_ hk, Kd.freshB (g := gb195) (o := .cells #[.int .i64 0, .int .i64 0, .slice none 0 0] 32 (0, 0)) (jzB BK195) k_ hk, Kd.freshB (g := gb201) (o := .cells #[.slice Ao14 t196.length co14, .int .i64 t199, .int .i64 t200] 26 (0, 0)) (jzB BK201) k_ hk⟩))
         (case aO => exact (by (with_reducible repeat (first | apply Kd.N_alloc | apply Kd.N_drewN | apply Kd.N_drew)); exact Kd.N_mono HO245.out (fun _ hk => ⟨hk.1, ⟨hk.2.2.1, ⟨hk.2.2.2.1, ⟨hk.2.2.2.2.1, hk.2.2.2.2.2⟩⟩⟩⟩)))
         (case aS => exact (below_size (jzG HB)))
         (case aL => have := LMc119.out; omega)
         intro v247 w131 ho hb hg hat
         rw [← Ny246.out] at ho
         have n0_ := Am (Kd.N_afterv (ok := (fun k_ => (w.heap.size ≤ k_) ∧ k_ ≠ gb193 ∧ k_ ≠ gb194 ∧ k_ ≠ gb195 ∧ k_ ≠ gb201)) (by (with_reducible repeat (first | apply Kd.N_alloc | apply Kd.N_drewN | apply Kd.N_drew)); exact Kd.N_mono HO_202000.out (fun _ hk => ⟨⟨hk.1.1.1, ⟨hk.1.1.2.1, ⟨hk.1.1.2.2.1, ⟨hk.1.1.2.2.2.1, hk.1.1.2.2.2.2⟩⟩⟩⟩, hk.2⟩)) hg hat)
         have n1_ := Am (blk_grown (g := gb193) (o := .cells #[.slice A0_0 l0_0.length c0_0, .int .i64 a0_1, .int .i64 a0_2] 26 (0, 0)) (jzB BK193) hg (Kd.N_ne HO245.out BK193.out (by decide)))
         have n2_ := Am (blk_grown (g := gb194) (o := .cells #[.slice none 0 0, .int .i64 0, .int .i64 0] 26 (0, 0)) (jzB BK194) hg (Kd.N_ne HO245.out BK194.out (by decide)))
         have n3_ := Am (blk_grown (g := gb195) (o := .cells #[.int .i64 0, .int .i64 0, .slice none 0 0] 32 (0, 0)) (jzB BK195) hg (Kd.N_away HO245.out (fun _ hk => hk.2.2.2.2.1)))
         have n4_ := Am (blk_grown (g := gb201) (o := .cells #[.slice Ao14 t196.length co14, .int .i64 t199, .int .i64 t200] 26 (0, 0)) (jzB BK201) hg (Kd.N_ne HO245.out BK201.out (by decide)))
         have n5_ := Am (hb)
         have n6_ := Am (ho)
         clear HO_202000
         clear BK193
         clear BK194
         clear BK195
         clear BK201
         clear HB
         clear HO245
         have HO_202000 := n0_
         have BK193 := n1_
         have BK194 := n2_
         have BK195 := n3_
         have BK201 := n4_
         have HB := n5_
         have HO248 := n6_
         clear n0_ n1_ n2_ n3_ n4_ n5_ n6_
         clear ho hb hg hat
         obtain ⟨Ao132, co132, eo132⟩ := Kd.N_slice HO248.out
         (first | subst eo132 | (injection eo132 with f1_ f2_ f3_; have f4_ := f1_.symm; have f5_ := f3_.symm; clear f1_ f2_ f3_; subst f4_; subst f5_))
         refine hK.out _ _ ⟨(b8 BK201.out 0).trans rfl, (b8 BK201.out 1).trans rfl, (b8 BK201.out 2).trans rfl, ((HB.out.cell (World.block_lt_of_cell? w _ hw237_0)).trans hw237_0), ((HB.out.cell (World.block_lt_of_cell? w _ hw237_1)).trans hw237_1), ((HB.out.cell (World.block_lt_of_cell? w _ hw237_2)).trans hw237_2)⟩ (fun hHeld => ?_)
         clear hK K
         refine norm_ (a' := ?_) ?_ ?_
         rotate_left
         ·show Act.put _ (some 81) _ = _
          simp only [Act.put, zA, zB, zC, i64_w, i32_w]
          rfl
         refine pure_ (i := 9) (N := some 82) (v := ?_) (a' := ?_) #[T,T,T,T,T,T,T,T,T,T,F] rfl rfl (any_of HT_.out (by kernel_rfl)) (fun _ _ _ h => h) (Or.inl ⟨by rfl, ?_⟩) ?_ ?_
         rotate_left; intro w'; go_simp; with_reducible rfl; rotate_left; simp only [Act.put, zA, zB, zC, i64_w, i32_w]; rfl
         refine last_ (i := 10) (N := none) #[T,T,T,T,T,T,T,T,T,T,T] rfl rfl (one_of HT_.out (by kernel_rfl)) (by decide) (fun K hK => ?_)
         have hs133 : w131.cell? ⟨gb201, 0, none⟩ = some (.slice Ao14 t196.length co14) := (b8 BK201.out 0).trans rfl
         have hfs133 := blk_frozen BK201.out 0
         have hns133_0 := NB193_201.out
         have hns133_1 := NB194_201.out
         have hns133_2 := NB195_201.out
         have hms133_0 := NB201_193.out
         have hms133_1 := NB201_194.out
         have hms133_2 := NB201_195.out
         refine skip_ (w1 := ?_) (by rfl) rfl ?_ ?_
         rotate_left
         ·go_simp
          rfl
         refine hK.out _ _ ?_
         clear hK K
         refine done_ (done_of HT_.out (by kernel_rfl)) ?_
         have hcz134_0 : w131.cell? ⟨gb193, 0, none⟩ = some (.slice A0_0 l0_0.length c0_0) := (b8 BK193.out 0).trans rfl
         have hcz134_1 : w131.cell? ⟨gb193, 1, none⟩ = some (.int .i64 a0_1) := (b8 BK193.out 1).trans rfl
         have hcz134_2 : w131.cell? ⟨gb193, 2, none⟩ = some (.int .i64 a0_2) := (b8 BK193.out 2).trans rfl
         have hfz134_0 := blk_frozen BK193.out 0
         have hfz134_1 := blk_frozen BK193.out 1
         have hfz134_2 := blk_frozen BK193.out 2
         have hnb135 := NB201_194.out
         have hnc135 := NB194_201.out
         have hnb136 := NB201_195.out
         have hnc136 := NB195_201.out
         have hcz137_0 : w131.cell? ⟨gb201, 0, none⟩ = some (.slice Ao14 t196.length co14) := (b8 BK201.out 0).trans rfl
         have hcz137_1 : w131.cell? ⟨gb201, 1, none⟩ = some (.int .i64 t199) := (b8 BK201.out 1).trans rfl
         have hcz137_2 : w131.cell? ⟨gb201, 2, none⟩ = some (.int .i64 t200) := (b8 BK201.out 2).trans rfl
         have hfz137_0 := blk_frozen BK201.out 0
         have hfz137_1 := blk_frozen BK201.out 1
         have hfz137_2 := blk_frozen BK201.out 2
         try go_wp2
         go_loopg [] kj4 (fun kq w' => ∃ (x202000_2 : List (S32)) (u202000 : Value), Aside0 (spec_FetchGlyph.l0 kq l2 t236 x202000_2 t199 (wrap64 (a0_2 + 1)) = some (r1, r2, r3, r4, r5, r6, r7)) ∧ Aside0 (kq ≤ kj4) ∧ Aside0 (Kd.N k32 32 w' w.heap.size (fun k_ => (w.heap.size ≤ k_) ∧ k_ ≠ gb193 ∧ k_ ≠ gb194 ∧ k_ ≠ gb195 ∧ k_ ≠ gb201) u202000 x202000_2) ∧ Aside0 (w'.heap[gb193]? = some (.cells #[(.slice A0_0 l0_0.length c0_0), .int .i64 a0_1, .int .i64 a0_2] 26 (0, 0))) ∧ Aside0 (w'.heap[gb194]? = some (.cells #[(.slice none 0 0), .int .i64 0, .int .i64 0] 26 (0, 0))) ∧ Aside0 (w'.heap[gb195]? = some (.cells #[.int .i64 0, .int .i64 0, (.slice none 0 0)] 32 (0, 0))) ∧ Aside0 (w'.heap[gb201]? = some (.cells #[u202000, .int .i64 t199, .int .i64 (wrap64 (a0_2 + 1))] 26 (0, 0))) ∧ Aside0 (Below w.heap.size w w'))
         case atStart => exact ⟨(y246), (.slice Ao132 y246.length co132), H', ⟨Nat.le_refl _⟩, ⟨by (with_reducible repeat (first | apply Kd.N_alloc | apply Kd.N_drewN | apply Kd.N_drew)); exact Kd.N_mono (Kd.N_far (p := ⟨gb201, 2, none⟩) (Kd.N_far (p := ⟨gb201, 0, none⟩) (Kd.N_mono HO248.out (fun k_ hk => (⟨hk, hk.2.2.2.2⟩ : _ ∧ k_ ≠ gb201))) (fun _ hk => hk.2) (.slice Ao132 y246.length co132)) (fun _ hk => hk.2) (.int .i64 (wrap64 (a0_2 + 1)))) (fun _ hk => ⟨hk.1.1, ⟨hk.1.2.1, ⟨hk.1.2.2.1, ⟨hk.1.2.2.2.1, hk.1.2.2.2.2⟩⟩⟩⟩)⟩, ⟨by (with_reducible repeat (first | refine b1 ?_ _ | refine b2 ?_ | refine b3 ?_ _)); refine blk_far ?_ NB193_201.out _; (with_reducible repeat (first | refine b1 ?_ _ | refine b2 ?_ | refine b3 ?_ _)); refine blk_far ?_ NB193_201.out _; (with_reducible repeat (first | refine b1 ?_ _ | refine b2 ?_ | refine b3 ?_ _)); exact BK193.out⟩, ⟨by (with_reducible repeat (first | refine b1 ?_ _ | refine b2 ?_ | refine b3 ?_ _)); refine blk_far ?_ NB194_201.out _; (with_reducible repeat (first | refine b1 ?_ _ | refine b2 ?_ | refine b3 ?_ _)); refine blk_far ?_ NB194_201.out _; (with_reducible repeat (first | refine b1 ?_ _ | refine b2 ?_ | refine b3 ?_ _)); exact BK194.out⟩, ⟨by (with_reducible repeat (first | refine b1 ?_ _ | refine b2 ?_ | refine b3 ?_ _)); refine blk_far ?_ NB195_201.out _; (with_reducible repeat (first | refine b1 ?_ _ | refine b2 ?_ | refine b3 ?_ _)); refine blk_far ?_ NB195_201.out _; (with_reducible repeat (first | refine b1 ?_ _ | refine b2 ?_ | refine b3 ?_ _)); exact BK195.out⟩, ⟨by (with_reducible repeat (first | refine b1 ?_ _ | refine b2 ?_ | refine b3 ?_ _)); refine blk_put (cs := #[.slice Ao132 y246.length co132, .int .i64 t199, .int .i64 t200]) ?_ 2 _ rfl; (with_reducible repeat (first | refine b1 ?_ _ | refine b2 ?_ | refine b3 ?_ _)); refine blk_put (cs := #[.slice Ao14 t196.length co14, .int .i64 t199, .int .i64 t200]) ?_ 0 _ rfl; (with_reducible repeat (first | refine b1 ?_ _ | refine b2 ?_ | refine b3 ?_ _)); exact BK201.out⟩, ⟨jzG HB⟩⟩
         case round =>
          clear H'
          try clear c1
          try clear c2
          try clear p2
          try clear q2
          try clear hx2
          try clear c3
          try clear c4
          try clear c5
          try clear c6
          try clear p6
          try clear c7
          try clear c10
          try clear c11
          try clear c12
          try clear c13
          try clear c20
          try clear c23
          try clear p23
          try clear q23
          try clear hx23
          try clear c42
          try clear c46
          try clear c50
          try clear c50b0
          try clear c51
          try clear c52
          try clear c54
          try clear c55
          try clear c57
          try clear c58
          try clear c59
          try clear c60
          try clear p64
          try clear c79
          try clear c103
          try clear c103b0
          try clear c104
          try clear c105
          try clear c106
          try clear c110
          try clear c111
          try clear c113
          try clear c116
          try clear c116b0
          try clear c117
          try clear c117b0
          try clear c119
          try clear c120
          try clear c121
          try clear c122
          try clear c135
          try clear c136
          try clear hcz107_0
          try clear hcz107_1
          try clear hcz107_2
          try clear hcz112_0
          try clear hcz112_1
          try clear hcz112_2
          try clear hcz114_0
          try clear hcz114_1
          try clear hcz114_2
          try clear hcz115_0
          try clear hcz115_1
          try clear hcz115_2
          try clear hcz123_0
          try clear hcz123_1
          try clear hcz123_2
          try clear hcz134_0
          try clear hcz134_1
          try clear hcz134_2
          try clear hcz137_0
          try clear hcz137_1
          try clear hcz137_2
          try clear hcz84_0
          try clear hcz84_1
          try clear hcz84_2
          try clear hcz90_0
          try clear hcz90_1
          try clear hcz90_2
          try clear hcz91_0
          try clear hcz91_1
          try clear hcz91_2
          try clear hfz107_0
          try clear hfz107_1
          try clear hfz107_2
          try clear hfz112_0
          try clear hfz112_1
          try clear hfz112_2
          try clear hfz114_0
          try clear hfz114_1
          try clear hfz114_2
          try clear hfz115_0
          try clear hfz115_1
          try clear hfz115_2
          try clear hfz123_0
          try clear hfz123_1
          try clear hfz123_2
          try clear hfz134_0
          try clear hfz134_1
          try clear hfz134_2
          try clear hfz137_0
          try clear hfz137_1
          try clear hfz137_2
          try clear hfz84_0
          try clear hfz84_1
          try clear hfz84_2
          try clear hfz90_0
          try clear hfz90_1
          try clear hfz90_2
          try clear hfz91_0
          try clear hfz91_1
          try clear hfz91_2
          try clear hx237_0
          try clear hx237_1
          try clear hx237_2
          try clear p237
          try clear q237
          obtain ⟨x202000_2, u202000, HA, HK2, HO_202000, BK193, BK194, BK195, BK201, HB⟩ := hrel
          cases gk with
          | zero => exact absurd HA.out (by simp [spec_FetchGlyph.l0])
          | succ k2 =>
           have H := HA.out
           clear HA
           simp only [spec_FetchGlyph.l0] at H
           replace H := Option.bind_eq_some_iff.mp H
           obtain ⟨t249, A1380, H⟩ := H
           replace H : (if t249 > 20 then (if 0 ≤ (wrap64 ((x202000_2.length : Int) - 1)) then (if (wrap64 ((x202000_2.length : Int) - 1)) ≤ (x202000_2.length : Int) then (spec_FetchGlyph.l0 k2 l2 t236 (x202000_2.take ((wrap64 ((x202000_2.length : Int) - 1)) : Int).toNat) t199 (wrap64 (a0_2 + 1))) else (none)) else (none)) else (if 0 ≤ t236 then (if t236 < (l2.length : Int) then ((spec_l25Glyph.f ((rd_T32 l2 t236).f0) ((rd_T32 l2 t236).f1) ((rd_T32 l2 t236).f2)).bind fun bt254 => (some (x202000_2, t199, (wrap64 (a0_2 + 1)), bt254.1, bt254.2.1, bt254.2.2, true))) else (none)) else (none))) = some (r1, r2, r3, r4, r5, r6, r7) := H
           have A138 := Am A1380
           clear A1380
           by_cases c139 : t249 > 20
           ·rw [if_pos c139] at H
            have c139b0 : decide (20 < t249) = true := decide_eq_true c139
            clear c139
            obtain ⟨ji140, hji140⟩ : ∃ j_ : Int, (wrap64 ((x202000_2.length : Int) - 1)) = j_ := ⟨_, rfl⟩
            replace H : (if 0 ≤ (ji140) then (if (ji140) ≤ (x202000_2.length : Int) then (spec_FetchGlyph.l0 k2 l2 t236 (x202000_2.take ((ji140) : Int).toNat) t199 (wrap64 (a0_2 + 1))) else (none)) else (none)) = some (r1, r2, r3, r4, r5, r6, r7) := by first | (rw [hji140] at H; exact H) | (simp only [hji140] at H ⊢; exact H)
            (try rw [hji140] at A138)
            have hji140w : (IntKind.i64.wrap ((x202000_2.length : Int) - 1)) = ji140 := (i64_w _).trans hji140
            by_cases c141 : 0 ≤ (ji140)
            ·rw [if_pos c141] at H
             have c141b0 := eq_true c141
             have c141b1 : decide (0 ≤ (ji140)) = true := decide_eq_true c141
             clear c141
             by_cases c142 : (ji140) ≤ (x202000_2.length : Int)
             ·rw [if_pos c142] at H
              have c142b0 := eq_true c142
              have c142b1 : decide ((ji140) ≤ (x202000_2.length : Int)) = true := decide_eq_true c142
              clear c142
              obtain ⟨y250, hy250⟩ : ∃ y_ : List (S32), y_ = (x202000_2.take ((ji140) : Int).toNat) := ⟨_, rfl⟩
              replace H : (spec_FetchGlyph.l0 k2 l2 t236 y250 t199 (wrap64 (a0_2 + 1))) = some (r1, r2, r3, r4, r5, r6, r7) := by first | (rw [hy250]; with_reducible exact H) | (have H2_ := (Option.bind_some _ _).symm.trans H; rw [hy250]; with_reducible exact H2_) | (have H2_ := (Option.bind_some _ _).symm.trans H; with_reducible exact H2_) | with_reducible exact H | (rw [hy250]; exact H) | exact H
              have Ny250 := Am hy250
              clear hy250
              have H' := Am H
              clear H
              have hnb143 := NB201_193.out
              have hnc143 := NB193_201.out
              have hnb144 := NB201_194.out
              have hnc144 := NB194_201.out
              have hnb145 := NB201_195.out
              have hnc145 := NB195_201.out
              have hcz146_0 : wr.cell? ⟨gb201, 0, none⟩ = some (u202000) := (b8 BK201.out 0).trans rfl
              have hcz146_1 : wr.cell? ⟨gb201, 1, none⟩ = some (.int .i64 t199) := (b8 BK201.out 1).trans rfl
              have hcz146_2 : wr.cell? ⟨gb201, 2, none⟩ = some (.int .i64 (wrap64 (a0_2 + 1))) := (b8 BK201.out 2).trans rfl
              have hfz146_0 := blk_frozen BK201.out 0
              have hfz146_1 := blk_frozen BK201.out 1
              have hfz146_2 := blk_frozen BK201.out 2
              obtain ⟨Ao147, co147, eo147⟩ := Kd.N_slice HO_202000.out
              subst eo147
              go_wp2_with (first | ((with_reducible refine gate_callee (f := 47) rfl ?_); refine goesL_ (some 88) rfl rfl Try.func47 (by kernel_rfl) rfl #[.agg #[.slice Ao147 x202000_2.length co147, .int .i64 t199, .int .i64 (wrap64 (a0_2 + 1))]] rfl jzA ?_; (with_reducible refine (spec_CacheSize.calls k2 _ _ x202000_2 t199 (wrap64 (a0_2 + 1)) t249 _ ?side1 ?side2 A138.out).mono ?_); (case side1 => exact jzD ((Kd.N_reads' HO_202000.out).2.2)); (case side2 => exact (Kd.N_reads' HO_202000.out).2.1); rintro e w148 ⟨rfl, hb⟩; refine ⟨_, rfl, ?_⟩; have n0_ := Am (Kd.N_below (jzN HO_202000) hb); have n1_ := Am (blk_below (g := gb193) (o := .cells #[.slice A0_0 l0_0.length c0_0, .int .i64 a0_1, .int .i64 a0_2] 26 (0, 0)) (jzB BK193) hb); have n2_ := Am (blk_below (g := gb194) (o := .cells #[.slice none 0 0, .int .i64 0, .int .i64 0] 26 (0, 0)) (jzB BK194) hb); have n3_ := Am (blk_below (g := gb195) (o := .cells #[.int .i64 0, .int .i64 0, .slice none 0 0] 32 (0, 0)) (jzB BK195) hb); have n4_ := Am (blk_below (g := gb201) (o := .cells #[.slice Ao147 x202000_2.length co147, .int .i64 t199, .int .i64 (wrap64 (a0_2 + 1))] 26 (0, 0)) (jzB BK201) hb); have n5_ := Am (below_step (jzG HB) hb); clear HO_202000; clear BK193; clear BK194; clear BK195; clear BK201; clear HB; have HO_202000 := n0_; have BK193 := n1_; have BK194 := n2_; have BK195 := n3_; have BK201 := n4_; have HB := n5_; clear n0_ n1_ n2_ n3_ n4_ n5_; (try clear hb); (try clear hb2); (try clear hk); (try clear hi); have hcz149_0 : w148.cell? ⟨gb201, 0, none⟩ = some (.slice Ao147 x202000_2.length co147) := (b8 BK201.out 0).trans rfl; have hcz149_1 : w148.cell? ⟨gb201, 1, none⟩ = some (.int .i64 t199) := (b8 BK201.out 1).trans rfl; have hcz149_2 : w148.cell? ⟨gb201, 2, none⟩ = some (.int .i64 (wrap64 (a0_2 + 1))) := (b8 BK201.out 2).trans rfl; have hfz149_0 := blk_frozen BK201.out 0; have hfz149_1 := blk_frozen BK201.out 1; have hfz149_2 := blk_frozen BK201.out 2; have q150 : ((ji140) : Int) ≤ ((x202000_2.length : Int) : Int) := of_decide_eq_true jzS; obtain ⟨i0150, hi0150, _, hsz150, _⟩ := info_parts info32; have hcut150 := cut_to (P := Try.prog) 24 32 .i64 Try.underlying24 hi0150 Ao147 x202000_2.length co147 (ji140) (of_decide_eq_true jzS) q150 (Kd.N_reads' HO_202000.out).2.1; have hr150 := Kd.N_take (m := ((ji140) : Int).toNat) HO_202000.out (by omega); have hy150 : y250.length = ((ji140) : Int).toNat := (by rw [Ny250.out, List.length_take]; omega); rw [← Ny250.out] at hr150; rw [← hy150] at hr150 hcut150; clear hy150 hi0150 hsz150 HO_202000; have HO252 := Am hr150; clear hr150; replace q150 := eq_true q150))
              go_roundg k2
              case measure => have := HJ4.out; have := HK2.out; omega
              case rel => exact ⟨(y250), (.slice Ao147 y250.length co147), H', ⟨by have := HJ4.out; have := HK2.out; omega⟩, ⟨by (with_reducible repeat (first | apply Kd.N_alloc | apply Kd.N_drewN | apply Kd.N_drew)); exact Kd.N_mono (Kd.N_far (p := ⟨gb201, 0, none⟩) (Kd.N_mono HO252.out (fun k_ hk => (⟨hk, hk.2.2.2.2⟩ : _ ∧ k_ ≠ gb201))) (fun _ hk => hk.2) (.slice Ao147 y250.length co147)) (fun _ hk => ⟨hk.1.1, ⟨hk.1.2.1, ⟨hk.1.2.2.1, ⟨hk.1.2.2.2.1, hk.1.2.2.2.2⟩⟩⟩⟩)⟩, ⟨by (with_reducible repeat (first | refine b1 ?_ _ | refine b2 ?_ | refine b3 ?_ _)); refine blk_far ?_ NB193_201.out _; (with_reducible repeat (first | refine b1 ?_ _ | refine b2 ?_ | refine b3 ?_ _)); exact BK193.out⟩, ⟨by (with_reducible repeat (first | refine b1 ?_ _ | refine b2 ?_ | refine b3 ?_ _)); refine blk_far ?_ NB194_201.out _; (with_reducible repeat (first | refine b1 ?_ _ | refine b2 ?_ | refine b3 ?_ _)); exact BK194.out⟩, ⟨by (with_reducible repeat (first | refine b1 ?_ _ | refine b2 ?_ | refine b3 ?_ _)); refine blk_far ?_ NB195_201.out _; (with_reducible repeat (first | refine b1 ?_ _ | refine b2 ?_ | refine b3 ?_ _)); exact BK195.out⟩, ⟨by (with_reducible repeat (first | refine b1 ?_ _ | refine b2 ?_ | refine b3 ?_ _)); refine blk_put (cs := #[.slice Ao147 x202000_2.length co147, .int .i64 t199, .int .i64 (wrap64 (a0_2 + 1))]) ?_ 0 _ rfl; (with_reducible repeat (first | refine b1 ?_ _ | refine b2 ?_ | refine b3 ?_ _)); exact BK201.out⟩, ⟨jzG HB⟩⟩
             ·rw [if_neg c142] at H
              exact absurd H (by simp)
            ·rw [if_neg c141] at H
             exact absurd H (by simp)
           ·rw [if_neg c139] at H
            have c139b0 : decide (20 < t249) = false := decide_eq_false c139
            clear c139
            by_cases c151 : 0 ≤ t236
            ·rw [if_pos c151] at H
             have c151b0 : decide (0 ≤ t236) = true := decide_eq_true c151
             clear c151
             by_cases c152 : t236 < (l2.length : Int)
             ·rw [if_pos c152] at H
              have c152b0 : decide (t236 < (l2.length : Int)) = true := decide_eq_true c152
              clear c152
              replace H := Option.bind_eq_some_iff.mp H
              obtain ⟨⟨t254, t255, t256⟩, A1530, H⟩ := H
              replace H : (some (x202000_2, t199, (wrap64 (a0_2 + 1)), t254, t255, t256, true)) = some (r1, r2, r3, r4, r5, r6, r7) := H
              have A153 := Am A1530
              clear A1530
              simp only [Option.some.injEq, Prod.mk.injEq] at H
              obtain ⟨rfl, rfl, rfl, rfl, rfl, rfl, rfl⟩ := H
              have hnb154 := NB201_193.out
              have hnc154 := NB193_201.out
              have hnb155 := NB201_194.out
              have hnc155 := NB194_201.out
              have hnb156 := NB201_195.out
              have hnc156 := NB195_201.out
              have hcz157_0 : wr.cell? ⟨gb201, 0, none⟩ = some (u202000) := (b8 BK201.out 0).trans rfl
              have hcz157_1 : wr.cell? ⟨gb201, 1, none⟩ = some (.int .i64 t199) := (b8 BK201.out 1).trans rfl
              have hcz157_2 : wr.cell? ⟨gb201, 2, none⟩ = some (.int .i64 (wrap64 (a0_2 + 1))) := (b8 BK201.out 2).trans rfl
              have hfz157_0 := blk_frozen BK201.out 0
              have hfz157_1 := blk_frozen BK201.out 1
              have hfz157_2 := blk_frozen BK201.out 2
              obtain ⟨Ao158, co158, eo158⟩ := Kd.N_slice HO_202000.out
              subst eo158
              try go_wp2_with (first | ((with_reducible refine gate_callee (f := 47) rfl ?_); refine goesL_ (some 88) rfl rfl Try.func47 (by kernel_rfl) rfl #[.agg #[.slice Ao158 x202000_2.length co158, .int .i64 t199, .int .i64 (wrap64 (a0_2 + 1))]] rfl jzA ?_; (with_reducible refine (spec_CacheSize.calls k2 _ _ x202000_2 t199 (wrap64 (a0_2 + 1)) t249 _ ?side1 ?side2 A138.out).mono ?_); (case side1 => exact jzD ((Kd.N_reads' HO_202000.out).2.2)); (case side2 => exact (Kd.N_reads' HO_202000.out).2.1); rintro e w159 ⟨rfl, hb⟩; refine ⟨_, rfl, ?_⟩; have n0_ := Am (Kd.N_below (jzN HO_202000) hb); have n1_ := Am (blk_below (g := gb193) (o := .cells #[.slice A0_0 l0_0.length c0_0, .int .i64 a0_1, .int .i64 a0_2] 26 (0, 0)) (jzB BK193) hb); have n2_ := Am (blk_below (g := gb194) (o := .cells #[.slice none 0 0, .int .i64 0, .int .i64 0] 26 (0, 0)) (jzB BK194) hb); have n3_ := Am (blk_below (g := gb195) (o := .cells #[.int .i64 0, .int .i64 0, .slice none 0 0] 32 (0, 0)) (jzB BK195) hb); have n4_ := Am (blk_below (g := gb201) (o := .cells #[.slice Ao158 x202000_2.length co158, .int .i64 t199, .int .i64 (wrap64 (a0_2 + 1))] 26 (0, 0)) (jzB BK201) hb); have n5_ := Am (below_step (jzG HB) hb); clear HO_202000; clear BK193; clear BK194; clear BK195; clear BK201; clear HB; have HO_202000 := n0_; have BK193 := n1_; have BK194 := n2_; have BK195 := n3_; have BK201 := n4_; have HB := n5_; clear n0_ n1_ n2_ n3_ n4_ n5_; (try clear hb); (try clear hb2); (try clear hk); (try clear hi)))
              have n0_ := Am (Kd.N_drew HO_202000.out)
              have n1_ := Am (b2 BK193.out)
              have n2_ := Am (b2 BK194.out)
              have n3_ := Am (b2 BK195.out)
              have n4_ := Am (b2 BK201.out)
              have n5_ := Am (b6 HB.out)
              clear HO_202000
              clear BK193
              clear BK194
              clear BK195
              clear BK201
              clear HB
              have HO_202000 := n0_
              have BK193 := n1_
              have BK194 := n2_
              have BK195 := n3_
              have BK201 := n4_
              have HB := n5_
              clear n0_ n1_ n2_ n3_ n4_ n5_
              have p253 : 0 ≤ (t236 : Int) := of_decide_eq_true jzS
              have q253 : t236 < (l2.length : Int) := of_decide_eq_true jzS
              obtain ⟨ad253, A253_2, c253_2, e253, hx253_0, hx253_1, hx253_2, hl253_2, hi253_2⟩ := at_T32 HR2.out t236 p253 q253
              have hw253_2 := hx253_2
              have hw253_1 := hx253_1
              have hw253_0 := hx253_0
              obtain rfl : ad237 = ad253 := (by injection e253)
              replace hx253_0 := (HB.out.cell (World.block_lt_of_cell? w _ hx253_0)).trans hx253_0
              replace hx253_1 := (HB.out.cell (World.block_lt_of_cell? w _ hx253_1)).trans hx253_1
              replace hx253_2 := (HB.out.cell (World.block_lt_of_cell? w _ hx253_2)).trans hx253_2
              have HR253_2 := Am hi253_2
              have HC253_2 := Am hl253_2
              clear hi253_2 hl253_2
              replace p253 := eq_true p253
              replace q253 := eq_true q253
              refine start_ (n := 9) (S := fun w' => w'.cell? ⟨gb201, 0, none⟩ = some (.slice Ao158 x202000_2.length co158) ∧ w'.cell? ⟨gb201, 1, none⟩ = some (.int .i64 t199) ∧ w'.cell? ⟨gb201, 2, none⟩ = some (.int .i64 (wrap64 (a0_2 + 1))) ∧ w'.cell? (ad237.add ((t236).toNat * 3)) = some (.int .i64 ((rd_T32 l2 t236).f0)) ∧ w'.cell? ⟨(ad237.add ((t236).toNat * 3)).block, (ad237.add ((t236).toNat * 3)).off + 1, none⟩ = some (.int .i64 ((rd_T32 l2 t236).f1)) ∧ w'.cell? ⟨(ad237.add ((t236).toNat * 3)).block, (ad237.add ((t236).toNat * 3)).off + 2, none⟩ = some (.slice A253_2 ((rd_T32 l2 t236).f2).length c253_2)) (ds := []) #[F,F,F,F,F,F,F,F,F] (by kernel_rfl) rfl rfl ⟨(b8 BK201.out 0).trans rfl, (b8 BK201.out 1).trans rfl, (b8 BK201.out 2).trans rfl, ((HB.out.cell (World.block_lt_of_cell? w _ hw253_0)).trans hw253_0), ((HB.out.cell (World.block_lt_of_cell? w _ hw253_1)).trans hw253_1), ((HB.out.cell (World.block_lt_of_cell? w _ hw253_2)).trans hw253_2)⟩ (fun hHeld => ?_); refine with_tabW spec_FetchGlyph.tab18 spec_FetchGlyph.bits18 (fun HT_ HW_ => ?_)
              generalize w159.drew = w160 at HO_202000 BK193 BK194 BK195 BK201 HB HR253_2 hx253_0 hx253_1 hx253_2 hHeld ⊢
              refine pure_ (i := 1) (N := some 99) (v := ?_) (a' := ?_) #[F,T,F,F,F,F,F,F,F] rfl rfl (any_of HT_.out (by kernel_rfl)) (fun _ _ _ h => h) (Or.inl ⟨by rfl, ?_⟩) ?_ ?_
              rotate_left; intro w'; go_simp; with_reducible rfl; rotate_left; simp only [Act.put, zA, zB, zC, i64_w, i32_w]; rfl
              refine pure_ (i := 2) (N := some 100) (v := ?_) (a' := ?_) #[F,T,T,F,F,F,F,F,F] rfl rfl (any_of HT_.out (by kernel_rfl)) (fun _ _ _ h => h) (Or.inl ⟨by rfl, ?_⟩) ?_ ?_
              rotate_left; intro w'; go_simp; with_reducible rfl; rotate_left; simp only [Act.put, zA, zB, zC, i64_w, i32_w]; rfl
              refine pure_ (i := 3) (N := some 101) (v := ?_) (a' := ?_) #[F,T,T,T,F,F,F,F,F] rfl rfl (any_of HT_.out (by kernel_rfl)) (fun _ _ _ h => h) (Or.inl ⟨by rfl, ?_⟩) ?_ ?_
              rotate_left; intro w'; go_simp; with_reducible rfl; rotate_left; simp only [Act.put, zA, zB, zC, i64_w, i32_w]; rfl
              refine take_ (i := 0) (N := some 98) (v := ?_) (a' := ?_) #[T,T,T,T,F,F,F,F,F] rfl rfl (take_ofW HT_.out HW_.out (by kernel_rfl)) (fun _ _ _ h => h) (Or.inl ⟨by rfl, ?_⟩) hHeld ?_ ?_
              rotate_left; rintro w' ⟨s0, s1, s2, s3, s4, s5⟩; go_simp; with_reducible rfl; rotate_left; simp only [Act.put, zA, zB, zC, i64_w, i32_w]; rfl
              refine take_ (i := 4) (N := some 102) (v := ?_) (a' := ?_) #[T,T,T,T,T,F,F,F,F] rfl rfl (take_ofW HT_.out HW_.out (by kernel_rfl)) (fun _ _ _ h => h) (Or.inl ⟨by rfl, ?_⟩) hHeld ?_ ?_
              rotate_left; rintro w' ⟨s0, s1, s2, s3, s4, s5⟩; go_simp; with_reducible rfl; rotate_left; simp only [Act.put, zA, zB, zC, i64_w, i32_w]; rfl
              refine one_ (i := 5) (N := some 103) #[T,T,T,T,T,T,F,F,F] rfl rfl (one_of HT_.out (by kernel_rfl)) (by decide) (fun K hK => ?_)
              refine goes_ Try.func46 (by kernel_rfl) rfl #[.agg #[.int .i64 ((rd_T32 l2 t236).f0), .int .i64 ((rd_T32 l2 t236).f1), .slice A253_2 ((rd_T32 l2 t236).f2).length c253_2]] (by rfl) rfl rfl jzA ?_
              with_reducible refine (spec_l25Glyph.calls ((rd_T32 l2 t236).f0) ((rd_T32 l2 t236).f1) _ _ ((rd_T32 l2 t236).f2) t254 t255 t256 _ ?side1 ?side2 A153.out).mono ?_
              (case side1 => exact jzC HR253_2 HB)
              (case side2 => exact HC253_2.out)
              rintro e w161 ⟨v257, rfl, ho0, hb⟩
              refine ⟨_, rfl, ?_⟩
              have n0_ := Am (Kd.N_elder' (jzN HO_202000) (Kd.R_base ho0) hb)
              have n1_ := Am (Kd.R_lower (Kd.R_newM (M := fun k_ => (w.heap.size ≤ k_)) ho0 (below_size (jzG HB)) (fun k_ h_ => h_)) (below_size (jzG HB)))
              have n2_ := Am (blk_below (g := gb193) (o := .cells #[.slice A0_0 l0_0.length c0_0, .int .i64 a0_1, .int .i64 a0_2] 26 (0, 0)) (jzB BK193) hb)
              have n3_ := Am (blk_below (g := gb194) (o := .cells #[.slice none 0 0, .int .i64 0, .int .i64 0] 26 (0, 0)) (jzB BK194) hb)
              have n4_ := Am (blk_below (g := gb195) (o := .cells #[.int .i64 0, .int .i64 0, .slice none 0 0] 32 (0, 0)) (jzB BK195) hb)
              have n5_ := Am (blk_below (g := gb201) (o := .cells #[.slice Ao158 x202000_2.length co158, .int .i64 t199, .int .i64 (wrap64 (a0_2 + 1))] 26 (0, 0)) (jzB BK201) hb)
              have n6_ := Am (below_step (jzG HB) hb)
              clear HO_202000
              clear BK193
              clear BK194
              clear BK195
              clear BK201
              clear HB
              have HO_202000 := n0_
              have HO258 := n1_
              have BK193 := n2_
              have BK194 := n3_
              have BK195 := n4_
              have BK201 := n5_
              have HB := n6_
              clear n0_ n1_ n2_ n3_ n4_ n5_ n6_
              (try clear hb)
              (try clear hb2)
              (try clear hk)
              (try clear hi)
              (try clear ho0)
              obtain ⟨Ao167, co167, eo167⟩ := Kd.R_slice HO258.out
              (first | subst eo167 | (injection eo167 with f1_ f2_ f3_; have f4_ := f1_.symm; have f5_ := f3_.symm; clear f1_ f2_ f3_; subst f4_; subst f5_))
              refine hK.out _ _ ⟨(b8 BK201.out 0).trans rfl, (b8 BK201.out 1).trans rfl, (b8 BK201.out 2).trans rfl, ((HB.out.cell (World.block_lt_of_cell? w _ hw253_0)).trans hw253_0), ((HB.out.cell (World.block_lt_of_cell? w _ hw253_1)).trans hw253_1), ((HB.out.cell (World.block_lt_of_cell? w _ hw253_2)).trans hw253_2)⟩ (fun hHeld => ?_)
              clear hK K
              refine norm_ (a' := ?_) ?_ ?_
              rotate_left
              ·show Act.put _ (some 103) _ = _
               simp only [Act.put, zA, zB, zC, i64_w, i32_w]
               rfl
              refine one_ (i := 6) (N := none) #[T,T,T,T,T,T,T,F,F] rfl rfl (one_of HT_.out (by kernel_rfl)) (by decide) (fun K hK => ?_)
              have hs162 : w161.cell? ⟨gb194, 0, none⟩ = some (.slice none 0 0) := (b8 BK194.out 0).trans rfl
              have hfs162 := blk_frozen BK194.out 0
              have hns162_0 := NB193_194.out
              have hns162_2 := NB195_194.out
              have hns162_3 := NB201_194.out
              have hms162_0 := NB194_193.out
              have hms162_2 := NB194_195.out
              have hms162_3 := NB194_201.out
              have hs163 : w161.cell? ⟨gb194, 1, none⟩ = some (.int .i64 0) := (b8 BK194.out 1).trans rfl
              have hfs163 := blk_frozen BK194.out 1
              have hns163_0 := NB193_194.out
              have hns163_2 := NB195_194.out
              have hns163_3 := NB201_194.out
              have hms163_0 := NB194_193.out
              have hms163_2 := NB194_195.out
              have hms163_3 := NB194_201.out
              have hs164 : w161.cell? ⟨gb194, 2, none⟩ = some (.int .i64 0) := (b8 BK194.out 2).trans rfl
              have hfs164 := blk_frozen BK194.out 2
              have hns164_0 := NB193_194.out
              have hns164_2 := NB195_194.out
              have hns164_3 := NB201_194.out
              have hms164_0 := NB194_193.out
              have hms164_2 := NB194_195.out
              have hms164_3 := NB194_201.out
              refine skip_ (w1 := ?_) (by rfl) rfl ?_ ?_
              rotate_left
              ·go_simp
               rfl
              refine hK.out _ _ ⟨((cell_far (p := ⟨gb194, _, none⟩) NB201_194.out _).trans (((cell_far (p := ⟨gb194, _, none⟩) NB201_194.out _).trans (((cell_far (p := ⟨gb194, _, none⟩) NB201_194.out _).trans (hHeld.1)))))), ((cell_far (p := ⟨gb194, _, none⟩) NB201_194.out _).trans (((cell_far (p := ⟨gb194, _, none⟩) NB201_194.out _).trans (((cell_far (p := ⟨gb194, _, none⟩) NB201_194.out _).trans (hHeld.2.1)))))), ((cell_far (p := ⟨gb194, _, none⟩) NB201_194.out _).trans (((cell_far (p := ⟨gb194, _, none⟩) NB201_194.out _).trans (((cell_far (p := ⟨gb194, _, none⟩) NB201_194.out _).trans (hHeld.2.2.1)))))), ((cell_far (p := ⟨gb194, _, none⟩) (by first | exact Nat.ne_of_lt (Nat.lt_of_lt_of_le (by have := World.block_lt_of_cell? _ _ hw253_0; first | rwa [add_block] at this | exact this) GW194.out) | (rw [add_block]; exact Nat.ne_of_lt (Nat.lt_of_lt_of_le (by have := World.block_lt_of_cell? _ _ hw253_0; first | rwa [add_block] at this | exact this) GW194.out)) | (show (Addr.add _ _).block ≠ _; rw [add_block]; exact Nat.ne_of_lt (Nat.lt_of_lt_of_le (by have := World.block_lt_of_cell? _ _ hw253_0; first | rwa [add_block] at this | exact this) GW194.out)) | (dsimp only; exact Nat.ne_of_lt (Nat.lt_of_lt_of_le (by have := World.block_lt_of_cell? _ _ hw253_0; first | rwa [add_block] at this | exact this) GW194.out))) _).trans (((cell_far (p := ⟨gb194, _, none⟩) (by first | exact Nat.ne_of_lt (Nat.lt_of_lt_of_le (by have := World.block_lt_of_cell? _ _ hw253_0; first | rwa [add_block] at this | exact this) GW194.out) | (rw [add_block]; exact Nat.ne_of_lt (Nat.lt_of_lt_of_le (by have := World.block_lt_of_cell? _ _ hw253_0; first | rwa [add_block] at this | exact this) GW194.out)) | (show (Addr.add _ _).block ≠ _; rw [add_block]; exact Nat.ne_of_lt (Nat.lt_of_lt_of_le (by have := World.block_lt_of_cell? _ _ hw253_0; first | rwa [add_block] at this | exact this) GW194.out)) | (dsimp only; exact Nat.ne_of_lt (Nat.lt_of_lt_of_le (by have := World.block_lt_of_cell? _ _ hw253_0; first | rwa [add_block] at this | exact this) GW194.out))) _).trans (((cell_far (p := ⟨gb194, _, none⟩) (by first | exact Nat.ne_of_lt (Nat.lt_of_lt_of_le (by have := World.block_lt_of_cell? _ _ hw253_0; first | rwa [add_block] at this | exact this) GW194.out) | (rw [add_block]; exact Nat.ne_of_lt (Nat.lt_of_lt_of_le (by have := World.block_lt_of_cell? _ _ hw253_0; first | rwa [add_block] at this | exact this) GW194.out)) | (show (Addr.add _ _).block ≠ _; rw [add_block]; exact Nat.ne_of_lt (Nat.lt_of_lt_of_le (by have := World.block_lt_of_cell? _ _ hw253_0; first | rwa [add_block] at this | exact this) GW194.out)) | (dsimp only; exact Nat.ne_of_lt (Nat.lt_of_lt_of_le (by have := World.block_lt_of_cell? _ _ hw253_0; first | rwa [add_block] at this | exact this) GW194.out))) _).trans (hHeld.2.2.2.1)))))), ((cell_far (p := ⟨gb194, _, none⟩) (by first | exact Nat.ne_of_lt (Nat.lt_of_lt_of_le (by have := World.block_lt_of_cell? _ _ hw253_1; first | rwa [add_block] at this | exact this) GW194.out) | (rw [add_block]; exact Nat.ne_of_lt (Nat.lt_of_lt_of_le (by have := World.block_lt_of_cell? _ _ hw253_1; first | rwa [add_block] at this | exact this) GW194.out)) | (show (Addr.add _ _).block ≠ _; rw [add_block]; exact Nat.ne_of_lt (Nat.lt_of_lt_of_le (by have := World.block_lt_of_cell? _ _ hw253_1; first | rwa [add_block] at this | exact this) GW194.out)) | (dsimp only; exact Nat.ne_of_lt (Nat.lt_of_lt_of_le (by have := World.block_lt_of_cell? _ _ hw253_1; first | rwa [add_block] at this | exact this) GW194.out))) _).trans (((cell_far (p := ⟨gb194, _, none⟩) (by first | exact Nat.ne_of_lt (Nat.lt_of_lt_of_le (by have := World.block_lt_of_cell? _ _ hw253_1; first | rwa [add_block] at this | exact this) GW194.out) | (rw [add_block]; exact Nat.ne_of_lt (Nat.lt_of_lt_of_le (by have := World.block_lt_of_cell? _ _ hw253_1; first | rwa [add_block] at this | exact this) GW194.out)) | (show (Addr.add _ _).block ≠ _; rw [add_block]; exact Nat.ne_of_lt (Nat.lt_of_lt_of_le (by have := World.block_lt_of_cell? _ _ hw253_1; first | rwa [add_block] at this | exact this) GW194.out)) | (dsimp only; exact Nat.ne_of_lt (Nat.lt_of_lt_of_le (by have := World.block_lt_of_cell? _ _ hw253_1; first | rwa [add_block] at this | exact this) GW194.out))) _).trans (((cell_far (p := ⟨gb194, _, none⟩) (by first | exact Nat.ne_of_lt (Nat.lt_of_lt_of_le (by have := World.block_lt_of_cell? _ _ hw253_1; first | rwa [add_block] at this | exact this) GW194.out) | (rw [add_block]; exact Nat.ne_of_lt (Nat.lt_of_lt_of_le (by have := World.block_lt_of_cell? _ _ hw253_1; first | rwa [add_block] at this | exact this) GW194.out)) | (show (Addr.add _ _).block ≠ _; rw [add_block]; exact Nat.ne_of_lt (Nat.lt_of_lt_of_le (by have := World.block_lt_of_cell? _ _ hw253_1; first | rwa [add_block] at this | exact this) GW194.out)) | (dsimp only; exact Nat.ne_of_lt (Nat.lt_of_lt_of_le (by have := World.block_lt_of_cell? _ _ hw253_1; first | rwa [add_block] at this | exact this) GW194.out))) _).trans (hHeld.2.2.2.2.1)))))), ((cell_far (p := ⟨gb194, _, none⟩) (by first | exact Nat.ne_of_lt (Nat.lt_of_lt_of_le (by have := World.block_lt_of_cell? _ _ hw253_2; first | rwa [add_block] at this | exact this) GW194.out) | (rw [add_block]; exact Nat.ne_of_lt (Nat.lt_of_lt_of_le (by have := World.block_lt_of_cell? _ _ hw253_2; first | rwa [add_block] at this | exact this) GW194.out)) | (show (Addr.add _ _).block ≠ _; rw [add_block]; exact Nat.ne_of_lt (Nat.lt_of_lt_of_le (by have := World.block_lt_of_cell? _ _ hw253_2; first | rwa [add_block] at this | exact this) GW194.out)) | (dsimp only; exact Nat.ne_of_lt (Nat.lt_of_lt_of_le (by have := World.block_lt_of_cell? _ _ hw253_2; first | rwa [add_block] at this | exact this) GW194.out))) _).trans (((cell_far (p := ⟨gb194, _, none⟩) (by first | exact Nat.ne_of_lt (Nat.lt_of_lt_of_le (by have := World.block_lt_of_cell? _ _ hw253_2; first | rwa [add_block] at this | exact this) GW194.out) | (rw [add_block]; exact Nat.ne_of_lt (Nat.lt_of_lt_of_le (by have := World.block_lt_of_cell? _ _ hw253_2; first | rwa [add_block] at this | exact this) GW194.out)) | (show (Addr.add _ _).block ≠ _; rw [add_block]; exact Nat.ne_of_lt (Nat.lt_of_lt_of_le (by have := World.block_lt_of_cell? _ _ hw253_2; first | rwa [add_block] at this | exact this) GW194.out)) | (dsimp only; exact Nat.ne_of_lt (Nat.lt_of_lt_of_le (by have := World.block_lt_of_cell? _ _ hw253_2; first | rwa [add_block] at this | exact this) GW194.out))) _).trans (((cell_far (p := ⟨gb194, _, none⟩) (by first | exact Nat.ne_of_lt (Nat.lt_of_lt_of_le (by have := World.block_lt_of_cell? _ _ hw253_2; first | rwa [add_block] at this | exact this) GW194.out) | (rw [add_block]; exact Nat.ne_of_lt (Nat.lt_of_lt_of_le (by have := World.block_lt_of_cell? _ _ hw253_2; first | rwa [add_block] at this | exact this) GW194.out)) | (show (Addr.add _ _).block ≠ _; rw [add_block]; exact Nat.ne_of_lt (Nat.lt_of_lt_of_le (by have := World.block_lt_of_cell? _ _ hw253_2; first | rwa [add_block] at this | exact this) GW194.out)) | (dsimp only; exact Nat.ne_of_lt (Nat.lt_of_lt_of_le (by have := World.block_lt_of_cell? _ _ hw253_2; first | rwa [add_block] at this | exact this) GW194.out))) _).trans (hHeld.2.2.2.2.2))))))⟩ (fun hHeld => ?_)
              clear hK K
              refine one_ (i := 7) (N := none) #[T,T,T,T,T,T,T,T,F] rfl rfl (one_of HT_.out (by kernel_rfl)) (by decide) (fun K hK => ?_)
              have hs165 : w161.cell? ⟨gb195, 0, none⟩ = some (.int .i64 0) := (b8 BK195.out 0).trans rfl
              have hfs165 := blk_frozen BK195.out 0
              have hns165_0 := NB193_195.out
              have hns165_1 := NB194_195.out
              have hns165_3 := NB201_195.out
              have hms165_0 := NB195_193.out
              have hms165_1 := NB195_194.out
              have hms165_3 := NB195_201.out
              have hs166 : w161.cell? ⟨gb195, 1, none⟩ = some (.int .i64 0) := (b8 BK195.out 1).trans rfl
              have hfs166 := blk_frozen BK195.out 1
              have hns166_0 := NB193_195.out
              have hns166_1 := NB194_195.out
              have hns166_3 := NB201_195.out
              have hms166_0 := NB195_193.out
              have hms166_1 := NB195_194.out
              have hms166_3 := NB195_201.out
              have hs168 : w161.cell? ⟨gb195, 2, none⟩ = some (.slice none 0 0) := (b8 BK195.out 2).trans rfl
              have hfs168 := blk_frozen BK195.out 2
              have hns168_0 := NB193_195.out
              have hns168_1 := NB194_195.out
              have hns168_3 := NB201_195.out
              have hms168_0 := NB195_193.out
              have hms168_1 := NB195_194.out
              have hms168_3 := NB195_201.out
              refine skip_ (w1 := ?_) (by rfl) rfl ?_ ?_
              rotate_left
              ·go_simp
               rfl
              refine hK.out _ _ ⟨((cell_far (p := ⟨gb195, _, none⟩) NB201_195.out _).trans (((cell_far (p := ⟨gb195, _, none⟩) NB201_195.out _).trans (((cell_far (p := ⟨gb195, _, none⟩) NB201_195.out _).trans (hHeld.1)))))), ((cell_far (p := ⟨gb195, _, none⟩) NB201_195.out _).trans (((cell_far (p := ⟨gb195, _, none⟩) NB201_195.out _).trans (((cell_far (p := ⟨gb195, _, none⟩) NB201_195.out _).trans (hHeld.2.1)))))), ((cell_far (p := ⟨gb195, _, none⟩) NB201_195.out _).trans (((cell_far (p := ⟨gb195, _, none⟩) NB201_195.out _).trans (((cell_far (p := ⟨gb195, _, none⟩) NB201_195.out _).trans (hHeld.2.2.1)))))), ((cell_far (p := ⟨gb195, _, none⟩) (by first | exact Nat.ne_of_lt (Nat.lt_of_lt_of_le (by have := World.block_lt_of_cell? _ _ hw253_0; first | rwa [add_block] at this | exact this) GW195.out) | (rw [add_block]; exact Nat.ne_of_lt (Nat.lt_of_lt_of_le (by have := World.block_lt_of_cell? _ _ hw253_0; first | rwa [add_block] at this | exact this) GW195.out)) | (show (Addr.add _ _).block ≠ _; rw [add_block]; exact Nat.ne_of_lt (Nat.lt_of_lt_of_le (by have := World.block_lt_of_cell? _ _ hw253_0; first | rwa [add_block] at this | exact this) GW195.out)) | (dsimp only; exact Nat.ne_of_lt (Nat.lt_of_lt_of_le (by have := World.block_lt_of_cell? _ _ hw253_0; first | rwa [add_block] at this | exact this) GW195.out))) _).trans (((cell_far (p := ⟨gb195, _, none⟩) (by first | exact Nat.ne_of_lt (Nat.lt_of_lt_of_le (by have := World.block_lt_of_cell? _ _ hw253_0; first | rwa [add_block] at this | exact this) GW195.out) | (rw [add_block]; exact Nat.ne_of_lt (Nat.lt_of_lt_of_le (by have := World.block_lt_of_cell? _ _ hw253_0; first | rwa [add_block] at this | exact this) GW195.out)) | (show (Addr.add _ _).block ≠ _; rw [add_block]; exact Nat.ne_of_lt (Nat.lt_of_lt_of_le (by have := World.block_lt_of_cell? _ _ hw253_0; first | rwa [add_block] at this | exact this) GW195.out)) | (dsimp only; exact Nat.ne_of_lt (Nat.lt_of_lt_of_le (by have := World.block_lt_of_cell? _ _ hw253_0; first | rwa [add_block] at this | exact this) GW195.out))) _).trans (((cell_far (p := ⟨gb195, _, none⟩) (by first | exact Nat.ne_of_lt (Nat.lt_of_lt_of_le (by have := World.block_lt_of_cell? _ _ hw253_0; first | rwa [add_block] at this | exact this) GW195.out) | (rw [add_block]; exact Nat.ne_of_lt (Nat.lt_of_lt_of_le (by have := World.block_lt_of_cell? _ _ hw253_0; first | rwa [add_block] at this | exact this) GW195.out)) | (show (Addr.add _ _).block ≠ _; rw [add_block]; exact Nat.ne_of_lt (Nat.lt_of_lt_of_le (by have := World.block_lt_of_cell? _ _ hw253_0; first | rwa [add_block] at this | exact this) GW195.out)) | (dsimp only; exact Nat.ne_of_lt (Nat.lt_of_lt_of_le (by have := World.block_lt_of_cell? _ _ hw253_0; first | rwa [add_block] at this | exact this) GW195.out))) _).trans (hHeld.2.2.2.1)))))), ((cell_far (p := ⟨gb195, _, none⟩) (by first | exact Nat.ne_of_lt (Nat.lt_of_lt_of_le (by have := World.block_lt_of_cell? _ _ hw253_1; first | rwa [add_block] at this | exact this) GW195.out) | (rw [add_block]; exact Nat.ne_of_lt (Nat.lt_of_lt_of_le (by have := World.block_lt_of_cell? _ _ hw253_1; first | rwa [add_block] at this | exact this) GW195.out)) | (show (Addr.add _ _).block ≠ _; rw [add_block]; exact Nat.ne_of_lt (Nat.lt_of_lt_of_le (by have := World.block_lt_of_cell? _ _ hw253_1; first | rwa [add_block] at this | exact this) GW195.out)) | (dsimp only; exact Nat.ne_of_lt (Nat.lt_of_lt_of_le (by have := World.block_lt_of_cell? _ _ hw253_1; first | rwa [add_block] at this | exact this) GW195.out))) _).trans (((cell_far (p := ⟨gb195, _, none⟩) (by first | exact Nat.ne_of_lt (Nat.lt_of_lt_of_le (by have := World.block_lt_of_cell? _ _ hw253_1; first | rwa [add_block] at this | exact this) GW195.out) | (rw [add_block]; exact Nat.ne_of_lt (Nat.lt_of_lt_of_le (by have := World.block_lt_of_cell? _ _ hw253_1; first | rwa [add_block] at this | exact this) GW195.out)) | (show (Addr.add _ _).block ≠ _; rw [add_block]; exact Nat.ne_of_lt (Nat.lt_of_lt_of_le (by have := World.block_lt_of_cell? _ _ hw253_1; first | rwa [add_block] at this | exact this) GW195.out)) | (dsimp only; exact Nat.ne_of_lt (Nat.lt_of_lt_of_le (by have := World.block_lt_of_cell? _ _ hw253_1; first | rwa [add_block] at this | exact this) GW195.out))) _).trans (((cell_far (p := ⟨gb195, _, none⟩) (by first | exact Nat.ne_of_lt (Nat.lt_of_lt_of_le (by have := World.block_lt_of_cell? _ _ hw253_1; first | rwa [add_block] at this | exact this) GW195.out) | (rw [add_block]; exact Nat.ne_of_lt (Nat.lt_of_lt_of_le (by have := World.block_lt_of_cell? _ _ hw253_1; first | rwa [add_block] at this | exact this) GW195.out)) | (show (Addr.add _ _).block ≠ _; rw [add_block]; exact Nat.ne_of_lt (Nat.lt_of_lt_of_le (by have := World.block_lt_of_cell? _ _ hw253_1; first | rwa [add_block] at this | exact this) GW195.out)) | (dsimp only; exact Nat.ne_of_lt (Nat.lt_of_lt_of_le (by have := World.block_lt_of_cell? _ _ hw253_1; first | rwa [add_block] at this | exact this) GW195.out))) _).trans (hHeld.2.2.2.2.1)))))), ((cell_far (p := ⟨gb195, _, none⟩) (by first | exact Nat.ne_of_lt (Nat.lt_of_lt_of_le (by have := World.block_lt_of_cell? _ _ hw253_2; first | rwa [add_block] at this | exact this) GW195.out) | (rw [add_block]; exact Nat.ne_of_lt (Nat.lt_of_lt_of_le (by have := World.block_lt_of_cell? _ _ hw253_2; first | rwa [add_block] at this | exact this) GW195.out)) | (show (Addr.add _ _).block ≠ _; rw [add_block]; exact Nat.ne_of_lt (Nat.lt_of_lt_of_le (by have := World.block_lt_of_cell? _ _ hw253_2; first | rwa [add_block] at this | exact this) GW195.out)) | (dsimp only; exact Nat.ne_of_lt (Nat.lt_of_lt_of_le (by have := World.block_lt_of_cell? _ _ hw253_2; first | rwa [add_block] at this | exact this) GW195.out))) _).trans (((cell_far (p := ⟨gb195, _, none⟩) (by first | exact Nat.ne_of_lt (Nat.lt_of_lt_of_le (by have := World.block_lt_of_cell? _ _ hw253_2; first | rwa [add_block] at this | exact this) GW195.out) | (rw [add_block]; exact Nat.ne_of_lt (Nat.lt_of_lt_of_le (by have := World.block_lt_of_cell? _ _ hw253_2; first | rwa [add_block] at this | exact this) GW195.out)) | (show (Addr.add _ _).block ≠ _; rw [add_block]; exact Nat.ne_of_lt (Nat.lt_of_lt_of_le (by have := World.block_lt_of_cell? _ _ hw253_2; first | rwa [add_block] at this | exact this) GW195.out)) | (dsimp only; exact Nat.ne_of_lt (Nat.lt_of_lt_of_le (by have := World.block_lt_of_cell? _ _ hw253_2; first | rwa [add_block] at this | exact this) GW195.out))) _).trans (((cell_far (p := ⟨gb195, _, none⟩) (by first | exact Nat.ne_of_lt (Nat.lt_of_lt_of_le (by have := World.block_lt_of_cell? _ _ hw253_2; first | rwa [add_block] at this | exact this) GW195.out) | (rw [add_block]; exact Nat.ne_of_lt (Nat.lt_of_lt_of_le (by have := World.block_lt_of_cell? _ _ hw253_2; first | rwa [add_block] at this | exact this) GW195.out)) | (show (Addr.add _ _).block ≠ _; rw [add_block]; exact Nat.ne_of_lt (Nat.lt_of_lt_of_le (by have := World.block_lt_of_cell? _ _ hw253_2; first | rwa [add_block] at this | exact this) GW195.out)) | (dsimp only; exact Nat.ne_of_lt (Nat.lt_of_lt_of_le (by have := World.block_lt_of_cell? _ _ hw253_2; first | rwa [add_block] at this | exact this) GW195.out))) _).trans (hHeld.2.2.2.2.2))))))⟩ (fun hHeld => ?_)
              clear hK K
              refine pure_ (i := 8) (N := some 8) (v := ?_) (a' := ?_) #[T,T,T,T,T,T,T,T,T] rfl rfl (any_of HT_.out (by kernel_rfl)) (fun _ _ _ h => h) (Or.inl ⟨by rfl, ?_⟩) ?_ ?_
              rotate_left; intro w'; go_simp; with_reducible rfl; rotate_left; simp only [Act.put, zA, zB, zC, i64_w, i32_w]; rfl
              refine done_ (done_of HT_.out (by kernel_rfl)) ?_
              try go_wp2
              refine bodyPost_ret (results_list (rs := [.cell 6 26, .cell 7 32, .tmp 8]) rfl (by simp) (.cell gb194 26 #[.slice Ao158 x202000_2.length co158, .int .i64 t199, .int .i64 (wrap64 (a0_2 + 1))] (0, 0) _ rfl (by (with_reducible repeat (first | refine b1 ?_ _ | refine b2 ?_ | refine b3 ?_ _)); refine blk_far ?_ NB194_195.out _; (with_reducible repeat (first | refine b1 ?_ _ | refine b2 ?_ | refine b3 ?_ _)); refine blk_far ?_ NB194_195.out _; (with_reducible repeat (first | refine b1 ?_ _ | refine b2 ?_ | refine b3 ?_ _)); refine blk_far ?_ NB194_195.out _; (with_reducible repeat (first | refine b1 ?_ _ | refine b2 ?_ | refine b3 ?_ _)); refine blk_put (cs := #[.slice Ao158 x202000_2.length co158, .int .i64 t199, .int .i64 0]) ?_ 2 _ rfl; (with_reducible repeat (first | refine b1 ?_ _ | refine b2 ?_ | refine b3 ?_ _)); refine blk_put (cs := #[.slice Ao158 x202000_2.length co158, .int .i64 0, .int .i64 0]) ?_ 1 _ rfl; (with_reducible repeat (first | refine b1 ?_ _ | refine b2 ?_ | refine b3 ?_ _)); refine blk_put (cs := #[.slice none 0 0, .int .i64 0, .int .i64 0]) ?_ 0 _ rfl; (with_reducible repeat (first | refine b1 ?_ _ | refine b2 ?_ | refine b3 ?_ _)); exact BK194.out) Try.underlying26 rfl (by kernel_rfl) (.cell gb195 32 #[.int .i64 t254, .int .i64 t255, .slice Ao167 t256.length co167] (0, 0) _ rfl (by (with_reducible repeat (first | refine b1 ?_ _ | refine b2 ?_ | refine b3 ?_ _)); refine blk_put (cs := #[.int .i64 t254, .int .i64 t255, .slice none 0 0]) ?_ 2 _ rfl; (with_reducible repeat (first | refine b1 ?_ _ | refine b2 ?_ | refine b3 ?_ _)); refine blk_put (cs := #[.int .i64 t254, .int .i64 0, .slice none 0 0]) ?_ 1 _ rfl; (with_reducible repeat (first | refine b1 ?_ _ | refine b2 ?_ | refine b3 ?_ _)); refine blk_put (cs := #[.int .i64 0, .int .i64 0, .slice none 0 0]) ?_ 0 _ rfl; (with_reducible repeat (first | refine b1 ?_ _ | refine b2 ?_ | refine b3 ?_ _)); refine blk_far ?_ NB195_194.out _; (with_reducible repeat (first | refine b1 ?_ _ | refine b2 ?_ | refine b3 ?_ _)); refine blk_far ?_ NB195_194.out _; (with_reducible repeat (first | refine b1 ?_ _ | refine b2 ?_ | refine b3 ?_ _)); refine blk_far ?_ NB195_194.out _; (with_reducible repeat (first | refine b1 ?_ _ | refine b2 ?_ | refine b3 ?_ _)); exact BK195.out) Try.underlying32 rfl (by kernel_rfl) (.tmp .nil)))) rfl ?_
              exact ⟨_, _, by first | rfl | (simp [errW_none, errW_some] <;> rfl) | (simp [*, errW_none, errW_some] <;> rfl), by (with_reducible repeat (first | apply Kd.N_alloc | apply Kd.N_drewN | apply Kd.N_drew)); exact Kd.N_mono (Kd.N_far (p := ⟨gb195, 2, none⟩) (Kd.N_far (p := ⟨gb195, 1, none⟩) (Kd.N_far (p := ⟨gb195, 0, none⟩) (Kd.N_far (p := ⟨gb194, 2, none⟩) (Kd.N_far (p := ⟨gb194, 1, none⟩) (Kd.N_far (p := ⟨gb194, 0, none⟩) (Kd.N_mono (Kd.N_mono HO_202000.out (fun k_ hk => (⟨hk, hk.1.2.2.1⟩ : _ ∧ k_ ≠ gb194))) (fun k_ hk => (⟨hk, hk.1.1.2.2.2.1⟩ : _ ∧ k_ ≠ gb195))) (fun _ hk => hk.1.2) (.slice Ao158 x202000_2.length co158)) (fun _ hk => hk.1.2) (.int .i64 t199)) (fun _ hk => hk.1.2) (.int .i64 (wrap64 (a0_2 + 1)))) (fun _ hk => hk.2) (.int .i64 t254)) (fun _ hk => hk.2) (.int .i64 t255)) (fun _ hk => hk.2) (.slice Ao167 t256.length co167)) (fun _ hk => ⟨hk.1.1.1.1, hk.1.1.2⟩), by (with_reducible repeat (first | apply Kd.R_alloc | apply Kd.R_drewN | apply Kd.R_drew)); exact Kd.R_mono (Kd.R_far (p := ⟨gb195, 2, none⟩) (Kd.R_far (p := ⟨gb195, 1, none⟩) (Kd.R_far (p := ⟨gb195, 0, none⟩) (Kd.R_far (p := ⟨gb194, 2, none⟩) (Kd.R_far (p := ⟨gb194, 1, none⟩) (Kd.R_far (p := ⟨gb194, 0, none⟩) (Kd.R_types (Kd.R_types HO258.out BK194.out (by decide)) BK195.out (by decide)) (fun _ hk => hk.1.2) (.slice Ao158 x202000_2.length co158)) (fun _ hk => hk.1.2) (.int .i64 t199)) (fun _ hk => hk.1.2) (.int .i64 (wrap64 (a0_2 + 1)))) (fun _ hk => hk.2) (.int .i64 t254)) (fun _ hk => hk.2) (.int .i64 t255)) (fun _ hk => hk.2) (.slice Ao167 t256.length co167)) (fun _ hk => hk.1.1.1), jzG HB⟩
             ·rw [if_neg c152] at H
              exact absurd H (by simp)
            ·rw [if_neg c151] at H
             exact absurd H (by simp)
        ·rw [if_neg c119] at H
         exact absurd H (by simp)
       ·rw [if_neg c117] at H
        exact absurd H (by simp)
      ·rw [if_neg c116] at H
       exact absurd H (by simp)

end Go.Proofs.Ytphjcllhlecpfaa.PFnCaches
