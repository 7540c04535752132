/- Written by a program of this session (a turned copy of the kit's printer): what each Go function answers, and that it does. -/
import Derived.Test.YtphjcllhlecpfaaPFnCachesx0
import Derived.Test.YtphjcllhlecpfaaPFnCachesx6
import Derived.Test.YtphjcllhlecpfaaPFnCachesx7
import Derived.Test.YtphjcllhlecpfaaPFnCachesx8
namespace Go.Proofs.Ytphjcllhlecpfaa.PFnCaches
open Go.RowKit Go.Proofs.YtphjcllhlecpfaaW.PrintWords Go.Proofs.YtphjcllhlecpfaaW.PrintLast Go.Proofs.YtphjcllhlecpfaaW.PrintMore
attribute [local go_sem] Go.Proofs.Ytphjcllhlecpfaa.Cells.cell_set_at max2_int min2_int max_two min_two max_three min_three max_four min_four   -- for this text's walks alone
set_option linter.unusedVariables false
set_option linter.unusedSimpArgs false

/-! ### impl_FetchGlyph: function 10 (a contract of this session's own) -/
mutual
def impl_FetchGlyph.j0 : Nat → List (S32) → Int → Int → Bool → List (S32) → Int → Int → Option ((List (S32)) × Int × Int × Int × Int × List Int × Bool)
 | 0, _, _, _, _, _, _, _ => none
 | k + 1, x2, x10, x11, x42, x367000, x367001, x367002 => if x42 = true then (some (x367000, x367001, x367002, 0, 0, ([] : List Int), false)) else (if x10 ≥ 0 then (if 0 ≤ x10 then (if x10 < (x367000.length : Int) then (if x10 ≤ (x367000.length : Int) then (if 0 ≤ (wrap64 (x10 + 1)) then (if (wrap64 (x10 + 1)) ≤ (x367000.length : Int) then ((some (x367000.eraseIdx (x10 : Int).toNat : List (S32))).bind fun y382 => ((some (([(⟨(rd_T32 x367000 x10).f0, (rd_T32 x367000 x10).f1, (rd_T32 x367000 x10).f2⟩ : S32)] : List (S32)) : List (S32))).bind fun y385 => (if y385.length + y382.length < 3518437208883 then (impl_FetchGlyph.l0 k (y385 ++ y382) (wrap64 (x367001 + 1)) x367002 ((rd_T32 x367000 x10).f0) ((rd_T32 x367000 x10).f1) ((rd_T32 x367000 x10).f2)) else (none)))) else (none)) else (none)) else (none)) else (none)) else (none)) else (if 0 ≤ x11 then (if x11 < (x2.length : Int) then ((impl_copyGlyph.f ((rd_T32 x2 x11).f0) ((rd_T32 x2 x11).f1) ((rd_T32 x2 x11).f2)).bind fun bt401 => ((some (([(⟨bt401.1, bt401.2.1, bt401.2.2⟩ : S32)] : List (S32)) : List (S32))).bind fun y406 => (if y406.length + x367000.length < 3518437208883 then (impl_FetchGlyph.l0 k (y406 ++ x367000) x367001 (wrap64 (x367002 + 1)) bt401.1 bt401.2.1 bt401.2.2) else (none)))) else (none)) else (none)))
def impl_FetchGlyph.l0 : Nat → List (S32) → Int → Int → Int → Int → List Int → Option ((List (S32)) × Int × Int × Int × Int × List Int × Bool)
 | 0, _, _, _, _, _, _ => none
 | k + 1, x367000, x367001, x367002, x371000, x371001, x371002 => (impl_CacheSize.f k x367000 x367001 x367002).bind fun t391 => (if t391 > 20 then (if 0 ≤ (wrap64 ((x367000.length : Int) - 1)) then (if (wrap64 ((x367000.length : Int) - 1)) ≤ (x367000.length : Int) then (impl_FetchGlyph.l0 k (x367000.take ((wrap64 ((x367000.length : Int) - 1)) : Int).toNat) x367001 x367002 x371000 x371001 x371002) else (none)) else (none)) else ((impl_copyGlyph.f x371000 x371001 x371002).bind fun bt395 => (some (x367000, x367001, x367002, bt395.1, bt395.2.1, bt395.2.2, true))))
end
def impl_FetchGlyph.f (k : Nat) (l0_0 : List (S32)) (a0_1 : Int) (a0_2 : Int) (a1 : Int) (l2 : List (S32)) : Option ((List (S32)) × Int × Int × Int × Int × List Int × Bool) := (impl_copyCache.f k l0_0 a0_1 a0_2).bind fun bt361 => ((impl_CacheOk.f k l0_0 a0_1 a0_2).bind fun t367 => (if t367 = true then ((impl_glyphAt.f k l0_0 a1 false).bind fun t368 => ((impl_glyphAt.f k l2 a1 true).bind fun t369 => (if t368 < 0 then (if t369 < 0 then (impl_FetchGlyph.j0 k l2 t368 t369 true bt361.1 bt361.2.1 bt361.2.2) else (if a0_1 = 100000 then (impl_FetchGlyph.j0 k l2 t368 t369 true bt361.1 bt361.2.1 bt361.2.2) else (impl_FetchGlyph.j0 k l2 t368 t369 (a0_2 == 100000) bt361.1 bt361.2.1 bt361.2.2))) else (if a0_1 = 100000 then (impl_FetchGlyph.j0 k l2 t368 t369 true bt361.1 bt361.2.1 bt361.2.2) else (impl_FetchGlyph.j0 k l2 t368 t369 (a0_2 == 100000) bt361.1 bt361.2.1 bt361.2.2))))) else (some (bt361.1, bt361.2.1, bt361.2.2, 0, 0, ([] : List Int), false))))
theorem impl_FetchGlyph.mono_l : ∀ k, (∀ y0 y1 y2 y3 y4 y5 y6, LeO (impl_FetchGlyph.j0 k y0 y1 y2 y3 y4 y5 y6) (impl_FetchGlyph.j0 (k + 1) y0 y1 y2 y3 y4 y5 y6)) ∧ (∀ y0 y1 y2 y3 y4 y5, LeO (impl_FetchGlyph.l0 k y0 y1 y2 y3 y4 y5) (impl_FetchGlyph.l0 (k + 1) y0 y1 y2 y3 y4 y5))
 | 0 => ⟨fun _ _ _ _ _ _ _ r h => by simp [impl_FetchGlyph.j0] at h, fun _ _ _ _ _ _ r h => by simp [impl_FetchGlyph.l0] at h⟩
 | k + 1 => by
  obtain ⟨ih0, ih1⟩ := impl_FetchGlyph.mono_l k
  refine ⟨?_, ?_⟩
  ·intro y0 y1 y2 y3 y4 y5 y6
   unfold impl_FetchGlyph.j0
   repeat' first
   | (with_reducible exact ih0 _ _ _ _ _ _ _)
   | (with_reducible exact ih1 _ _ _ _ _ _)
   | (with_reducible exact impl_CacheOk.mono _ _ _ _)
   | (with_reducible exact impl_CacheSize.mono _ _ _ _)
   | (with_reducible exact impl_copyCache.mono _ _ _ _)
   | (with_reducible exact impl_glyphAt.mono _ _ _ _)
   | (with_reducible exact LeO.refl _)
   | (with_reducible exact LeO.none _)
   | (with_reducible refine LeO.ite ?_ ?_)
   | (with_reducible refine LeO.bind ?_ (fun _ => ?_))
   | exact ih0 _ _ _ _ _ _ _
   | exact ih1 _ _ _ _ _ _
   | exact impl_CacheOk.mono _ _ _ _
   | exact impl_CacheSize.mono _ _ _ _
   | exact impl_copyCache.mono _ _ _ _
   | exact impl_glyphAt.mono _ _ _ _
   | exact LeO.none _
   | refine LeO.ite ?_ ?_
   | refine LeO.bind ?_ (fun _ => ?_)
  ·intro y0 y1 y2 y3 y4 y5
   unfold impl_FetchGlyph.l0
   repeat' first
   | (with_reducible exact ih0 _ _ _ _ _ _ _)
   | (with_reducible exact ih1 _ _ _ _ _ _)
   | (with_reducible exact impl_CacheOk.mono _ _ _ _)
   | (with_reducible exact impl_CacheSize.mono _ _ _ _)
   | (with_reducible exact impl_copyCache.mono _ _ _ _)
   | (with_reducible exact impl_glyphAt.mono _ _ _ _)
   | (with_reducible exact LeO.refl _)
   | (with_reducible exact LeO.none _)
   | (with_reducible refine LeO.ite ?_ ?_)
   | (with_reducible refine LeO.bind ?_ (fun _ => ?_))
   | exact ih0 _ _ _ _ _ _ _
   | exact ih1 _ _ _ _ _ _
   | exact impl_CacheOk.mono _ _ _ _
   | exact impl_CacheSize.mono _ _ _ _
   | exact impl_copyCache.mono _ _ _ _
   | exact impl_glyphAt.mono _ _ _ _
   | exact LeO.none _
   | refine LeO.ite ?_ ?_
   | refine LeO.bind ?_ (fun _ => ?_)
theorem impl_FetchGlyph.mono : ∀ a0 a1 a2 a3 a4 k, LeO (impl_FetchGlyph.f k a0 a1 a2 a3 a4) (impl_FetchGlyph.f (k + 1) a0 a1 a2 a3 a4) := by
 intro a0 a1 a2 a3 a4 k
 obtain ⟨ih0, ih1⟩ := impl_FetchGlyph.mono_l k
 unfold impl_FetchGlyph.f
 repeat' first
   | (with_reducible exact ih0 _ _ _ _ _ _ _)
   | (with_reducible exact ih1 _ _ _ _ _ _)
   | (with_reducible exact impl_CacheOk.mono _ _ _ _)
   | (with_reducible exact impl_CacheSize.mono _ _ _ _)
   | (with_reducible exact impl_copyCache.mono _ _ _ _)
   | (with_reducible exact impl_glyphAt.mono _ _ _ _)
   | (with_reducible exact LeO.refl _)
   | (with_reducible exact LeO.none _)
   | (with_reducible refine LeO.ite ?_ ?_)
   | (with_reducible refine LeO.bind ?_ (fun _ => ?_))
   | exact ih0 _ _ _ _ _ _ _
   | exact ih1 _ _ _ _ _ _
   | exact impl_CacheOk.mono _ _ _ _
   | exact impl_CacheSize.mono _ _ _ _
   | exact impl_copyCache.mono _ _ _ _
   | exact impl_glyphAt.mono _ _ _ _
   | exact LeO.none _
   | refine LeO.ite ?_ ?_
   | refine LeO.bind ?_ (fun _ => ?_)
def impl_FetchGlyph.T11 : Bool × List (List Nat × List Nat) := (true, [([], []), ([0], [0]), ([], []), ([], []), ([1, 2, 3], [1, 2, 3]), ([], []), ([5], [5]), ([], []), ([7], [7]), ([6, 8], [6, 8]), ([4, 9], [4, 9]), ([0, 1, 2, 3, 4, 5, 6, 7, 8, 9, 10], []), ([11, 10, 10, 0, 1, 2, 3, 4, 5, 6, 7, 8, 9, 10], [10, 11])])
def impl_FetchGlyph.B11 : List Nat := [0, 1, 0, 0, 15, 0, 32, 0, 128, 480, 1023, 2047, 4095]
theorem impl_FetchGlyph.tab11 : rtab .any (opsOf Try.f10 11) = impl_FetchGlyph.T11 := by kernel_rfl
theorem impl_FetchGlyph.bits11 : waitsOk impl_FetchGlyph.T11.2 impl_FetchGlyph.B11 = true := by kernel_rfl
theorem rdT32_at (xs : List S32) (i : Int) (n : Nat) (hn : n = i.toNat) (h : n < xs.length) : xs[n]? = some (⟨(rd_T32 xs i).f0, (rd_T32 xs i).f1, (rd_T32 xs i).f2⟩ : S32) := by
 subst hn
 rw [List.getElem?_eq_getElem h]
 simp [rd_T32, List.getD_eq_getElem?_getD, List.getElem?_eq_getElem h]
set_option maxHeartbeats 80000000 in
set_option maxRecDepth 100000 in
theorem impl_FetchGlyph.calls0 (k : Nat) (A0_0 : Option Addr) (c0_0 : Nat) (l0_0 : List (S32)) (a0_1 : Int) (a0_2 : Int) (a1 : Int) (A2 : Option Addr) (c2 : Nat) (l2 : List (S32)) (r1 : List (S32)) (r2 : Int) (r3 : Int) (r4 : Int) (r5 : Int) (r6 : List Int) (r7 : Bool) (w : World) (hr0_0 : Kd.C k32 w A0_0 l0_0.length l0_0) (hc0_0 : l0_0.length ≤ c0_0) (hr2 : Kd.C k32 w A2 l2.length l2) (hc2 : l2.length ≤ c2) (h : impl_FetchGlyph.f k l0_0 a0_1 a0_2 a1 l2 = some (r1, r2, r3, r4, r5, r6, r7)) :
  Calls Try.prog 10 #[.agg #[.slice A0_0 l0_0.length c0_0, .int .i64 a0_1, .int .i64 a0_2], .int .i64 a1, .slice A2 l2.length c2] w fun e w' => ∃ v0_ v5_ : Value, e = .returned (.tuple #[.agg #[v0_, .int .i64 r2, .int .i64 r3], .agg #[.int .i64 r4, .int .i64 r5, v5_], .bool r7]) ∧ Kd.S k32 32 w' w.heap.size (fun k_ => (w.heap.size ≤ k_) ∧ some k_ ≠ (v5_ : Value).ownBlock) v0_ r1 ∧ Kd.R (Kd.int .i64) 3 w' w.heap.size (fun k_ => (w.heap.size ≤ k_)) v5_ r6 ∧ Below w.heap.size w w' := by
 have hu26 := Try.underlying26
 have hu32 := Try.underlying32
 have HR0_0 := Am hr0_0
 have HC0_0 := Am hc0_0
 clear hr0_0 hc0_0
 have HR2 := Am hr2
 have HC2 := Am hc2
 clear hr2 hc2
 have HB := Am (Below.refl w.heap.size w)
 have H : ((impl_copyCache.f k l0_0 a0_1 a0_2).bind fun bt361 => ((impl_CacheOk.f k l0_0 a0_1 a0_2).bind fun t367 => (if t367 = true then ((impl_glyphAt.f k l0_0 a1 false).bind fun t368 => ((impl_glyphAt.f k l2 a1 true).bind fun t369 => (if t368 < 0 then (if t369 < 0 then (impl_FetchGlyph.j0 k l2 t368 t369 true bt361.1 bt361.2.1 bt361.2.2) else (if a0_1 = 100000 then (impl_FetchGlyph.j0 k l2 t368 t369 true bt361.1 bt361.2.1 bt361.2.2) else (impl_FetchGlyph.j0 k l2 t368 t369 (a0_2 == 100000) bt361.1 bt361.2.1 bt361.2.2))) else (if a0_1 = 100000 then (impl_FetchGlyph.j0 k l2 t368 t369 true bt361.1 bt361.2.1 bt361.2.2) else (impl_FetchGlyph.j0 k l2 t368 t369 (a0_2 == 100000) bt361.1 bt361.2.1 bt361.2.2))))) else (some (bt361.1, bt361.2.1, bt361.2.2, 0, 0, ([] : List Int), false))))) = some (r1, r2, r3, r4, r5, r6, r7) := h
 clear h
 replace H := Option.bind_eq_some_iff.mp H
 obtain ⟨⟨t361, t364, t365⟩, A40, H⟩ := H
 replace H : ((impl_CacheOk.f k l0_0 a0_1 a0_2).bind fun t367 => (if t367 = true then ((impl_glyphAt.f k l0_0 a1 false).bind fun t368 => ((impl_glyphAt.f k l2 a1 true).bind fun t369 => (if t368 < 0 then (if t369 < 0 then (impl_FetchGlyph.j0 k l2 t368 t369 true t361 t364 t365) else (if a0_1 = 100000 then (impl_FetchGlyph.j0 k l2 t368 t369 true t361 t364 t365) else (impl_FetchGlyph.j0 k l2 t368 t369 (a0_2 == 100000) t361 t364 t365))) else (if a0_1 = 100000 then (impl_FetchGlyph.j0 k l2 t368 t369 true t361 t364 t365) else (impl_FetchGlyph.j0 k l2 t368 t369 (a0_2 == 100000) t361 t364 t365))))) else (some (t361, t364, t365, 0, 0, ([] : List Int), false)))) = some (r1, r2, r3, r4, r5, r6, r7) := H
 have A4 := Am A40
 clear A40
 replace H := Option.bind_eq_some_iff.mp H
 obtain ⟨t367, A50, H⟩ := H
 replace H : (if t367 = true then ((impl_glyphAt.f k l0_0 a1 false).bind fun t368 => ((impl_glyphAt.f k l2 a1 true).bind fun t369 => (if t368 < 0 then (if t369 < 0 then (impl_FetchGlyph.j0 k l2 t368 t369 true t361 t364 t365) else (if a0_1 = 100000 then (impl_FetchGlyph.j0 k l2 t368 t369 true t361 t364 t365) else (impl_FetchGlyph.j0 k l2 t368 t369 (a0_2 == 100000) t361 t364 t365))) else (if a0_1 = 100000 then (impl_FetchGlyph.j0 k l2 t368 t369 true t361 t364 t365) else (impl_FetchGlyph.j0 k l2 t368 t369 (a0_2 == 100000) t361 t364 t365))))) else (some (t361, t364, t365, 0, 0, ([] : List Int), false))) = some (r1, r2, r3, r4, r5, r6, r7) := H
 have A5 := Am A50
 clear A50
 by_cases c6 : t367 = true
 ·subst c6
  have H1 : ((impl_glyphAt.f k l0_0 a1 false).bind fun t368 => ((impl_glyphAt.f k l2 a1 true).bind fun t369 => (if t368 < 0 then (if t369 < 0 then (impl_FetchGlyph.j0 k l2 t368 t369 true t361 t364 t365) else (if a0_1 = 100000 then (impl_FetchGlyph.j0 k l2 t368 t369 true t361 t364 t365) else (impl_FetchGlyph.j0 k l2 t368 t369 (a0_2 == 100000) t361 t364 t365))) else (if a0_1 = 100000 then (impl_FetchGlyph.j0 k l2 t368 t369 true t361 t364 t365) else (impl_FetchGlyph.j0 k l2 t368 t369 (a0_2 == 100000) t361 t364 t365))))) = some (r1, r2, r3, r4, r5, r6, r7) := by rw [if_pos rfl] at H; exact H
  clear H
  have H := H1
  clear H1
  replace H := Option.bind_eq_some_iff.mp H
  obtain ⟨t368, A70, H⟩ := H
  replace H : ((impl_glyphAt.f k l2 a1 true).bind fun t369 => (if t368 < 0 then (if t369 < 0 then (impl_FetchGlyph.j0 k l2 t368 t369 true t361 t364 t365) else (if a0_1 = 100000 then (impl_FetchGlyph.j0 k l2 t368 t369 true t361 t364 t365) else (impl_FetchGlyph.j0 k l2 t368 t369 (a0_2 == 100000) t361 t364 t365))) else (if a0_1 = 100000 then (impl_FetchGlyph.j0 k l2 t368 t369 true t361 t364 t365) else (impl_FetchGlyph.j0 k l2 t368 t369 (a0_2 == 100000) t361 t364 t365)))) = some (r1, r2, r3, r4, r5, r6, r7) := H
  have A7 := Am A70
  clear A70
  replace H := Option.bind_eq_some_iff.mp H
  obtain ⟨t369, A80, H⟩ := H
  replace H : (if t368 < 0 then (if t369 < 0 then (impl_FetchGlyph.j0 k l2 t368 t369 true t361 t364 t365) else (if a0_1 = 100000 then (impl_FetchGlyph.j0 k l2 t368 t369 true t361 t364 t365) else (impl_FetchGlyph.j0 k l2 t368 t369 (a0_2 == 100000) t361 t364 t365))) else (if a0_1 = 100000 then (impl_FetchGlyph.j0 k l2 t368 t369 true t361 t364 t365) else (impl_FetchGlyph.j0 k l2 t368 t369 (a0_2 == 100000) t361 t364 t365))) = some (r1, r2, r3, r4, r5, r6, r7) := H
  have A8 := Am A80
  clear A80
  have HC9 := Am H
  clear H
  go_enter Try.func10, Try.ntmps10
  go_upto_region 6 with (first | ((with_reducible refine gate_dst (N := 3) rfl ?_); refine box_event ?hg (N := 3) ?hd (cs := #[.slice A0_0 l0_0.length c0_0, .int .i64 a0_1, .int .i64 a0_2]) (t := 26) ?hr ?_; (case hd => rfl); (case hg => rfl); (case hr => first | (go_simp; done) | (go_simp; rfl)); intro gb358 hg w10 hbox hb; have n0_ := Am (below_step (jzH HB) hb); have n1_ := Am (hbox); have n2_ := Am ((by rw [hg]; exact (below_size (jzH HB)) : w.heap.size ≤ gb358)); have n3_ := Am ((by rw [hg]; exact (below_size (jzH HB)) : w.heap.size ≤ gb358)); clear HB; have HB := n0_; have BK358 := n1_; have GW358 := n2_; have GE358 := n3_; clear n0_ n1_ n2_ n3_; clear hb hbox hg) | ((with_reducible refine gate_dst (N := 6) rfl ?_); refine box_event ?hg (N := 6) ?hd (cs := #[.slice none 0 0, .int .i64 0, .int .i64 0]) (t := 26) ?hr ?_; (case hd => rfl); (case hg => rfl); (case hr => first | (go_simp; done) | (go_simp; rfl)); intro gb359 hg w11 hbox hb; have n0_ := Am (blk_below (g := gb358) (o := .cells #[.slice A0_0 l0_0.length c0_0, .int .i64 a0_1, .int .i64 a0_2] 26 (0, 0)) (jzB BK358) hb); have n1_ := Am (below_step (jzG HB) hb); have n2_ := Am (hbox); have n3_ := Am ((by rw [hg]; exact (below_size (jzG HB)) : w.heap.size ≤ gb359)); have n4_ := Am ((by rw [hg]; exact (below_size (jzG HB)) : w.heap.size ≤ gb359)); have n5_ := Am ((by rw [hg]; exact Nat.ne_of_lt (blk_lt (g := gb358) (o := .cells #[.slice A0_0 l0_0.length c0_0, .int .i64 a0_1, .int .i64 a0_2] 26 (0, 0)) (jzB BK358)) : gb358 ≠ gb359)); have n6_ := Am ((by rw [hg]; exact Nat.ne_of_gt (blk_lt (g := gb358) (o := .cells #[.slice A0_0 l0_0.length c0_0, .int .i64 a0_1, .int .i64 a0_2] 26 (0, 0)) (jzB BK358)) : gb359 ≠ gb358)); clear BK358; clear HB; have BK358 := n0_; have HB := n1_; have BK359 := n2_; have GW359 := n3_; have GE359 := n4_; have NB358_359 := n5_; have NB359_358 := n6_; clear n0_ n1_ n2_ n3_ n4_ n5_ n6_; clear hb hbox hg) | ((with_reducible refine gate_dst (N := 7) rfl ?_); refine box_event ?hg (N := 7) ?hd (cs := #[.int .i64 0, .int .i64 0, .slice none 0 0]) (t := 32) ?hr ?_; (case hd => rfl); (case hg => rfl); (case hr => first | (go_simp; done) | (go_simp; rfl)); intro gb360 hg w12 hbox hb; have n0_ := Am (blk_below (g := gb358) (o := .cells #[.slice A0_0 l0_0.length c0_0, .int .i64 a0_1, .int .i64 a0_2] 26 (0, 0)) (jzB BK358) hb); have n1_ := Am (blk_below (g := gb359) (o := .cells #[.slice none 0 0, .int .i64 0, .int .i64 0] 26 (0, 0)) (jzB BK359) hb); have n2_ := Am (below_step (jzG HB) hb); have n3_ := Am (hbox); have n4_ := Am ((by rw [hg]; exact (below_size (jzG HB)) : w.heap.size ≤ gb360)); have n5_ := Am ((by rw [hg]; exact (below_size (jzG HB)) : w.heap.size ≤ gb360)); have n6_ := Am ((by rw [hg]; exact Nat.ne_of_lt (blk_lt (g := gb358) (o := .cells #[.slice A0_0 l0_0.length c0_0, .int .i64 a0_1, .int .i64 a0_2] 26 (0, 0)) (jzB BK358)) : gb358 ≠ gb360)); have n7_ := Am ((by rw [hg]; exact Nat.ne_of_gt (blk_lt (g := gb358) (o := .cells #[.slice A0_0 l0_0.length c0_0, .int .i64 a0_1, .int .i64 a0_2] 26 (0, 0)) (jzB BK358)) : gb360 ≠ gb358)); have n8_ := Am ((by rw [hg]; exact Nat.ne_of_lt (blk_lt (g := gb359) (o := .cells #[.slice none 0 0, .int .i64 0, .int .i64 0] 26 (0, 0)) (jzB BK359)) : gb359 ≠ gb360)); have n9_ := Am ((by rw [hg]; exact Nat.ne_of_gt (blk_lt (g := gb359) (o := .cells #[.slice none 0 0, .int .i64 0, .int .i64 0] 26 (0, 0)) (jzB BK359)) : gb360 ≠ gb359)); clear BK358; clear BK359; clear HB; have BK358 := n0_; have BK359 := n1_; have HB := n2_; have BK360 := n3_; have GW360 := n4_; have GE360 := n5_; have NB358_360 := n6_; have NB360_358 := n7_; have NB359_360 := n8_; have NB360_359 := n9_; clear n0_ n1_ n2_ n3_ n4_ n5_ n6_ n7_ n8_ n9_; clear hb hbox hg; have hnb13 := NB358_359.out; have hnc13 := NB359_358.out; have hnb14 := NB358_360.out; have hnc14 := NB360_358.out; have hcz15_0 : w12.cell? ⟨gb358, 0, none⟩ = some (.slice A0_0 l0_0.length c0_0) := (b8 BK358.out 0).trans rfl; have hcz15_1 : w12.cell? ⟨gb358, 1, none⟩ = some (.int .i64 a0_1) := (b8 BK358.out 1).trans rfl; have hcz15_2 : w12.cell? ⟨gb358, 2, none⟩ = some (.int .i64 a0_2) := (b8 BK358.out 2).trans rfl; have hfz15_0 := blk_frozen BK358.out 0; have hfz15_1 := blk_frozen BK358.out 1; have hfz15_2 := blk_frozen BK358.out 2) | ((with_reducible refine gate_callee (f := 36) rfl ?_); refine goesL_ (some 14) rfl rfl Try.func36 (by kernel_rfl) rfl #[.agg #[.slice A0_0 l0_0.length c0_0, .int .i64 a0_1, .int .i64 a0_2]] rfl jzA ?_; (with_reducible refine (impl_copyCache.calls k _ _ l0_0 a0_1 a0_2 t361 t364 t365 _ ?side1 ?side2 A4.out).mono ?_); (case side1 => exact jzC HR0_0 HB); (case side2 => exact HC0_0.out); rintro e w16 ⟨v362, rfl, ho0, hb⟩; refine ⟨_, rfl, ?_⟩; have n0_ := Am (Kd.S_lower (Kd.S_mono (ok' := fun k_ => (w.heap.size ≤ k_) ∧ k_ ≠ gb358 ∧ k_ ≠ gb359 ∧ k_ ≠ gb360) (id (Kd.S_bound ho0)) (fun k_ hk_ => ⟨(Nat.le_trans (below_size (jzG HB)) hk_.2.1), (Kd.freshB (g := gb358) (o := .cells #[.slice A0_0 l0_0.length c0_0, .int .i64 a0_1, .int .i64 a0_2] 26 (0, 0)) (jzB BK358) k_ hk_.2.1), (Kd.freshB (g := gb359) (o := .cells #[.slice none 0 0, .int .i64 0, .int .i64 0] 26 (0, 0)) (jzB BK359) k_ hk_.2.1), (Kd.freshB (g := gb360) (o := .cells #[.int .i64 0, .int .i64 0, .slice none 0 0] 32 (0, 0)) (jzB BK360) k_ hk_.2.1)⟩)) (below_size (jzG HB))); have n1_ := Am (blk_below (g := gb358) (o := .cells #[.slice A0_0 l0_0.length c0_0, .int .i64 a0_1, .int .i64 a0_2] 26 (0, 0)) (jzB BK358) hb); have n2_ := Am (blk_below (g := gb359) (o := .cells #[.slice none 0 0, .int .i64 0, .int .i64 0] 26 (0, 0)) (jzB BK359) hb); have n3_ := Am (blk_below (g := gb360) (o := .cells #[.int .i64 0, .int .i64 0, .slice none 0 0] 32 (0, 0)) (jzB BK360) hb); have n4_ := Am (below_step (jzG HB) hb); clear BK358; clear BK359; clear BK360; clear HB; have HO363 := n0_; have BK358 := n1_; have BK359 := n2_; have BK360 := n3_; have HB := n4_; clear n0_ n1_ n2_ n3_ n4_; (try clear hb); (try clear hb2); (try clear hk); (try clear hi); (try clear ho0)) | ((with_reducible refine gate_dst (N := 9) rfl ?_); refine box_event ?hg (N := 9) ?hd (cs := #[.slice none 0 0, .int .i64 0, .int .i64 0]) (t := 26) ?hr ?_; (case hd => rfl); (case hg => rfl); (case hr => first | (go_simp; done) | (go_simp; rfl)); intro gb366 hg w17 hbox hb; have n0_ := Am (Kd.S_below (Kd.S_elderB (jzO HO363) gb366 (Nat.le_of_eq hg.symm)) hb); have n1_ := Am (blk_below (g := gb358) (o := .cells #[.slice A0_0 l0_0.length c0_0, .int .i64 a0_1, .int .i64 a0_2] 26 (0, 0)) (jzB BK358) hb); have n2_ := Am (blk_below (g := gb359) (o := .cells #[.slice none 0 0, .int .i64 0, .int .i64 0] 26 (0, 0)) (jzB BK359) hb); have n3_ := Am (blk_below (g := gb360) (o := .cells #[.int .i64 0, .int .i64 0, .slice none 0 0] 32 (0, 0)) (jzB BK360) hb); have n4_ := Am (below_step (jzG HB) hb); have n5_ := Am (hbox); have n6_ := Am ((by rw [hg]; exact (below_size (jzG HB)) : w.heap.size ≤ gb366)); have n7_ := Am ((by rw [hg]; exact (below_size (jzG HB)) : w.heap.size ≤ gb366)); have n8_ := Am ((by rw [hg]; exact Nat.ne_of_lt (blk_lt (g := gb358) (o := .cells #[.slice A0_0 l0_0.length c0_0, .int .i64 a0_1, .int .i64 a0_2] 26 (0, 0)) (jzB BK358)) : gb358 ≠ gb366)); have n9_ := Am ((by rw [hg]; exact Nat.ne_of_gt (blk_lt (g := gb358) (o := .cells #[.slice A0_0 l0_0.length c0_0, .int .i64 a0_1, .int .i64 a0_2] 26 (0, 0)) (jzB BK358)) : gb366 ≠ gb358)); have n10_ := Am ((by rw [hg]; exact Nat.ne_of_lt (blk_lt (g := gb359) (o := .cells #[.slice none 0 0, .int .i64 0, .int .i64 0] 26 (0, 0)) (jzB BK359)) : gb359 ≠ gb366)); have n11_ := Am ((by rw [hg]; exact Nat.ne_of_gt (blk_lt (g := gb359) (o := .cells #[.slice none 0 0, .int .i64 0, .int .i64 0] 26 (0, 0)) (jzB BK359)) : gb366 ≠ gb359)); have n12_ := Am ((by rw [hg]; exact Nat.ne_of_lt (blk_lt (g := gb360) (o := .cells #[.int .i64 0, .int .i64 0, .slice none 0 0] 32 (0, 0)) (jzB BK360)) : gb360 ≠ gb366)); have n13_ := Am ((by rw [hg]; exact Nat.ne_of_gt (blk_lt (g := gb360) (o := .cells #[.int .i64 0, .int .i64 0, .slice none 0 0] 32 (0, 0)) (jzB BK360)) : gb366 ≠ gb360)); clear HO363; clear BK358; clear BK359; clear BK360; clear HB; have HO363 := n0_; have BK358 := n1_; have BK359 := n2_; have BK360 := n3_; have HB := n4_; have BK366 := n5_; have GW366 := n6_; have GE366 := n7_; have NB358_366 := n8_; have NB366_358 := n9_; have NB359_366 := n10_; have NB366_359 := n11_; have NB360_366 := n12_; have NB366_360 := n13_; clear n0_ n1_ n2_ n3_ n4_ n5_ n6_ n7_ n8_ n9_ n10_ n11_ n12_ n13_; clear hb hbox hg; obtain ⟨Ao18, co18, eo18⟩ := Kd.S_slice HO363.out; subst eo18; have hnb19 := NB366_358.out; have hnc19 := NB358_366.out; have hnb20 := NB366_359.out; have hnc20 := NB359_366.out; have hnb21 := NB366_360.out; have hnc21 := NB360_366.out; have hcz22_0 : w17.cell? ⟨gb366, 0, none⟩ = some (.slice none 0 0) := (b8 BK366.out 0).trans rfl; have hcz22_1 : w17.cell? ⟨gb366, 1, none⟩ = some (.int .i64 0) := (b8 BK366.out 1).trans rfl; have hcz22_2 : w17.cell? ⟨gb366, 2, none⟩ = some (.int .i64 0) := (b8 BK366.out 2).trans rfl; have hfz22_0 := blk_frozen BK366.out 0; have hfz22_1 := blk_frozen BK366.out 1; have hfz22_2 := blk_frozen BK366.out 2; have hcz23_0 : w17.cell? ⟨gb358, 0, none⟩ = some (.slice A0_0 l0_0.length c0_0) := (b8 BK358.out 0).trans rfl; have hcz23_1 : w17.cell? ⟨gb358, 1, none⟩ = some (.int .i64 a0_1) := (b8 BK358.out 1).trans rfl; have hcz23_2 : w17.cell? ⟨gb358, 2, none⟩ = some (.int .i64 a0_2) := (b8 BK358.out 2).trans rfl; have hfz23_0 := blk_frozen BK358.out 0; have hfz23_1 := blk_frozen BK358.out 1; have hfz23_2 := blk_frozen BK358.out 2) | ((with_reducible refine gate_callee (f := 13) rfl ?_); refine goesL_ (some 16) rfl rfl Try.func13 (by kernel_rfl) rfl #[.agg #[.slice A0_0 l0_0.length c0_0, .int .i64 a0_1, .int .i64 a0_2]] rfl jzA ?_; (with_reducible refine (impl_CacheOk.calls k _ _ l0_0 a0_1 a0_2 true _ ?side1 ?side2 A5.out).mono ?_); (case side1 => exact Kd.C_below HR0_0.out (jzG HB)); (case side2 => exact HC0_0.out); rintro e w24 ⟨rfl, hb⟩; refine ⟨_, rfl, ?_⟩; have n0_ := Am (Kd.S_below (by (with_reducible repeat (first | apply Kd.S_alloc | apply Kd.S_drewN | apply Kd.S_drew)); exact (Kd.S_mono (Kd.S_far (p := ⟨gb366, 2, none⟩) (Kd.S_far (p := ⟨gb366, 1, none⟩) (Kd.S_far (p := ⟨gb366, 0, none⟩) (Kd.S_mono HO363.out (fun k_ hk => (⟨hk, hk.2⟩ : _ ∧ k_ ≠ gb366))) (fun _ hk => hk.2) (.slice Ao18 t361.length co18)) (fun _ hk => hk.2) (.int .i64 t364)) (fun _ hk => hk.2) (.int .i64 t365)) (fun _ h_ => h_.1))) hb); have n1_ := Am (blk_below (g := gb358) (o := .cells #[.slice A0_0 l0_0.length c0_0, .int .i64 a0_1, .int .i64 a0_2] 26 (0, 0)) (jzF BK358 NB358_366) hb); have n2_ := Am (blk_below (g := gb359) (o := .cells #[.slice none 0 0, .int .i64 0, .int .i64 0] 26 (0, 0)) (jzF BK359 NB359_366) hb); have n3_ := Am (blk_below (g := gb360) (o := .cells #[.int .i64 0, .int .i64 0, .slice none 0 0] 32 (0, 0)) (jzF BK360 NB360_366) hb); have n4_ := Am (blk_below (g := gb366) (o := .cells #[.slice Ao18 t361.length co18, .int .i64 t364, .int .i64 t365] 26 (0, 0)) (by (with_reducible repeat (first | refine b1 ?_ _ | refine b2 ?_ | refine b3 ?_ _)); refine blk_put (cs := #[.slice Ao18 t361.length co18, .int .i64 t364, .int .i64 0]) ?_ 2 _ rfl; (with_reducible repeat (first | refine b1 ?_ _ | refine b2 ?_ | refine b3 ?_ _)); refine blk_put (cs := #[.slice Ao18 t361.length co18, .int .i64 0, .int .i64 0]) ?_ 1 _ rfl; (with_reducible repeat (first | refine b1 ?_ _ | refine b2 ?_ | refine b3 ?_ _)); refine blk_put (cs := #[.slice none 0 0, .int .i64 0, .int .i64 0]) ?_ 0 _ rfl; (with_reducible repeat (first | refine b1 ?_ _ | refine b2 ?_ | refine b3 ?_ _)); exact BK366.out) hb); have n5_ := Am (below_step (jzG HB) hb); clear HO363; clear BK358; clear BK359; clear BK360; clear BK366; clear HB; have HO363 := n0_; have BK358 := n1_; have BK359 := n2_; have BK360 := n3_; have BK366 := n4_; have HB := n5_; clear n0_ n1_ n2_ n3_ n4_ n5_; (try clear hb); (try clear hb2); (try clear hk); (try clear hi); have hcz25_0 : w24.cell? ⟨gb358, 0, none⟩ = some (.slice A0_0 l0_0.length c0_0) := (b8 BK358.out 0).trans rfl; have hcz25_1 : w24.cell? ⟨gb358, 1, none⟩ = some (.int .i64 a0_1) := (b8 BK358.out 1).trans rfl; have hcz25_2 : w24.cell? ⟨gb358, 2, none⟩ = some (.int .i64 a0_2) := (b8 BK358.out 2).trans rfl; have hfz25_0 := blk_frozen BK358.out 0; have hfz25_1 := blk_frozen BK358.out 1; have hfz25_2 := blk_frozen BK358.out 2) | ((with_reducible refine gate_callee (f := 37) rfl ?_); refine goesL_ (some 23) rfl rfl Try.func37 (by kernel_rfl) rfl #[.slice A0_0 l0_0.length c0_0, .int .i64 a1, .bool false] rfl jzA ?_; (with_reducible refine (impl_glyphAt.calls k _ _ l0_0 a1 false t368 _ ?side1 ?side2 A7.out).mono ?_); (case side1 => exact jzC HR0_0 HB); (case side2 => exact HC0_0.out); rintro e w26 ⟨rfl, hb⟩; refine ⟨_, rfl, ?_⟩; have n0_ := Am (Kd.S_below (jzO HO363) hb); have n1_ := Am (blk_below (g := gb358) (o := .cells #[.slice A0_0 l0_0.length c0_0, .int .i64 a0_1, .int .i64 a0_2] 26 (0, 0)) (jzB BK358) hb); have n2_ := Am (blk_below (g := gb359) (o := .cells #[.slice none 0 0, .int .i64 0, .int .i64 0] 26 (0, 0)) (jzB BK359) hb); have n3_ := Am (blk_below (g := gb360) (o := .cells #[.int .i64 0, .int .i64 0, .slice none 0 0] 32 (0, 0)) (jzB BK360) hb); have n4_ := Am (blk_below (g := gb366) (o := .cells #[.slice Ao18 t361.length co18, .int .i64 t364, .int .i64 t365] 26 (0, 0)) (jzB BK366) hb); have n5_ := Am (below_step (jzG HB) hb); clear HO363; clear BK358; clear BK359; clear BK360; clear BK366; clear HB; have HO363 := n0_; have BK358 := n1_; have BK359 := n2_; have BK360 := n3_; have BK366 := n4_; have HB := n5_; clear n0_ n1_ n2_ n3_ n4_ n5_; (try clear hb); (try clear hb2); (try clear hk); (try clear hi)) | ((with_reducible refine gate_callee (f := 37) rfl ?_); refine goesL_ (some 26) rfl rfl Try.func37 (by kernel_rfl) rfl #[.slice A2 l2.length c2, .int .i64 a1, .bool true] rfl jzA ?_; (with_reducible refine (impl_glyphAt.calls k _ _ l2 a1 true t369 _ ?side1 ?side2 A8.out).mono ?_); (case side1 => exact jzC HR2 HB); (case side2 => exact HC2.out); rintro e w27 ⟨rfl, hb⟩; refine ⟨_, rfl, ?_⟩; have n0_ := Am (Kd.S_below (jzO HO363) hb); have n1_ := Am (blk_below (g := gb358) (o := .cells #[.slice A0_0 l0_0.length c0_0, .int .i64 a0_1, .int .i64 a0_2] 26 (0, 0)) (jzB BK358) hb); have n2_ := Am (blk_below (g := gb359) (o := .cells #[.slice none 0 0, .int .i64 0, .int .i64 0] 26 (0, 0)) (jzB BK359) hb); have n3_ := Am (blk_below (g := gb360) (o := .cells #[.int .i64 0, .int .i64 0, .slice none 0 0] 32 (0, 0)) (jzB BK360) hb); have n4_ := Am (blk_below (g := gb366) (o := .cells #[.slice Ao18 t361.length co18, .int .i64 t364, .int .i64 t365] 26 (0, 0)) (jzB BK366) hb); have n5_ := Am (below_step (jzG HB) hb); clear HO363; clear BK358; clear BK359; clear BK360; clear BK366; clear HB; have HO363 := n0_; have BK358 := n1_; have BK359 := n2_; have BK360 := n3_; have BK366 := n4_; have HB := n5_; clear n0_ n1_ n2_ n3_ n4_ n5_; (try clear hb); (try clear hb2); (try clear hk); (try clear hi)))
  (try simp only [Act.put, zA, zB, zC])
  go_cut [42] (fun v42 wc => ∃ (kq : Nat) (x42_8 : Bool), v42 = .bool x42_8 ∧ Aside0 (impl_FetchGlyph.j0 kq l2 t368 t369 x42_8 t361 t364 t365 = some (r1, r2, r3, r4, r5, r6, r7)) ∧ Aside0 (kq ≤ k) ∧ Aside0 (Kd.S k32 32 wc w.heap.size (fun k_ => (w.heap.size ≤ k_) ∧ k_ ≠ gb358 ∧ k_ ≠ gb359 ∧ k_ ≠ gb360 ∧ k_ ≠ gb366) (.slice Ao18 t361.length co18) t361) ∧ Aside0 (wc.heap[gb358]? = some (.cells #[(.slice A0_0 l0_0.length c0_0), .int .i64 a0_1, .int .i64 a0_2] 26 (0, 0))) ∧ Aside0 (wc.heap[gb359]? = some (.cells #[(.slice none 0 0), .int .i64 0, .int .i64 0] 26 (0, 0))) ∧ Aside0 (wc.heap[gb360]? = some (.cells #[.int .i64 0, .int .i64 0, (.slice none 0 0)] 32 (0, 0))) ∧ Aside0 (wc.heap[gb366]? = some (.cells #[(.slice Ao18 t361.length co18), .int .i64 t364, .int .i64 t365] 26 (0, 0))) ∧ Aside0 (Below w.heap.size w wc))
  case first =>
   have H := HC9.out
   clear HC9
   by_cases c28 : t368 < 0
   ·rw [if_pos c28] at H
    have c28b0 : decide (t368 < 0) = true := decide_eq_true c28
    clear c28
    (first | rw [c28b0] | (simp only [i64_w, i32_w]; rw [c28b0]) | skip)
    by_cases c29 : t369 < 0
    ·rw [if_pos c29] at H
     have c29b0 : decide (t369 < 0) = true := decide_eq_true c29
     clear c29
     have H' := Am H
     clear H
     go_wp2
     go_meet
     case rel => exact ⟨_, (true), (by first | rfl | (simp; done) | (simp [*]; done)), H', ⟨by first | omega | exact Nat.le_refl _⟩, ⟨by (with_reducible repeat (first | apply Kd.S_alloc | apply Kd.S_drewN | apply Kd.S_drew)); exact Kd.S_mono HO363.out (fun _ hk => ⟨hk.1.1, ⟨hk.1.2.1, ⟨hk.1.2.2.1, ⟨hk.1.2.2.2, hk.2⟩⟩⟩⟩)⟩, ⟨by (with_reducible repeat (first | refine b1 ?_ _ | refine b2 ?_ | refine b3 ?_ _)); exact BK358.out⟩, ⟨by (with_reducible repeat (first | refine b1 ?_ _ | refine b2 ?_ | refine b3 ?_ _)); exact BK359.out⟩, ⟨by (with_reducible repeat (first | refine b1 ?_ _ | refine b2 ?_ | refine b3 ?_ _)); exact BK360.out⟩, ⟨by (with_reducible repeat (first | refine b1 ?_ _ | refine b2 ?_ | refine b3 ?_ _)); exact BK366.out⟩, ⟨jzG HB⟩⟩
    ·rw [if_neg c29] at H
     have c29b0 : decide (t369 < 0) = false := decide_eq_false c29
     clear c29
     by_cases c30 : a0_1 = 100000
     ·rw [if_pos c30] at H
      have c30b0 : (a0_1 == 100000) = true := beq_iff_eq.mpr c30
      have c30b1 : (a0_1 != 100000) = false := bne_eq_false_iff_eq.mpr c30
      clear c30
      have H' := Am H
      clear H
      have hnb31 := NB358_359.out
      have hnc31 := NB359_358.out
      have hnb32 := NB358_360.out
      have hnc32 := NB360_358.out
      have hnb33 := NB358_366.out
      have hnc33 := NB366_358.out
      have hcz34_0 : w27.cell? ⟨gb358, 0, none⟩ = some (.slice A0_0 l0_0.length c0_0) := (b8 BK358.out 0).trans rfl
      have hcz34_1 : w27.cell? ⟨gb358, 1, none⟩ = some (.int .i64 a0_1) := (b8 BK358.out 1).trans rfl
      have hcz34_2 : w27.cell? ⟨gb358, 2, none⟩ = some (.int .i64 a0_2) := (b8 BK358.out 2).trans rfl
      have hfz34_0 := blk_frozen BK358.out 0
      have hfz34_1 := blk_frozen BK358.out 1
      have hfz34_2 := blk_frozen BK358.out 2
      go_wp2
      go_meet
      case rel => exact ⟨_, (true), (by first | rfl | (simp; done) | (simp [*]; done)), H', ⟨by first | omega | exact Nat.le_refl _⟩, ⟨by (with_reducible repeat (first | apply Kd.S_alloc | apply Kd.S_drewN | apply Kd.S_drew)); exact Kd.S_mono HO363.out (fun _ hk => ⟨hk.1.1, ⟨hk.1.2.1, ⟨hk.1.2.2.1, ⟨hk.1.2.2.2, hk.2⟩⟩⟩⟩)⟩, ⟨by (with_reducible repeat (first | refine b1 ?_ _ | refine b2 ?_ | refine b3 ?_ _)); exact BK358.out⟩, ⟨by (with_reducible repeat (first | refine b1 ?_ _ | refine b2 ?_ | refine b3 ?_ _)); exact BK359.out⟩, ⟨by (with_reducible repeat (first | refine b1 ?_ _ | refine b2 ?_ | refine b3 ?_ _)); exact BK360.out⟩, ⟨by (with_reducible repeat (first | refine b1 ?_ _ | refine b2 ?_ | refine b3 ?_ _)); exact BK366.out⟩, ⟨jzG HB⟩⟩
     ·rw [if_neg c30] at H
      have c30b0 : (a0_1 == 100000) = false := beq_eq_false_iff_ne.mpr c30
      have c30b1 : (a0_1 != 100000) = true := bne_iff_ne.mpr c30
      have H' := Am H
      clear H
      have hnb35 := NB358_359.out
      have hnc35 := NB359_358.out
      have hnb36 := NB358_360.out
      have hnc36 := NB360_358.out
      have hnb37 := NB358_366.out
      have hnc37 := NB366_358.out
      have hcz38_0 : w27.cell? ⟨gb358, 0, none⟩ = some (.slice A0_0 l0_0.length c0_0) := (b8 BK358.out 0).trans rfl
      have hcz38_1 : w27.cell? ⟨gb358, 1, none⟩ = some (.int .i64 a0_1) := (b8 BK358.out 1).trans rfl
      have hcz38_2 : w27.cell? ⟨gb358, 2, none⟩ = some (.int .i64 a0_2) := (b8 BK358.out 2).trans rfl
      have hfz38_0 := blk_frozen BK358.out 0
      have hfz38_1 := blk_frozen BK358.out 1
      have hfz38_2 := blk_frozen BK358.out 2
      go_wp2
      go_meet
      case rel => exact ⟨_, ((a0_2 == 100000)), (by first | rfl | (simp; done) | (simp [*]; done)), H', ⟨by first | omega | exact Nat.le_refl _⟩, ⟨by (with_reducible repeat (first | apply Kd.S_alloc | apply Kd.S_drewN | apply Kd.S_drew)); exact Kd.S_mono HO363.out (fun _ hk => ⟨hk.1.1, ⟨hk.1.2.1, ⟨hk.1.2.2.1, ⟨hk.1.2.2.2, hk.2⟩⟩⟩⟩)⟩, ⟨by (with_reducible repeat (first | refine b1 ?_ _ | refine b2 ?_ | refine b3 ?_ _)); exact BK358.out⟩, ⟨by (with_reducible repeat (first | refine b1 ?_ _ | refine b2 ?_ | refine b3 ?_ _)); exact BK359.out⟩, ⟨by (with_reducible repeat (first | refine b1 ?_ _ | refine b2 ?_ | refine b3 ?_ _)); exact BK360.out⟩, ⟨by (with_reducible repeat (first | refine b1 ?_ _ | refine b2 ?_ | refine b3 ?_ _)); exact BK366.out⟩, ⟨jzG HB⟩⟩
   ·rw [if_neg c28] at H
    have c28b0 : decide (t368 < 0) = false := decide_eq_false c28
    clear c28
    (first | rw [c28b0] | (simp only [i64_w, i32_w]; rw [c28b0]) | skip)
    by_cases c39 : a0_1 = 100000
    ·rw [if_pos c39] at H
     have c39b0 : (a0_1 == 100000) = true := beq_iff_eq.mpr c39
     have c39b1 : (a0_1 != 100000) = false := bne_eq_false_iff_eq.mpr c39
     clear c39
     have H' := Am H
     clear H
     have hnb40 := NB358_359.out
     have hnc40 := NB359_358.out
     have hnb41 := NB358_360.out
     have hnc41 := NB360_358.out
     have hnb42 := NB358_366.out
     have hnc42 := NB366_358.out
     have hcz43_0 : w27.cell? ⟨gb358, 0, none⟩ = some (.slice A0_0 l0_0.length c0_0) := (b8 BK358.out 0).trans rfl
     have hcz43_1 : w27.cell? ⟨gb358, 1, none⟩ = some (.int .i64 a0_1) := (b8 BK358.out 1).trans rfl
     have hcz43_2 : w27.cell? ⟨gb358, 2, none⟩ = some (.int .i64 a0_2) := (b8 BK358.out 2).trans rfl
     have hfz43_0 := blk_frozen BK358.out 0
     have hfz43_1 := blk_frozen BK358.out 1
     have hfz43_2 := blk_frozen BK358.out 2
     go_wp2
     go_meet
     case rel => exact ⟨_, (true), (by first | rfl | (simp; done) | (simp [*]; done)), H', ⟨by first | omega | exact Nat.le_refl _⟩, ⟨by (with_reducible repeat (first | apply Kd.S_alloc | apply Kd.S_drewN | apply Kd.S_drew)); exact Kd.S_mono HO363.out (fun _ hk => ⟨hk.1.1, ⟨hk.1.2.1, ⟨hk.1.2.2.1, ⟨hk.1.2.2.2, hk.2⟩⟩⟩⟩)⟩, ⟨by (with_reducible repeat (first | refine b1 ?_ _ | refine b2 ?_ | refine b3 ?_ _)); exact BK358.out⟩, ⟨by (with_reducible repeat (first | refine b1 ?_ _ | refine b2 ?_ | refine b3 ?_ _)); exact BK359.out⟩, ⟨by (with_reducible repeat (first | refine b1 ?_ _ | refine b2 ?_ | refine b3 ?_ _)); exact BK360.out⟩, ⟨by (with_reducible repeat (first | refine b1 ?_ _ | refine b2 ?_ | refine b3 ?_ _)); exact BK366.out⟩, ⟨jzG HB⟩⟩
    ·rw [if_neg c39] at H
     have c39b0 : (a0_1 == 100000) = false := beq_eq_false_iff_ne.mpr c39
     have c39b1 : (a0_1 != 100000) = true := bne_iff_ne.mpr c39
     have H' := Am H
     clear H
     have hnb44 := NB358_359.out
     have hnc44 := NB359_358.out
     have hnb45 := NB358_360.out
     have hnc45 := NB360_358.out
     have hnb46 := NB358_366.out
     have hnc46 := NB366_358.out
     have hcz47_0 : w27.cell? ⟨gb358, 0, none⟩ = some (.slice A0_0 l0_0.length c0_0) := (b8 BK358.out 0).trans rfl
     have hcz47_1 : w27.cell? ⟨gb358, 1, none⟩ = some (.int .i64 a0_1) := (b8 BK358.out 1).trans rfl
     have hcz47_2 : w27.cell? ⟨gb358, 2, none⟩ = some (.int .i64 a0_2) := (b8 BK358.out 2).trans rfl
     have hfz47_0 := blk_frozen BK358.out 0
     have hfz47_1 := blk_frozen BK358.out 1
     have hfz47_2 := blk_frozen BK358.out 2
     go_wp2
     go_meet
     case rel => exact ⟨_, ((a0_2 == 100000)), (by first | rfl | (simp; done) | (simp [*]; done)), H', ⟨by first | omega | exact Nat.le_refl _⟩, ⟨by (with_reducible repeat (first | apply Kd.S_alloc | apply Kd.S_drewN | apply Kd.S_drew)); exact Kd.S_mono HO363.out (fun _ hk => ⟨hk.1.1, ⟨hk.1.2.1, ⟨hk.1.2.2.1, ⟨hk.1.2.2.2, hk.2⟩⟩⟩⟩)⟩, ⟨by (with_reducible repeat (first | refine b1 ?_ _ | refine b2 ?_ | refine b3 ?_ _)); exact BK358.out⟩, ⟨by (with_reducible repeat (first | refine b1 ?_ _ | refine b2 ?_ | refine b3 ?_ _)); exact BK359.out⟩, ⟨by (with_reducible repeat (first | refine b1 ?_ _ | refine b2 ?_ | refine b3 ?_ _)); exact BK360.out⟩, ⟨by (with_reducible repeat (first | refine b1 ?_ _ | refine b2 ?_ | refine b3 ?_ _)); exact BK366.out⟩, ⟨jzG HB⟩⟩
  case rest =>
   clear HC9
   try clear c1
   try clear c2
   try clear p2
   try clear c3
   try clear c4
   try clear c6
   try clear c10
   try clear c13
   try clear c14
   try clear c19
   try clear c20
   try clear c21
   try clear c28
   try clear c28b0
   try clear c29
   try clear c29b0
   try clear c30
   try clear c30b0
   try clear c30b1
   try clear c31
   try clear c32
   try clear c33
   try clear c35
   try clear c36
   try clear c37
   try clear c39
   try clear c39b0
   try clear c39b1
   try clear c40
   try clear c41
   try clear c42
   try clear c44
   try clear c45
   try clear c46
   try clear hcz15_0
   try clear hcz15_1
   try clear hcz15_2
   try clear hcz22_0
   try clear hcz22_1
   try clear hcz22_2
   try clear hcz23_0
   try clear hcz23_1
   try clear hcz23_2
   try clear hcz25_0
   try clear hcz25_1
   try clear hcz25_2
   try clear hcz34_0
   try clear hcz34_1
   try clear hcz34_2
   try clear hcz38_0
   try clear hcz38_1
   try clear hcz38_2
   try clear hcz43_0
   try clear hcz43_1
   try clear hcz43_2
   try clear hcz47_0
   try clear hcz47_1
   try clear hcz47_2
   try clear hfz15_0
   try clear hfz15_1
   try clear hfz15_2
   try clear hfz22_0
   try clear hfz22_1
   try clear hfz22_2
   try clear hfz23_0
   try clear hfz23_1
   try clear hfz23_2
   try clear hfz25_0
   try clear hfz25_1
   try clear hfz25_2
   try clear hfz34_0
   try clear hfz34_1
   try clear hfz34_2
   try clear hfz38_0
   try clear hfz38_1
   try clear hfz38_2
   try clear hfz43_0
   try clear hfz43_1
   try clear hfz43_2
   try clear hfz47_0
   try clear hfz47_1
   try clear hfz47_2
   obtain ⟨kq, x42_8, rfl, HA, HJ8, HO_367000, BK358, BK359, BK360, BK366, HB⟩ := hcut
   cases kq with
   | zero => exact absurd HA.out (by simp [impl_FetchGlyph.j0])
   | succ kj8 =>
    have H := HA.out
    clear HA
    simp only [impl_FetchGlyph.j0] at H
    by_cases c48 : x42_8 = true
    ·subst c48
     have H1 : (some (t361, t364, t365, 0, 0, ([] : List Int), false)) = some (r1, r2, r3, r4, r5, r6, r7) := by rw [if_pos rfl] at H; exact H
     clear H
     have H := H1
     clear H1
     simp only [Option.some.injEq, Prod.mk.injEq] at H
     obtain ⟨rfl, rfl, rfl, rfl, rfl, rfl, rfl⟩ := H
     have hnb49 := NB366_358.out
     have hnc49 := NB358_366.out
     have hnb50 := NB366_359.out
     have hnc50 := NB359_366.out
     have hnb51 := NB366_360.out
     have hnc51 := NB360_366.out
     have hcz52_0 : wc.cell? ⟨gb366, 0, none⟩ = some (.slice Ao18 t361.length co18) := (b8 BK366.out 0).trans rfl
     have hcz52_1 : wc.cell? ⟨gb366, 1, none⟩ = some (.int .i64 t364) := (b8 BK366.out 1).trans rfl
     have hcz52_2 : wc.cell? ⟨gb366, 2, none⟩ = some (.int .i64 t365) := (b8 BK366.out 2).trans rfl
     have hfz52_0 := blk_frozen BK366.out 0
     have hfz52_1 := blk_frozen BK366.out 1
     have hfz52_2 := blk_frozen BK366.out 2
     have hnb53 := NB359_358.out
     have hnc53 := NB358_359.out
     have hnb54 := NB359_360.out
     have hnc54 := NB360_359.out
     have hcz55_0 : wc.cell? ⟨gb359, 0, none⟩ = some (.slice none 0 0) := (b8 BK359.out 0).trans rfl
     have hcz55_1 : wc.cell? ⟨gb359, 1, none⟩ = some (.int .i64 0) := (b8 BK359.out 1).trans rfl
     have hcz55_2 : wc.cell? ⟨gb359, 2, none⟩ = some (.int .i64 0) := (b8 BK359.out 2).trans rfl
     have hfz55_0 := blk_frozen BK359.out 0
     have hfz55_1 := blk_frozen BK359.out 1
     have hfz55_2 := blk_frozen BK359.out 2
     have hnb56 := NB360_358.out
     have hnc56 := NB358_360.out
     have hcz57_0 : wc.cell? ⟨gb360, 0, none⟩ = some (.int .i64 0) := (b8 BK360.out 0).trans rfl
     have hcz57_1 : wc.cell? ⟨gb360, 1, none⟩ = some (.int .i64 0) := (b8 BK360.out 1).trans rfl
     have hcz57_2 : wc.cell? ⟨gb360, 2, none⟩ = some (.slice none 0 0) := (b8 BK360.out 2).trans rfl
     have hfz57_0 := blk_frozen BK360.out 0
     have hfz57_1 := blk_frozen BK360.out 1
     have hfz57_2 := blk_frozen BK360.out 2
     go_wp2
     refine bodyPost_ret (results_list (rs := [.cell 6 26, .cell 7 32, .tmp 8]) rfl (by simp) (.cell gb359 26 #[.slice Ao18 t361.length co18, .int .i64 t364, .int .i64 t365] (0, 0) _ rfl (by (with_reducible repeat (first | refine b1 ?_ _ | refine b2 ?_ | refine b3 ?_ _)); refine blk_far ?_ NB359_360.out _; (with_reducible repeat (first | refine b1 ?_ _ | refine b2 ?_ | refine b3 ?_ _)); refine blk_far ?_ NB359_360.out _; (with_reducible repeat (first | refine b1 ?_ _ | refine b2 ?_ | refine b3 ?_ _)); refine blk_far ?_ NB359_360.out _; (with_reducible repeat (first | refine b1 ?_ _ | refine b2 ?_ | refine b3 ?_ _)); refine blk_put (cs := #[.slice Ao18 t361.length co18, .int .i64 t364, .int .i64 0]) ?_ 2 _ rfl; (with_reducible repeat (first | refine b1 ?_ _ | refine b2 ?_ | refine b3 ?_ _)); refine blk_put (cs := #[.slice Ao18 t361.length co18, .int .i64 0, .int .i64 0]) ?_ 1 _ rfl; (with_reducible repeat (first | refine b1 ?_ _ | refine b2 ?_ | refine b3 ?_ _)); refine blk_put (cs := #[.slice none 0 0, .int .i64 0, .int .i64 0]) ?_ 0 _ rfl; (with_reducible repeat (first | refine b1 ?_ _ | refine b2 ?_ | refine b3 ?_ _)); exact BK359.out) Try.underlying26 rfl (by kernel_rfl) (.cell gb360 32 #[.int .i64 0, .int .i64 0, .slice none 0 0] (0, 0) _ rfl (by (with_reducible repeat (first | refine b1 ?_ _ | refine b2 ?_ | refine b3 ?_ _)); refine blk_put (cs := #[.int .i64 0, .int .i64 0, .slice none 0 0]) ?_ 2 _ rfl; (with_reducible repeat (first | refine b1 ?_ _ | refine b2 ?_ | refine b3 ?_ _)); refine blk_put (cs := #[.int .i64 0, .int .i64 0, .slice none 0 0]) ?_ 1 _ rfl; (with_reducible repeat (first | refine b1 ?_ _ | refine b2 ?_ | refine b3 ?_ _)); refine blk_put (cs := #[.int .i64 0, .int .i64 0, .slice none 0 0]) ?_ 0 _ rfl; (with_reducible repeat (first | refine b1 ?_ _ | refine b2 ?_ | refine b3 ?_ _)); refine blk_far ?_ NB360_359.out _; (with_reducible repeat (first | refine b1 ?_ _ | refine b2 ?_ | refine b3 ?_ _)); refine blk_far ?_ NB360_359.out _; (with_reducible repeat (first | refine b1 ?_ _ | refine b2 ?_ | refine b3 ?_ _)); refine blk_far ?_ NB360_359.out _; (with_reducible repeat (first | refine b1 ?_ _ | refine b2 ?_ | refine b3 ?_ _)); exact BK360.out) Try.underlying32 rfl (by kernel_rfl) (.tmp .nil)))) rfl ?_
     exact ⟨_, _, by first | rfl | (simp [errW_none, errW_some] <;> rfl) | (simp [*, errW_none, errW_some] <;> rfl), by (with_reducible repeat (first | apply Kd.S_alloc | apply Kd.S_drewN | apply Kd.S_drew)); exact Kd.S_mono (Kd.S_far (p := ⟨gb360, 2, none⟩) (Kd.S_far (p := ⟨gb360, 1, none⟩) (Kd.S_far (p := ⟨gb360, 0, none⟩) (Kd.S_far (p := ⟨gb359, 2, none⟩) (Kd.S_far (p := ⟨gb359, 1, none⟩) (Kd.S_far (p := ⟨gb359, 0, none⟩) (Kd.S_mono (Kd.S_mono HO_367000.out (fun k_ hk => (⟨hk, hk.2.2.1⟩ : _ ∧ k_ ≠ gb359))) (fun k_ hk => (⟨hk, hk.1.2.2.2.1⟩ : _ ∧ k_ ≠ gb360))) (fun _ hk => hk.1.2) (.slice Ao18 t361.length co18)) (fun _ hk => hk.1.2) (.int .i64 t364)) (fun _ hk => hk.1.2) (.int .i64 t365)) (fun _ hk => hk.2) (.int .i64 0)) (fun _ hk => hk.2) (.int .i64 0)) (fun _ hk => hk.2) (.slice none 0 0)) (fun _ hk => ⟨hk.1.1.1, (by simp [Value.ownBlock])⟩), by first | exact Kd.R_nil _ _ _ _ _ | exact Kd.S_nil _ _ _ _ _ | exact Kd.V_nil _ _ _ _ _ | exact Kd.Q_nil _ _ _ _ _ | exact Kd.S_nil _ _ _ _ _, jzG HB⟩
    ·replace c48 := Bool.eq_false_iff.mpr c48
     subst c48
     have H1 : (if t368 ≥ 0 then (if 0 ≤ t368 then (if t368 < (t361.length : Int) then (if t368 ≤ (t361.length : Int) then (if 0 ≤ (wrap64 (t368 + 1)) then (if (wrap64 (t368 + 1)) ≤ (t361.length : Int) then ((some (t361.eraseIdx (t368 : Int).toNat : List (S32))).bind fun y382 => ((some (([(⟨(rd_T32 t361 t368).f0, (rd_T32 t361 t368).f1, (rd_T32 t361 t368).f2⟩ : S32)] : List (S32)) : List (S32))).bind fun y385 => (if y385.length + y382.length < 3518437208883 then (impl_FetchGlyph.l0 kj8 (y385 ++ y382) (wrap64 (t364 + 1)) t365 ((rd_T32 t361 t368).f0) ((rd_T32 t361 t368).f1) ((rd_T32 t361 t368).f2)) else (none)))) else (none)) else (none)) else (none)) else (none)) else (none)) else (if 0 ≤ t369 then (if t369 < (l2.length : Int) then ((impl_copyGlyph.f ((rd_T32 l2 t369).f0) ((rd_T32 l2 t369).f1) ((rd_T32 l2 t369).f2)).bind fun bt401 => ((some (([(⟨bt401.1, bt401.2.1, bt401.2.2⟩ : S32)] : List (S32)) : List (S32))).bind fun y406 => (if y406.length + t361.length < 3518437208883 then (impl_FetchGlyph.l0 kj8 (y406 ++ t361) t364 (wrap64 (t365 + 1)) bt401.1 bt401.2.1 bt401.2.2) else (none)))) else (none)) else (none))) = some (r1, r2, r3, r4, r5, r6, r7) := by rw [if_neg (show ¬ (false = true) by decide)] at H; exact H
     clear H
     have H := H1
     clear H1
     by_cases c58 : t368 ≥ 0
     ·rw [if_pos c58] at H
      have c58b0 : decide (0 ≤ t368) = true := decide_eq_true c58
      clear c58
      by_cases c59 : 0 ≤ t368
      ·rw [if_pos c59] at H
       have c59b0 : decide (0 ≤ t368) = true := decide_eq_true c59
       clear c59
       by_cases c60 : t368 < (t361.length : Int)
       ·rw [if_pos c60] at H
        have c60b0 : decide (t368 < (t361.length : Int)) = true := decide_eq_true c60
        clear c60
        have c61b0 := eq_true (of_decide_eq_true jzS : 0 ≤ t368)
        by_cases c62 : t368 ≤ (t361.length : Int)
        ·rw [if_pos c62] at H
         have c62b0 := eq_true c62
         have c62b1 : decide (t368 ≤ (t361.length : Int)) = true := decide_eq_true c62
         clear c62
         obtain ⟨y372, hy372⟩ : ∃ y_ : List (S32), y_ = (t361.take (t368 : Int).toNat) := ⟨_, rfl⟩
         replace H : (if 0 ≤ (wrap64 (t368 + 1)) then (if (wrap64 (t368 + 1)) ≤ (t361.length : Int) then ((some (t361.eraseIdx (t368 : Int).toNat : List (S32))).bind fun y382 => ((some (([(⟨(rd_T32 t361 t368).f0, (rd_T32 t361 t368).f1, (rd_T32 t361 t368).f2⟩ : S32)] : List (S32)) : List (S32))).bind fun y385 => (if y385.length + y382.length < 3518437208883 then (impl_FetchGlyph.l0 kj8 (y385 ++ y382) (wrap64 (t364 + 1)) t365 ((rd_T32 t361 t368).f0) ((rd_T32 t361 t368).f1) ((rd_T32 t361 t368).f2)) else (none)))) else (none)) else (none)) = some (r1, r2, r3, r4, r5, r6, r7) := by first | (rw [hy372]; with_reducible exact H) | (have H2_ := (Option.bind_some _ _).symm.trans H; rw [hy372]; with_reducible exact H2_) | (have H2_ := (Option.bind_some _ _).symm.trans H; with_reducible exact H2_) | with_reducible exact H | (rw [hy372]; exact H) | exact H
         have Ny372 := Am hy372
         clear hy372
         obtain ⟨ji63, hji63⟩ : ∃ j_ : Int, (wrap64 (t368 + 1)) = j_ := ⟨_, rfl⟩
         replace H : (if 0 ≤ (ji63) then (if (ji63) ≤ (t361.length : Int) then ((some (t361.eraseIdx (t368 : Int).toNat : List (S32))).bind fun y382 => ((some (([(⟨(rd_T32 t361 t368).f0, (rd_T32 t361 t368).f1, (rd_T32 t361 t368).f2⟩ : S32)] : List (S32)) : List (S32))).bind fun y385 => (if y385.length + y382.length < 3518437208883 then (impl_FetchGlyph.l0 kj8 (y385 ++ y382) (wrap64 (t364 + 1)) t365 ((rd_T32 t361 t368).f0) ((rd_T32 t361 t368).f1) ((rd_T32 t361 t368).f2)) else (none)))) else (none)) else (none)) = some (r1, r2, r3, r4, r5, r6, r7) := by first | (rw [hji63] at H; exact H) | (simp only [hji63] at H ⊢; exact H)
         have hji63w : (IntKind.i64.wrap (t368 + 1)) = ji63 := (i64_w _).trans hji63
         by_cases c64 : 0 ≤ (ji63)
         ·rw [if_pos c64] at H
          have c64b0 := eq_true c64
          have c64b1 : decide (0 ≤ (ji63)) = true := decide_eq_true c64
          clear c64
          by_cases c65 : (ji63) ≤ (t361.length : Int)
          ·rw [if_pos c65] at H
           have c65b0 := eq_true c65
           have c65b1 : decide ((ji63) ≤ (t361.length : Int)) = true := decide_eq_true c65
           clear c65
           obtain ⟨y377, hy377⟩ : ∃ y_ : List (S32), y_ = (t361.drop ((ji63) : Int).toNat) := ⟨_, rfl⟩
           replace H : ((some (t361.eraseIdx (t368 : Int).toNat : List (S32))).bind fun y382 => ((some (([(⟨(rd_T32 t361 t368).f0, (rd_T32 t361 t368).f1, (rd_T32 t361 t368).f2⟩ : S32)] : List (S32)) : List (S32))).bind fun y385 => (if y385.length + y382.length < 3518437208883 then (impl_FetchGlyph.l0 kj8 (y385 ++ y382) (wrap64 (t364 + 1)) t365 ((rd_T32 t361 t368).f0) ((rd_T32 t361 t368).f1) ((rd_T32 t361 t368).f2)) else (none)))) = some (r1, r2, r3, r4, r5, r6, r7) := by first | (rw [hy377]; with_reducible exact H) | (have H2_ := (Option.bind_some _ _).symm.trans H; rw [hy377]; with_reducible exact H2_) | (have H2_ := (Option.bind_some _ _).symm.trans H; with_reducible exact H2_) | with_reducible exact H | (rw [hy377]; exact H) | exact H
           have Ny377 := Am hy377
           clear hy377
           obtain ⟨y382, hy382⟩ : ∃ y_ : List (S32), y_ = (t361.eraseIdx (t368 : Int).toNat) := ⟨_, rfl⟩
           replace H : ((some (([(⟨(rd_T32 t361 t368).f0, (rd_T32 t361 t368).f1, (rd_T32 t361 t368).f2⟩ : S32)] : List (S32)) : List (S32))).bind fun y385 => (if y385.length + y382.length < 3518437208883 then (impl_FetchGlyph.l0 kj8 (y385 ++ y382) (wrap64 (t364 + 1)) t365 ((rd_T32 t361 t368).f0) ((rd_T32 t361 t368).f1) ((rd_T32 t361 t368).f2)) else (none))) = some (r1, r2, r3, r4, r5, r6, r7) := by first | (rw [hy382]; with_reducible exact H) | (have H2_ := (Option.bind_some _ _).symm.trans H; rw [hy382]; with_reducible exact H2_) | (have H2_ := (Option.bind_some _ _).symm.trans H; with_reducible exact H2_) | with_reducible exact H | (rw [hy382]; exact H) | exact H
           have Ny382 := Am hy382
           clear hy382
           obtain ⟨y385, hy385⟩ : ∃ y_ : List (S32), y_ = (([(⟨(rd_T32 t361 t368).f0, (rd_T32 t361 t368).f1, (rd_T32 t361 t368).f2⟩ : S32)] : List (S32))) := ⟨_, rfl⟩
           replace H : (if y385.length + y382.length < 3518437208883 then (impl_FetchGlyph.l0 kj8 (y385 ++ y382) (wrap64 (t364 + 1)) t365 ((rd_T32 t361 t368).f0) ((rd_T32 t361 t368).f1) ((rd_T32 t361 t368).f2)) else (none)) = some (r1, r2, r3, r4, r5, r6, r7) := by first | (rw [hy385]; with_reducible exact H) | (have H2_ := (Option.bind_some _ _).symm.trans H; rw [hy385]; with_reducible exact H2_) | (have H2_ := (Option.bind_some _ _).symm.trans H; with_reducible exact H2_) | with_reducible exact H | (rw [hy385]; exact H) | exact H
           have Ny385 := Am hy385
           clear hy385
           by_cases c66 : y385.length + y382.length < 3518437208883
           ·rw [if_pos c66] at H
            have LMc66 := Am c66
            clear c66
            obtain ⟨y388, hy388⟩ : ∃ y_ : List (S32), y_ = (y385 ++ y382) := ⟨_, rfl⟩
            replace H : (impl_FetchGlyph.l0 kj8 y388 (wrap64 (t364 + 1)) t365 ((rd_T32 t361 t368).f0) ((rd_T32 t361 t368).f1) ((rd_T32 t361 t368).f2)) = some (r1, r2, r3, r4, r5, r6, r7) := by first | (rw [hy388]; with_reducible exact H) | (have H2_ := (Option.bind_some _ _).symm.trans H; rw [hy388]; with_reducible exact H2_) | (have H2_ := (Option.bind_some _ _).symm.trans H; with_reducible exact H2_) | with_reducible exact H | (rw [hy388]; exact H) | exact H
            have Ny388 := Am hy388
            clear hy388
            have H' := Am H
            clear H
            try go_wp2_with (first | ((with_reducible refine gate_dst (N := 12) rfl ?_); refine box_event ?hg (N := 12) ?hd (cs := #[.int .i64 0, .int .i64 0, .slice none 0 0]) (t := 32) ?hr ?_; (case hd => rfl); (case hg => rfl); (case hr => first | (go_simp; done) | (go_simp; rfl)); intro gb370 hg w67 hbox hb; have n0_ := Am (Kd.S_below (Kd.S_elderB (jzO HO_367000) gb370 (Nat.le_of_eq hg.symm)) hb); have n1_ := Am (blk_below (g := gb358) (o := .cells #[.slice A0_0 l0_0.length c0_0, .int .i64 a0_1, .int .i64 a0_2] 26 (0, 0)) (jzB BK358) hb); have n2_ := Am (blk_below (g := gb359) (o := .cells #[.slice none 0 0, .int .i64 0, .int .i64 0] 26 (0, 0)) (jzB BK359) hb); have n3_ := Am (blk_below (g := gb360) (o := .cells #[.int .i64 0, .int .i64 0, .slice none 0 0] 32 (0, 0)) (jzB BK360) hb); have n4_ := Am (blk_below (g := gb366) (o := .cells #[.slice Ao18 t361.length co18, .int .i64 t364, .int .i64 t365] 26 (0, 0)) (jzB BK366) hb); have n5_ := Am (below_step (jzG HB) hb); have n6_ := Am (hbox); have n7_ := Am ((by rw [hg]; exact (below_size (jzG HB)) : w.heap.size ≤ gb370)); have n8_ := Am ((by rw [hg]; exact (below_size (jzG HB)) : w.heap.size ≤ gb370)); have n9_ := Am ((by rw [hg]; exact Nat.ne_of_lt (blk_lt (g := gb358) (o := .cells #[.slice A0_0 l0_0.length c0_0, .int .i64 a0_1, .int .i64 a0_2] 26 (0, 0)) (jzB BK358)) : gb358 ≠ gb370)); have n10_ := Am ((by rw [hg]; exact Nat.ne_of_gt (blk_lt (g := gb358) (o := .cells #[.slice A0_0 l0_0.length c0_0, .int .i64 a0_1, .int .i64 a0_2] 26 (0, 0)) (jzB BK358)) : gb370 ≠ gb358)); have n11_ := Am ((by rw [hg]; exact Nat.ne_of_lt (blk_lt (g := gb359) (o := .cells #[.slice none 0 0, .int .i64 0, .int .i64 0] 26 (0, 0)) (jzB BK359)) : gb359 ≠ gb370)); have n12_ := Am ((by rw [hg]; exact Nat.ne_of_gt (blk_lt (g := gb359) (o := .cells #[.slice none 0 0, .int .i64 0, .int .i64 0] 26 (0, 0)) (jzB BK359)) : gb370 ≠ gb359)); have n13_ := Am ((by rw [hg]; exact Nat.ne_of_lt (blk_lt (g := gb360) (o := .cells #[.int .i64 0, .int .i64 0, .slice none 0 0] 32 (0, 0)) (jzB BK360)) : gb360 ≠ gb370)); have n14_ := Am ((by rw [hg]; exact Nat.ne_of_gt (blk_lt (g := gb360) (o := .cells #[.int .i64 0, .int .i64 0, .slice none 0 0] 32 (0, 0)) (jzB BK360)) : gb370 ≠ gb360)); have n15_ := Am ((by rw [hg]; exact Nat.ne_of_lt (blk_lt (g := gb366) (o := .cells #[.slice Ao18 t361.length co18, .int .i64 t364, .int .i64 t365] 26 (0, 0)) (jzB BK366)) : gb366 ≠ gb370)); have n16_ := Am ((by rw [hg]; exact Nat.ne_of_gt (blk_lt (g := gb366) (o := .cells #[.slice Ao18 t361.length co18, .int .i64 t364, .int .i64 t365] 26 (0, 0)) (jzB BK366)) : gb370 ≠ gb366)); clear HO_367000; clear BK358; clear BK359; clear BK360; clear BK366; clear HB; have HO_367000 := n0_; have BK358 := n1_; have BK359 := n2_; have BK360 := n3_; have BK366 := n4_; have HB := n5_; have BK370 := n6_; have GW370 := n7_; have GE370 := n8_; have NB358_370 := n9_; have NB370_358 := n10_; have NB359_370 := n11_; have NB370_359 := n12_; have NB360_370 := n13_; have NB370_360 := n14_; have NB366_370 := n15_; have NB370_366 := n16_; clear n0_ n1_ n2_ n3_ n4_ n5_ n6_ n7_ n8_ n9_ n10_ n11_ n12_ n13_ n14_ n15_ n16_; clear hb hbox hg; have hnb68 := NB366_358.out; have hnc68 := NB358_366.out; have hnb69 := NB366_359.out; have hnc69 := NB359_366.out; have hnb70 := NB366_360.out; have hnc70 := NB360_366.out; have hnb71 := NB366_370.out; have hnc71 := NB370_366.out; have hcz72_0 : w67.cell? ⟨gb366, 0, none⟩ = some (.slice Ao18 t361.length co18) := (b8 BK366.out 0).trans rfl; have hcz72_1 : w67.cell? ⟨gb366, 1, none⟩ = some (.int .i64 t364) := (b8 BK366.out 1).trans rfl; have hcz72_2 : w67.cell? ⟨gb366, 2, none⟩ = some (.int .i64 t365) := (b8 BK366.out 2).trans rfl; have hfz72_0 := blk_frozen BK366.out 0; have hfz72_1 := blk_frozen BK366.out 1; have hfz72_2 := blk_frozen BK366.out 2; have p371 : 0 ≤ (t368 : Int) := of_decide_eq_true jzS; have q371 : t368 < (t361.length : Int) := of_decide_eq_true jzS; obtain ⟨ad371, A371_2, c371_2, e371, hx371_0, hx371_1, hx371_2, hl371_2, hi371_2⟩ := at_T32 (Kd.S_reads' HO_367000.out).2.2 t368 p371 q371; cases e371; obtain ⟨ce371, hce371, hMe371, hcc371, hSE⟩ := Kd.SE_get HO_367000.out z32 t368 p371 (by first | exact q371 | exact of_decide_eq_true jzS | (have e_ := (Kd.S_reads' HO_367000.out).1; omega)); obtain ⟨ua371_2, uc371_2, rfl, ul371_2, ge371_2⟩ := k32_openF hMe371; have hv371_2 := hcc371 2 _ rfl; rw [add_field _ _ 2 (by omega)] at hv371_2; replace hv371_2 := Option.some.inj (hv371_2.symm.trans hx371_2); injection hv371_2 with hva_ hvn_ hvc_; rw [hva_] at ge371_2; rw [hvc_] at ul371_2; rw [hva_, hvc_] at hSE; have HL371_2 := Am (show Kd.V (Kd.int .i64) 3 _ w.heap.size _ _ ((rd_T32 t361 t368).f2) from Kd.V_mk ul371_2 ge371_2); clear hva_ hvn_ hvc_ ge371_2 ul371_2; clear hcc371 hce371; have hSE_ := Am (show Kd.SE k32 32 _ w.heap.size _ (.slice (some ad371) t361.length co18) t361 (t368 : Int).toNat [.int .i64 ((rd_T32 t361 t368).f0), .int .i64 ((rd_T32 t361 t368).f1), .slice A371_2 ((rd_T32 t361 t368).f2).length c371_2] from hSE); clear hSE; clear HO_367000; have HO_367000 := hSE_; clear hSE_; have HR371_2 := Am hi371_2; have HC371_2 := Am hl371_2; clear hi371_2 hl371_2; replace p371 := eq_true p371; replace q371 := eq_true q371; have hnb73 := NB370_358.out; have hnc73 := NB358_370.out; have hnb74 := NB370_359.out; have hnc74 := NB359_370.out; have hnb75 := NB370_360.out; have hnc75 := NB360_370.out; have hcz76_0 : w67.cell? ⟨gb370, 0, none⟩ = some (.int .i64 0) := (b8 BK370.out 0).trans rfl; have hcz76_1 : w67.cell? ⟨gb370, 1, none⟩ = some (.int .i64 0) := (b8 BK370.out 1).trans rfl; have hcz76_2 : w67.cell? ⟨gb370, 2, none⟩ = some (.slice none 0 0) := (b8 BK370.out 2).trans rfl; have hfz76_0 := blk_frozen BK370.out 0; have hfz76_1 := blk_frozen BK370.out 1; have hfz76_2 := blk_frozen BK370.out 2))
            have n0_ : Aside0 (Kd.SE k32 32 (((w67.setCell ⟨gb370, 0, none⟩ (.int .i64 ((rd_T32 t361 t368).f0))).setCell ⟨gb370, 1, none⟩ (.int .i64 ((rd_T32 t361 t368).f1))).setCell ⟨gb370, 2, none⟩ (.slice A371_2 ((rd_T32 t361 t368).f2).length c371_2)) w.heap.size (fun k_ => (w.heap.size ≤ k_) ∧ k_ ≠ gb358 ∧ k_ ≠ gb359 ∧ k_ ≠ gb360 ∧ k_ ≠ gb366 ∧ k_ ≠ gb370) (.slice (some ad371) t361.length co18) t361 (t368 : Int).toNat [.int .i64 ((rd_T32 t361 t368).f0), .int .i64 ((rd_T32 t361 t368).f1), .slice A371_2 ((rd_T32 t361 t368).f2).length c371_2]) := ⟨by (with_reducible repeat (first | apply Kd.SE_alloc | apply Kd.SE_drewN | apply Kd.SE_drew)); exact Kd.SE_mono (Kd.SE_far (p := ⟨gb370, 2, none⟩) (Kd.SE_far (p := ⟨gb370, 1, none⟩) (Kd.SE_far (p := ⟨gb370, 0, none⟩) (Kd.SE_mono HO_367000.out (fun k_ hk => (⟨hk, hk.2⟩ : _ ∧ k_ ≠ gb370))) (fun _ hk => hk.2) (.int .i64 ((rd_T32 t361 t368).f0))) (fun _ hk => hk.2) (.int .i64 ((rd_T32 t361 t368).f1))) (fun _ hk => hk.2) (.slice A371_2 ((rd_T32 t361 t368).f2).length c371_2)) (fun _ hk => ⟨hk.1.1.1, ⟨hk.1.1.2.1, ⟨hk.1.1.2.2.1, ⟨hk.1.1.2.2.2.1, ⟨hk.1.1.2.2.2.2, hk.1.2⟩⟩⟩⟩⟩)⟩
            have n1_ : Aside0 (Kd.V (Kd.int .i64) 3 (((w67.setCell ⟨gb370, 0, none⟩ (.int .i64 ((rd_T32 t361 t368).f0))).setCell ⟨gb370, 1, none⟩ (.int .i64 ((rd_T32 t361 t368).f1))).setCell ⟨gb370, 2, none⟩ (.slice A371_2 ((rd_T32 t361 t368).f2).length c371_2)) w.heap.size (fun k_ => (w.heap.size ≤ k_) ∧ some k_ ≠ (.slice (some ad371) t361.length co18 : Value).ownBlock ∧ k_ ≠ gb358 ∧ k_ ≠ gb359 ∧ k_ ≠ gb360 ∧ k_ ≠ gb366 ∧ k_ ≠ gb370) (.slice A371_2 ((rd_T32 t361 t368).f2).length c371_2) ((rd_T32 t361 t368).f2)) := ⟨by (with_reducible repeat (first | apply Kd.V_alloc | apply Kd.V_drewN | apply Kd.V_drew)); exact Kd.V_mono (Kd.V_far (p := ⟨gb370, 2, none⟩) (Kd.V_far (p := ⟨gb370, 1, none⟩) (Kd.V_far (p := ⟨gb370, 0, none⟩) (Kd.V_mono HL371_2.out (fun k_ hk => (⟨hk, hk.1.2⟩ : _ ∧ k_ ≠ gb370))) (fun _ hk => hk.2) (.int .i64 ((rd_T32 t361 t368).f0))) (fun _ hk => hk.2) (.int .i64 ((rd_T32 t361 t368).f1))) (fun _ hk => hk.2) (.slice A371_2 ((rd_T32 t361 t368).f2).length c371_2)) (fun _ hk => ⟨hk.1.1.1.1, ⟨hk.1.2, ⟨hk.1.1.1.2.1, ⟨hk.1.1.1.2.2.1, ⟨hk.1.1.1.2.2.2.1, ⟨hk.1.1.1.2.2.2.2, hk.1.1.2⟩⟩⟩⟩⟩⟩)⟩
            have n2_ : Aside0 ((((w67.setCell ⟨gb370, 0, none⟩ (.int .i64 ((rd_T32 t361 t368).f0))).setCell ⟨gb370, 1, none⟩ (.int .i64 ((rd_T32 t361 t368).f1))).setCell ⟨gb370, 2, none⟩ (.slice A371_2 ((rd_T32 t361 t368).f2).length c371_2)).heap[gb358]? = some (.cells #[.slice A0_0 l0_0.length c0_0, .int .i64 a0_1, .int .i64 a0_2] 26 (0, 0))) := ⟨by (with_reducible repeat (first | refine b1 ?_ _ | refine b2 ?_ | refine b3 ?_ _)); refine blk_far ?_ NB358_370.out _; (with_reducible repeat (first | refine b1 ?_ _ | refine b2 ?_ | refine b3 ?_ _)); refine blk_far ?_ NB358_370.out _; (with_reducible repeat (first | refine b1 ?_ _ | refine b2 ?_ | refine b3 ?_ _)); refine blk_far ?_ NB358_370.out _; (with_reducible repeat (first | refine b1 ?_ _ | refine b2 ?_ | refine b3 ?_ _)); exact BK358.out⟩
            have n3_ : Aside0 ((((w67.setCell ⟨gb370, 0, none⟩ (.int .i64 ((rd_T32 t361 t368).f0))).setCell ⟨gb370, 1, none⟩ (.int .i64 ((rd_T32 t361 t368).f1))).setCell ⟨gb370, 2, none⟩ (.slice A371_2 ((rd_T32 t361 t368).f2).length c371_2)).heap[gb359]? = some (.cells #[.slice none 0 0, .int .i64 0, .int .i64 0] 26 (0, 0))) := ⟨by (with_reducible repeat (first | refine b1 ?_ _ | refine b2 ?_ | refine b3 ?_ _)); refine blk_far ?_ NB359_370.out _; (with_reducible repeat (first | refine b1 ?_ _ | refine b2 ?_ | refine b3 ?_ _)); refine blk_far ?_ NB359_370.out _; (with_reducible repeat (first | refine b1 ?_ _ | refine b2 ?_ | refine b3 ?_ _)); refine blk_far ?_ NB359_370.out _; (with_reducible repeat (first | refine b1 ?_ _ | refine b2 ?_ | refine b3 ?_ _)); exact BK359.out⟩
            have n4_ : Aside0 ((((w67.setCell ⟨gb370, 0, none⟩ (.int .i64 ((rd_T32 t361 t368).f0))).setCell ⟨gb370, 1, none⟩ (.int .i64 ((rd_T32 t361 t368).f1))).setCell ⟨gb370, 2, none⟩ (.slice A371_2 ((rd_T32 t361 t368).f2).length c371_2)).heap[gb360]? = some (.cells #[.int .i64 0, .int .i64 0, .slice none 0 0] 32 (0, 0))) := ⟨by (with_reducible repeat (first | refine b1 ?_ _ | refine b2 ?_ | refine b3 ?_ _)); refine blk_far ?_ NB360_370.out _; (with_reducible repeat (first | refine b1 ?_ _ | refine b2 ?_ | refine b3 ?_ _)); refine blk_far ?_ NB360_370.out _; (with_reducible repeat (first | refine b1 ?_ _ | refine b2 ?_ | refine b3 ?_ _)); refine blk_far ?_ NB360_370.out _; (with_reducible repeat (first | refine b1 ?_ _ | refine b2 ?_ | refine b3 ?_ _)); exact BK360.out⟩
            have n5_ : Aside0 ((((w67.setCell ⟨gb370, 0, none⟩ (.int .i64 ((rd_T32 t361 t368).f0))).setCell ⟨gb370, 1, none⟩ (.int .i64 ((rd_T32 t361 t368).f1))).setCell ⟨gb370, 2, none⟩ (.slice A371_2 ((rd_T32 t361 t368).f2).length c371_2)).heap[gb366]? = some (.cells #[.slice (some ad371) t361.length co18, .int .i64 t364, .int .i64 t365] 26 (0, 0))) := ⟨by (with_reducible repeat (first | refine b1 ?_ _ | refine b2 ?_ | refine b3 ?_ _)); refine blk_far ?_ NB366_370.out _; (with_reducible repeat (first | refine b1 ?_ _ | refine b2 ?_ | refine b3 ?_ _)); refine blk_far ?_ NB366_370.out _; (with_reducible repeat (first | refine b1 ?_ _ | refine b2 ?_ | refine b3 ?_ _)); refine blk_far ?_ NB366_370.out _; (with_reducible repeat (first | refine b1 ?_ _ | refine b2 ?_ | refine b3 ?_ _)); exact BK366.out⟩
            have n6_ : Aside0 ((((w67.setCell ⟨gb370, 0, none⟩ (.int .i64 ((rd_T32 t361 t368).f0))).setCell ⟨gb370, 1, none⟩ (.int .i64 ((rd_T32 t361 t368).f1))).setCell ⟨gb370, 2, none⟩ (.slice A371_2 ((rd_T32 t361 t368).f2).length c371_2)).heap[gb370]? = some (.cells #[.int .i64 ((rd_T32 t361 t368).f0), .int .i64 ((rd_T32 t361 t368).f1), .slice A371_2 ((rd_T32 t361 t368).f2).length c371_2] 32 (0, 0))) := ⟨by (with_reducible repeat (first | refine b1 ?_ _ | refine b2 ?_ | refine b3 ?_ _)); refine blk_put (cs := #[.int .i64 ((rd_T32 t361 t368).f0), .int .i64 ((rd_T32 t361 t368).f1), .slice none 0 0]) ?_ 2 _ rfl; (with_reducible repeat (first | refine b1 ?_ _ | refine b2 ?_ | refine b3 ?_ _)); refine blk_put (cs := #[.int .i64 ((rd_T32 t361 t368).f0), .int .i64 0, .slice none 0 0]) ?_ 1 _ rfl; (with_reducible repeat (first | refine b1 ?_ _ | refine b2 ?_ | refine b3 ?_ _)); refine blk_put (cs := #[.int .i64 0, .int .i64 0, .slice none 0 0]) ?_ 0 _ rfl; (with_reducible repeat (first | refine b1 ?_ _ | refine b2 ?_ | refine b3 ?_ _)); exact BK370.out⟩
            have n7_ : Aside0 (Below w.heap.size w (((w67.setCell ⟨gb370, 0, none⟩ (.int .i64 ((rd_T32 t361 t368).f0))).setCell ⟨gb370, 1, none⟩ (.int .i64 ((rd_T32 t361 t368).f1))).setCell ⟨gb370, 2, none⟩ (.slice A371_2 ((rd_T32 t361 t368).f2).length c371_2))) := ⟨jzG HB⟩
            (try clear HO_367000)
            (try clear HL371_2)
            (try clear BK358)
            (try clear BK359)
            (try clear BK360)
            (try clear BK366)
            (try clear BK370)
            (try clear HB)
            generalize (((w67.setCell ⟨gb370, 0, none⟩ (.int .i64 ((rd_T32 t361 t368).f0))).setCell ⟨gb370, 1, none⟩ (.int .i64 ((rd_T32 t361 t368).f1))).setCell ⟨gb370, 2, none⟩ (.slice A371_2 ((rd_T32 t361 t368).f2).length c371_2)) = w77 at n0_ n1_ n2_ n3_ n4_ n5_ n6_ n7_ ⊢
            have HO_367000 := n0_
            have HL371_2 := n1_
            have BK358 := n2_
            have BK359 := n3_
            have BK360 := n4_
            have BK366 := n5_
            have BK370 := n6_
            have HB := n7_
            clear n0_ n1_ n2_ n3_ n4_ n5_ n6_ n7_
            have n0_ := Am (Kd.SE_drew HO_367000.out)
            have n1_ := Am (Kd.V_drew HL371_2.out)
            have n2_ := Am (b2 BK358.out)
            have n3_ := Am (b2 BK359.out)
            have n4_ := Am (b2 BK360.out)
            have n5_ := Am (b2 BK366.out)
            have n6_ := Am (b2 BK370.out)
            have n7_ := Am (b6 HB.out)
            clear HO_367000
            clear HL371_2
            clear BK358
            clear BK359
            clear BK360
            clear BK366
            clear BK370
            clear HB
            have HO_367000 := n0_
            have HL371_2 := n1_
            have BK358 := n2_
            have BK359 := n3_
            have BK360 := n4_
            have BK366 := n5_
            have BK370 := n6_
            have HB := n7_
            clear n0_ n1_ n2_ n3_ n4_ n5_ n6_ n7_
            have q79 : (t368 : Int) ≤ ((t361.length : Int) : Int) := of_decide_eq_true jzS
            obtain ⟨i079, hi079, _, hsz79, _⟩ := info_parts info32
            have hroom79 : t361.length ≤ co18 := (Kd.S_reads' (Kd.SE_S HO_367000.out)).2.1
            have hC79 : Kd.F k32 _ _ (some ad371) t361.length t361 := (Kd.V_at (base := w.heap.size) (Kd.S_V (Kd.SE_S HO_367000.out))).2.2
            have hcut79 := cut_cap (P := Try.prog) 24 32 .i64 Try.underlying24 hi079 (some ad371) t361.length co18 t368 (of_decide_eq_true jzS) q79 hroom79
            have hr79 := Kd.F_take (m := (t368 : Int).toNat) hC79 (by omega)
            have hy79 : y372.length = (t368 : Int).toNat := (by rw [Ny372.out, List.length_take]; omega)
            rw [← Ny372.out] at hr79
            rw [← hy79] at hcut79
            have HO376 := Am (show Kd.V k32 32 _ w.heap.size _ (.slice (some ad371) y372.length co18) y372 from Kd.V_mk (by omega) hr79)
            have HC376 := Am (show y372.length ≤ co18 from by omega)
            clear hr79 hC79 hroom79 hi079 hsz79
            have KY79 := Am hy79
            clear hy79
            replace q79 := eq_true q79
            have q80 : ((ji63) : Int) ≤ ((t361.length : Int) : Int) := of_decide_eq_true jzS
            obtain ⟨i080, hi080, _, hsz80, _⟩ := info_parts info32
            have hroom80 : t361.length ≤ co18 := (Kd.S_reads' (Kd.SE_S HO_367000.out)).2.1
            have hC80 : Kd.F k32 _ _ (some ad371) t361.length t361 := (Kd.V_at (base := w.heap.size) (Kd.S_V (Kd.SE_S HO_367000.out))).2.2
            have q080 : (0 : Int) ≤ ((ji63) : Int) := of_decide_eq_true jzS
            have hcut80 := cut_from (P := Try.prog) 24 32 .i64 Try.underlying24 hi080 3 hsz80 (some ad371) t361.length co18 (ji63) q080 q80
            have hr80 := Kd.F_cut (m := ((ji63) : Int).toNat) (c := co18) hC80 (by omega) hroom80
            obtain ⟨A80, hA80⟩ : ∃ A1, A1 = (if co18 = ((ji63) : Int).toNat then (some ad371) else ((some ad371) : Option Addr).map (·.add (((ji63) : Int).toNat * 3))) := ⟨_, rfl⟩
            obtain ⟨c80, hc80⟩ : ∃ c1, c1 = co18 - ((ji63) : Int).toNat := ⟨_, rfl⟩
            have hy80 : y377.length = t361.length - ((ji63) : Int).toNat := (by rw [Ny377.out, List.length_drop] <;> omega)
            rw [show (t361).drop ((ji63) : Int).toNat = y377 from Ny377.out.symm] at hr80
            replace hr80 : Kd.F k32 _ _ A80 y377.length y377 := (by rw [hA80]; exact hr80)
            rw [← hy80, ← hA80, ← hc80] at hcut80
            have HO381 := Am (show Kd.V k32 32 _ w.heap.size _ (.slice A80 y377.length c80) y377 from Kd.V_mk (by rw [hy80, hc80]; exact Nat.sub_le_sub_right hroom80 _) hr80)
            have HC381 := Am (show y377.length ≤ c80 from by rw [hy80, hc80]; exact Nat.sub_le_sub_right hroom80 _)
            clear hr80 hC80 hroom80 hi080 hsz80 hc80
            have KY80 := Am hy80
            have KA80 := Am hA80
            clear hy80 hA80
            replace q80 := eq_true q80
            obtain ⟨go82, co82, eo82, gb82, gl82, cl82, HG82⟩ := Kd.S_form (Kd.SE_S HO_367000.out) (by have hj_ : 0 ≤ (t368 : Int) := of_decide_eq_true jzS; have hl_ : (ji63 : Int) ≤ (t361.length : Int) := of_decide_eq_true jzS; have hh_ : (t368 : Int) ≤ (t361.length : Int) := of_decide_eq_true jzS; rw [← hji63] at hl_; unfold wrap64 at hl_; omega)
            (first | cases eo82 | (injection eo82 with ea_ en_ ec_; (first | subst ea_ | (injection ea_ with ea_; subst ea_)); subst ec_; clear en_))
            have GB82 := Am gb82
            have GG82 := Am HG82
            clear gb82 gl82 HG82
            (first | simp only [add_plain] at hx371_0 | skip)
            (first | simp only [add_plain] at hx371_1 | skip)
            (first | simp only [add_plain] at hx371_2 | skip)
            refine start_ (n := 13) (S := fun w' => w'.cell? ⟨gb366, 0, none⟩ = some (.slice (some ⟨go82, 0, none⟩) t361.length co18) ∧ w'.cell? ⟨gb366, 1, none⟩ = some (.int .i64 t364) ∧ w'.cell? ⟨gb366, 2, none⟩ = some (.int .i64 t365)) (ds := [12]) #[F,F,F,F,F,F,F,F,F,F,F,F,F] (by kernel_rfl) rfl rfl ⟨(b8 BK366.out 0).trans rfl, (b8 BK366.out 1).trans rfl, (b8 BK366.out 2).trans rfl⟩ (fun hHeld => ?_); refine with_tabW impl_FetchGlyph.tab11 impl_FetchGlyph.bits11 (fun HT_ HW_ => ?_)
            generalize w77.drew = w78 at HO_367000 HL371_2 BK358 BK359 BK360 BK366 BK370 HB GG82 HO376 HO381 hx371_0 hx371_1 hx371_2 hHeld ⊢
            refine pure_ (i := 0) (N := some 52) (v := ?_) (a' := ?_) #[T,F,F,F,F,F,F,F,F,F,F,F,F] rfl rfl (any_of HT_.out (by kernel_rfl)) (fun _ _ _ h => h) (Or.inl ⟨by rfl, ?_⟩) ?_ ?_
            rotate_left; intro w'; go_simp; with_reducible rfl; rotate_left; simp only [Act.put, zA, zB, zC, i64_w, i32_w]; rfl
            refine pure_ (i := 2) (N := some 54) (v := ?_) (a' := ?_) #[T,F,T,F,F,F,F,F,F,F,F,F,F] rfl rfl (any_of HT_.out (by kernel_rfl)) (fun _ _ _ h => h) (Or.inl ⟨by rfl, ?_⟩) ?_ ?_
            rotate_left; intro w'; go_simp; with_reducible rfl; rotate_left; simp only [Act.put, zA, zB, zC, i64_w, i32_w]; rfl
            refine pure_ (i := 3) (N := some 55) (v := ?_) (a' := ?_) #[T,F,T,T,F,F,F,F,F,F,F,F,F] rfl rfl (any_of HT_.out (by kernel_rfl)) (fun _ _ _ h => h) (Or.inl ⟨by rfl, ?_⟩) ?_ ?_
            rotate_left; intro w'; go_simp; with_reducible rfl; rotate_left; simp only [Act.put, zA, zB, zC, i64_w, i32_w]; rfl
            refine pure_ (i := 5) (N := some 57) (v := ?_) (a' := ?_) #[T,F,T,T,F,T,F,F,F,F,F,F,F] rfl rfl (any_of HT_.out (by kernel_rfl)) (fun _ _ _ h => h) (Or.inl ⟨by rfl, ?_⟩) ?_ ?_
            rotate_left; intro w'; go_simp; with_reducible rfl; rotate_left; simp only [Act.put, zA, zB, zC, i64_w, i32_w]; rfl
            refine pure_ (i := 7) (N := some 59) (v := ?_) (a' := ?_) #[T,F,T,T,F,T,F,T,F,F,F,F,F] rfl rfl (any_of HT_.out (by kernel_rfl)) (fun _ _ _ h => h) (Or.inl ⟨by rfl, ?_⟩) ?_ ?_
            rotate_left; intro w'; go_simp; with_reducible rfl; rotate_left; simp only [Act.put, zA, zB, zC, i64_w, i32_w]; rfl
            refine pure_ (i := 8) (N := some 60) (v := ?_) (a' := ?_) #[T,F,T,T,F,T,F,T,T,F,F,F,F] rfl rfl (any_of HT_.out (by kernel_rfl)) (fun _ _ _ h => h) (Or.inl ⟨by rfl, ?_⟩) ?_ ?_
            rotate_left; intro w'; go_simp; with_reducible rfl; rotate_left; simp only [Act.put, zA, zB, zC, i64_w, i32_w]; rfl
            refine take_ (i := 1) (N := some 53) (v := ?_) (a' := ?_) #[T,T,T,T,F,T,F,T,T,F,F,F,F] rfl rfl (take_ofW HT_.out HW_.out (by kernel_rfl)) (fun _ _ _ h => h) (Or.inl ⟨by rfl, ?_⟩) hHeld ?_ ?_
            rotate_left; rintro w' ⟨s0, s1, s2⟩; go_simp; with_reducible rfl; rotate_left; simp only [Act.put, zA, zB, zC, i64_w, i32_w]; rfl
            refine pure_ (i := 4) (N := some 56) (v := ?_) (a' := ?_) #[T,T,T,T,T,T,F,T,T,F,F,F,F] rfl rfl (any_of HT_.out (by kernel_rfl)) (fun _ _ _ h => h) (Or.inl ⟨by rfl, ?_⟩) ?_ ?_
            rotate_left; intro w'; go_simp; with_reducible rfl; rotate_left; simp only [Act.put, zA, zB, zC, i64_w, i32_w]; rfl
            refine take_ (i := 6) (N := some 58) (v := ?_) (a' := ?_) #[T,T,T,T,T,T,T,T,T,F,F,F,F] rfl rfl (take_ofW HT_.out HW_.out (by kernel_rfl)) (fun _ _ _ h => h) (Or.inl ⟨by rfl, ?_⟩) hHeld ?_ ?_
            rotate_left; rintro w' ⟨s0, s1, s2⟩; go_simp; with_reducible rfl; rotate_left; simp only [Act.put, zA, zB, zC, i64_w, i32_w]; rfl
            refine pure_ (i := 9) (N := some 61) (v := ?_) (a' := ?_) #[T,T,T,T,T,T,T,T,T,T,F,F,F] rfl rfl (any_of HT_.out (by kernel_rfl)) (fun _ _ _ h => h) (Or.inl ⟨by rfl, ?_⟩) ?_ ?_
            rotate_left; intro w'; go_simp; with_reducible rfl; rotate_left; simp only [Act.put, zA, zB, zC, i64_w, i32_w]; rfl
            refine one_ (i := 10) (N := some 62) #[T,T,T,T,T,T,T,T,T,T,T,F,F] rfl rfl (one_of HT_.out (by kernel_rfl)) (by decide) (fun K hK => ?_)
            have hj_ : 0 ≤ (t368 : Int) := of_decide_eq_true jzS
            have hl_ : (ji63 : Int) ≤ (t361.length : Int) := of_decide_eq_true jzS
            have hh_ : (t368 : Int) ≤ (t361.length : Int) := of_decide_eq_true jzS
            have hb_ := (Kd.S_reads' (Kd.SE_S HO_367000.out)).2.2.2.1
            have h0_ : (0 : Int) ≤ (ji63 : Int) := of_decide_eq_true jzS
            have hy1_ := KY79.out
            have hk_ : (ji63 : Int).toNat = y372.length + 1 := (by have hw_ : (ji63 : Int) = t368 + 1 := (by have h00_ := h0_; rw [← hji63] at h00_ ⊢; unfold wrap64 at h00_ ⊢; omega); rw [hw_]; omega)
            refine Kd.Er_erase_step (r := [.int .i64 ((rd_T32 t361 t368).f0), .int .i64 ((rd_T32 t361 t368).f1), .slice A371_2 ((rd_T32 t361 t368).f2).length c371_2]) k32 (w0 := w) w.heap.size (by rfl) (.tmp 56) (.tmp 61) 24 32 (.agg #[(.int .i64 0), (.int .i64 0), (.slice none 0 0)]) 40 rfl Try.underlying24 info32 rfl (by decide) (g := go82) (n := t361.length) (c := co18) (k := y372.length) (ok := (fun k_ => (w.heap.size ≤ k_) ∧ k_ ≠ gb358 ∧ k_ ≠ gb359 ∧ k_ ≠ gb360 ∧ k_ ≠ gb366 ∧ k_ ≠ gb370)) rfl rfl ?hA ?hm (by rw [KY79.out]; (with_reducible repeat (first | apply Kd.SE_alloc | apply Kd.SE_drewN | apply Kd.SE_drew)); exact HO_367000.out) ?hk (jzG HB) (below_size (jzG HB)) ?hl ?hf ?_
            (case hA => have ha_ := KA80.out; rw [hk_] at ha_; exact ha_)
            (case hm => have ha_ := KY80.out; omega)
            (case hk => omega)
            (case hl => have h1_ := LMc66.out; rw [Ny385.out, Ny382.out] at h1_; simp only [List.length_cons, List.length_nil] at h1_; rw [List.length_eraseIdx_of_lt (by omega)] at h1_; omega)
            (case hf => exact fun k_ hk_ => ⟨Nat.le_trans (below_size (jzG HB)) hk_, Kd.freshB (jzB BK358) k_ hk_, Kd.freshB (jzB BK359) k_ hk_, Kd.freshB (jzB BK360) k_ hk_, Kd.freshB (jzB BK366) k_ hk_, Kd.freshB (jzB BK370) k_ hk_⟩)
            intro vE_ w81 ho hb hg hat
            obtain ⟨AE_, cE_, rfl⟩ := Kd.Er_slice ho
            have hn_ : t361.length - 1 = y382.length := by rw [Ny382.out, List.length_eraseIdx_of_lt (by omega)]
            have HX0 := Am (rdT32_at t361 t368 y372.length hy1_ (by omega))
            clear hj_ hl_ hh_ hb_ hk_ h0_
            skip
            clear hy1_
            skip
            rw [hn_] at ho hat ⊢
            clear hn_
            have n0_ := Am (ho)
            have n1_ := Am (blk_grown (g := gb358) (o := .cells #[.slice A0_0 l0_0.length c0_0, .int .i64 a0_1, .int .i64 a0_2] 26 (0, 0)) (jzB BK358) hg (Kd.S_ne (Kd.SE_S HO_367000.out) BK358.out (by decide)))
            have n2_ := Am (blk_grown (g := gb359) (o := .cells #[.slice none 0 0, .int .i64 0, .int .i64 0] 26 (0, 0)) (jzB BK359) hg (Kd.S_ne (Kd.SE_S HO_367000.out) BK359.out (by decide)))
            have n3_ := Am (blk_grown (g := gb360) (o := .cells #[.int .i64 0, .int .i64 0, .slice none 0 0] 32 (0, 0)) (jzB BK360) hg (Kd.S_away (Kd.SE_S HO_367000.out) (fun _ hk => hk.2.2.2.1)))
            have n4_ := Am (blk_grown (g := gb366) (o := .cells #[.slice (some ⟨go82, 0, none⟩) t361.length co18, .int .i64 t364, .int .i64 t365] 26 (0, 0)) (jzB BK366) hg (Kd.S_ne (Kd.SE_S HO_367000.out) BK366.out (by decide)))
            have n5_ := Am (blk_grown (g := gb370) (o := .cells #[.int .i64 ((rd_T32 t361 t368).f0), .int .i64 ((rd_T32 t361 t368).f1), .slice A371_2 ((rd_T32 t361 t368).f2).length c371_2] 32 (0, 0)) (jzB BK370) hg (Kd.S_away (Kd.SE_S HO_367000.out) (fun _ hk => hk.2.2.2.2.2)))
            have n6_ := Am (Kd.V_afterv (v := (.slice (some ⟨go82, 0, none⟩) t361.length co18)) (v1 := .slice AE_ y382.length cE_) (ok := (fun k_ => (w.heap.size ≤ k_) ∧ k_ ≠ gb358 ∧ k_ ≠ gb359 ∧ k_ ≠ gb360 ∧ k_ ≠ gb366 ∧ k_ ≠ gb370)) (by (with_reducible repeat (first | apply Kd.V_alloc | apply Kd.V_drewN | apply Kd.V_drew)); exact Kd.V_mono HL371_2.out (fun _ hk => ⟨⟨hk.1, ⟨hk.2.2.1, ⟨hk.2.2.2.1, ⟨hk.2.2.2.2.1, ⟨hk.2.2.2.2.2.1, hk.2.2.2.2.2.2⟩⟩⟩⟩⟩, hk.2.1⟩)) hg hat)
            have n7_ := Am (hb)
            clear HO_367000
            clear BK358
            clear BK359
            clear BK360
            clear BK366
            clear BK370
            clear HL371_2
            clear HB
            have HO_367000 := n0_
            have BK358 := n1_
            have BK359 := n2_
            have BK360 := n3_
            have BK366 := n4_
            have BK370 := n5_
            have HL371_2 := n6_
            have HB := n7_
            clear n0_ n1_ n2_ n3_ n4_ n5_ n6_ n7_
            clear ho hb hg hat
            refine hK.out _ _ ⟨(b8 BK366.out 0).trans rfl, (b8 BK366.out 1).trans rfl, (b8 BK366.out 2).trans rfl⟩ (fun hHeld => ?_)
            clear hK K
            refine norm_ (a' := ?_) ?_ ?_
            rotate_left
            ·show Act.put _ (some 62) _ = _
             simp only [Act.put, zA, zB, zC, i64_w, i32_w]
             rfl
            refine pure_ (i := 11) (N := some 63) (v := ?_) (a' := ?_) #[T,T,T,T,T,T,T,T,T,T,T,T,F] rfl rfl (any_of HT_.out (by kernel_rfl)) (fun _ _ _ h => h) (Or.inl ⟨by rfl, ?_⟩) ?_ ?_
            rotate_left; intro w'; go_simp; with_reducible rfl; rotate_left; simp only [Act.put, zA, zB, zC, i64_w, i32_w]; rfl
            refine last_ (i := 12) (N := none) #[T,T,T,T,T,T,T,T,T,T,T,T,T] rfl rfl (one_of HT_.out (by kernel_rfl)) (by decide) (fun K hK => ?_)
            have hs83 : w81.cell? ⟨gb366, 0, none⟩ = some (.slice (some ⟨go82, 0, none⟩) t361.length co18) := (b8 BK366.out 0).trans rfl
            have hfs83 := blk_frozen BK366.out 0
            have hns83_0 := NB358_366.out
            have hns83_1 := NB359_366.out
            have hns83_2 := NB360_366.out
            have hns83_4 := NB370_366.out
            have hms83_0 := NB366_358.out
            have hms83_1 := NB366_359.out
            have hms83_2 := NB366_360.out
            have hms83_4 := NB366_370.out
            refine skip_ (w1 := ?_) (by rfl) rfl ?_ ?_
            rotate_left
            ·go_simp
             rfl
            refine hK.out _ _ ?_
            clear hK K
            refine done_ (done_of HT_.out (by kernel_rfl)) ?_
            have n0_ : Aside0 (Kd.Er k32 32 (w81.setCell ⟨gb366, 0, none⟩ (.slice AE_ y382.length cE_)) w.heap.size (fun k_ => (w.heap.size ≤ k_) ∧ k_ ≠ gb358 ∧ k_ ≠ gb359 ∧ k_ ≠ gb360 ∧ k_ ≠ gb366 ∧ k_ ≠ gb370) (.slice (some ⟨go82, 0, none⟩) t361.length co18) t361 y372.length [.int .i64 ((rd_T32 t361 t368).f0), .int .i64 ((rd_T32 t361 t368).f1), .slice A371_2 ((rd_T32 t361 t368).f2).length c371_2] (.slice AE_ y382.length cE_)) := ⟨by (with_reducible repeat (first | apply Kd.Er_alloc | apply Kd.Er_drewN | apply Kd.Er_drew)); exact Kd.Er_mono (Kd.Er_far (p := ⟨gb366, 0, none⟩) (Kd.Er_mono HO_367000.out (fun k_ hk => (⟨hk, hk.2.2.2.2.1⟩ : _ ∧ k_ ≠ gb366))) (fun _ hk => hk.2) (.slice AE_ y382.length cE_)) (fun _ hk => ⟨hk.1.1, ⟨hk.1.2.1, ⟨hk.1.2.2.1, ⟨hk.1.2.2.2.1, ⟨hk.1.2.2.2.2.1, hk.1.2.2.2.2.2⟩⟩⟩⟩⟩)⟩
            have n1_ : Aside0 (Kd.V (Kd.int .i64) 3 (w81.setCell ⟨gb366, 0, none⟩ (.slice AE_ y382.length cE_)) w.heap.size (fun k_ => (w.heap.size ≤ k_) ∧ some k_ ≠ (.slice AE_ y382.length cE_ : Value).ownBlock ∧ k_ ≠ gb358 ∧ k_ ≠ gb359 ∧ k_ ≠ gb360 ∧ k_ ≠ gb366 ∧ k_ ≠ gb370) (.slice A371_2 ((rd_T32 t361 t368).f2).length c371_2) ((rd_T32 t361 t368).f2)) := ⟨by (with_reducible repeat (first | apply Kd.V_alloc | apply Kd.V_drewN | apply Kd.V_drew)); exact Kd.V_mono (Kd.V_far (p := ⟨gb366, 0, none⟩) (Kd.V_mono HL371_2.out (fun k_ hk => (⟨hk, hk.1.2.2.2.2.1⟩ : _ ∧ k_ ≠ gb366))) (fun _ hk => hk.2) (.slice AE_ y382.length cE_)) (fun _ hk => ⟨hk.1.1.1, ⟨hk.1.2, ⟨hk.1.1.2.1, ⟨hk.1.1.2.2.1, ⟨hk.1.1.2.2.2.1, ⟨hk.1.1.2.2.2.2.1, hk.1.1.2.2.2.2.2⟩⟩⟩⟩⟩⟩)⟩
            have n2_ : Aside0 ((w81.setCell ⟨gb366, 0, none⟩ (.slice AE_ y382.length cE_)).heap[gb358]? = some (.cells #[.slice A0_0 l0_0.length c0_0, .int .i64 a0_1, .int .i64 a0_2] 26 (0, 0))) := ⟨by (with_reducible repeat (first | refine b1 ?_ _ | refine b2 ?_ | refine b3 ?_ _)); refine blk_far ?_ NB358_366.out _; (with_reducible repeat (first | refine b1 ?_ _ | refine b2 ?_ | refine b3 ?_ _)); exact BK358.out⟩
            have n3_ : Aside0 ((w81.setCell ⟨gb366, 0, none⟩ (.slice AE_ y382.length cE_)).heap[gb359]? = some (.cells #[.slice none 0 0, .int .i64 0, .int .i64 0] 26 (0, 0))) := ⟨by (with_reducible repeat (first | refine b1 ?_ _ | refine b2 ?_ | refine b3 ?_ _)); refine blk_far ?_ NB359_366.out _; (with_reducible repeat (first | refine b1 ?_ _ | refine b2 ?_ | refine b3 ?_ _)); exact BK359.out⟩
            have n4_ : Aside0 ((w81.setCell ⟨gb366, 0, none⟩ (.slice AE_ y382.length cE_)).heap[gb360]? = some (.cells #[.int .i64 0, .int .i64 0, .slice none 0 0] 32 (0, 0))) := ⟨by (with_reducible repeat (first | refine b1 ?_ _ | refine b2 ?_ | refine b3 ?_ _)); refine blk_far ?_ NB360_366.out _; (with_reducible repeat (first | refine b1 ?_ _ | refine b2 ?_ | refine b3 ?_ _)); exact BK360.out⟩
            have n5_ : Aside0 ((w81.setCell ⟨gb366, 0, none⟩ (.slice AE_ y382.length cE_)).heap[gb366]? = some (.cells #[.slice AE_ y382.length cE_, .int .i64 t364, .int .i64 t365] 26 (0, 0))) := ⟨by (with_reducible repeat (first | refine b1 ?_ _ | refine b2 ?_ | refine b3 ?_ _)); refine blk_put (cs := #[.slice (some ⟨go82, 0, none⟩) t361.length co18, .int .i64 t364, .int .i64 t365]) ?_ 0 _ rfl; (with_reducible repeat (first | refine b1 ?_ _ | refine b2 ?_ | refine b3 ?_ _)); exact BK366.out⟩
            have n6_ : Aside0 ((w81.setCell ⟨gb366, 0, none⟩ (.slice AE_ y382.length cE_)).heap[gb370]? = some (.cells #[.int .i64 ((rd_T32 t361 t368).f0), .int .i64 ((rd_T32 t361 t368).f1), .slice A371_2 ((rd_T32 t361 t368).f2).length c371_2] 32 (0, 0))) := ⟨by (with_reducible repeat (first | refine b1 ?_ _ | refine b2 ?_ | refine b3 ?_ _)); refine blk_far ?_ NB370_366.out _; (with_reducible repeat (first | refine b1 ?_ _ | refine b2 ?_ | refine b3 ?_ _)); exact BK370.out⟩
            have n7_ : Aside0 (Below w.heap.size w (w81.setCell ⟨gb366, 0, none⟩ (.slice AE_ y382.length cE_))) := ⟨jzG HB⟩
            (try clear HO_367000)
            (try clear HL371_2)
            (try clear BK358)
            (try clear BK359)
            (try clear BK360)
            (try clear BK366)
            (try clear BK370)
            (try clear HB)
            generalize (w81.setCell ⟨gb366, 0, none⟩ (.slice AE_ y382.length cE_)) = w84 at n0_ n1_ n2_ n3_ n4_ n5_ n6_ n7_ ⊢
            have HO_367000 := n0_
            have HL371_2 := n1_
            have BK358 := n2_
            have BK359 := n3_
            have BK360 := n4_
            have BK366 := n5_
            have BK370 := n6_
            have HB := n7_
            clear n0_ n1_ n2_ n3_ n4_ n5_ n6_ n7_
            have hcz85_0 : w84.cell? ⟨gb366, 0, none⟩ = some (.slice AE_ y382.length cE_) := (b8 BK366.out 0).trans rfl
            have hcz85_1 : w84.cell? ⟨gb366, 1, none⟩ = some (.int .i64 t364) := (b8 BK366.out 1).trans rfl
            have hcz85_2 : w84.cell? ⟨gb366, 2, none⟩ = some (.int .i64 t365) := (b8 BK366.out 2).trans rfl
            have hfz85_0 := blk_frozen BK366.out 0
            have hfz85_1 := blk_frozen BK366.out 1
            have hfz85_2 := blk_frozen BK366.out 2
            try go_wp2_with (first | ((with_reducible refine gate_store (t := 3) (p := 67) rfl ?_); refine store_event (t := 3) (p := 67) (v := ?vo_w86) (w1 := (w84.setCell ⟨gb366, 1, none⟩ (.int .i64 (wrap64 (t364 + 1))))) ?hg ?ho ?hn ?hr ?_; (case ho => rfl); (case hg => rfl); (case hn => rfl); (case hr => first | (go_simp; done) | (go_simp; rfl)); intro w86 hw; have n0_ : Aside0 (Kd.Er k32 32 w86 w.heap.size (fun k_ => (w.heap.size ≤ k_) ∧ k_ ≠ gb358 ∧ k_ ≠ gb359 ∧ k_ ≠ gb360 ∧ k_ ≠ gb366 ∧ k_ ≠ gb370) (.slice (some ⟨go82, 0, none⟩) t361.length co18) t361 y372.length [.int .i64 ((rd_T32 t361 t368).f0), .int .i64 ((rd_T32 t361 t368).f1), .slice A371_2 ((rd_T32 t361 t368).f2).length c371_2] (.slice AE_ y382.length cE_)) := ⟨(by rw [hw]; exact (by (with_reducible repeat (first | apply Kd.Er_alloc | apply Kd.Er_drewN | apply Kd.Er_drew)); exact Kd.Er_mono (Kd.Er_far (p := ⟨gb366, 1, none⟩) (Kd.Er_mono HO_367000.out (fun k_ hk => (⟨hk, hk.2.2.2.2.1⟩ : _ ∧ k_ ≠ gb366))) (fun _ hk => hk.2) (.int .i64 (wrap64 (t364 + 1)))) (fun _ hk => ⟨hk.1.1, ⟨hk.1.2.1, ⟨hk.1.2.2.1, ⟨hk.1.2.2.2.1, ⟨hk.1.2.2.2.2.1, hk.1.2.2.2.2.2⟩⟩⟩⟩⟩)))⟩; have n1_ : Aside0 (Kd.V (Kd.int .i64) 3 w86 w.heap.size (fun k_ => (w.heap.size ≤ k_) ∧ some k_ ≠ (.slice AE_ y382.length cE_ : Value).ownBlock ∧ k_ ≠ gb358 ∧ k_ ≠ gb359 ∧ k_ ≠ gb360 ∧ k_ ≠ gb366 ∧ k_ ≠ gb370) (.slice A371_2 ((rd_T32 t361 t368).f2).length c371_2) ((rd_T32 t361 t368).f2)) := ⟨(by rw [hw]; exact (by (with_reducible repeat (first | apply Kd.V_alloc | apply Kd.V_drewN | apply Kd.V_drew)); exact Kd.V_mono (Kd.V_far (p := ⟨gb366, 1, none⟩) (Kd.V_mono HL371_2.out (fun k_ hk => (⟨hk, hk.2.2.2.2.2.1⟩ : _ ∧ k_ ≠ gb366))) (fun _ hk => hk.2) (.int .i64 (wrap64 (t364 + 1)))) (fun _ hk => ⟨hk.1.1, ⟨hk.1.2.1, ⟨hk.1.2.2.1, ⟨hk.1.2.2.2.1, ⟨hk.1.2.2.2.2.1, ⟨hk.1.2.2.2.2.2.1, hk.1.2.2.2.2.2.2⟩⟩⟩⟩⟩⟩)))⟩; have n2_ : Aside0 (w86.heap[gb358]? = some (.cells #[.slice A0_0 l0_0.length c0_0, .int .i64 a0_1, .int .i64 a0_2] 26 (0, 0))) := ⟨(by rw [hw]; exact (jzF BK358 NB358_366))⟩; have n3_ : Aside0 (w86.heap[gb359]? = some (.cells #[.slice none 0 0, .int .i64 0, .int .i64 0] 26 (0, 0))) := ⟨(by rw [hw]; exact (jzF BK359 NB359_366))⟩; have n4_ : Aside0 (w86.heap[gb360]? = some (.cells #[.int .i64 0, .int .i64 0, .slice none 0 0] 32 (0, 0))) := ⟨(by rw [hw]; exact (jzF BK360 NB360_366))⟩; have n5_ : Aside0 (w86.heap[gb366]? = some (.cells #[.slice AE_ y382.length cE_, .int .i64 (wrap64 (t364 + 1)), .int .i64 t365] 26 (0, 0))) := ⟨(by rw [hw]; exact (by (with_reducible repeat (first | refine b1 ?_ _ | refine b2 ?_ | refine b3 ?_ _)); refine blk_put (cs := #[.slice AE_ y382.length cE_, .int .i64 t364, .int .i64 t365]) ?_ 1 _ rfl; (with_reducible repeat (first | refine b1 ?_ _ | refine b2 ?_ | refine b3 ?_ _)); exact BK366.out))⟩; have n6_ : Aside0 (w86.heap[gb370]? = some (.cells #[.int .i64 ((rd_T32 t361 t368).f0), .int .i64 ((rd_T32 t361 t368).f1), .slice A371_2 ((rd_T32 t361 t368).f2).length c371_2] 32 (0, 0))) := ⟨(by rw [hw]; exact (jzF BK370 NB370_366))⟩; have n7_ : Aside0 (Below w.heap.size w w86) := ⟨(by rw [hw]; exact (jzG HB))⟩; clear hw; clear HO_367000; clear HL371_2; clear BK358; clear BK359; clear BK360; clear BK366; clear BK370; clear HB; have HO_367000 := n0_; have HL371_2 := n1_; have BK358 := n2_; have BK359 := n3_; have BK360 := n4_; have BK366 := n5_; have BK370 := n6_; have HB := n7_; clear n0_ n1_ n2_ n3_ n4_ n5_ n6_ n7_; have hcz87_0 : w86.cell? ⟨gb370, 0, none⟩ = some (.int .i64 ((rd_T32 t361 t368).f0)) := (b8 BK370.out 0).trans rfl; have hcz87_1 : w86.cell? ⟨gb370, 1, none⟩ = some (.int .i64 ((rd_T32 t361 t368).f1)) := (b8 BK370.out 1).trans rfl; have hcz87_2 : w86.cell? ⟨gb370, 2, none⟩ = some (.slice A371_2 ((rd_T32 t361 t368).f2).length c371_2) := (b8 BK370.out 2).trans rfl; have hfz87_0 := blk_frozen BK370.out 0; have hfz87_1 := blk_frozen BK370.out 1; have hfz87_2 := blk_frozen BK370.out 2) | ((with_reducible refine gate_dst (N := 78) rfl ?_); refine Kd.R_lit (Kd.raw 3) _ 32 ?hg (N := 78) ?hd (xs := [[.int .i64 ((rd_T32 t361 t368).f0), .int .i64 ((rd_T32 t361 t368).f1), .slice A371_2 ((rd_T32 t361 t368).f2).length c371_2]]) (inner := [.int .i64 ((rd_T32 t361 t368).f0), .int .i64 ((rd_T32 t361 t368).f1), .slice A371_2 ((rd_T32 t361 t368).f2).length c371_2]) (ok := (fun k_ => (w.heap.size ≤ k_) ∧ some k_ ≠ (.slice AE_ y382.length cE_ : Value).ownBlock ∧ k_ ≠ gb358 ∧ k_ ≠ gb359 ∧ k_ ≠ gb360 ∧ k_ ≠ gb366 ∧ k_ ≠ gb370)) (okp := (fun k_ => (w.heap.size ≤ k_) ∧ some k_ ≠ (.slice AE_ y382.length cE_ : Value).ownBlock ∧ k_ ≠ gb358 ∧ k_ ≠ gb359 ∧ k_ ≠ gb360 ∧ k_ ≠ gb366 ∧ k_ ≠ gb370)) ?hr ?hp (fun _ hk => hk) ((show ∀ k_, w86.heap.size ≤ k_ → (fun k_ => (w.heap.size ≤ k_) ∧ some k_ ≠ (.slice AE_ y382.length cE_ : Value).ownBlock ∧ k_ ≠ gb358 ∧ k_ ≠ gb359 ∧ k_ ≠ gb360 ∧ k_ ≠ gb366 ∧ k_ ≠ gb370) k_ from fun k_ hk => ⟨(Nat.le_trans (below_size (jzG HB)) hk), Kd.fresh' (Kd.Er_lt (by (with_reducible repeat (first | apply Kd.Er_alloc | apply Kd.Er_drewN | apply Kd.Er_drew)); exact HO_367000.out)) k_ hk, Kd.freshB (g := gb358) (o := .cells #[.slice A0_0 l0_0.length c0_0, .int .i64 a0_1, .int .i64 a0_2] 26 (0, 0)) (jzB BK358) k_ hk, Kd.freshB (g := gb359) (o := .cells #[.slice none 0 0, .int .i64 0, .int .i64 0] 26 (0, 0)) (jzB BK359) k_ hk, Kd.freshB (g := gb360) (o := .cells #[.int .i64 0, .int .i64 0, .slice none 0 0] 32 (0, 0)) (jzB BK360) k_ hk, Kd.freshB (g := gb366) (o := .cells #[.slice AE_ y382.length cE_, .int .i64 (wrap64 (t364 + 1)), .int .i64 t365] 26 (0, 0)) (jzB BK366) k_ hk, Kd.freshB (g := gb370) (o := .cells #[.int .i64 ((rd_T32 t361 t368).f0), .int .i64 ((rd_T32 t361 t368).f1), .slice A371_2 ((rd_T32 t361 t368).f2).length c371_2] 32 (0, 0)) (jzB BK370) k_ hk⟩) _ (Nat.le_refl _)) (Below.refl _ _) (Nat.le_refl _) (by simp) ?_; (case hd => rfl); (case hg => rfl); (case hr => first | (go_simp; done) | (go_simp; rfl)); (case hp => exact (Reps.c3 (show (Kd.raw 3).M _ _ _ [.int .i64 ((rd_T32 t361 t368).f0), .int .i64 ((rd_T32 t361 t368).f1), .slice A371_2 ((rd_T32 t361 t368).f2).length c371_2] [.int .i64 ((rd_T32 t361 t368).f0), .int .i64 ((rd_T32 t361 t368).f1), .slice A371_2 ((rd_T32 t361 t368).f2).length c371_2] from ⟨rfl, rfl, by intro u_ hu_; simp only [List.mem_cons, List.not_mem_nil, or_false] at hu_; rcases hu_ with rfl | rfl | rfl <;> rfl⟩) (Reps.none _ _))); intro v386 w88 ho89 hb hg_ hnew_; clear hg_ hnew_; skip; have n0_ := Am (Kd.Er_elder' (by (with_reducible repeat (first | apply Kd.Er_alloc | apply Kd.Er_drewN | apply Kd.Er_drew)); exact HO_367000.out) (Kd.R_base ho89) hb); have n1_ := Am (Kd.V_elder' (by (with_reducible repeat (first | apply Kd.V_alloc | apply Kd.V_drewN | apply Kd.V_drew)); exact HL371_2.out) (Kd.R_base ho89) hb); have n2_ := Am (Kd.R_lower ho89 (below_size (jzG HB))); have n3_ := Am (blk_below (g := gb358) (o := .cells #[.slice A0_0 l0_0.length c0_0, .int .i64 a0_1, .int .i64 a0_2] 26 (0, 0)) (jzB BK358) hb); have n4_ := Am (blk_below (g := gb359) (o := .cells #[.slice none 0 0, .int .i64 0, .int .i64 0] 26 (0, 0)) (jzB BK359) hb); have n5_ := Am (blk_below (g := gb360) (o := .cells #[.int .i64 0, .int .i64 0, .slice none 0 0] 32 (0, 0)) (jzB BK360) hb); have n6_ := Am (blk_below (g := gb366) (o := .cells #[.slice AE_ y382.length cE_, .int .i64 (wrap64 (t364 + 1)), .int .i64 t365] 26 (0, 0)) (jzB BK366) hb); have n7_ := Am (blk_below (g := gb370) (o := .cells #[.int .i64 ((rd_T32 t361 t368).f0), .int .i64 ((rd_T32 t361 t368).f1), .slice A371_2 ((rd_T32 t361 t368).f2).length c371_2] 32 (0, 0)) (jzB BK370) hb); have n8_ := Am (below_step (jzG HB) hb); clear HO_367000; clear HL371_2; clear BK358; clear BK359; clear BK360; clear BK366; clear BK370; clear HB; have HO_367000 := n0_; have HL371_2 := n1_; have HO387 := n2_; have BK358 := n3_; have BK359 := n4_; have BK360 := n5_; have BK366 := n6_; have BK370 := n7_; have HB := n8_; clear n0_ n1_ n2_ n3_ n4_ n5_ n6_ n7_ n8_; clear hb ho89; have hcz90_0 : w88.cell? ⟨gb366, 0, none⟩ = some (.slice AE_ y382.length cE_) := (b8 BK366.out 0).trans rfl; have hcz90_1 : w88.cell? ⟨gb366, 1, none⟩ = some (.int .i64 (wrap64 (t364 + 1))) := (b8 BK366.out 1).trans rfl; have hcz90_2 : w88.cell? ⟨gb366, 2, none⟩ = some (.int .i64 t365) := (b8 BK366.out 2).trans rfl; have hfz90_0 := blk_frozen BK366.out 0; have hfz90_1 := blk_frozen BK366.out 1; have hfz90_2 := blk_frozen BK366.out 2) | ((with_reducible refine gate_builtin (b := .append) (xs := #[.tmp 78, .tmp 80]) rfl ?_); at_builtin; refine Kd.Er_append (r := [.int .i64 ((rd_T32 t361 t368).f0), .int .i64 ((rd_T32 t361 t368).f1), .slice A371_2 ((rd_T32 t361 t368).f2).length c371_2]) (ok := (fun k_ => (w.heap.size ≤ k_) ∧ k_ ≠ gb358 ∧ k_ ≠ gb359 ∧ k_ ≠ gb360 ∧ k_ ≠ gb366 ∧ k_ ≠ gb370)) (xs := t361) (k := y372.length) (u := .slice (some ⟨go82, 0, none⟩) t361.length co18) (okl := ?okl) (okE := ?okE) k32 (w0 := w) w.heap.size rfl (.tmp 78) (.tmp 80) 24 32 (.agg #[(.int .i64 0), (.int .i64 0), (.slice none 0 0)]) 40 rfl Try.underlying24 info32 rfl (by decide) (by omega) v386 _ _ _ (⟨(rd_T32 t361 t368).f0, (rd_T32 t361 t368).f1, (rd_T32 t361 t368).f2⟩ : S32) rfl rfl ?aO ?aE ?aX ?aW ?aK ?aM ?aF ?aB ?aS ?aL ?_; (case aO => exact (jzR HO387)); (case aE => exact (by (with_reducible repeat (first | apply Kd.Er_alloc | apply Kd.Er_drewN | apply Kd.Er_drew)); exact HO_367000.out)); (case aX => exact HX0.out); (case aW => exact fun _ hk => hk.2); (case aK => exact fun _ hk => hk.1); (case aM => exact fun _ hk => ⟨hk.1, ⟨hk.2.2.1, ⟨hk.2.2.2.1, ⟨hk.2.2.2.2.1, ⟨hk.2.2.2.2.2.1, hk.2.2.2.2.2.2⟩⟩⟩⟩⟩); (case aB => exact (jzG HB)); (case aF => exact (fun k_ hk => ⟨(Nat.le_trans (below_size (jzG HB)) hk), Kd.freshB (g := gb358) (o := .cells #[.slice A0_0 l0_0.length c0_0, .int .i64 a0_1, .int .i64 a0_2] 26 (0, 0)) (jzB BK358) k_ hk, Kd.freshB (g := gb359) (o := .cells #[.slice none 0 0, .int .i64 0, .int .i64 0] 26 (0, 0)) (jzB BK359) k_ hk, Kd.freshB (g := gb360) (o := .cells #[.int .i64 0, .int .i64 0, .slice none 0 0] 32 (0, 0)) (jzB BK360) k_ hk, Kd.freshB (g := gb366) (o := .cells #[.slice AE_ y382.length cE_, .int .i64 (wrap64 (t364 + 1)), .int .i64 t365] 26 (0, 0)) (jzB BK366) k_ hk, Kd.freshB (g := gb370) (o := .cells #[.int .i64 ((rd_T32 t361 t368).f0), .int .i64 ((rd_T32 t361 t368).f1), .slice A371_2 ((rd_T32 t361 t368).f2).length c371_2] 32 (0, 0)) (jzB BK370) k_ hk⟩)); (case aS => exact (below_size (jzG HB))); (case aL => have h1_ := LMc66.out; rw [Ny385.out] at h1_; simp only [List.length_cons, List.length_nil] at h1_; omega); intro v389 w91 ho hb hg hat; rw [show ((⟨(rd_T32 t361 t368).f0, (rd_T32 t361 t368).f1, (rd_T32 t361 t368).f2⟩ : S32) :: t361.eraseIdx y372.length) = y388 from (by rw [Ny388.out, Ny385.out, Ny382.out, KY79.out]; rfl)] at ho; have n0_ : Aside0 True := ⟨trivial⟩; have n1_ := Am (blk_grown (g := gb358) (o := .cells #[.slice A0_0 l0_0.length c0_0, .int .i64 a0_1, .int .i64 a0_2] 26 (0, 0)) (jzB BK358) hg (Kd.R_ne HO387.out BK358.out (by decide))); have n2_ := Am (blk_grown (g := gb359) (o := .cells #[.slice none 0 0, .int .i64 0, .int .i64 0] 26 (0, 0)) (jzB BK359) hg (Kd.R_ne HO387.out BK359.out (by decide))); have n3_ := Am (blk_grown (g := gb360) (o := .cells #[.int .i64 0, .int .i64 0, .slice none 0 0] 32 (0, 0)) (jzB BK360) hg (Kd.R_away HO387.out (fun _ hk => hk.2.2.2.2.1))); have n4_ := Am (blk_grown (g := gb366) (o := .cells #[.slice AE_ y382.length cE_, .int .i64 (wrap64 (t364 + 1)), .int .i64 t365] 26 (0, 0)) (jzB BK366) hg (Kd.R_ne HO387.out BK366.out (by decide))); have n5_ := Am (blk_grown (g := gb370) (o := .cells #[.int .i64 ((rd_T32 t361 t368).f0), .int .i64 ((rd_T32 t361 t368).f1), .slice A371_2 ((rd_T32 t361 t368).f2).length c371_2] 32 (0, 0)) (jzB BK370) hg (Kd.R_away HO387.out (fun _ hk => hk.2.2.2.2.2.2))); have n6_ := Am (Kd.V_afterv (ok := (fun k_ => (w.heap.size ≤ k_) ∧ some k_ ≠ (.slice AE_ y382.length cE_ : Value).ownBlock ∧ k_ ≠ gb358 ∧ k_ ≠ gb359 ∧ k_ ≠ gb360 ∧ k_ ≠ gb366 ∧ k_ ≠ gb370)) (by (with_reducible repeat (first | apply Kd.V_alloc | apply Kd.V_drewN | apply Kd.V_drew)); exact HL371_2.out) hg hat); have n7_ := Am (hb); have n8_ := Am (ho); clear HO_367000; clear BK358; clear BK359; clear BK360; clear BK366; clear BK370; clear HL371_2; clear HB; clear HO387; have HO_367000 := n0_; have BK358 := n1_; have BK359 := n2_; have BK360 := n3_; have BK366 := n4_; have BK370 := n5_; have HL371_2 := n6_; have HB := n7_; have HO390 := n8_; clear n0_ n1_ n2_ n3_ n4_ n5_ n6_ n7_ n8_; clear ho hb hg hat; obtain ⟨Ao92, co92, eo92⟩ := Kd.S_slice HO390.out; subst eo92; have hcz93_0 : w91.cell? ⟨gb366, 0, none⟩ = some (.slice AE_ y382.length cE_) := (b8 BK366.out 0).trans rfl; have hcz93_1 : w91.cell? ⟨gb366, 1, none⟩ = some (.int .i64 (wrap64 (t364 + 1))) := (b8 BK366.out 1).trans rfl; have hcz93_2 : w91.cell? ⟨gb366, 2, none⟩ = some (.int .i64 t365) := (b8 BK366.out 2).trans rfl; have hfz93_0 := blk_frozen BK366.out 0; have hfz93_1 := blk_frozen BK366.out 1; have hfz93_2 := blk_frozen BK366.out 2))
            go_loopg [] kj8 (fun kq w' => ∃ (x367000_2 : List (S32)) (u367000 : Value), Aside0 (impl_FetchGlyph.l0 kq x367000_2 (wrap64 (t364 + 1)) t365 ((rd_T32 t361 t368).f0) ((rd_T32 t361 t368).f1) ((rd_T32 t361 t368).f2) = some (r1, r2, r3, r4, r5, r6, r7)) ∧ Aside0 (kq ≤ kj8) ∧ Aside0 (Kd.S k32 32 w' w.heap.size (fun k_ => (w.heap.size ≤ k_) ∧ k_ ≠ gb358 ∧ k_ ≠ gb359 ∧ k_ ≠ gb360 ∧ k_ ≠ gb366 ∧ k_ ≠ gb370) u367000 x367000_2) ∧ Aside0 (Kd.V (Kd.int .i64) 3 w' w.heap.size (fun k_ => (w.heap.size ≤ k_) ∧ k_ ≠ gb358 ∧ k_ ≠ gb359 ∧ k_ ≠ gb360 ∧ k_ ≠ gb366 ∧ k_ ≠ gb370) (.slice A371_2 ((rd_T32 t361 t368).f2).length c371_2) ((rd_T32 t361 t368).f2)) ∧ Aside0 (w'.heap[gb358]? = some (.cells #[(.slice A0_0 l0_0.length c0_0), .int .i64 a0_1, .int .i64 a0_2] 26 (0, 0))) ∧ Aside0 (w'.heap[gb359]? = some (.cells #[(.slice none 0 0), .int .i64 0, .int .i64 0] 26 (0, 0))) ∧ Aside0 (w'.heap[gb360]? = some (.cells #[.int .i64 0, .int .i64 0, (.slice none 0 0)] 32 (0, 0))) ∧ Aside0 (w'.heap[gb366]? = some (.cells #[u367000, .int .i64 (wrap64 (t364 + 1)), .int .i64 t365] 26 (0, 0))) ∧ Aside0 (w'.heap[gb370]? = some (.cells #[.int .i64 ((rd_T32 t361 t368).f0), .int .i64 ((rd_T32 t361 t368).f1), (.slice A371_2 ((rd_T32 t361 t368).f2).length c371_2)] 32 (0, 0))) ∧ Aside0 (Below w.heap.size w w'))
            case atStart => exact ⟨(y388), (.slice Ao92 y388.length co92), H', ⟨Nat.le_refl _⟩, ⟨by (with_reducible repeat (first | apply Kd.S_alloc | apply Kd.S_drewN | apply Kd.S_drew)); exact Kd.S_mono (Kd.S_far (p := ⟨gb366, 0, none⟩) (Kd.S_mono HO390.out (fun k_ hk => (⟨hk, hk.2.2.2.2.1⟩ : _ ∧ k_ ≠ gb366))) (fun _ hk => hk.2) (.slice Ao92 y388.length co92)) (fun _ hk => ⟨hk.1.1, ⟨hk.1.2.1, ⟨hk.1.2.2.1, ⟨hk.1.2.2.2.1, ⟨hk.1.2.2.2.2.1, hk.1.2.2.2.2.2⟩⟩⟩⟩⟩)⟩, ⟨by (with_reducible repeat (first | apply Kd.V_alloc | apply Kd.V_drewN | apply Kd.V_drew)); exact Kd.V_far (p := ⟨gb366, 0, none⟩) (Kd.V_mono HL371_2.out (fun k_ hk => (⟨hk.1.1, hk.1.2.2⟩ : (w.heap.size ≤ k_) ∧ k_ ≠ gb358 ∧ k_ ≠ gb359 ∧ k_ ≠ gb360 ∧ k_ ≠ gb366 ∧ k_ ≠ gb370))) (fun _ hk => hk.2.2.2.2.1) (.slice Ao92 y388.length co92)⟩, ⟨by (with_reducible repeat (first | refine b1 ?_ _ | refine b2 ?_ | refine b3 ?_ _)); refine blk_far ?_ NB358_366.out _; (with_reducible repeat (first | refine b1 ?_ _ | refine b2 ?_ | refine b3 ?_ _)); exact BK358.out⟩, ⟨by (with_reducible repeat (first | refine b1 ?_ _ | refine b2 ?_ | refine b3 ?_ _)); refine blk_far ?_ NB359_366.out _; (with_reducible repeat (first | refine b1 ?_ _ | refine b2 ?_ | refine b3 ?_ _)); exact BK359.out⟩, ⟨by (with_reducible repeat (first | refine b1 ?_ _ | refine b2 ?_ | refine b3 ?_ _)); refine blk_far ?_ NB360_366.out _; (with_reducible repeat (first | refine b1 ?_ _ | refine b2 ?_ | refine b3 ?_ _)); exact BK360.out⟩, ⟨by (with_reducible repeat (first | refine b1 ?_ _ | refine b2 ?_ | refine b3 ?_ _)); refine blk_put (cs := #[.slice AE_ y382.length cE_, .int .i64 (wrap64 (t364 + 1)), .int .i64 t365]) ?_ 0 _ rfl; (with_reducible repeat (first | refine b1 ?_ _ | refine b2 ?_ | refine b3 ?_ _)); exact BK366.out⟩, ⟨by (with_reducible repeat (first | refine b1 ?_ _ | refine b2 ?_ | refine b3 ?_ _)); refine blk_far ?_ NB370_366.out _; (with_reducible repeat (first | refine b1 ?_ _ | refine b2 ?_ | refine b3 ?_ _)); exact BK370.out⟩, ⟨jzG HB⟩⟩
            case round =>
             clear H'
             try clear c1
             try clear c2
             try clear p2
             try clear c3
             try clear p3
             try clear q3
             try clear hx3
             try clear c4
             try clear c5
             try clear c6
             try clear p6
             try clear c7
             try clear q7
             try clear c8
             try clear q8
             try clear c10
             try clear c13
             try clear c14
             try clear c19
             try clear c20
             try clear c21
             try clear c28
             try clear c28b0
             try clear c29
             try clear c29b0
             try clear c30
             try clear c30b0
             try clear c30b1
             try clear c31
             try clear c32
             try clear c33
             try clear c35
             try clear c36
             try clear c37
             try clear p37
             try clear q37
             try clear hx37
             try clear c39
             try clear c39b0
             try clear c39b1
             try clear c40
             try clear c41
             try clear c42
             try clear c44
             try clear c45
             try clear c46
             try clear c48
             try clear c49
             try clear c50
             try clear c51
             try clear c53
             try clear c54
             try clear c56
             try clear c58
             try clear c58b0
             try clear c59
             try clear c59b0
             try clear c60
             try clear c60b0
             try clear c61
             try clear c61b0
             try clear c62
             try clear c62b0
             try clear c62b1
             try clear c64
             try clear c64b0
             try clear c64b1
             try clear p64
             try clear c65
             try clear c65b0
             try clear c65b1
             try clear c66
             try clear c68
             try clear c69
             try clear c70
             try clear c71
             try clear c73
             try clear c74
             try clear c75
             try clear q79
             try clear c80
             try clear q80
             try clear hcz15_0
             try clear hcz15_1
             try clear hcz15_2
             try clear hcz22_0
             try clear hcz22_1
             try clear hcz22_2
             try clear hcz23_0
             try clear hcz23_1
             try clear hcz23_2
             try clear hcz25_0
             try clear hcz25_1
             try clear hcz25_2
             try clear hcz34_0
             try clear hcz34_1
             try clear hcz34_2
             try clear hcz38_0
             try clear hcz38_1
             try clear hcz38_2
             try clear hcz43_0
             try clear hcz43_1
             try clear hcz43_2
             try clear hcz47_0
             try clear hcz47_1
             try clear hcz47_2
             try clear hcz52_0
             try clear hcz52_1
             try clear hcz52_2
             try clear hcz55_0
             try clear hcz55_1
             try clear hcz55_2
             try clear hcz57_0
             try clear hcz57_1
             try clear hcz57_2
             try clear hcz72_0
             try clear hcz72_1
             try clear hcz72_2
             try clear hcz76_0
             try clear hcz76_1
             try clear hcz76_2
             try clear hcz85_0
             try clear hcz85_1
             try clear hcz85_2
             try clear hcz87_0
             try clear hcz87_1
             try clear hcz87_2
             try clear hcz90_0
             try clear hcz90_1
             try clear hcz90_2
             try clear hcz93_0
             try clear hcz93_1
             try clear hcz93_2
             try clear hfz15_0
             try clear hfz15_1
             try clear hfz15_2
             try clear hfz22_0
             try clear hfz22_1
             try clear hfz22_2
             try clear hfz23_0
             try clear hfz23_1
             try clear hfz23_2
             try clear hfz25_0
             try clear hfz25_1
             try clear hfz25_2
             try clear hfz34_0
             try clear hfz34_1
             try clear hfz34_2
             try clear hfz38_0
             try clear hfz38_1
             try clear hfz38_2
             try clear hfz43_0
             try clear hfz43_1
             try clear hfz43_2
             try clear hfz47_0
             try clear hfz47_1
             try clear hfz47_2
             try clear hfz52_0
             try clear hfz52_1
             try clear hfz52_2
             try clear hfz55_0
             try clear hfz55_1
             try clear hfz55_2
             try clear hfz57_0
             try clear hfz57_1
             try clear hfz57_2
             try clear hfz72_0
             try clear hfz72_1
             try clear hfz72_2
             try clear hfz76_0
             try clear hfz76_1
             try clear hfz76_2
             try clear hfz85_0
             try clear hfz85_1
             try clear hfz85_2
             try clear hfz87_0
             try clear hfz87_1
             try clear hfz87_2
             try clear hfz90_0
             try clear hfz90_1
             try clear hfz90_2
             try clear hfz93_0
             try clear hfz93_1
             try clear hfz93_2
             try clear hx371_0
             try clear hx371_1
             try clear hx371_2
             try clear p2
             try clear p371
             try clear q080
             try clear q371
             try clear q79
             try clear q80
             try clear HL9
             try clear HL371_2
             obtain ⟨x367000_2, u367000, HA, HK2, HO_367000, HL9, BK358, BK359, BK360, BK366, BK370, HB⟩ := hrel
             cases gk with
             | zero => exact absurd HA.out (by simp [impl_FetchGlyph.l0])
             | succ k2 =>
              have H := HA.out
              clear HA
              simp only [impl_FetchGlyph.l0] at H
              replace H := Option.bind_eq_some_iff.mp H
              obtain ⟨t391, A940, H⟩ := H
              replace H : (if t391 > 20 then (if 0 ≤ (wrap64 ((x367000_2.length : Int) - 1)) then (if (wrap64 ((x367000_2.length : Int) - 1)) ≤ (x367000_2.length : Int) then (impl_FetchGlyph.l0 k2 (x367000_2.take ((wrap64 ((x367000_2.length : Int) - 1)) : Int).toNat) (wrap64 (t364 + 1)) t365 ((rd_T32 t361 t368).f0) ((rd_T32 t361 t368).f1) ((rd_T32 t361 t368).f2)) else (none)) else (none)) else ((impl_copyGlyph.f ((rd_T32 t361 t368).f0) ((rd_T32 t361 t368).f1) ((rd_T32 t361 t368).f2)).bind fun bt395 => (some (x367000_2, (wrap64 (t364 + 1)), t365, bt395.1, bt395.2.1, bt395.2.2, true)))) = some (r1, r2, r3, r4, r5, r6, r7) := H
              have A94 := Am A940
              clear A940
              by_cases c95 : t391 > 20
              ·rw [if_pos c95] at H
               have c95b0 : decide (20 < t391) = true := decide_eq_true c95
               clear c95
               obtain ⟨ji96, hji96⟩ : ∃ j_ : Int, (wrap64 ((x367000_2.length : Int) - 1)) = j_ := ⟨_, rfl⟩
               replace H : (if 0 ≤ (ji96) then (if (ji96) ≤ (x367000_2.length : Int) then (impl_FetchGlyph.l0 k2 (x367000_2.take ((ji96) : Int).toNat) (wrap64 (t364 + 1)) t365 ((rd_T32 t361 t368).f0) ((rd_T32 t361 t368).f1) ((rd_T32 t361 t368).f2)) else (none)) else (none)) = some (r1, r2, r3, r4, r5, r6, r7) := by first | (rw [hji96] at H; exact H) | (simp only [hji96] at H ⊢; exact H)
               (try rw [hji96] at A94)
               have hji96w : (IntKind.i64.wrap ((x367000_2.length : Int) - 1)) = ji96 := (i64_w _).trans hji96
               by_cases c97 : 0 ≤ (ji96)
               ·rw [if_pos c97] at H
                have c97b0 := eq_true c97
                have c97b1 : decide (0 ≤ (ji96)) = true := decide_eq_true c97
                clear c97
                by_cases c98 : (ji96) ≤ (x367000_2.length : Int)
                ·rw [if_pos c98] at H
                 have c98b0 := eq_true c98
                 have c98b1 : decide ((ji96) ≤ (x367000_2.length : Int)) = true := decide_eq_true c98
                 clear c98
                 obtain ⟨y392, hy392⟩ : ∃ y_ : List (S32), y_ = (x367000_2.take ((ji96) : Int).toNat) := ⟨_, rfl⟩
                 replace H : (impl_FetchGlyph.l0 k2 y392 (wrap64 (t364 + 1)) t365 ((rd_T32 t361 t368).f0) ((rd_T32 t361 t368).f1) ((rd_T32 t361 t368).f2)) = some (r1, r2, r3, r4, r5, r6, r7) := by first | (rw [hy392]; with_reducible exact H) | (have H2_ := (Option.bind_some _ _).symm.trans H; rw [hy392]; with_reducible exact H2_) | (have H2_ := (Option.bind_some _ _).symm.trans H; with_reducible exact H2_) | with_reducible exact H | (rw [hy392]; exact H) | exact H
                 have Ny392 := Am hy392
                 clear hy392
                 have H' := Am H
                 clear H
                 have hnb99 := NB366_358.out
                 have hnc99 := NB358_366.out
                 have hnb100 := NB366_359.out
                 have hnc100 := NB359_366.out
                 have hnb101 := NB366_360.out
                 have hnc101 := NB360_366.out
                 have hnb102 := NB366_370.out
                 have hnc102 := NB370_366.out
                 have hcz103_0 : wr.cell? ⟨gb366, 0, none⟩ = some (u367000) := (b8 BK366.out 0).trans rfl
                 have hcz103_1 : wr.cell? ⟨gb366, 1, none⟩ = some (.int .i64 (wrap64 (t364 + 1))) := (b8 BK366.out 1).trans rfl
                 have hcz103_2 : wr.cell? ⟨gb366, 2, none⟩ = some (.int .i64 t365) := (b8 BK366.out 2).trans rfl
                 have hfz103_0 := blk_frozen BK366.out 0
                 have hfz103_1 := blk_frozen BK366.out 1
                 have hfz103_2 := blk_frozen BK366.out 2
                 obtain ⟨Ao104, co104, eo104⟩ := Kd.S_slice HO_367000.out
                 subst eo104
                 go_wp2_with (first | ((with_reducible refine gate_callee (f := 17) rfl ?_); refine goesL_ (some 84) rfl rfl Try.func17 (by kernel_rfl) rfl #[.agg #[.slice Ao104 x367000_2.length co104, .int .i64 (wrap64 (t364 + 1)), .int .i64 t365]] rfl jzA ?_; (with_reducible refine (impl_CacheSize.calls k2 _ _ x367000_2 (wrap64 (t364 + 1)) t365 t391 _ ?side1 ?side2 A94.out).mono ?_); (case side1 => exact jzD ((Kd.S_reads' HO_367000.out).2.2)); (case side2 => exact (Kd.S_reads' HO_367000.out).2.1); rintro e w105 ⟨rfl, hb⟩; refine ⟨_, rfl, ?_⟩; have n0_ := Am (Kd.S_below (jzO HO_367000) hb); have n1_ := Am (blk_below (g := gb358) (o := .cells #[.slice A0_0 l0_0.length c0_0, .int .i64 a0_1, .int .i64 a0_2] 26 (0, 0)) (jzB BK358) hb); have n2_ := Am (blk_below (g := gb359) (o := .cells #[.slice none 0 0, .int .i64 0, .int .i64 0] 26 (0, 0)) (jzB BK359) hb); have n3_ := Am (blk_below (g := gb360) (o := .cells #[.int .i64 0, .int .i64 0, .slice none 0 0] 32 (0, 0)) (jzB BK360) hb); have n4_ := Am (blk_below (g := gb366) (o := .cells #[.slice Ao104 x367000_2.length co104, .int .i64 (wrap64 (t364 + 1)), .int .i64 t365] 26 (0, 0)) (jzB BK366) hb); have n5_ := Am (blk_below (g := gb370) (o := .cells #[.int .i64 ((rd_T32 t361 t368).f0), .int .i64 ((rd_T32 t361 t368).f1), .slice A371_2 ((rd_T32 t361 t368).f2).length c371_2] 32 (0, 0)) (jzB BK370) hb); have n6_ := Am (below_step (jzG HB) hb); have nL_ := Am (Kd.V_below (by (with_reducible repeat (first | apply Kd.V_alloc | apply Kd.V_drewN | apply Kd.V_drew)); exact HL9.out) hb); clear HL9; have HL9 := nL_; clear nL_; clear HO_367000; clear BK358; clear BK359; clear BK360; clear BK366; clear BK370; clear HB; have HO_367000 := n0_; have BK358 := n1_; have BK359 := n2_; have BK360 := n3_; have BK366 := n4_; have BK370 := n5_; have HB := n6_; clear n0_ n1_ n2_ n3_ n4_ n5_ n6_; (try clear hb); (try clear hb2); (try clear hk); (try clear hi); have hcz106_0 : w105.cell? ⟨gb366, 0, none⟩ = some (.slice Ao104 x367000_2.length co104) := (b8 BK366.out 0).trans rfl; have hcz106_1 : w105.cell? ⟨gb366, 1, none⟩ = some (.int .i64 (wrap64 (t364 + 1))) := (b8 BK366.out 1).trans rfl; have hcz106_2 : w105.cell? ⟨gb366, 2, none⟩ = some (.int .i64 t365) := (b8 BK366.out 2).trans rfl; have hfz106_0 := blk_frozen BK366.out 0; have hfz106_1 := blk_frozen BK366.out 1; have hfz106_2 := blk_frozen BK366.out 2; have q107 : ((ji96) : Int) ≤ ((x367000_2.length : Int) : Int) := of_decide_eq_true jzS; obtain ⟨i0107, hi0107, _, hsz107, _⟩ := info_parts info32; have hcut107 := cut_to (P := Try.prog) 24 32 .i64 Try.underlying24 hi0107 Ao104 x367000_2.length co104 (ji96) (of_decide_eq_true jzS) q107 (Kd.S_reads' HO_367000.out).2.1; have hr107 := Kd.S_take (m := ((ji96) : Int).toNat) HO_367000.out (by omega); have hy107 : y392.length = ((ji96) : Int).toNat := (by rw [Ny392.out, List.length_take]; omega); rw [← Ny392.out] at hr107; rw [← hy107] at hr107 hcut107; clear hy107 hi0107 hsz107 HO_367000; have HO394 := Am hr107; clear hr107; replace q107 := eq_true q107))
                 go_roundg k2
                 case measure => have := HJ8.out; have := HK2.out; omega
                 case rel => exact ⟨(y392), (.slice Ao104 y392.length co104), H', ⟨by have := HJ8.out; have := HK2.out; omega⟩, ⟨by (with_reducible repeat (first | apply Kd.S_alloc | apply Kd.S_drewN | apply Kd.S_drew)); exact Kd.S_mono (Kd.S_far (p := ⟨gb366, 0, none⟩) (Kd.S_mono HO394.out (fun k_ hk => (⟨hk, hk.2.2.2.2.1⟩ : _ ∧ k_ ≠ gb366))) (fun _ hk => hk.2) (.slice Ao104 y392.length co104)) (fun _ hk => ⟨hk.1.1, ⟨hk.1.2.1, ⟨hk.1.2.2.1, ⟨hk.1.2.2.2.1, ⟨hk.1.2.2.2.2.1, hk.1.2.2.2.2.2⟩⟩⟩⟩⟩)⟩, ⟨by (with_reducible repeat (first | apply Kd.V_alloc | apply Kd.V_drewN | apply Kd.V_drew)); exact Kd.V_far (p := ⟨gb366, 0, none⟩) HL9.out (fun _ hk => hk.2.2.2.2.1) (.slice Ao104 y392.length co104)⟩, ⟨by (with_reducible repeat (first | refine b1 ?_ _ | refine b2 ?_ | refine b3 ?_ _)); refine blk_far ?_ NB358_366.out _; (with_reducible repeat (first | refine b1 ?_ _ | refine b2 ?_ | refine b3 ?_ _)); exact BK358.out⟩, ⟨by (with_reducible repeat (first | refine b1 ?_ _ | refine b2 ?_ | refine b3 ?_ _)); refine blk_far ?_ NB359_366.out _; (with_reducible repeat (first | refine b1 ?_ _ | refine b2 ?_ | refine b3 ?_ _)); exact BK359.out⟩, ⟨by (with_reducible repeat (first | refine b1 ?_ _ | refine b2 ?_ | refine b3 ?_ _)); refine blk_far ?_ NB360_366.out _; (with_reducible repeat (first | refine b1 ?_ _ | refine b2 ?_ | refine b3 ?_ _)); exact BK360.out⟩, ⟨by (with_reducible repeat (first | refine b1 ?_ _ | refine b2 ?_ | refine b3 ?_ _)); refine blk_put (cs := #[.slice Ao104 x367000_2.length co104, .int .i64 (wrap64 (t364 + 1)), .int .i64 t365]) ?_ 0 _ rfl; (with_reducible repeat (first | refine b1 ?_ _ | refine b2 ?_ | refine b3 ?_ _)); exact BK366.out⟩, ⟨by (with_reducible repeat (first | refine b1 ?_ _ | refine b2 ?_ | refine b3 ?_ _)); refine blk_far ?_ NB370_366.out _; (with_reducible repeat (first | refine b1 ?_ _ | refine b2 ?_ | refine b3 ?_ _)); exact BK370.out⟩, ⟨jzG HB⟩⟩
                ·rw [if_neg c98] at H
                 exact absurd H (by simp)
               ·rw [if_neg c97] at H
                exact absurd H (by simp)
              ·rw [if_neg c95] at H
               have c95b0 : decide (20 < t391) = false := decide_eq_false c95
               clear c95
               replace H := Option.bind_eq_some_iff.mp H
               obtain ⟨⟨t395, t396, t397⟩, A1080, H⟩ := H
               replace H : (some (x367000_2, (wrap64 (t364 + 1)), t365, t395, t396, t397, true)) = some (r1, r2, r3, r4, r5, r6, r7) := H
               have A108 := Am A1080
               clear A1080
               simp only [Option.some.injEq, Prod.mk.injEq] at H
               obtain ⟨rfl, rfl, rfl, rfl, rfl, rfl, rfl⟩ := H
               have hnb109 := NB366_358.out
               have hnc109 := NB358_366.out
               have hnb110 := NB366_359.out
               have hnc110 := NB359_366.out
               have hnb111 := NB366_360.out
               have hnc111 := NB360_366.out
               have hnb112 := NB366_370.out
               have hnc112 := NB370_366.out
               have hcz113_0 : wr.cell? ⟨gb366, 0, none⟩ = some (u367000) := (b8 BK366.out 0).trans rfl
               have hcz113_1 : wr.cell? ⟨gb366, 1, none⟩ = some (.int .i64 (wrap64 (t364 + 1))) := (b8 BK366.out 1).trans rfl
               have hcz113_2 : wr.cell? ⟨gb366, 2, none⟩ = some (.int .i64 t365) := (b8 BK366.out 2).trans rfl
               have hfz113_0 := blk_frozen BK366.out 0
               have hfz113_1 := blk_frozen BK366.out 1
               have hfz113_2 := blk_frozen BK366.out 2
               obtain ⟨Ao114, co114, eo114⟩ := Kd.S_slice HO_367000.out
               subst eo114
               try go_wp2_with (first | ((with_reducible refine gate_callee (f := 17) rfl ?_); refine goesL_ (some 84) rfl rfl Try.func17 (by kernel_rfl) rfl #[.agg #[.slice Ao114 x367000_2.length co114, .int .i64 (wrap64 (t364 + 1)), .int .i64 t365]] rfl jzA ?_; (with_reducible refine (impl_CacheSize.calls k2 _ _ x367000_2 (wrap64 (t364 + 1)) t365 t391 _ ?side1 ?side2 A94.out).mono ?_); (case side1 => exact jzD ((Kd.S_reads' HO_367000.out).2.2)); (case side2 => exact (Kd.S_reads' HO_367000.out).2.1); rintro e w115 ⟨rfl, hb⟩; refine ⟨_, rfl, ?_⟩; have n0_ := Am (Kd.S_below (jzO HO_367000) hb); have n1_ := Am (blk_below (g := gb358) (o := .cells #[.slice A0_0 l0_0.length c0_0, .int .i64 a0_1, .int .i64 a0_2] 26 (0, 0)) (jzB BK358) hb); have n2_ := Am (blk_below (g := gb359) (o := .cells #[.slice none 0 0, .int .i64 0, .int .i64 0] 26 (0, 0)) (jzB BK359) hb); have n3_ := Am (blk_below (g := gb360) (o := .cells #[.int .i64 0, .int .i64 0, .slice none 0 0] 32 (0, 0)) (jzB BK360) hb); have n4_ := Am (blk_below (g := gb366) (o := .cells #[.slice Ao114 x367000_2.length co114, .int .i64 (wrap64 (t364 + 1)), .int .i64 t365] 26 (0, 0)) (jzB BK366) hb); have n5_ := Am (blk_below (g := gb370) (o := .cells #[.int .i64 ((rd_T32 t361 t368).f0), .int .i64 ((rd_T32 t361 t368).f1), .slice A371_2 ((rd_T32 t361 t368).f2).length c371_2] 32 (0, 0)) (jzB BK370) hb); have n6_ := Am (below_step (jzG HB) hb); have nL_ := Am (Kd.V_below (by (with_reducible repeat (first | apply Kd.V_alloc | apply Kd.V_drewN | apply Kd.V_drew)); exact HL9.out) hb); clear HL9; have HL9 := nL_; clear nL_; clear HO_367000; clear BK358; clear BK359; clear BK360; clear BK366; clear BK370; clear HB; have HO_367000 := n0_; have BK358 := n1_; have BK359 := n2_; have BK360 := n3_; have BK366 := n4_; have BK370 := n5_; have HB := n6_; clear n0_ n1_ n2_ n3_ n4_ n5_ n6_; (try clear hb); (try clear hb2); (try clear hk); (try clear hi)))
               have nL_ := Am (Kd.V_drew HL9.out)
               clear HL9
               have HL9 := nL_
               clear nL_
               have n0_ := Am (Kd.S_drew HO_367000.out)
               have n1_ := Am (b2 BK358.out)
               have n2_ := Am (b2 BK359.out)
               have n3_ := Am (b2 BK360.out)
               have n4_ := Am (b2 BK366.out)
               have n5_ := Am (b2 BK370.out)
               have n6_ := Am (b6 HB.out)
               clear HO_367000
               clear BK358
               clear BK359
               clear BK360
               clear BK366
               clear BK370
               clear HB
               have HO_367000 := n0_
               have BK358 := n1_
               have BK359 := n2_
               have BK360 := n3_
               have BK366 := n4_
               have BK370 := n5_
               have HB := n6_
               clear n0_ n1_ n2_ n3_ n4_ n5_ n6_
               refine start_ (n := 6) (S := fun w' => w'.cell? ⟨gb366, 0, none⟩ = some (.slice Ao114 x367000_2.length co114) ∧ w'.cell? ⟨gb366, 1, none⟩ = some (.int .i64 (wrap64 (t364 + 1))) ∧ w'.cell? ⟨gb366, 2, none⟩ = some (.int .i64 t365) ∧ w'.cell? ⟨gb370, 0, none⟩ = some (.int .i64 ((rd_T32 t361 t368).f0)) ∧ w'.cell? ⟨gb370, 1, none⟩ = some (.int .i64 ((rd_T32 t361 t368).f1)) ∧ w'.cell? ⟨gb370, 2, none⟩ = some (.slice A371_2 ((rd_T32 t361 t368).f2).length c371_2)) (ds := []) #[F,F,F,F,F,F] (by kernel_rfl) rfl rfl ⟨(b8 BK366.out 0).trans rfl, (b8 BK366.out 1).trans rfl, (b8 BK366.out 2).trans rfl, (b8 BK370.out 0).trans rfl, (b8 BK370.out 1).trans rfl, (b8 BK370.out 2).trans rfl⟩ (fun hHeld => ?_)
               generalize w115.drew = w116 at HO_367000 HL9 BK358 BK359 BK360 BK366 BK370 HB hHeld ⊢
               refine take_ (i := 0) (N := some 94) (v := ?_) (a' := ?_) #[T,F,F,F,F,F] rfl rfl (by kernel_rfl) (fun _ _ _ h => h) (Or.inl ⟨by rfl, ?_⟩) hHeld ?_ ?_
               rotate_left; rintro w' ⟨s0, s1, s2, s3, s4, s5⟩; go_simp; with_reducible rfl; rotate_left; simp only [Act.put, zA, zB, zC, i64_w, i32_w]; rfl
               refine take_ (i := 1) (N := some 95) (v := ?_) (a' := ?_) #[T,T,F,F,F,F] rfl rfl (by kernel_rfl) (fun _ _ _ h => h) (Or.inl ⟨by rfl, ?_⟩) hHeld ?_ ?_
               rotate_left; rintro w' ⟨s0, s1, s2, s3, s4, s5⟩; go_simp; with_reducible rfl; rotate_left; simp only [Act.put, zA, zB, zC, i64_w, i32_w]; rfl
               refine one_ (i := 2) (N := some 96) #[T,T,T,F,F,F] rfl rfl (by kernel_rfl) (by decide) (fun K hK => ?_)
               refine goes_ Try.func38 (by kernel_rfl) rfl #[.agg #[.int .i64 ((rd_T32 t361 t368).f0), .int .i64 ((rd_T32 t361 t368).f1), .slice A371_2 ((rd_T32 t361 t368).f2).length c371_2]] (by rfl) rfl rfl jzA ?_
               with_reducible refine (impl_copyGlyph.calls ((rd_T32 t361 t368).f0) ((rd_T32 t361 t368).f1) _ _ ((rd_T32 t361 t368).f2) t395 t396 t397 _ ?side1 ?side2 A108.out).mono ?_
               (case side1 => exact jzD ((Kd.V_reads' HL9.out).2.2))
               (case side2 => exact (Kd.V_reads' HL9.out).2.1)
               rintro e w117 ⟨v398, rfl, ho0, hb⟩
               refine ⟨_, rfl, ?_⟩
               clear HL9
               have n0_ := Am (Kd.S_elder' (jzO HO_367000) (Kd.R_base ho0) hb)
               have n1_ := Am (Kd.R_lower (Kd.R_newM (M := fun k_ => (w.heap.size ≤ k_)) ho0 (below_size (jzG HB)) (fun k_ h_ => h_)) (below_size (jzG HB)))
               have n2_ := Am (blk_below (g := gb358) (o := .cells #[.slice A0_0 l0_0.length c0_0, .int .i64 a0_1, .int .i64 a0_2] 26 (0, 0)) (jzB BK358) hb)
               have n3_ := Am (blk_below (g := gb359) (o := .cells #[.slice none 0 0, .int .i64 0, .int .i64 0] 26 (0, 0)) (jzB BK359) hb)
               have n4_ := Am (blk_below (g := gb360) (o := .cells #[.int .i64 0, .int .i64 0, .slice none 0 0] 32 (0, 0)) (jzB BK360) hb)
               have n5_ := Am (blk_below (g := gb366) (o := .cells #[.slice Ao114 x367000_2.length co114, .int .i64 (wrap64 (t364 + 1)), .int .i64 t365] 26 (0, 0)) (jzB BK366) hb)
               have n6_ := Am (blk_below (g := gb370) (o := .cells #[.int .i64 ((rd_T32 t361 t368).f0), .int .i64 ((rd_T32 t361 t368).f1), .slice A371_2 ((rd_T32 t361 t368).f2).length c371_2] 32 (0, 0)) (jzB BK370) hb)
               have n7_ := Am (below_step (jzG HB) hb)
               clear HO_367000
               clear BK358
               clear BK359
               clear BK360
               clear BK366
               clear BK370
               clear HB
               have HO_367000 := n0_
               have HO399 := n1_
               have BK358 := n2_
               have BK359 := n3_
               have BK360 := n4_
               have BK366 := n5_
               have BK370 := n6_
               have HB := n7_
               clear n0_ n1_ n2_ n3_ n4_ n5_ n6_ n7_
               (try clear hb)
               (try clear hb2)
               (try clear hk)
               (try clear hi)
               (try clear ho0)
               obtain ⟨Ao123, co123, eo123⟩ := Kd.R_slice HO399.out
               (first | subst eo123 | (injection eo123 with f1_ f2_ f3_; have f4_ := f1_.symm; have f5_ := f3_.symm; clear f1_ f2_ f3_; subst f4_; subst f5_))
               refine hK.out _ _ ⟨(b8 BK366.out 0).trans rfl, (b8 BK366.out 1).trans rfl, (b8 BK366.out 2).trans rfl, (b8 BK370.out 0).trans rfl, (b8 BK370.out 1).trans rfl, (b8 BK370.out 2).trans rfl⟩ (fun hHeld => ?_)
               clear hK K
               refine norm_ (a' := ?_) ?_ ?_
               rotate_left
               ·show Act.put _ (some 96) _ = _
                simp only [Act.put, zA, zB, zC, i64_w, i32_w]
                rfl
               refine one_ (i := 3) (N := none) #[T,T,T,T,F,F] rfl rfl (by kernel_rfl) (by decide) (fun K hK => ?_)
               have hs118 : w117.cell? ⟨gb359, 0, none⟩ = some (.slice none 0 0) := (b8 BK359.out 0).trans rfl
               have hfs118 := blk_frozen BK359.out 0
               have hns118_0 := NB358_359.out
               have hns118_2 := NB360_359.out
               have hns118_3 := NB366_359.out
               have hns118_4 := NB370_359.out
               have hms118_0 := NB359_358.out
               have hms118_2 := NB359_360.out
               have hms118_3 := NB359_366.out
               have hms118_4 := NB359_370.out
               have hs119 : w117.cell? ⟨gb359, 1, none⟩ = some (.int .i64 0) := (b8 BK359.out 1).trans rfl
               have hfs119 := blk_frozen BK359.out 1
               have hns119_0 := NB358_359.out
               have hns119_2 := NB360_359.out
               have hns119_3 := NB366_359.out
               have hns119_4 := NB370_359.out
               have hms119_0 := NB359_358.out
               have hms119_2 := NB359_360.out
               have hms119_3 := NB359_366.out
               have hms119_4 := NB359_370.out
               have hs120 : w117.cell? ⟨gb359, 2, none⟩ = some (.int .i64 0) := (b8 BK359.out 2).trans rfl
               have hfs120 := blk_frozen BK359.out 2
               have hns120_0 := NB358_359.out
               have hns120_2 := NB360_359.out
               have hns120_3 := NB366_359.out
               have hns120_4 := NB370_359.out
               have hms120_0 := NB359_358.out
               have hms120_2 := NB359_360.out
               have hms120_3 := NB359_366.out
               have hms120_4 := NB359_370.out
               refine skip_ (w1 := ?_) (by rfl) rfl ?_ ?_
               rotate_left
               ·go_simp
                rfl
               refine hK.out _ _ ⟨((cell_far (p := ⟨gb359, _, none⟩) NB366_359.out _).trans (((cell_far (p := ⟨gb359, _, none⟩) NB366_359.out _).trans (((cell_far (p := ⟨gb359, _, none⟩) NB366_359.out _).trans (hHeld.1)))))), ((cell_far (p := ⟨gb359, _, none⟩) NB366_359.out _).trans (((cell_far (p := ⟨gb359, _, none⟩) NB366_359.out _).trans (((cell_far (p := ⟨gb359, _, none⟩) NB366_359.out _).trans (hHeld.2.1)))))), ((cell_far (p := ⟨gb359, _, none⟩) NB366_359.out _).trans (((cell_far (p := ⟨gb359, _, none⟩) NB366_359.out _).trans (((cell_far (p := ⟨gb359, _, none⟩) NB366_359.out _).trans (hHeld.2.2.1)))))), ((cell_far (p := ⟨gb359, _, none⟩) NB370_359.out _).trans (((cell_far (p := ⟨gb359, _, none⟩) NB370_359.out _).trans (((cell_far (p := ⟨gb359, _, none⟩) NB370_359.out _).trans (hHeld.2.2.2.1)))))), ((cell_far (p := ⟨gb359, _, none⟩) NB370_359.out _).trans (((cell_far (p := ⟨gb359, _, none⟩) NB370_359.out _).trans (((cell_far (p := ⟨gb359, _, none⟩) NB370_359.out _).trans (hHeld.2.2.2.2.1)))))), ((cell_far (p := ⟨gb359, _, none⟩) NB370_359.out _).trans (((cell_far (p := ⟨gb359, _, none⟩) NB370_359.out _).trans (((cell_far (p := ⟨gb359, _, none⟩) NB370_359.out _).trans (hHeld.2.2.2.2.2))))))⟩ (fun hHeld => ?_)
               clear hK K
               refine one_ (i := 4) (N := none) #[T,T,T,T,T,F] rfl rfl (by kernel_rfl) (by decide) (fun K hK => ?_)
               have hs121 : w117.cell? ⟨gb360, 0, none⟩ = some (.int .i64 0) := (b8 BK360.out 0).trans rfl
               have hfs121 := blk_frozen BK360.out 0
               have hns121_0 := NB358_360.out
               have hns121_1 := NB359_360.out
               have hns121_3 := NB366_360.out
               have hns121_4 := NB370_360.out
               have hms121_0 := NB360_358.out
               have hms121_1 := NB360_359.out
               have hms121_3 := NB360_366.out
               have hms121_4 := NB360_370.out
               have hs122 : w117.cell? ⟨gb360, 1, none⟩ = some (.int .i64 0) := (b8 BK360.out 1).trans rfl
               have hfs122 := blk_frozen BK360.out 1
               have hns122_0 := NB358_360.out
               have hns122_1 := NB359_360.out
               have hns122_3 := NB366_360.out
               have hns122_4 := NB370_360.out
               have hms122_0 := NB360_358.out
               have hms122_1 := NB360_359.out
               have hms122_3 := NB360_366.out
               have hms122_4 := NB360_370.out
               have hs124 : w117.cell? ⟨gb360, 2, none⟩ = some (.slice none 0 0) := (b8 BK360.out 2).trans rfl
               have hfs124 := blk_frozen BK360.out 2
               have hns124_0 := NB358_360.out
               have hns124_1 := NB359_360.out
               have hns124_3 := NB366_360.out
               have hns124_4 := NB370_360.out
               have hms124_0 := NB360_358.out
               have hms124_1 := NB360_359.out
               have hms124_3 := NB360_366.out
               have hms124_4 := NB360_370.out
               refine skip_ (w1 := ?_) (by rfl) rfl ?_ ?_
               rotate_left
               ·go_simp
                rfl
               refine hK.out _ _ ⟨((cell_far (p := ⟨gb360, _, none⟩) NB366_360.out _).trans (((cell_far (p := ⟨gb360, _, none⟩) NB366_360.out _).trans (((cell_far (p := ⟨gb360, _, none⟩) NB366_360.out _).trans (hHeld.1)))))), ((cell_far (p := ⟨gb360, _, none⟩) NB366_360.out _).trans (((cell_far (p := ⟨gb360, _, none⟩) NB366_360.out _).trans (((cell_far (p := ⟨gb360, _, none⟩) NB366_360.out _).trans (hHeld.2.1)))))), ((cell_far (p := ⟨gb360, _, none⟩) NB366_360.out _).trans (((cell_far (p := ⟨gb360, _, none⟩) NB366_360.out _).trans (((cell_far (p := ⟨gb360, _, none⟩) NB366_360.out _).trans (hHeld.2.2.1)))))), ((cell_far (p := ⟨gb360, _, none⟩) NB370_360.out _).trans (((cell_far (p := ⟨gb360, _, none⟩) NB370_360.out _).trans (((cell_far (p := ⟨gb360, _, none⟩) NB370_360.out _).trans (hHeld.2.2.2.1)))))), ((cell_far (p := ⟨gb360, _, none⟩) NB370_360.out _).trans (((cell_far (p := ⟨gb360, _, none⟩) NB370_360.out _).trans (((cell_far (p := ⟨gb360, _, none⟩) NB370_360.out _).trans (hHeld.2.2.2.2.1)))))), ((cell_far (p := ⟨gb360, _, none⟩) NB370_360.out _).trans (((cell_far (p := ⟨gb360, _, none⟩) NB370_360.out _).trans (((cell_far (p := ⟨gb360, _, none⟩) NB370_360.out _).trans (hHeld.2.2.2.2.2))))))⟩ (fun hHeld => ?_)
               clear hK K
               refine pure_ (i := 5) (N := some 8) (v := ?_) (a' := ?_) #[T,T,T,T,T,T] rfl rfl (by kernel_rfl) (fun _ _ _ h => h) (Or.inl ⟨by rfl, ?_⟩) ?_ ?_
               rotate_left; intro w'; go_simp; with_reducible rfl; rotate_left; simp only [Act.put, zA, zB, zC, i64_w, i32_w]; rfl
               refine done_ (by kernel_rfl) ?_
               try go_wp2
               refine bodyPost_ret (results_list (rs := [.cell 6 26, .cell 7 32, .tmp 8]) rfl (by simp) (.cell gb359 26 #[.slice Ao114 x367000_2.length co114, .int .i64 (wrap64 (t364 + 1)), .int .i64 t365] (0, 0) _ rfl (by (with_reducible repeat (first | refine b1 ?_ _ | refine b2 ?_ | refine b3 ?_ _)); refine blk_far ?_ NB359_360.out _; (with_reducible repeat (first | refine b1 ?_ _ | refine b2 ?_ | refine b3 ?_ _)); refine blk_far ?_ NB359_360.out _; (with_reducible repeat (first | refine b1 ?_ _ | refine b2 ?_ | refine b3 ?_ _)); refine blk_far ?_ NB359_360.out _; (with_reducible repeat (first | refine b1 ?_ _ | refine b2 ?_ | refine b3 ?_ _)); refine blk_put (cs := #[.slice Ao114 x367000_2.length co114, .int .i64 (wrap64 (t364 + 1)), .int .i64 0]) ?_ 2 _ rfl; (with_reducible repeat (first | refine b1 ?_ _ | refine b2 ?_ | refine b3 ?_ _)); refine blk_put (cs := #[.slice Ao114 x367000_2.length co114, .int .i64 0, .int .i64 0]) ?_ 1 _ rfl; (with_reducible repeat (first | refine b1 ?_ _ | refine b2 ?_ | refine b3 ?_ _)); refine blk_put (cs := #[.slice none 0 0, .int .i64 0, .int .i64 0]) ?_ 0 _ rfl; (with_reducible repeat (first | refine b1 ?_ _ | refine b2 ?_ | refine b3 ?_ _)); exact BK359.out) Try.underlying26 rfl (by kernel_rfl) (.cell gb360 32 #[.int .i64 t395, .int .i64 t396, .slice Ao123 t397.length co123] (0, 0) _ rfl (by (with_reducible repeat (first | refine b1 ?_ _ | refine b2 ?_ | refine b3 ?_ _)); refine blk_put (cs := #[.int .i64 t395, .int .i64 t396, .slice none 0 0]) ?_ 2 _ rfl; (with_reducible repeat (first | refine b1 ?_ _ | refine b2 ?_ | refine b3 ?_ _)); refine blk_put (cs := #[.int .i64 t395, .int .i64 0, .slice none 0 0]) ?_ 1 _ rfl; (with_reducible repeat (first | refine b1 ?_ _ | refine b2 ?_ | refine b3 ?_ _)); refine blk_put (cs := #[.int .i64 0, .int .i64 0, .slice none 0 0]) ?_ 0 _ rfl; (with_reducible repeat (first | refine b1 ?_ _ | refine b2 ?_ | refine b3 ?_ _)); refine blk_far ?_ NB360_359.out _; (with_reducible repeat (first | refine b1 ?_ _ | refine b2 ?_ | refine b3 ?_ _)); refine blk_far ?_ NB360_359.out _; (with_reducible repeat (first | refine b1 ?_ _ | refine b2 ?_ | refine b3 ?_ _)); refine blk_far ?_ NB360_359.out _; (with_reducible repeat (first | refine b1 ?_ _ | refine b2 ?_ | refine b3 ?_ _)); exact BK360.out) Try.underlying32 rfl (by kernel_rfl) (.tmp .nil)))) rfl ?_
               exact ⟨_, _, by first | rfl | (simp [errW_none, errW_some] <;> rfl) | (simp only [← hji63]; first | rfl | (simp [errW_none, errW_some] <;> rfl)) | (simp [*, errW_none, errW_some] <;> rfl), by (with_reducible repeat (first | apply Kd.S_alloc | apply Kd.S_drewN | apply Kd.S_drew)); exact Kd.S_mono (Kd.S_far (p := ⟨gb360, 2, none⟩) (Kd.S_far (p := ⟨gb360, 1, none⟩) (Kd.S_far (p := ⟨gb360, 0, none⟩) (Kd.S_far (p := ⟨gb359, 2, none⟩) (Kd.S_far (p := ⟨gb359, 1, none⟩) (Kd.S_far (p := ⟨gb359, 0, none⟩) (Kd.S_mono (Kd.S_mono HO_367000.out (fun k_ hk => (⟨hk, hk.1.2.2.1⟩ : _ ∧ k_ ≠ gb359))) (fun k_ hk => (⟨hk, hk.1.1.2.2.2.1⟩ : _ ∧ k_ ≠ gb360))) (fun _ hk => hk.1.2) (.slice Ao114 x367000_2.length co114)) (fun _ hk => hk.1.2) (.int .i64 (wrap64 (t364 + 1)))) (fun _ hk => hk.1.2) (.int .i64 t365)) (fun _ hk => hk.2) (.int .i64 t395)) (fun _ hk => hk.2) (.int .i64 t396)) (fun _ hk => hk.2) (.slice Ao123 t397.length co123)) (fun _ hk => ⟨hk.1.1.1.1, hk.1.1.2⟩), by (with_reducible repeat (first | apply Kd.R_alloc | apply Kd.R_drewN | apply Kd.R_drew)); exact Kd.R_mono (Kd.R_far (p := ⟨gb360, 2, none⟩) (Kd.R_far (p := ⟨gb360, 1, none⟩) (Kd.R_far (p := ⟨gb360, 0, none⟩) (Kd.R_far (p := ⟨gb359, 2, none⟩) (Kd.R_far (p := ⟨gb359, 1, none⟩) (Kd.R_far (p := ⟨gb359, 0, none⟩) (Kd.R_types (Kd.R_types HO399.out BK359.out (by decide)) BK360.out (by decide)) (fun _ hk => hk.1.2) (.slice Ao114 x367000_2.length co114)) (fun _ hk => hk.1.2) (.int .i64 (wrap64 (t364 + 1)))) (fun _ hk => hk.1.2) (.int .i64 t365)) (fun _ hk => hk.2) (.int .i64 t395)) (fun _ hk => hk.2) (.int .i64 t396)) (fun _ hk => hk.2) (.slice Ao123 t397.length co123)) (fun _ hk => hk.1.1.1), jzG HB⟩
           ·rw [if_neg c66] at H
            exact absurd H (by simp)
          ·rw [if_neg c65] at H
           exact absurd H (by simp)
         ·rw [if_neg c64] at H
          exact absurd H (by simp)
        ·rw [if_neg c62] at H
         exact absurd H (by simp)
       ·rw [if_neg c60] at H
        exact absurd H (by simp)
      ·rw [if_neg c59] at H
       exact absurd H (by simp)
     ·rw [if_neg c58] at H
      have c58b0 : decide (0 ≤ t368) = false := decide_eq_false c58
      clear c58
      by_cases c125 : 0 ≤ t369
      ·rw [if_pos c125] at H
       have c125b0 : decide (0 ≤ t369) = true := decide_eq_true c125
       clear c125
       by_cases c126 : t369 < (l2.length : Int)
       ·rw [if_pos c126] at H
        have c126b0 : decide (t369 < (l2.length : Int)) = true := decide_eq_true c126
        clear c126
        replace H := Option.bind_eq_some_iff.mp H
        obtain ⟨⟨t401, t402, t403⟩, A1270, H⟩ := H
        replace H : ((some (([(⟨t401, t402, t403⟩ : S32)] : List (S32)) : List (S32))).bind fun y406 => (if y406.length + t361.length < 3518437208883 then (impl_FetchGlyph.l0 kj8 (y406 ++ t361) t364 (wrap64 (t365 + 1)) t401 t402 t403) else (none))) = some (r1, r2, r3, r4, r5, r6, r7) := H
        have A127 := Am A1270
        clear A1270
        obtain ⟨y406, hy406⟩ : ∃ y_ : List (S32), y_ = (([(⟨t401, t402, t403⟩ : S32)] : List (S32))) := ⟨_, rfl⟩
        replace H : (if y406.length + t361.length < 3518437208883 then (impl_FetchGlyph.l0 kj8 (y406 ++ t361) t364 (wrap64 (t365 + 1)) t401 t402 t403) else (none)) = some (r1, r2, r3, r4, r5, r6, r7) := by first | (rw [hy406]; with_reducible exact H) | (have H2_ := (Option.bind_some _ _).symm.trans H; rw [hy406]; with_reducible exact H2_) | (have H2_ := (Option.bind_some _ _).symm.trans H; with_reducible exact H2_) | with_reducible exact H | (rw [hy406]; exact H) | exact H
        have Ny406 := Am hy406
        clear hy406
        by_cases c128 : y406.length + t361.length < 3518437208883
        ·rw [if_pos c128] at H
         have LMc128 := Am c128
         clear c128
         obtain ⟨y409, hy409⟩ : ∃ y_ : List (S32), y_ = (y406 ++ t361) := ⟨_, rfl⟩
         replace H : (impl_FetchGlyph.l0 kj8 y409 t364 (wrap64 (t365 + 1)) t401 t402 t403) = some (r1, r2, r3, r4, r5, r6, r7) := by first | (rw [hy409]; with_reducible exact H) | (have H2_ := (Option.bind_some _ _).symm.trans H; rw [hy409]; with_reducible exact H2_) | (have H2_ := (Option.bind_some _ _).symm.trans H; with_reducible exact H2_) | with_reducible exact H | (rw [hy409]; exact H) | exact H
         have Ny409 := Am hy409
         clear hy409
         have H' := Am H
         clear H
         go_wp2_with (first | ((with_reducible refine gate_dst (N := 12) rfl ?_); refine box_event ?hg (N := 12) ?hd (cs := #[.int .i64 0, .int .i64 0, .slice none 0 0]) (t := 32) ?hr ?_; (case hd => rfl); (case hg => rfl); (case hr => first | (go_simp; done) | (go_simp; rfl)); intro gb370 hg w129 hbox hb; have n0_ := Am (Kd.S_below (Kd.S_elderB (jzO HO_367000) gb370 (Nat.le_of_eq hg.symm)) hb); have n1_ := Am (blk_below (g := gb358) (o := .cells #[.slice A0_0 l0_0.length c0_0, .int .i64 a0_1, .int .i64 a0_2] 26 (0, 0)) (jzB BK358) hb); have n2_ := Am (blk_below (g := gb359) (o := .cells #[.slice none 0 0, .int .i64 0, .int .i64 0] 26 (0, 0)) (jzB BK359) hb); have n3_ := Am (blk_below (g := gb360) (o := .cells #[.int .i64 0, .int .i64 0, .slice none 0 0] 32 (0, 0)) (jzB BK360) hb); have n4_ := Am (blk_below (g := gb366) (o := .cells #[.slice Ao18 t361.length co18, .int .i64 t364, .int .i64 t365] 26 (0, 0)) (jzB BK366) hb); have n5_ := Am (below_step (jzG HB) hb); have n6_ := Am (hbox); have n7_ := Am ((by rw [hg]; exact (below_size (jzG HB)) : w.heap.size ≤ gb370)); have n8_ := Am ((by rw [hg]; exact (below_size (jzG HB)) : w.heap.size ≤ gb370)); have n9_ := Am ((by rw [hg]; exact Nat.ne_of_lt (blk_lt (g := gb358) (o := .cells #[.slice A0_0 l0_0.length c0_0, .int .i64 a0_1, .int .i64 a0_2] 26 (0, 0)) (jzB BK358)) : gb358 ≠ gb370)); have n10_ := Am ((by rw [hg]; exact Nat.ne_of_gt (blk_lt (g := gb358) (o := .cells #[.slice A0_0 l0_0.length c0_0, .int .i64 a0_1, .int .i64 a0_2] 26 (0, 0)) (jzB BK358)) : gb370 ≠ gb358)); have n11_ := Am ((by rw [hg]; exact Nat.ne_of_lt (blk_lt (g := gb359) (o := .cells #[.slice none 0 0, .int .i64 0, .int .i64 0] 26 (0, 0)) (jzB BK359)) : gb359 ≠ gb370)); have n12_ := Am ((by rw [hg]; exact Nat.ne_of_gt (blk_lt (g := gb359) (o := .cells #[.slice none 0 0, .int .i64 0, .int .i64 0] 26 (0, 0)) (jzB BK359)) : gb370 ≠ gb359)); have n13_ := Am ((by rw [hg]; exact Nat.ne_of_lt (blk_lt (g := gb360) (o := .cells #[.int .i64 0, .int .i64 0, .slice none 0 0] 32 (0, 0)) (jzB BK360)) : gb360 ≠ gb370)); have n14_ := Am ((by rw [hg]; exact Nat.ne_of_gt (blk_lt (g := gb360) (o := .cells #[.int .i64 0, .int .i64 0, .slice none 0 0] 32 (0, 0)) (jzB BK360)) : gb370 ≠ gb360)); have n15_ := Am ((by rw [hg]; exact Nat.ne_of_lt (blk_lt (g := gb366) (o := .cells #[.slice Ao18 t361.length co18, .int .i64 t364, .int .i64 t365] 26 (0, 0)) (jzB BK366)) : gb366 ≠ gb370)); have n16_ := Am ((by rw [hg]; exact Nat.ne_of_gt (blk_lt (g := gb366) (o := .cells #[.slice Ao18 t361.length co18, .int .i64 t364, .int .i64 t365] 26 (0, 0)) (jzB BK366)) : gb370 ≠ gb366)); clear HO_367000; clear BK358; clear BK359; clear BK360; clear BK366; clear HB; have HO_367000 := n0_; have BK358 := n1_; have BK359 := n2_; have BK360 := n3_; have BK366 := n4_; have HB := n5_; have BK370 := n6_; have GW370 := n7_; have GE370 := n8_; have NB358_370 := n9_; have NB370_358 := n10_; have NB359_370 := n11_; have NB370_359 := n12_; have NB360_370 := n13_; have NB370_360 := n14_; have NB366_370 := n15_; have NB370_366 := n16_; clear n0_ n1_ n2_ n3_ n4_ n5_ n6_ n7_ n8_ n9_ n10_ n11_ n12_ n13_ n14_ n15_ n16_; clear hb hbox hg; have p400 : 0 ≤ (t369 : Int) := of_decide_eq_true jzS; have q400 : t369 < (l2.length : Int) := of_decide_eq_true jzS; obtain ⟨ad400, A400_2, c400_2, e400, hx400_0, hx400_1, hx400_2, hl400_2, hi400_2⟩ := at_T32 HR2.out t369 p400 q400; cases e400; replace hx400_0 := (HB.out.cell (World.block_lt_of_cell? w _ hx400_0)).trans hx400_0; replace hx400_1 := (HB.out.cell (World.block_lt_of_cell? w _ hx400_1)).trans hx400_1; replace hx400_2 := (HB.out.cell (World.block_lt_of_cell? w _ hx400_2)).trans hx400_2; have HR400_2 := Am hi400_2; have HC400_2 := Am hl400_2; clear hi400_2 hl400_2; replace p400 := eq_true p400; replace q400 := eq_true q400) | ((with_reducible refine gate_callee (f := 38) rfl ?_); refine goesL_ (some 72) rfl rfl Try.func38 (by kernel_rfl) rfl #[.agg #[.int .i64 ((rd_T32 l2 t369).f0), .int .i64 ((rd_T32 l2 t369).f1), .slice A400_2 ((rd_T32 l2 t369).f2).length c400_2]] rfl jzA ?_; (with_reducible refine (impl_copyGlyph.calls ((rd_T32 l2 t369).f0) ((rd_T32 l2 t369).f1) _ _ ((rd_T32 l2 t369).f2) t401 t402 t403 _ ?side1 ?side2 A127.out).mono ?_); (case side1 => exact jzC HR400_2 HB); (case side2 => exact HC400_2.out); rintro e w130 ⟨v404, rfl, ho0, hb⟩; refine ⟨_, rfl, ?_⟩; have n0_ := Am (Kd.S_elder' (jzO HO_367000) (Kd.R_base ho0) hb); have n1_ := Am (Kd.R_lower (Kd.R_newM (M := fun k_ => (w.heap.size ≤ k_)) ho0 (below_size (jzG HB)) (fun k_ h_ => h_)) (below_size (jzG HB))); have n2_ := Am (blk_below (g := gb358) (o := .cells #[.slice A0_0 l0_0.length c0_0, .int .i64 a0_1, .int .i64 a0_2] 26 (0, 0)) (jzB BK358) hb); have n3_ := Am (blk_below (g := gb359) (o := .cells #[.slice none 0 0, .int .i64 0, .int .i64 0] 26 (0, 0)) (jzB BK359) hb); have n4_ := Am (blk_below (g := gb360) (o := .cells #[.int .i64 0, .int .i64 0, .slice none 0 0] 32 (0, 0)) (jzB BK360) hb); have n5_ := Am (blk_below (g := gb366) (o := .cells #[.slice Ao18 t361.length co18, .int .i64 t364, .int .i64 t365] 26 (0, 0)) (jzB BK366) hb); have n6_ := Am (blk_below (g := gb370) (o := .cells #[.int .i64 0, .int .i64 0, .slice none 0 0] 32 (0, 0)) (jzB BK370) hb); have n7_ := Am (below_step (jzG HB) hb); clear HO_367000; clear BK358; clear BK359; clear BK360; clear BK366; clear BK370; clear HB; have HO_367000 := n0_; have HO405 := n1_; have BK358 := n2_; have BK359 := n3_; have BK360 := n4_; have BK366 := n5_; have BK370 := n6_; have HB := n7_; clear n0_ n1_ n2_ n3_ n4_ n5_ n6_ n7_; (try clear hb); (try clear hb2); (try clear hk); (try clear hi); (try clear ho0); have hnb131 := NB370_358.out; have hnc131 := NB358_370.out; have hnb132 := NB370_359.out; have hnc132 := NB359_370.out; have hnb133 := NB370_360.out; have hnc133 := NB360_370.out; have hnb134 := NB370_366.out; have hnc134 := NB366_370.out; have hcz135_0 : w130.cell? ⟨gb370, 0, none⟩ = some (.int .i64 0) := (b8 BK370.out 0).trans rfl; have hcz135_1 : w130.cell? ⟨gb370, 1, none⟩ = some (.int .i64 0) := (b8 BK370.out 1).trans rfl; have hcz135_2 : w130.cell? ⟨gb370, 2, none⟩ = some (.slice none 0 0) := (b8 BK370.out 2).trans rfl; have hfz135_0 := blk_frozen BK370.out 0; have hfz135_1 := blk_frozen BK370.out 1; have hfz135_2 := blk_frozen BK370.out 2; obtain ⟨Ao136, co136, eo136⟩ := Kd.R_slice HO405.out; subst eo136) | ((with_reducible refine gate_store (t := 32) (p := 12) rfl ?_); refine store_event (t := 32) (p := 12) (v := ?vo_w137) (w1 := (((w130.setCell ⟨gb370, 0, none⟩ (.int .i64 t401)).setCell ⟨gb370, 1, none⟩ (.int .i64 t402)).setCell ⟨gb370, 2, none⟩ (.slice Ao136 t403.length co136))) ?hg ?ho ?hn ?hr ?_; (case ho => rfl); (case hg => rfl); (case hn => rfl); (case hr => first | (go_simp; done) | (go_simp; rfl)); intro w137 hw; have n0_ : Aside0 (Kd.S k32 32 w137 w.heap.size (fun k_ => (w.heap.size ≤ k_) ∧ some k_ ≠ (.slice Ao136 t403.length co136 : Value).ownBlock ∧ k_ ≠ gb358 ∧ k_ ≠ gb359 ∧ k_ ≠ gb360 ∧ k_ ≠ gb366 ∧ k_ ≠ gb370) (.slice Ao18 t361.length co18) t361) := ⟨(by rw [hw]; exact (by (with_reducible repeat (first | apply Kd.S_alloc | apply Kd.S_drewN | apply Kd.S_drew)); exact Kd.S_mono (Kd.S_far (p := ⟨gb370, 2, none⟩) (Kd.S_far (p := ⟨gb370, 1, none⟩) (Kd.S_far (p := ⟨gb370, 0, none⟩) (Kd.S_mono HO_367000.out (fun k_ hk => (⟨hk, hk.1.2⟩ : _ ∧ k_ ≠ gb370))) (fun _ hk => hk.2) (.int .i64 t401)) (fun _ hk => hk.2) (.int .i64 t402)) (fun _ hk => hk.2) (.slice Ao136 t403.length co136)) (fun _ hk => ⟨hk.1.1.1.1, ⟨hk.1.2, ⟨hk.1.1.1.2.1, ⟨hk.1.1.1.2.2.1, ⟨hk.1.1.1.2.2.2.1, ⟨hk.1.1.1.2.2.2.2, hk.1.1.2⟩⟩⟩⟩⟩⟩)))⟩; have n1_ : Aside0 (Kd.R (Kd.int .i64) 3 w137 w.heap.size (fun k_ => (w.heap.size ≤ k_)) (.slice Ao136 t403.length co136) t403) := ⟨(by rw [hw]; exact (by (with_reducible repeat (first | apply Kd.R_alloc | apply Kd.R_drewN | apply Kd.R_drew)); exact Kd.R_mono (Kd.R_far (p := ⟨gb370, 2, none⟩) (Kd.R_far (p := ⟨gb370, 1, none⟩) (Kd.R_far (p := ⟨gb370, 0, none⟩) (Kd.R_types HO405.out BK370.out (by decide)) (fun _ hk => hk.2) (.int .i64 t401)) (fun _ hk => hk.2) (.int .i64 t402)) (fun _ hk => hk.2) (.slice Ao136 t403.length co136)) (fun _ hk => hk.1.1)))⟩; have n2_ : Aside0 (w137.heap[gb358]? = some (.cells #[.slice A0_0 l0_0.length c0_0, .int .i64 a0_1, .int .i64 a0_2] 26 (0, 0))) := ⟨(by rw [hw]; exact (jzF BK358 NB358_370))⟩; have n3_ : Aside0 (w137.heap[gb359]? = some (.cells #[.slice none 0 0, .int .i64 0, .int .i64 0] 26 (0, 0))) := ⟨(by rw [hw]; exact (jzF BK359 NB359_370))⟩; have n4_ : Aside0 (w137.heap[gb360]? = some (.cells #[.int .i64 0, .int .i64 0, .slice none 0 0] 32 (0, 0))) := ⟨(by rw [hw]; exact (jzF BK360 NB360_370))⟩; have n5_ : Aside0 (w137.heap[gb366]? = some (.cells #[.slice Ao18 t361.length co18, .int .i64 t364, .int .i64 t365] 26 (0, 0))) := ⟨(by rw [hw]; exact (jzF BK366 NB366_370))⟩; have n6_ : Aside0 (w137.heap[gb370]? = some (.cells #[.int .i64 t401, .int .i64 t402, .slice Ao136 t403.length co136] 32 (0, 0))) := ⟨(by rw [hw]; exact (by (with_reducible repeat (first | refine b1 ?_ _ | refine b2 ?_ | refine b3 ?_ _)); refine blk_put (cs := #[.int .i64 t401, .int .i64 t402, .slice none 0 0]) ?_ 2 _ rfl; (with_reducible repeat (first | refine b1 ?_ _ | refine b2 ?_ | refine b3 ?_ _)); refine blk_put (cs := #[.int .i64 t401, .int .i64 0, .slice none 0 0]) ?_ 1 _ rfl; (with_reducible repeat (first | refine b1 ?_ _ | refine b2 ?_ | refine b3 ?_ _)); refine blk_put (cs := #[.int .i64 0, .int .i64 0, .slice none 0 0]) ?_ 0 _ rfl; (with_reducible repeat (first | refine b1 ?_ _ | refine b2 ?_ | refine b3 ?_ _)); exact BK370.out))⟩; have n7_ : Aside0 (Below w.heap.size w w137) := ⟨(by rw [hw]; exact (jzG HB))⟩; clear hw; clear HO_367000; clear HO405; clear BK358; clear BK359; clear BK360; clear BK366; clear BK370; clear HB; have HO_367000 := n0_; have HO405 := n1_; have BK358 := n2_; have BK359 := n3_; have BK360 := n4_; have BK366 := n5_; have BK370 := n6_; have HB := n7_; clear n0_ n1_ n2_ n3_ n4_ n5_ n6_ n7_; have hnb138 := NB366_358.out; have hnc138 := NB358_366.out; have hnb139 := NB366_359.out; have hnc139 := NB359_366.out; have hnb140 := NB366_360.out; have hnc140 := NB360_366.out; have hcz141_0 : w137.cell? ⟨gb366, 0, none⟩ = some (.slice Ao18 t361.length co18) := (b8 BK366.out 0).trans rfl; have hcz141_1 : w137.cell? ⟨gb366, 1, none⟩ = some (.int .i64 t364) := (b8 BK366.out 1).trans rfl; have hcz141_2 : w137.cell? ⟨gb366, 2, none⟩ = some (.int .i64 t365) := (b8 BK366.out 2).trans rfl; have hfz141_0 := blk_frozen BK366.out 0; have hfz141_1 := blk_frozen BK366.out 1; have hfz141_2 := blk_frozen BK366.out 2) | ((with_reducible refine gate_store (t := 3) (p := 76) rfl ?_); refine store_event (t := 3) (p := 76) (v := ?vo_w142) (w1 := (w137.setCell ⟨gb366, 2, none⟩ (.int .i64 (wrap64 (t365 + 1))))) ?hg ?ho ?hn ?hr ?_; (case ho => rfl); (case hg => rfl); (case hn => rfl); (case hr => first | (go_simp; done) | (go_simp; rfl)); intro w142 hw; have n0_ : Aside0 (Kd.S k32 32 w142 w.heap.size (fun k_ => (w.heap.size ≤ k_) ∧ some k_ ≠ (.slice Ao136 t403.length co136 : Value).ownBlock ∧ k_ ≠ gb358 ∧ k_ ≠ gb359 ∧ k_ ≠ gb360 ∧ k_ ≠ gb366 ∧ k_ ≠ gb370) (.slice Ao18 t361.length co18) t361) := ⟨(by rw [hw]; exact (by (with_reducible repeat (first | apply Kd.S_alloc | apply Kd.S_drewN | apply Kd.S_drew)); exact Kd.S_mono (Kd.S_far (p := ⟨gb366, 2, none⟩) (Kd.S_mono HO_367000.out (fun k_ hk => (⟨hk, hk.2.2.2.2.2.1⟩ : _ ∧ k_ ≠ gb366))) (fun _ hk => hk.2) (.int .i64 (wrap64 (t365 + 1)))) (fun _ hk => ⟨hk.1.1, ⟨hk.1.2.1, ⟨hk.1.2.2.1, ⟨hk.1.2.2.2.1, ⟨hk.1.2.2.2.2.1, ⟨hk.1.2.2.2.2.2.1, hk.1.2.2.2.2.2.2⟩⟩⟩⟩⟩⟩)))⟩; have n1_ : Aside0 (Kd.R (Kd.int .i64) 3 w142 w.heap.size (fun k_ => (w.heap.size ≤ k_)) (.slice Ao136 t403.length co136) t403) := ⟨(by rw [hw]; exact (by (with_reducible repeat (first | apply Kd.R_alloc | apply Kd.R_drewN | apply Kd.R_drew)); exact Kd.R_mono (Kd.R_far (p := ⟨gb366, 2, none⟩) (Kd.R_types HO405.out BK366.out (by decide)) (fun _ hk => hk.2) (.int .i64 (wrap64 (t365 + 1)))) (fun _ hk => hk.1)))⟩; have n2_ : Aside0 (w142.heap[gb358]? = some (.cells #[.slice A0_0 l0_0.length c0_0, .int .i64 a0_1, .int .i64 a0_2] 26 (0, 0))) := ⟨(by rw [hw]; exact (jzF BK358 NB358_366))⟩; have n3_ : Aside0 (w142.heap[gb359]? = some (.cells #[.slice none 0 0, .int .i64 0, .int .i64 0] 26 (0, 0))) := ⟨(by rw [hw]; exact (jzF BK359 NB359_366))⟩; have n4_ : Aside0 (w142.heap[gb360]? = some (.cells #[.int .i64 0, .int .i64 0, .slice none 0 0] 32 (0, 0))) := ⟨(by rw [hw]; exact (jzF BK360 NB360_366))⟩; have n5_ : Aside0 (w142.heap[gb366]? = some (.cells #[.slice Ao18 t361.length co18, .int .i64 t364, .int .i64 (wrap64 (t365 + 1))] 26 (0, 0))) := ⟨(by rw [hw]; exact (by (with_reducible repeat (first | refine b1 ?_ _ | refine b2 ?_ | refine b3 ?_ _)); refine blk_put (cs := #[.slice Ao18 t361.length co18, .int .i64 t364, .int .i64 t365]) ?_ 2 _ rfl; (with_reducible repeat (first | refine b1 ?_ _ | refine b2 ?_ | refine b3 ?_ _)); exact BK366.out))⟩; have n6_ : Aside0 (w142.heap[gb370]? = some (.cells #[.int .i64 t401, .int .i64 t402, .slice Ao136 t403.length co136] 32 (0, 0))) := ⟨(by rw [hw]; exact (jzF BK370 NB370_366))⟩; have n7_ : Aside0 (Below w.heap.size w w142) := ⟨(by rw [hw]; exact (jzG HB))⟩; clear hw; clear HO_367000; clear HO405; clear BK358; clear BK359; clear BK360; clear BK366; clear BK370; clear HB; have HO_367000 := n0_; have HO405 := n1_; have BK358 := n2_; have BK359 := n3_; have BK360 := n4_; have BK366 := n5_; have BK370 := n6_; have HB := n7_; clear n0_ n1_ n2_ n3_ n4_ n5_ n6_ n7_; have hcz143_0 : w142.cell? ⟨gb370, 0, none⟩ = some (.int .i64 t401) := (b8 BK370.out 0).trans rfl; have hcz143_1 : w142.cell? ⟨gb370, 1, none⟩ = some (.int .i64 t402) := (b8 BK370.out 1).trans rfl; have hcz143_2 : w142.cell? ⟨gb370, 2, none⟩ = some (.slice Ao136 t403.length co136) := (b8 BK370.out 2).trans rfl; have hfz143_0 := blk_frozen BK370.out 0; have hfz143_1 := blk_frozen BK370.out 1; have hfz143_2 := blk_frozen BK370.out 2) | ((with_reducible refine gate_dst (N := 78) rfl ?_); refine Kd.R_lit (Kd.raw 3) _ 32 ?hg (N := 78) ?hd (xs := [[.int .i64 t401, .int .i64 t402, .slice Ao136 t403.length co136]]) (inner := [.int .i64 t401, .int .i64 t402, .slice Ao136 t403.length co136]) (ok := (fun k_ => (w.heap.size ≤ k_) ∧ some k_ ≠ (.slice Ao18 t361.length co18 : Value).ownBlock ∧ k_ ≠ gb358 ∧ k_ ≠ gb359 ∧ k_ ≠ gb360 ∧ k_ ≠ gb366 ∧ k_ ≠ gb370)) (okp := (fun k_ => (w.heap.size ≤ k_) ∧ some k_ ≠ (.slice Ao18 t361.length co18 : Value).ownBlock ∧ k_ ≠ gb358 ∧ k_ ≠ gb359 ∧ k_ ≠ gb360 ∧ k_ ≠ gb366 ∧ k_ ≠ gb370)) ?hr ?hp (fun _ hk => hk) ((show ∀ k_, w142.heap.size ≤ k_ → (fun k_ => (w.heap.size ≤ k_) ∧ some k_ ≠ (.slice Ao18 t361.length co18 : Value).ownBlock ∧ k_ ≠ gb358 ∧ k_ ≠ gb359 ∧ k_ ≠ gb360 ∧ k_ ≠ gb366 ∧ k_ ≠ gb370) k_ from fun k_ hk => ⟨(Nat.le_trans (below_size (jzG HB)) hk), Kd.fresh' (Kd.S_lt (jzO HO_367000)) k_ hk, Kd.freshB (g := gb358) (o := .cells #[.slice A0_0 l0_0.length c0_0, .int .i64 a0_1, .int .i64 a0_2] 26 (0, 0)) (jzB BK358) k_ hk, Kd.freshB (g := gb359) (o := .cells #[.slice none 0 0, .int .i64 0, .int .i64 0] 26 (0, 0)) (jzB BK359) k_ hk, Kd.freshB (g := gb360) (o := .cells #[.int .i64 0, .int .i64 0, .slice none 0 0] 32 (0, 0)) (jzB BK360) k_ hk, Kd.freshB (g := gb366) (o := .cells #[.slice Ao18 t361.length co18, .int .i64 t364, .int .i64 (wrap64 (t365 + 1))] 26 (0, 0)) (jzB BK366) k_ hk, Kd.freshB (g := gb370) (o := .cells #[.int .i64 t401, .int .i64 t402, .slice Ao136 t403.length co136] 32 (0, 0)) (jzB BK370) k_ hk⟩) _ (Nat.le_refl _)) (Below.refl _ _) (Nat.le_refl _) (by simp) ?_; (case hd => rfl); (case hg => rfl); (case hr => first | (go_simp; done) | (go_simp; rfl)); (case hp => exact (Reps.c3 (show (Kd.raw 3).M _ _ _ [.int .i64 t401, .int .i64 t402, .slice Ao136 t403.length co136] [.int .i64 t401, .int .i64 t402, .slice Ao136 t403.length co136] from ⟨rfl, rfl, by intro u_ hu_; simp only [List.mem_cons, List.not_mem_nil, or_false] at hu_; rcases hu_ with rfl | rfl | rfl <;> rfl⟩) (Reps.none _ _))); intro v407 w144 ho145 hb hg_ hnew_; clear hg_ hnew_; skip; have n0_ := Am (Kd.S_elder' (jzO HO_367000) (Kd.R_base ho145) hb); have n1_ := Am (Kd.R_lower ho145 (below_size (jzG HB))); have n2_ := Am (blk_below (g := gb358) (o := .cells #[.slice A0_0 l0_0.length c0_0, .int .i64 a0_1, .int .i64 a0_2] 26 (0, 0)) (jzB BK358) hb); have n3_ := Am (blk_below (g := gb359) (o := .cells #[.slice none 0 0, .int .i64 0, .int .i64 0] 26 (0, 0)) (jzB BK359) hb); have n4_ := Am (blk_below (g := gb360) (o := .cells #[.int .i64 0, .int .i64 0, .slice none 0 0] 32 (0, 0)) (jzB BK360) hb); have n5_ := Am (blk_below (g := gb366) (o := .cells #[.slice Ao18 t361.length co18, .int .i64 t364, .int .i64 (wrap64 (t365 + 1))] 26 (0, 0)) (jzB BK366) hb); have n6_ := Am (blk_below (g := gb370) (o := .cells #[.int .i64 t401, .int .i64 t402, .slice Ao136 t403.length co136] 32 (0, 0)) (jzB BK370) hb); have n7_ := Am (below_step (jzG HB) hb); have nM_ := Am (Kd.R_elder' (Kd.R_mono (ok' := (fun k_ => (w.heap.size ≤ k_) ∧ some k_ ≠ (.slice Ao18 t361.length co18 : Value).ownBlock ∧ k_ ≠ gb358 ∧ k_ ≠ gb359 ∧ k_ ≠ gb360 ∧ k_ ≠ gb366 ∧ k_ ≠ gb370)) (Kd.R_types (Kd.R_types (Kd.R_types (Kd.R_types (Kd.R_types (Kd.R_apart' (HO405.out) (Kd.S_typed HO_367000.out) (by decide)) BK358.out (by decide)) BK359.out (by decide)) BK360.out (by decide)) BK366.out (by decide)) BK370.out (by decide)) (fun k_ hk => ⟨hk.1.1.1.1.1.1, ⟨hk.1.1.1.1.1.2, ⟨hk.1.1.1.1.2, ⟨hk.1.1.1.2, ⟨hk.1.1.2, ⟨hk.1.2, hk.2⟩⟩⟩⟩⟩⟩)) (Kd.R_base ho145) hb); clear HO_367000; clear BK358; clear BK359; clear BK360; clear BK366; clear BK370; clear HB; clear HO405; have HO405 := nM_; clear nM_; have HO_367000 := n0_; have HO408 := n1_; have BK358 := n2_; have BK359 := n3_; have BK360 := n4_; have BK366 := n5_; have BK370 := n6_; have HB := n7_; clear n0_ n1_ n2_ n3_ n4_ n5_ n6_ n7_; clear hb ho145; have hcz146_0 : w144.cell? ⟨gb366, 0, none⟩ = some (.slice Ao18 t361.length co18) := (b8 BK366.out 0).trans rfl; have hcz146_1 : w144.cell? ⟨gb366, 1, none⟩ = some (.int .i64 t364) := (b8 BK366.out 1).trans rfl; have hcz146_2 : w144.cell? ⟨gb366, 2, none⟩ = some (.int .i64 (wrap64 (t365 + 1))) := (b8 BK366.out 2).trans rfl; have hfz146_0 := blk_frozen BK366.out 0; have hfz146_1 := blk_frozen BK366.out 1; have hfz146_2 := blk_frozen BK366.out 2) | ((with_reducible refine gate_builtin (b := .append) (xs := #[.tmp 78, .tmp 80]) rfl ?_); at_builtin; refine Kd.S_front (r := [.int .i64 t401, .int .i64 t402, .slice Ao136 t403.length co136]) (ok := (fun k_ => (w.heap.size ≤ k_) ∧ k_ ≠ gb358 ∧ k_ ≠ gb359 ∧ k_ ≠ gb360 ∧ k_ ≠ gb366 ∧ k_ ≠ gb370)) (xs := t361) (okl := fun k_ => (w.heap.size ≤ k_) ∧ some k_ ≠ (.slice Ao18 t361.length co18 : Value).ownBlock ∧ k_ ≠ gb358 ∧ k_ ≠ gb359 ∧ k_ ≠ gb360 ∧ k_ ≠ gb366 ∧ k_ ≠ gb370) (okE := fun k_ => ((w.heap.size ≤ k_) ∧ some k_ ≠ (.slice Ao136 t403.length co136 : Value).ownBlock ∧ k_ ≠ gb358 ∧ k_ ≠ gb359 ∧ k_ ≠ gb360 ∧ k_ ≠ gb366 ∧ k_ ≠ gb370) ∧ some k_ ≠ (v407 : Value).ownBlock) (P0 := fun k_ => some k_ = (.slice Ao136 t403.length co136 : Value).ownBlock ∧ (((w.heap.size ≤ k_) ∧ some k_ ≠ (.slice Ao18 t361.length co18 : Value).ownBlock ∧ k_ ≠ gb358 ∧ k_ ≠ gb359 ∧ k_ ≠ gb360 ∧ k_ ≠ gb366 ∧ k_ ≠ gb370) ∧ some k_ ≠ (v407 : Value).ownBlock)) k32 (w0 := w) w.heap.size rfl (.tmp 78) (.tmp 80) 24 32 (.agg #[(.int .i64 0), (.int .i64 0), (.slice none 0 0)]) 40 rfl Try.underlying24 info32 rfl (by decide) (by omega) v407 _ _ _ (⟨t401, t402, t403⟩ : S32) rfl rfl ?aO ?aE ?aP ?aQ ?aW ?aK ?aM ?aF ?aB ?aS ?aL ?_; (case aO => exact (jzR HO408)); (case aE => exact (jzO HO_367000)); (case aP => exact k32_mkM _ _ _ (⟨t401, t402, t403⟩ : S32) (Kd.R_tight2 rfl (jzR HO405))); (case aQ => exact fun b hb_ => ⟨⟨⟨hb_.2.1.1, hb_.2.1.2.2.1, hb_.2.1.2.2.2.1, hb_.2.1.2.2.2.2.1, hb_.2.1.2.2.2.2.2.1, hb_.2.1.2.2.2.2.2.2⟩, hb_.2.2⟩, fun h_ => h_.1.2.1 hb_.1⟩); (case aW => exact fun _ hk => hk.2); (case aK => exact fun _ hk => ⟨hk.1.1, hk.1.2.2.1, hk.1.2.2.2.1, hk.1.2.2.2.2.1, hk.1.2.2.2.2.2.1, hk.1.2.2.2.2.2.2⟩); (case aM => exact fun _ hk => ⟨hk.1, ⟨hk.2.2.1, ⟨hk.2.2.2.1, ⟨hk.2.2.2.2.1, ⟨hk.2.2.2.2.2.1, hk.2.2.2.2.2.2⟩⟩⟩⟩⟩); (case aB => exact (jzG HB)); (case aF => exact (fun k_ hk => ⟨(Nat.le_trans (below_size (jzG HB)) hk), Kd.freshB (g := gb358) (o := .cells #[.slice A0_0 l0_0.length c0_0, .int .i64 a0_1, .int .i64 a0_2] 26 (0, 0)) (jzB BK358) k_ hk, Kd.freshB (g := gb359) (o := .cells #[.slice none 0 0, .int .i64 0, .int .i64 0] 26 (0, 0)) (jzB BK359) k_ hk, Kd.freshB (g := gb360) (o := .cells #[.int .i64 0, .int .i64 0, .slice none 0 0] 32 (0, 0)) (jzB BK360) k_ hk, Kd.freshB (g := gb366) (o := .cells #[.slice Ao18 t361.length co18, .int .i64 t364, .int .i64 (wrap64 (t365 + 1))] 26 (0, 0)) (jzB BK366) k_ hk, Kd.freshB (g := gb370) (o := .cells #[.int .i64 t401, .int .i64 t402, .slice Ao136 t403.length co136] 32 (0, 0)) (jzB BK370) k_ hk⟩)); (case aS => exact (below_size (jzG HB))); (case aL => have h1_ := LMc128.out; rw [Ny406.out] at h1_; simp only [List.length_cons, List.length_nil] at h1_; omega); intro v410 w147 ho hb hg hat; rw [show ((⟨t401, t402, t403⟩ : S32) :: t361) = y409 from (by rw [Ny409.out, Ny406.out]; rfl)] at ho; have HL9 := Am (Kd.V_grown (ok := fun k_ => ((w.heap.size ≤ k_) ∧ some k_ ≠ (.slice Ao18 t361.length co18 : Value).ownBlock ∧ k_ ≠ gb358 ∧ k_ ≠ gb359 ∧ k_ ≠ gb360 ∧ k_ ≠ gb366 ∧ k_ ≠ gb370) ∧ some k_ ≠ (v407 : Value).ownBlock) (Kd.N_V (base' := w.heap.size) (Kd.R_N (jzR HO405))) hg (fun _ hk => hk.2)); have n0_ : Aside0 True := ⟨trivial⟩; have n1_ := Am (blk_grown (g := gb358) (o := .cells #[.slice A0_0 l0_0.length c0_0, .int .i64 a0_1, .int .i64 a0_2] 26 (0, 0)) (jzB BK358) hg (Kd.R_ne HO408.out BK358.out (by decide))); have n2_ := Am (blk_grown (g := gb359) (o := .cells #[.slice none 0 0, .int .i64 0, .int .i64 0] 26 (0, 0)) (jzB BK359) hg (Kd.R_ne HO408.out BK359.out (by decide))); have n3_ := Am (blk_grown (g := gb360) (o := .cells #[.int .i64 0, .int .i64 0, .slice none 0 0] 32 (0, 0)) (jzB BK360) hg (Kd.R_away HO408.out (fun _ hk => hk.2.2.2.2.1))); have n4_ := Am (blk_grown (g := gb366) (o := .cells #[.slice Ao18 t361.length co18, .int .i64 t364, .int .i64 (wrap64 (t365 + 1))] 26 (0, 0)) (jzB BK366) hg (Kd.R_ne HO408.out BK366.out (by decide))); have n5_ := Am (blk_grown (g := gb370) (o := .cells #[.int .i64 t401, .int .i64 t402, .slice Ao136 t403.length co136] 32 (0, 0)) (jzB BK370) hg (Kd.R_away HO408.out (fun _ hk => hk.2.2.2.2.2.2))); have n6_ := Am (hb); have n7_ := Am (ho); clear HO_367000; clear BK358; clear BK359; clear BK360; clear BK366; clear BK370; clear HB; clear HO408; have HO_367000 := n0_; have BK358 := n1_; have BK359 := n2_; have BK360 := n3_; have BK366 := n4_; have BK370 := n5_; have HB := n6_; have HO411 := n7_; clear n0_ n1_ n2_ n3_ n4_ n5_ n6_ n7_; clear ho hb hg hat; clear HO405; obtain ⟨Ao148, co148, eo148⟩ := Kd.S_slice HO411.out; subst eo148; have hcz149_0 : w147.cell? ⟨gb366, 0, none⟩ = some (.slice Ao18 t361.length co18) := (b8 BK366.out 0).trans rfl; have hcz149_1 : w147.cell? ⟨gb366, 1, none⟩ = some (.int .i64 t364) := (b8 BK366.out 1).trans rfl; have hcz149_2 : w147.cell? ⟨gb366, 2, none⟩ = some (.int .i64 (wrap64 (t365 + 1))) := (b8 BK366.out 2).trans rfl; have hfz149_0 := blk_frozen BK366.out 0; have hfz149_1 := blk_frozen BK366.out 1; have hfz149_2 := blk_frozen BK366.out 2))
         go_loopg [] kj8 (fun kq w' => ∃ (x367000_2 : List (S32)) (u367000 : Value), Aside0 (impl_FetchGlyph.l0 kq x367000_2 t364 (wrap64 (t365 + 1)) t401 t402 t403 = some (r1, r2, r3, r4, r5, r6, r7)) ∧ Aside0 (kq ≤ kj8) ∧ Aside0 (Kd.S k32 32 w' w.heap.size (fun k_ => (w.heap.size ≤ k_) ∧ k_ ≠ gb358 ∧ k_ ≠ gb359 ∧ k_ ≠ gb360 ∧ k_ ≠ gb366 ∧ k_ ≠ gb370) u367000 x367000_2) ∧ Aside0 (Kd.V (Kd.int .i64) 3 w' w.heap.size (fun k_ => (w.heap.size ≤ k_) ∧ k_ ≠ gb358 ∧ k_ ≠ gb359 ∧ k_ ≠ gb360 ∧ k_ ≠ gb366 ∧ k_ ≠ gb370) (.slice Ao136 t403.length co136) t403) ∧ Aside0 (w'.heap[gb358]? = some (.cells #[(.slice A0_0 l0_0.length c0_0), .int .i64 a0_1, .int .i64 a0_2] 26 (0, 0))) ∧ Aside0 (w'.heap[gb359]? = some (.cells #[(.slice none 0 0), .int .i64 0, .int .i64 0] 26 (0, 0))) ∧ Aside0 (w'.heap[gb360]? = some (.cells #[.int .i64 0, .int .i64 0, (.slice none 0 0)] 32 (0, 0))) ∧ Aside0 (w'.heap[gb366]? = some (.cells #[u367000, .int .i64 t364, .int .i64 (wrap64 (t365 + 1))] 26 (0, 0))) ∧ Aside0 (w'.heap[gb370]? = some (.cells #[.int .i64 t401, .int .i64 t402, (.slice Ao136 t403.length co136)] 32 (0, 0))) ∧ Aside0 (Below w.heap.size w w'))
         case atStart => exact ⟨(y409), (.slice Ao148 y409.length co148), H', ⟨Nat.le_refl _⟩, ⟨by (with_reducible repeat (first | apply Kd.S_alloc | apply Kd.S_drewN | apply Kd.S_drew)); exact Kd.S_mono (Kd.S_far (p := ⟨gb366, 0, none⟩) (Kd.S_mono HO411.out (fun k_ hk => (⟨hk, hk.2.2.2.2.1⟩ : _ ∧ k_ ≠ gb366))) (fun _ hk => hk.2) (.slice Ao148 y409.length co148)) (fun _ hk => ⟨hk.1.1, ⟨hk.1.2.1, ⟨hk.1.2.2.1, ⟨hk.1.2.2.2.1, ⟨hk.1.2.2.2.2.1, hk.1.2.2.2.2.2⟩⟩⟩⟩⟩)⟩, ⟨by (with_reducible repeat (first | apply Kd.V_alloc | apply Kd.V_drewN | apply Kd.V_drew)); exact Kd.V_far (p := ⟨gb366, 0, none⟩) (Kd.V_mono HL9.out (fun k_ hk => (⟨hk.1.1, hk.1.2.2⟩ : (w.heap.size ≤ k_) ∧ k_ ≠ gb358 ∧ k_ ≠ gb359 ∧ k_ ≠ gb360 ∧ k_ ≠ gb366 ∧ k_ ≠ gb370))) (fun _ hk => hk.2.2.2.2.1) (.slice Ao148 y409.length co148)⟩, ⟨by (with_reducible repeat (first | refine b1 ?_ _ | refine b2 ?_ | refine b3 ?_ _)); refine blk_far ?_ NB358_366.out _; (with_reducible repeat (first | refine b1 ?_ _ | refine b2 ?_ | refine b3 ?_ _)); exact BK358.out⟩, ⟨by (with_reducible repeat (first | refine b1 ?_ _ | refine b2 ?_ | refine b3 ?_ _)); refine blk_far ?_ NB359_366.out _; (with_reducible repeat (first | refine b1 ?_ _ | refine b2 ?_ | refine b3 ?_ _)); exact BK359.out⟩, ⟨by (with_reducible repeat (first | refine b1 ?_ _ | refine b2 ?_ | refine b3 ?_ _)); refine blk_far ?_ NB360_366.out _; (with_reducible repeat (first | refine b1 ?_ _ | refine b2 ?_ | refine b3 ?_ _)); exact BK360.out⟩, ⟨by (with_reducible repeat (first | refine b1 ?_ _ | refine b2 ?_ | refine b3 ?_ _)); refine blk_put (cs := #[.slice Ao18 t361.length co18, .int .i64 t364, .int .i64 (wrap64 (t365 + 1))]) ?_ 0 _ rfl; (with_reducible repeat (first | refine b1 ?_ _ | refine b2 ?_ | refine b3 ?_ _)); exact BK366.out⟩, ⟨by (with_reducible repeat (first | refine b1 ?_ _ | refine b2 ?_ | refine b3 ?_ _)); refine blk_far ?_ NB370_366.out _; (with_reducible repeat (first | refine b1 ?_ _ | refine b2 ?_ | refine b3 ?_ _)); exact BK370.out⟩, ⟨jzG HB⟩⟩
         case round =>
          clear H'
          try clear c1
          try clear q1
          try clear c2
          try clear p2
          try clear c3
          try clear p3
          try clear q3
          try clear hx3
          try clear c4
          try clear p4
          try clear q4
          try clear hx4
          try clear c5
          try clear c6
          try clear p6
          try clear c7
          try clear q7
          try clear c8
          try clear q8
          try clear c9
          try clear c10
          try clear q10
          try clear c11
          try clear c12
          try clear c13
          try clear c14
          try clear c17
          try clear c19
          try clear c20
          try clear c21
          try clear c28
          try clear c28b0
          try clear c29
          try clear c29b0
          try clear c30
          try clear c30b0
          try clear c30b1
          try clear c31
          try clear c32
          try clear c33
          try clear c35
          try clear c36
          try clear c37
          try clear p37
          try clear q37
          try clear hx37
          try clear c38
          try clear c39
          try clear c39b0
          try clear c39b1
          try clear c40
          try clear p40
          try clear q40
          try clear hx40
          try clear c41
          try clear c42
          try clear c44
          try clear c45
          try clear c46
          try clear c48
          try clear c49
          try clear c50
          try clear c51
          try clear c53
          try clear c54
          try clear c56
          try clear c58
          try clear c58b0
          try clear c59
          try clear c59b0
          try clear c60
          try clear c60b0
          try clear c61
          try clear c61b0
          try clear c62
          try clear c62b0
          try clear c62b1
          try clear c64
          try clear c64b0
          try clear c64b1
          try clear p64
          try clear c65
          try clear c65b0
          try clear c65b1
          try clear c66
          try clear c68
          try clear c69
          try clear c70
          try clear c71
          try clear c73
          try clear c74
          try clear c75
          try clear q79
          try clear c80
          try clear q80
          try clear c95
          try clear c95b0
          try clear c97
          try clear c97b0
          try clear c97b1
          try clear c98
          try clear c98b0
          try clear c98b1
          try clear c99
          try clear c100
          try clear c101
          try clear c102
          try clear q107
          try clear c109
          try clear c110
          try clear c111
          try clear c112
          try clear c125
          try clear c125b0
          try clear c126
          try clear c126b0
          try clear c128
          try clear c131
          try clear c132
          try clear c133
          try clear c134
          try clear c138
          try clear c139
          try clear c140
          try clear hcz103_0
          try clear hcz103_1
          try clear hcz103_2
          try clear hcz106_0
          try clear hcz106_1
          try clear hcz106_2
          try clear hcz113_0
          try clear hcz113_1
          try clear hcz113_2
          try clear hcz135_0
          try clear hcz135_1
          try clear hcz135_2
          try clear hcz141_0
          try clear hcz141_1
          try clear hcz141_2
          try clear hcz143_0
          try clear hcz143_1
          try clear hcz143_2
          try clear hcz146_0
          try clear hcz146_1
          try clear hcz146_2
          try clear hcz149_0
          try clear hcz149_1
          try clear hcz149_2
          try clear hcz15_0
          try clear hcz15_1
          try clear hcz15_2
          try clear hcz22_0
          try clear hcz22_1
          try clear hcz22_2
          try clear hcz23_0
          try clear hcz23_1
          try clear hcz23_2
          try clear hcz25_0
          try clear hcz25_1
          try clear hcz25_2
          try clear hcz34_0
          try clear hcz34_1
          try clear hcz34_2
          try clear hcz38_0
          try clear hcz38_1
          try clear hcz38_2
          try clear hcz43_0
          try clear hcz43_1
          try clear hcz43_2
          try clear hcz47_0
          try clear hcz47_1
          try clear hcz47_2
          try clear hcz52_0
          try clear hcz52_1
          try clear hcz52_2
          try clear hcz55_0
          try clear hcz55_1
          try clear hcz55_2
          try clear hcz57_0
          try clear hcz57_1
          try clear hcz57_2
          try clear hcz72_0
          try clear hcz72_1
          try clear hcz72_2
          try clear hcz76_0
          try clear hcz76_1
          try clear hcz76_2
          try clear hcz85_0
          try clear hcz85_1
          try clear hcz85_2
          try clear hcz87_0
          try clear hcz87_1
          try clear hcz87_2
          try clear hcz90_0
          try clear hcz90_1
          try clear hcz90_2
          try clear hcz93_0
          try clear hcz93_1
          try clear hcz93_2
          try clear hfz103_0
          try clear hfz103_1
          try clear hfz103_2
          try clear hfz106_0
          try clear hfz106_1
          try clear hfz106_2
          try clear hfz113_0
          try clear hfz113_1
          try clear hfz113_2
          try clear hfz135_0
          try clear hfz135_1
          try clear hfz135_2
          try clear hfz141_0
          try clear hfz141_1
          try clear hfz141_2
          try clear hfz143_0
          try clear hfz143_1
          try clear hfz143_2
          try clear hfz146_0
          try clear hfz146_1
          try clear hfz146_2
          try clear hfz149_0
          try clear hfz149_1
          try clear hfz149_2
          try clear hfz15_0
          try clear hfz15_1
          try clear hfz15_2
          try clear hfz22_0
          try clear hfz22_1
          try clear hfz22_2
          try clear hfz23_0
          try clear hfz23_1
          try clear hfz23_2
          try clear hfz25_0
          try clear hfz25_1
          try clear hfz25_2
          try clear hfz34_0
          try clear hfz34_1
          try clear hfz34_2
          try clear hfz38_0
          try clear hfz38_1
          try clear hfz38_2
          try clear hfz43_0
          try clear hfz43_1
          try clear hfz43_2
          try clear hfz47_0
          try clear hfz47_1
          try clear hfz47_2
          try clear hfz52_0
          try clear hfz52_1
          try clear hfz52_2
          try clear hfz55_0
          try clear hfz55_1
          try clear hfz55_2
          try clear hfz57_0
          try clear hfz57_1
          try clear hfz57_2
          try clear hfz72_0
          try clear hfz72_1
          try clear hfz72_2
          try clear hfz76_0
          try clear hfz76_1
          try clear hfz76_2
          try clear hfz85_0
          try clear hfz85_1
          try clear hfz85_2
          try clear hfz87_0
          try clear hfz87_1
          try clear hfz87_2
          try clear hfz90_0
          try clear hfz90_1
          try clear hfz90_2
          try clear hfz93_0
          try clear hfz93_1
          try clear hfz93_2
          try clear hx371_0
          try clear hx371_1
          try clear hx371_2
          try clear hx400_0
          try clear hx400_1
          try clear hx400_2
          try clear p2
          try clear p3
          try clear p37
          try clear p371
          try clear p400
          try clear p6
          try clear p64
          try clear q080
          try clear q107
          try clear q3
          try clear q37
          try clear q371
          try clear q400
          try clear q7
          try clear q79
          try clear q8
          try clear q80
          try clear HL9
          try clear HL371_2
          obtain ⟨x367000_2, u367000, HA, HK2, HO_367000, HL9, BK358, BK359, BK360, BK366, BK370, HB⟩ := hrel
          cases gk with
          | zero => exact absurd HA.out (by simp [impl_FetchGlyph.l0])
          | succ k2 =>
           have H := HA.out
           clear HA
           simp only [impl_FetchGlyph.l0] at H
           replace H := Option.bind_eq_some_iff.mp H
           obtain ⟨t391, A1500, H⟩ := H
           replace H : (if t391 > 20 then (if 0 ≤ (wrap64 ((x367000_2.length : Int) - 1)) then (if (wrap64 ((x367000_2.length : Int) - 1)) ≤ (x367000_2.length : Int) then (impl_FetchGlyph.l0 k2 (x367000_2.take ((wrap64 ((x367000_2.length : Int) - 1)) : Int).toNat) t364 (wrap64 (t365 + 1)) t401 t402 t403) else (none)) else (none)) else ((impl_copyGlyph.f t401 t402 t403).bind fun bt395 => (some (x367000_2, t364, (wrap64 (t365 + 1)), bt395.1, bt395.2.1, bt395.2.2, true)))) = some (r1, r2, r3, r4, r5, r6, r7) := H
           have A150 := Am A1500
           clear A1500
           by_cases c151 : t391 > 20
           ·rw [if_pos c151] at H
            have c151b0 : decide (20 < t391) = true := decide_eq_true c151
            clear c151
            obtain ⟨ji152, hji152⟩ : ∃ j_ : Int, (wrap64 ((x367000_2.length : Int) - 1)) = j_ := ⟨_, rfl⟩
            replace H : (if 0 ≤ (ji152) then (if (ji152) ≤ (x367000_2.length : Int) then (impl_FetchGlyph.l0 k2 (x367000_2.take ((ji152) : Int).toNat) t364 (wrap64 (t365 + 1)) t401 t402 t403) else (none)) else (none)) = some (r1, r2, r3, r4, r5, r6, r7) := by first | (rw [hji152] at H; exact H) | (simp only [hji152] at H ⊢; exact H)
            (try rw [hji152] at A150)
            have hji152w : (IntKind.i64.wrap ((x367000_2.length : Int) - 1)) = ji152 := (i64_w _).trans hji152
            by_cases c153 : 0 ≤ (ji152)
            ·rw [if_pos c153] at H
             have c153b0 := eq_true c153
             have c153b1 : decide (0 ≤ (ji152)) = true := decide_eq_true c153
             clear c153
             by_cases c154 : (ji152) ≤ (x367000_2.length : Int)
             ·rw [if_pos c154] at H
              have c154b0 := eq_true c154
              have c154b1 : decide ((ji152) ≤ (x367000_2.length : Int)) = true := decide_eq_true c154
              clear c154
              obtain ⟨y392, hy392⟩ : ∃ y_ : List (S32), y_ = (x367000_2.take ((ji152) : Int).toNat) := ⟨_, rfl⟩
              replace H : (impl_FetchGlyph.l0 k2 y392 t364 (wrap64 (t365 + 1)) t401 t402 t403) = some (r1, r2, r3, r4, r5, r6, r7) := by first | (rw [hy392]; with_reducible exact H) | (have H2_ := (Option.bind_some _ _).symm.trans H; rw [hy392]; with_reducible exact H2_) | (have H2_ := (Option.bind_some _ _).symm.trans H; with_reducible exact H2_) | with_reducible exact H | (rw [hy392]; exact H) | exact H
              have Ny392 := Am hy392
              clear hy392
              have H' := Am H
              clear H
              have hnb155 := NB366_358.out
              have hnc155 := NB358_366.out
              have hnb156 := NB366_359.out
              have hnc156 := NB359_366.out
              have hnb157 := NB366_360.out
              have hnc157 := NB360_366.out
              have hnb158 := NB366_370.out
              have hnc158 := NB370_366.out
              have hcz159_0 : wr.cell? ⟨gb366, 0, none⟩ = some (u367000) := (b8 BK366.out 0).trans rfl
              have hcz159_1 : wr.cell? ⟨gb366, 1, none⟩ = some (.int .i64 t364) := (b8 BK366.out 1).trans rfl
              have hcz159_2 : wr.cell? ⟨gb366, 2, none⟩ = some (.int .i64 (wrap64 (t365 + 1))) := (b8 BK366.out 2).trans rfl
              have hfz159_0 := blk_frozen BK366.out 0
              have hfz159_1 := blk_frozen BK366.out 1
              have hfz159_2 := blk_frozen BK366.out 2
              obtain ⟨Ao160, co160, eo160⟩ := Kd.S_slice HO_367000.out
              subst eo160
              go_wp2_with (first | ((with_reducible refine gate_callee (f := 17) rfl ?_); refine goesL_ (some 84) rfl rfl Try.func17 (by kernel_rfl) rfl #[.agg #[.slice Ao160 x367000_2.length co160, .int .i64 t364, .int .i64 (wrap64 (t365 + 1))]] rfl jzA ?_; (with_reducible refine (impl_CacheSize.calls k2 _ _ x367000_2 t364 (wrap64 (t365 + 1)) t391 _ ?side1 ?side2 A150.out).mono ?_); (case side1 => exact jzD ((Kd.S_reads' HO_367000.out).2.2)); (case side2 => exact (Kd.S_reads' HO_367000.out).2.1); rintro e w161 ⟨rfl, hb⟩; refine ⟨_, rfl, ?_⟩; have n0_ := Am (Kd.S_below (jzO HO_367000) hb); have n1_ := Am (blk_below (g := gb358) (o := .cells #[.slice A0_0 l0_0.length c0_0, .int .i64 a0_1, .int .i64 a0_2] 26 (0, 0)) (jzB BK358) hb); have n2_ := Am (blk_below (g := gb359) (o := .cells #[.slice none 0 0, .int .i64 0, .int .i64 0] 26 (0, 0)) (jzB BK359) hb); have n3_ := Am (blk_below (g := gb360) (o := .cells #[.int .i64 0, .int .i64 0, .slice none 0 0] 32 (0, 0)) (jzB BK360) hb); have n4_ := Am (blk_below (g := gb366) (o := .cells #[.slice Ao160 x367000_2.length co160, .int .i64 t364, .int .i64 (wrap64 (t365 + 1))] 26 (0, 0)) (jzB BK366) hb); have n5_ := Am (blk_below (g := gb370) (o := .cells #[.int .i64 t401, .int .i64 t402, .slice Ao136 t403.length co136] 32 (0, 0)) (jzB BK370) hb); have n6_ := Am (below_step (jzG HB) hb); have nL_ := Am (Kd.V_below (by (with_reducible repeat (first | apply Kd.V_alloc | apply Kd.V_drewN | apply Kd.V_drew)); exact HL9.out) hb); clear HL9; have HL9 := nL_; clear nL_; clear HO_367000; clear BK358; clear BK359; clear BK360; clear BK366; clear BK370; clear HB; have HO_367000 := n0_; have BK358 := n1_; have BK359 := n2_; have BK360 := n3_; have BK366 := n4_; have BK370 := n5_; have HB := n6_; clear n0_ n1_ n2_ n3_ n4_ n5_ n6_; (try clear hb); (try clear hb2); (try clear hk); (try clear hi); have hcz162_0 : w161.cell? ⟨gb366, 0, none⟩ = some (.slice Ao160 x367000_2.length co160) := (b8 BK366.out 0).trans rfl; have hcz162_1 : w161.cell? ⟨gb366, 1, none⟩ = some (.int .i64 t364) := (b8 BK366.out 1).trans rfl; have hcz162_2 : w161.cell? ⟨gb366, 2, none⟩ = some (.int .i64 (wrap64 (t365 + 1))) := (b8 BK366.out 2).trans rfl; have hfz162_0 := blk_frozen BK366.out 0; have hfz162_1 := blk_frozen BK366.out 1; have hfz162_2 := blk_frozen BK366.out 2; have q163 : ((ji152) : Int) ≤ ((x367000_2.length : Int) : Int) := of_decide_eq_true jzS; obtain ⟨i0163, hi0163, _, hsz163, _⟩ := info_parts info32; have hcut163 := cut_to (P := Try.prog) 24 32 .i64 Try.underlying24 hi0163 Ao160 x367000_2.length co160 (ji152) (of_decide_eq_true jzS) q163 (Kd.S_reads' HO_367000.out).2.1; have hr163 := Kd.S_take (m := ((ji152) : Int).toNat) HO_367000.out (by omega); have hy163 : y392.length = ((ji152) : Int).toNat := (by rw [Ny392.out, List.length_take]; omega); rw [← Ny392.out] at hr163; rw [← hy163] at hr163 hcut163; clear hy163 hi0163 hsz163 HO_367000; have HO394 := Am hr163; clear hr163; replace q163 := eq_true q163))
              go_roundg k2
              case measure => have := HJ8.out; have := HK2.out; omega
              case rel => exact ⟨(y392), (.slice Ao160 y392.length co160), H', ⟨by have := HJ8.out; have := HK2.out; omega⟩, ⟨by (with_reducible repeat (first | apply Kd.S_alloc | apply Kd.S_drewN | apply Kd.S_drew)); exact Kd.S_mono (Kd.S_far (p := ⟨gb366, 0, none⟩) (Kd.S_mono HO394.out (fun k_ hk => (⟨hk, hk.2.2.2.2.1⟩ : _ ∧ k_ ≠ gb366))) (fun _ hk => hk.2) (.slice Ao160 y392.length co160)) (fun _ hk => ⟨hk.1.1, ⟨hk.1.2.1, ⟨hk.1.2.2.1, ⟨hk.1.2.2.2.1, ⟨hk.1.2.2.2.2.1, hk.1.2.2.2.2.2⟩⟩⟩⟩⟩)⟩, ⟨by (with_reducible repeat (first | apply Kd.V_alloc | apply Kd.V_drewN | apply Kd.V_drew)); exact Kd.V_far (p := ⟨gb366, 0, none⟩) HL9.out (fun _ hk => hk.2.2.2.2.1) (.slice Ao160 y392.length co160)⟩, ⟨by (with_reducible repeat (first | refine b1 ?_ _ | refine b2 ?_ | refine b3 ?_ _)); refine blk_far ?_ NB358_366.out _; (with_reducible repeat (first | refine b1 ?_ _ | refine b2 ?_ | refine b3 ?_ _)); exact BK358.out⟩, ⟨by (with_reducible repeat (first | refine b1 ?_ _ | refine b2 ?_ | refine b3 ?_ _)); refine blk_far ?_ NB359_366.out _; (with_reducible repeat (first | refine b1 ?_ _ | refine b2 ?_ | refine b3 ?_ _)); exact BK359.out⟩, ⟨by (with_reducible repeat (first | refine b1 ?_ _ | refine b2 ?_ | refine b3 ?_ _)); refine blk_far ?_ NB360_366.out _; (with_reducible repeat (first | refine b1 ?_ _ | refine b2 ?_ | refine b3 ?_ _)); exact BK360.out⟩, ⟨by (with_reducible repeat (first | refine b1 ?_ _ | refine b2 ?_ | refine b3 ?_ _)); refine blk_put (cs := #[.slice Ao160 x367000_2.length co160, .int .i64 t364, .int .i64 (wrap64 (t365 + 1))]) ?_ 0 _ rfl; (with_reducible repeat (first | refine b1 ?_ _ | refine b2 ?_ | refine b3 ?_ _)); exact BK366.out⟩, ⟨by (with_reducible repeat (first | refine b1 ?_ _ | refine b2 ?_ | refine b3 ?_ _)); refine blk_far ?_ NB370_366.out _; (with_reducible repeat (first | refine b1 ?_ _ | refine b2 ?_ | refine b3 ?_ _)); exact BK370.out⟩, ⟨jzG HB⟩⟩
             ·rw [if_neg c154] at H
              exact absurd H (by simp)
            ·rw [if_neg c153] at H
             exact absurd H (by simp)
           ·rw [if_neg c151] at H
            have c151b0 : decide (20 < t391) = false := decide_eq_false c151
            clear c151
            replace H := Option.bind_eq_some_iff.mp H
            obtain ⟨⟨t395, t396, t397⟩, A1640, H⟩ := H
            replace H : (some (x367000_2, t364, (wrap64 (t365 + 1)), t395, t396, t397, true)) = some (r1, r2, r3, r4, r5, r6, r7) := H
            have A164 := Am A1640
            clear A1640
            simp only [Option.some.injEq, Prod.mk.injEq] at H
            obtain ⟨rfl, rfl, rfl, rfl, rfl, rfl, rfl⟩ := H
            have hnb165 := NB366_358.out
            have hnc165 := NB358_366.out
            have hnb166 := NB366_359.out
            have hnc166 := NB359_366.out
            have hnb167 := NB366_360.out
            have hnc167 := NB360_366.out
            have hnb168 := NB366_370.out
            have hnc168 := NB370_366.out
            have hcz169_0 : wr.cell? ⟨gb366, 0, none⟩ = some (u367000) := (b8 BK366.out 0).trans rfl
            have hcz169_1 : wr.cell? ⟨gb366, 1, none⟩ = some (.int .i64 t364) := (b8 BK366.out 1).trans rfl
            have hcz169_2 : wr.cell? ⟨gb366, 2, none⟩ = some (.int .i64 (wrap64 (t365 + 1))) := (b8 BK366.out 2).trans rfl
            have hfz169_0 := blk_frozen BK366.out 0
            have hfz169_1 := blk_frozen BK366.out 1
            have hfz169_2 := blk_frozen BK366.out 2
            obtain ⟨Ao170, co170, eo170⟩ := Kd.S_slice HO_367000.out
            subst eo170
            try go_wp2_with (first | ((with_reducible refine gate_callee (f := 17) rfl ?_); refine goesL_ (some 84) rfl rfl Try.func17 (by kernel_rfl) rfl #[.agg #[.slice Ao170 x367000_2.length co170, .int .i64 t364, .int .i64 (wrap64 (t365 + 1))]] rfl jzA ?_; (with_reducible refine (impl_CacheSize.calls k2 _ _ x367000_2 t364 (wrap64 (t365 + 1)) t391 _ ?side1 ?side2 A150.out).mono ?_); (case side1 => exact jzD ((Kd.S_reads' HO_367000.out).2.2)); (case side2 => exact (Kd.S_reads' HO_367000.out).2.1); rintro e w171 ⟨rfl, hb⟩; refine ⟨_, rfl, ?_⟩; have n0_ := Am (Kd.S_below (jzO HO_367000) hb); have n1_ := Am (blk_below (g := gb358) (o := .cells #[.slice A0_0 l0_0.length c0_0, .int .i64 a0_1, .int .i64 a0_2] 26 (0, 0)) (jzB BK358) hb); have n2_ := Am (blk_below (g := gb359) (o := .cells #[.slice none 0 0, .int .i64 0, .int .i64 0] 26 (0, 0)) (jzB BK359) hb); have n3_ := Am (blk_below (g := gb360) (o := .cells #[.int .i64 0, .int .i64 0, .slice none 0 0] 32 (0, 0)) (jzB BK360) hb); have n4_ := Am (blk_below (g := gb366) (o := .cells #[.slice Ao170 x367000_2.length co170, .int .i64 t364, .int .i64 (wrap64 (t365 + 1))] 26 (0, 0)) (jzB BK366) hb); have n5_ := Am (blk_below (g := gb370) (o := .cells #[.int .i64 t401, .int .i64 t402, .slice Ao136 t403.length co136] 32 (0, 0)) (jzB BK370) hb); have n6_ := Am (below_step (jzG HB) hb); have nL_ := Am (Kd.V_below (by (with_reducible repeat (first | apply Kd.V_alloc | apply Kd.V_drewN | apply Kd.V_drew)); exact HL9.out) hb); clear HL9; have HL9 := nL_; clear nL_; clear HO_367000; clear BK358; clear BK359; clear BK360; clear BK366; clear BK370; clear HB; have HO_367000 := n0_; have BK358 := n1_; have BK359 := n2_; have BK360 := n3_; have BK366 := n4_; have BK370 := n5_; have HB := n6_; clear n0_ n1_ n2_ n3_ n4_ n5_ n6_; (try clear hb); (try clear hb2); (try clear hk); (try clear hi)))
            have nL_ := Am (Kd.V_drew HL9.out)
            clear HL9
            have HL9 := nL_
            clear nL_
            have n0_ := Am (Kd.S_drew HO_367000.out)
            have n1_ := Am (b2 BK358.out)
            have n2_ := Am (b2 BK359.out)
            have n3_ := Am (b2 BK360.out)
            have n4_ := Am (b2 BK366.out)
            have n5_ := Am (b2 BK370.out)
            have n6_ := Am (b6 HB.out)
            clear HO_367000
            clear BK358
            clear BK359
            clear BK360
            clear BK366
            clear BK370
            clear HB
            have HO_367000 := n0_
            have BK358 := n1_
            have BK359 := n2_
            have BK360 := n3_
            have BK366 := n4_
            have BK370 := n5_
            have HB := n6_
            clear n0_ n1_ n2_ n3_ n4_ n5_ n6_
            refine start_ (n := 6) (S := fun w' => w'.cell? ⟨gb366, 0, none⟩ = some (.slice Ao170 x367000_2.length co170) ∧ w'.cell? ⟨gb366, 1, none⟩ = some (.int .i64 t364) ∧ w'.cell? ⟨gb366, 2, none⟩ = some (.int .i64 (wrap64 (t365 + 1))) ∧ w'.cell? ⟨gb370, 0, none⟩ = some (.int .i64 t401) ∧ w'.cell? ⟨gb370, 1, none⟩ = some (.int .i64 t402) ∧ w'.cell? ⟨gb370, 2, none⟩ = some (.slice Ao136 t403.length co136)) (ds := []) #[F,F,F,F,F,F] (by kernel_rfl) rfl rfl ⟨(b8 BK366.out 0).trans rfl, (b8 BK366.out 1).trans rfl, (b8 BK366.out 2).trans rfl, (b8 BK370.out 0).trans rfl, (b8 BK370.out 1).trans rfl, (b8 BK370.out 2).trans rfl⟩ (fun hHeld => ?_)
            generalize w171.drew = w172 at HO_367000 HL9 BK358 BK359 BK360 BK366 BK370 HB hHeld ⊢
            refine take_ (i := 0) (N := some 94) (v := ?_) (a' := ?_) #[T,F,F,F,F,F] rfl rfl (by kernel_rfl) (fun _ _ _ h => h) (Or.inl ⟨by rfl, ?_⟩) hHeld ?_ ?_
            rotate_left; rintro w' ⟨s0, s1, s2, s3, s4, s5⟩; go_simp; with_reducible rfl; rotate_left; simp only [Act.put, zA, zB, zC, i64_w, i32_w]; rfl
            refine take_ (i := 1) (N := some 95) (v := ?_) (a' := ?_) #[T,T,F,F,F,F] rfl rfl (by kernel_rfl) (fun _ _ _ h => h) (Or.inl ⟨by rfl, ?_⟩) hHeld ?_ ?_
            rotate_left; rintro w' ⟨s0, s1, s2, s3, s4, s5⟩; go_simp; with_reducible rfl; rotate_left; simp only [Act.put, zA, zB, zC, i64_w, i32_w]; rfl
            refine one_ (i := 2) (N := some 96) #[T,T,T,F,F,F] rfl rfl (by kernel_rfl) (by decide) (fun K hK => ?_)
            refine goes_ Try.func38 (by kernel_rfl) rfl #[.agg #[.int .i64 t401, .int .i64 t402, .slice Ao136 t403.length co136]] (by rfl) rfl rfl jzA ?_
            with_reducible refine (impl_copyGlyph.calls t401 t402 _ _ t403 t395 t396 t397 _ ?side1 ?side2 A164.out).mono ?_
            (case side1 => exact jzD ((Kd.V_reads' HL9.out).2.2))
            (case side2 => exact (Kd.V_reads' HL9.out).2.1)
            rintro e w173 ⟨v398, rfl, ho0, hb⟩
            refine ⟨_, rfl, ?_⟩
            clear HL9
            have n0_ := Am (Kd.S_elder' (jzO HO_367000) (Kd.R_base ho0) hb)
            have n1_ := Am (Kd.R_lower (Kd.R_newM (M := fun k_ => (w.heap.size ≤ k_)) ho0 (below_size (jzG HB)) (fun k_ h_ => h_)) (below_size (jzG HB)))
            have n2_ := Am (blk_below (g := gb358) (o := .cells #[.slice A0_0 l0_0.length c0_0, .int .i64 a0_1, .int .i64 a0_2] 26 (0, 0)) (jzB BK358) hb)
            have n3_ := Am (blk_below (g := gb359) (o := .cells #[.slice none 0 0, .int .i64 0, .int .i64 0] 26 (0, 0)) (jzB BK359) hb)
            have n4_ := Am (blk_below (g := gb360) (o := .cells #[.int .i64 0, .int .i64 0, .slice none 0 0] 32 (0, 0)) (jzB BK360) hb)
            have n5_ := Am (blk_below (g := gb366) (o := .cells #[.slice Ao170 x367000_2.length co170, .int .i64 t364, .int .i64 (wrap64 (t365 + 1))] 26 (0, 0)) (jzB BK366) hb)
            have n6_ := Am (blk_below (g := gb370) (o := .cells #[.int .i64 t401, .int .i64 t402, .slice Ao136 t403.length co136] 32 (0, 0)) (jzB BK370) hb)
            have n7_ := Am (below_step (jzG HB) hb)
            clear HO_367000
            clear BK358
            clear BK359
            clear BK360
            clear BK366
            clear BK370
            clear HB
            have HO_367000 := n0_
            have HO399 := n1_
            have BK358 := n2_
            have BK359 := n3_
            have BK360 := n4_
            have BK366 := n5_
            have BK370 := n6_
            have HB := n7_
            clear n0_ n1_ n2_ n3_ n4_ n5_ n6_ n7_
            (try clear hb)
            (try clear hb2)
            (try clear hk)
            (try clear hi)
            (try clear ho0)
            obtain ⟨Ao179, co179, eo179⟩ := Kd.R_slice HO399.out
            (first | subst eo179 | (injection eo179 with f1_ f2_ f3_; have f4_ := f1_.symm; have f5_ := f3_.symm; clear f1_ f2_ f3_; subst f4_; subst f5_))
            refine hK.out _ _ ⟨(b8 BK366.out 0).trans rfl, (b8 BK366.out 1).trans rfl, (b8 BK366.out 2).trans rfl, (b8 BK370.out 0).trans rfl, (b8 BK370.out 1).trans rfl, (b8 BK370.out 2).trans rfl⟩ (fun hHeld => ?_)
            clear hK K
            refine norm_ (a' := ?_) ?_ ?_
            rotate_left
            ·show Act.put _ (some 96) _ = _
             simp only [Act.put, zA, zB, zC, i64_w, i32_w]
             rfl
            refine one_ (i := 3) (N := none) #[T,T,T,T,F,F] rfl rfl (by kernel_rfl) (by decide) (fun K hK => ?_)
            have hs174 : w173.cell? ⟨gb359, 0, none⟩ = some (.slice none 0 0) := (b8 BK359.out 0).trans rfl
            have hfs174 := blk_frozen BK359.out 0
            have hns174_0 := NB358_359.out
            have hns174_2 := NB360_359.out
            have hns174_3 := NB366_359.out
            have hns174_4 := NB370_359.out
            have hms174_0 := NB359_358.out
            have hms174_2 := NB359_360.out
            have hms174_3 := NB359_366.out
            have hms174_4 := NB359_370.out
            have hs175 : w173.cell? ⟨gb359, 1, none⟩ = some (.int .i64 0) := (b8 BK359.out 1).trans rfl
            have hfs175 := blk_frozen BK359.out 1
            have hns175_0 := NB358_359.out
            have hns175_2 := NB360_359.out
            have hns175_3 := NB366_359.out
            have hns175_4 := NB370_359.out
            have hms175_0 := NB359_358.out
            have hms175_2 := NB359_360.out
            have hms175_3 := NB359_366.out
            have hms175_4 := NB359_370.out
            have hs176 : w173.cell? ⟨gb359, 2, none⟩ = some (.int .i64 0) := (b8 BK359.out 2).trans rfl
            have hfs176 := blk_frozen BK359.out 2
            have hns176_0 := NB358_359.out
            have hns176_2 := NB360_359.out
            have hns176_3 := NB366_359.out
            have hns176_4 := NB370_359.out
            have hms176_0 := NB359_358.out
            have hms176_2 := NB359_360.out
            have hms176_3 := NB359_366.out
            have hms176_4 := NB359_370.out
            refine skip_ (w1 := ?_) (by rfl) rfl ?_ ?_
            rotate_left
            ·go_simp
             rfl
            refine hK.out _ _ ⟨((cell_far (p := ⟨gb359, _, none⟩) NB366_359.out _).trans (((cell_far (p := ⟨gb359, _, none⟩) NB366_359.out _).trans (((cell_far (p := ⟨gb359, _, none⟩) NB366_359.out _).trans (hHeld.1)))))), ((cell_far (p := ⟨gb359, _, none⟩) NB366_359.out _).trans (((cell_far (p := ⟨gb359, _, none⟩) NB366_359.out _).trans (((cell_far (p := ⟨gb359, _, none⟩) NB366_359.out _).trans (hHeld.2.1)))))), ((cell_far (p := ⟨gb359, _, none⟩) NB366_359.out _).trans (((cell_far (p := ⟨gb359, _, none⟩) NB366_359.out _).trans (((cell_far (p := ⟨gb359, _, none⟩) NB366_359.out _).trans (hHeld.2.2.1)))))), ((cell_far (p := ⟨gb359, _, none⟩) NB370_359.out _).trans (((cell_far (p := ⟨gb359, _, none⟩) NB370_359.out _).trans (((cell_far (p := ⟨gb359, _, none⟩) NB370_359.out _).trans (hHeld.2.2.2.1)))))), ((cell_far (p := ⟨gb359, _, none⟩) NB370_359.out _).trans (((cell_far (p := ⟨gb359, _, none⟩) NB370_359.out _).trans (((cell_far (p := ⟨gb359, _, none⟩) NB370_359.out _).trans (hHeld.2.2.2.2.1)))))), ((cell_far (p := ⟨gb359, _, none⟩) NB370_359.out _).trans (((cell_far (p := ⟨gb359, _, none⟩) NB370_359.out _).trans (((cell_far (p := ⟨gb359, _, none⟩) NB370_359.out _).trans (hHeld.2.2.2.2.2))))))⟩ (fun hHeld => ?_)
            clear hK K
            refine one_ (i := 4) (N := none) #[T,T,T,T,T,F] rfl rfl (by kernel_rfl) (by decide) (fun K hK => ?_)
            have hs177 : w173.cell? ⟨gb360, 0, none⟩ = some (.int .i64 0) := (b8 BK360.out 0).trans rfl
            have hfs177 := blk_frozen BK360.out 0
            have hns177_0 := NB358_360.out
            have hns177_1 := NB359_360.out
            have hns177_3 := NB366_360.out
            have hns177_4 := NB370_360.out
            have hms177_0 := NB360_358.out
            have hms177_1 := NB360_359.out
            have hms177_3 := NB360_366.out
            have hms177_4 := NB360_370.out
            have hs178 : w173.cell? ⟨gb360, 1, none⟩ = some (.int .i64 0) := (b8 BK360.out 1).trans rfl
            have hfs178 := blk_frozen BK360.out 1
            have hns178_0 := NB358_360.out
            have hns178_1 := NB359_360.out
            have hns178_3 := NB366_360.out
            have hns178_4 := NB370_360.out
            have hms178_0 := NB360_358.out
            have hms178_1 := NB360_359.out
            have hms178_3 := NB360_366.out
            have hms178_4 := NB360_370.out
            have hs180 : w173.cell? ⟨gb360, 2, none⟩ = some (.slice none 0 0) := (b8 BK360.out 2).trans rfl
            have hfs180 := blk_frozen BK360.out 2
            have hns180_0 := NB358_360.out
            have hns180_1 := NB359_360.out
            have hns180_3 := NB366_360.out
            have hns180_4 := NB370_360.out
            have hms180_0 := NB360_358.out
            have hms180_1 := NB360_359.out
            have hms180_3 := NB360_366.out
            have hms180_4 := NB360_370.out
            refine skip_ (w1 := ?_) (by rfl) rfl ?_ ?_
            rotate_left
            ·go_simp
             rfl
            refine hK.out _ _ ⟨((cell_far (p := ⟨gb360, _, none⟩) NB366_360.out _).trans (((cell_far (p := ⟨gb360, _, none⟩) NB366_360.out _).trans (((cell_far (p := ⟨gb360, _, none⟩) NB366_360.out _).trans (hHeld.1)))))), ((cell_far (p := ⟨gb360, _, none⟩) NB366_360.out _).trans (((cell_far (p := ⟨gb360, _, none⟩) NB366_360.out _).trans (((cell_far (p := ⟨gb360, _, none⟩) NB366_360.out _).trans (hHeld.2.1)))))), ((cell_far (p := ⟨gb360, _, none⟩) NB366_360.out _).trans (((cell_far (p := ⟨gb360, _, none⟩) NB366_360.out _).trans (((cell_far (p := ⟨gb360, _, none⟩) NB366_360.out _).trans (hHeld.2.2.1)))))), ((cell_far (p := ⟨gb360, _, none⟩) NB370_360.out _).trans (((cell_far (p := ⟨gb360, _, none⟩) NB370_360.out _).trans (((cell_far (p := ⟨gb360, _, none⟩) NB370_360.out _).trans (hHeld.2.2.2.1)))))), ((cell_far (p := ⟨gb360, _, none⟩) NB370_360.out _).trans (((cell_far (p := ⟨gb360, _, none⟩) NB370_360.out _).trans (((cell_far (p := ⟨gb360, _, none⟩) NB370_360.out _).trans (hHeld.2.2.2.2.1)))))), ((cell_far (p := ⟨gb360, _, none⟩) NB370_360.out _).trans (((cell_far (p := ⟨gb360, _, none⟩) NB370_360.out _).trans (((cell_far (p := ⟨gb360, _, none⟩) NB370_360.out _).trans (hHeld.2.2.2.2.2))))))⟩ (fun hHeld => ?_)
            clear hK K
            refine pure_ (i := 5) (N := some 8) (v := ?_) (a' := ?_) #[T,T,T,T,T,T] rfl rfl (by kernel_rfl) (fun _ _ _ h => h) (Or.inl ⟨by rfl, ?_⟩) ?_ ?_
            rotate_left; intro w'; go_simp; with_reducible rfl; rotate_left; simp only [Act.put, zA, zB, zC, i64_w, i32_w]; rfl
            refine done_ (by kernel_rfl) ?_
            try go_wp2
            refine bodyPost_ret (results_list (rs := [.cell 6 26, .cell 7 32, .tmp 8]) rfl (by simp) (.cell gb359 26 #[.slice Ao170 x367000_2.length co170, .int .i64 t364, .int .i64 (wrap64 (t365 + 1))] (0, 0) _ rfl (by (with_reducible repeat (first | refine b1 ?_ _ | refine b2 ?_ | refine b3 ?_ _)); refine blk_far ?_ NB359_360.out _; (with_reducible repeat (first | refine b1 ?_ _ | refine b2 ?_ | refine b3 ?_ _)); refine blk_far ?_ NB359_360.out _; (with_reducible repeat (first | refine b1 ?_ _ | refine b2 ?_ | refine b3 ?_ _)); refine blk_far ?_ NB359_360.out _; (with_reducible repeat (first | refine b1 ?_ _ | refine b2 ?_ | refine b3 ?_ _)); refine blk_put (cs := #[.slice Ao170 x367000_2.length co170, .int .i64 t364, .int .i64 0]) ?_ 2 _ rfl; (with_reducible repeat (first | refine b1 ?_ _ | refine b2 ?_ | refine b3 ?_ _)); refine blk_put (cs := #[.slice Ao170 x367000_2.length co170, .int .i64 0, .int .i64 0]) ?_ 1 _ rfl; (with_reducible repeat (first | refine b1 ?_ _ | refine b2 ?_ | refine b3 ?_ _)); refine blk_put (cs := #[.slice none 0 0, .int .i64 0, .int .i64 0]) ?_ 0 _ rfl; (with_reducible repeat (first | refine b1 ?_ _ | refine b2 ?_ | refine b3 ?_ _)); exact BK359.out) Try.underlying26 rfl (by kernel_rfl) (.cell gb360 32 #[.int .i64 t395, .int .i64 t396, .slice Ao179 t397.length co179] (0, 0) _ rfl (by (with_reducible repeat (first | refine b1 ?_ _ | refine b2 ?_ | refine b3 ?_ _)); refine blk_put (cs := #[.int .i64 t395, .int .i64 t396, .slice none 0 0]) ?_ 2 _ rfl; (with_reducible repeat (first | refine b1 ?_ _ | refine b2 ?_ | refine b3 ?_ _)); refine blk_put (cs := #[.int .i64 t395, .int .i64 0, .slice none 0 0]) ?_ 1 _ rfl; (with_reducible repeat (first | refine b1 ?_ _ | refine b2 ?_ | refine b3 ?_ _)); refine blk_put (cs := #[.int .i64 0, .int .i64 0, .slice none 0 0]) ?_ 0 _ rfl; (with_reducible repeat (first | refine b1 ?_ _ | refine b2 ?_ | refine b3 ?_ _)); refine blk_far ?_ NB360_359.out _; (with_reducible repeat (first | refine b1 ?_ _ | refine b2 ?_ | refine b3 ?_ _)); refine blk_far ?_ NB360_359.out _; (with_reducible repeat (first | refine b1 ?_ _ | refine b2 ?_ | refine b3 ?_ _)); refine blk_far ?_ NB360_359.out _; (with_reducible repeat (first | refine b1 ?_ _ | refine b2 ?_ | refine b3 ?_ _)); exact BK360.out) Try.underlying32 rfl (by kernel_rfl) (.tmp .nil)))) rfl ?_
            exact ⟨_, _, by first | rfl | (simp [errW_none, errW_some] <;> rfl) | (simp [*, errW_none, errW_some] <;> rfl), by (with_reducible repeat (first | apply Kd.S_alloc | apply Kd.S_drewN | apply Kd.S_drew)); exact Kd.S_mono (Kd.S_far (p := ⟨gb360, 2, none⟩) (Kd.S_far (p := ⟨gb360, 1, none⟩) (Kd.S_far (p := ⟨gb360, 0, none⟩) (Kd.S_far (p := ⟨gb359, 2, none⟩) (Kd.S_far (p := ⟨gb359, 1, none⟩) (Kd.S_far (p := ⟨gb359, 0, none⟩) (Kd.S_mono (Kd.S_mono HO_367000.out (fun k_ hk => (⟨hk, hk.1.2.2.1⟩ : _ ∧ k_ ≠ gb359))) (fun k_ hk => (⟨hk, hk.1.1.2.2.2.1⟩ : _ ∧ k_ ≠ gb360))) (fun _ hk => hk.1.2) (.slice Ao170 x367000_2.length co170)) (fun _ hk => hk.1.2) (.int .i64 t364)) (fun _ hk => hk.1.2) (.int .i64 (wrap64 (t365 + 1)))) (fun _ hk => hk.2) (.int .i64 t395)) (fun _ hk => hk.2) (.int .i64 t396)) (fun _ hk => hk.2) (.slice Ao179 t397.length co179)) (fun _ hk => ⟨hk.1.1.1.1, hk.1.1.2⟩), by (with_reducible repeat (first | apply Kd.R_alloc | apply Kd.R_drewN | apply Kd.R_drew)); exact Kd.R_mono (Kd.R_far (p := ⟨gb360, 2, none⟩) (Kd.R_far (p := ⟨gb360, 1, none⟩) (Kd.R_far (p := ⟨gb360, 0, none⟩) (Kd.R_far (p := ⟨gb359, 2, none⟩) (Kd.R_far (p := ⟨gb359, 1, none⟩) (Kd.R_far (p := ⟨gb359, 0, none⟩) (Kd.R_types (Kd.R_types HO399.out BK359.out (by decide)) BK360.out (by decide)) (fun _ hk => hk.1.2) (.slice Ao170 x367000_2.length co170)) (fun _ hk => hk.1.2) (.int .i64 t364)) (fun _ hk => hk.1.2) (.int .i64 (wrap64 (t365 + 1)))) (fun _ hk => hk.2) (.int .i64 t395)) (fun _ hk => hk.2) (.int .i64 t396)) (fun _ hk => hk.2) (.slice Ao179 t397.length co179)) (fun _ hk => hk.1.1.1), jzG HB⟩
        ·rw [if_neg c128] at H
         exact absurd H (by simp)
       ·rw [if_neg c126] at H
        exact absurd H (by simp)
      ·rw [if_neg c125] at H
       exact absurd H (by simp)
 ·replace c6 := Bool.eq_false_iff.mpr c6
  subst c6
  have H1 : (some (t361, t364, t365, 0, 0, ([] : List Int), false)) = some (r1, r2, r3, r4, r5, r6, r7) := by rw [if_neg (show ¬ (false = true) by decide)] at H; exact H
  clear H
  have H := H1
  clear H1
  simp only [Option.some.injEq, Prod.mk.injEq] at H
  obtain ⟨rfl, rfl, rfl, rfl, rfl, rfl, rfl⟩ := H
  go_enter Try.func10, Try.ntmps10
  go_wp2_with (first | ((with_reducible refine gate_dst (N := 3) rfl ?_); refine box_event ?hg (N := 3) ?hd (cs := #[.slice A0_0 l0_0.length c0_0, .int .i64 a0_1, .int .i64 a0_2]) (t := 26) ?hr ?_; (case hd => rfl); (case hg => rfl); (case hr => first | (go_simp; done) | (go_simp; rfl)); intro gb358 hg w181 hbox hb; have n0_ := Am (below_step (jzH HB) hb); have n1_ := Am (hbox); have n2_ := Am ((by rw [hg]; exact (below_size (jzH HB)) : w.heap.size ≤ gb358)); have n3_ := Am ((by rw [hg]; exact (below_size (jzH HB)) : w.heap.size ≤ gb358)); clear HB; have HB := n0_; have BK358 := n1_; have GW358 := n2_; have GE358 := n3_; clear n0_ n1_ n2_ n3_; clear hb hbox hg) | ((with_reducible refine gate_dst (N := 6) rfl ?_); refine box_event ?hg (N := 6) ?hd (cs := #[.slice none 0 0, .int .i64 0, .int .i64 0]) (t := 26) ?hr ?_; (case hd => rfl); (case hg => rfl); (case hr => first | (go_simp; done) | (go_simp; rfl)); intro gb359 hg w182 hbox hb; have n0_ := Am (blk_below (g := gb358) (o := .cells #[.slice A0_0 l0_0.length c0_0, .int .i64 a0_1, .int .i64 a0_2] 26 (0, 0)) (jzB BK358) hb); have n1_ := Am (below_step (jzG HB) hb); have n2_ := Am (hbox); have n3_ := Am ((by rw [hg]; exact (below_size (jzG HB)) : w.heap.size ≤ gb359)); have n4_ := Am ((by rw [hg]; exact (below_size (jzG HB)) : w.heap.size ≤ gb359)); have n5_ := Am ((by rw [hg]; exact Nat.ne_of_lt (blk_lt (g := gb358) (o := .cells #[.slice A0_0 l0_0.length c0_0, .int .i64 a0_1, .int .i64 a0_2] 26 (0, 0)) (jzB BK358)) : gb358 ≠ gb359)); have n6_ := Am ((by rw [hg]; exact Nat.ne_of_gt (blk_lt (g := gb358) (o := .cells #[.slice A0_0 l0_0.length c0_0, .int .i64 a0_1, .int .i64 a0_2] 26 (0, 0)) (jzB BK358)) : gb359 ≠ gb358)); clear BK358; clear HB; have BK358 := n0_; have HB := n1_; have BK359 := n2_; have GW359 := n3_; have GE359 := n4_; have NB358_359 := n5_; have NB359_358 := n6_; clear n0_ n1_ n2_ n3_ n4_ n5_ n6_; clear hb hbox hg) | ((with_reducible refine gate_dst (N := 7) rfl ?_); refine box_event ?hg (N := 7) ?hd (cs := #[.int .i64 0, .int .i64 0, .slice none 0 0]) (t := 32) ?hr ?_; (case hd => rfl); (case hg => rfl); (case hr => first | (go_simp; done) | (go_simp; rfl)); intro gb360 hg w183 hbox hb; have n0_ := Am (blk_below (g := gb358) (o := .cells #[.slice A0_0 l0_0.length c0_0, .int .i64 a0_1, .int .i64 a0_2] 26 (0, 0)) (jzB BK358) hb); have n1_ := Am (blk_below (g := gb359) (o := .cells #[.slice none 0 0, .int .i64 0, .int .i64 0] 26 (0, 0)) (jzB BK359) hb); have n2_ := Am (below_step (jzG HB) hb); have n3_ := Am (hbox); have n4_ := Am ((by rw [hg]; exact (below_size (jzG HB)) : w.heap.size ≤ gb360)); have n5_ := Am ((by rw [hg]; exact (below_size (jzG HB)) : w.heap.size ≤ gb360)); have n6_ := Am ((by rw [hg]; exact Nat.ne_of_lt (blk_lt (g := gb358) (o := .cells #[.slice A0_0 l0_0.length c0_0, .int .i64 a0_1, .int .i64 a0_2] 26 (0, 0)) (jzB BK358)) : gb358 ≠ gb360)); have n7_ := Am ((by rw [hg]; exact Nat.ne_of_gt (blk_lt (g := gb358) (o := .cells #[.slice A0_0 l0_0.length c0_0, .int .i64 a0_1, .int .i64 a0_2] 26 (0, 0)) (jzB BK358)) : gb360 ≠ gb358)); have n8_ := Am ((by rw [hg]; exact Nat.ne_of_lt (blk_lt (g := gb359) (o := .cells #[.slice none 0 0, .int .i64 0, .int .i64 0] 26 (0, 0)) (jzB BK359)) : gb359 ≠ gb360)); have n9_ := Am ((by rw [hg]; exact Nat.ne_of_gt (blk_lt (g := gb359) (o := .cells #[.slice none 0 0, .int .i64 0, .int .i64 0] 26 (0, 0)) (jzB BK359)) : gb360 ≠ gb359)); clear BK358; clear BK359; clear HB; have BK358 := n0_; have BK359 := n1_; have HB := n2_; have BK360 := n3_; have GW360 := n4_; have GE360 := n5_; have NB358_360 := n6_; have NB360_358 := n7_; have NB359_360 := n8_; have NB360_359 := n9_; clear n0_ n1_ n2_ n3_ n4_ n5_ n6_ n7_ n8_ n9_; clear hb hbox hg; have hnb184 := NB358_359.out; have hnc184 := NB359_358.out; have hnb185 := NB358_360.out; have hnc185 := NB360_358.out; have hcz186_0 : w183.cell? ⟨gb358, 0, none⟩ = some (.slice A0_0 l0_0.length c0_0) := (b8 BK358.out 0).trans rfl; have hcz186_1 : w183.cell? ⟨gb358, 1, none⟩ = some (.int .i64 a0_1) := (b8 BK358.out 1).trans rfl; have hcz186_2 : w183.cell? ⟨gb358, 2, none⟩ = some (.int .i64 a0_2) := (b8 BK358.out 2).trans rfl; have hfz186_0 := blk_frozen BK358.out 0; have hfz186_1 := blk_frozen BK358.out 1; have hfz186_2 := blk_frozen BK358.out 2) | ((with_reducible refine gate_callee (f := 36) rfl ?_); refine goesL_ (some 14) rfl rfl Try.func36 (by kernel_rfl) rfl #[.agg #[.slice A0_0 l0_0.length c0_0, .int .i64 a0_1, .int .i64 a0_2]] rfl jzA ?_; (with_reducible refine (impl_copyCache.calls k _ _ l0_0 a0_1 a0_2 t361 t364 t365 _ ?side1 ?side2 A4.out).mono ?_); (case side1 => exact jzC HR0_0 HB); (case side2 => exact HC0_0.out); rintro e w187 ⟨v362, rfl, ho0, hb⟩; refine ⟨_, rfl, ?_⟩; have n0_ := Am (Kd.S_lower (Kd.S_mono (ok' := fun k_ => (w.heap.size ≤ k_) ∧ k_ ≠ gb358 ∧ k_ ≠ gb359 ∧ k_ ≠ gb360) (id (Kd.S_bound ho0)) (fun k_ hk_ => ⟨(Nat.le_trans (below_size (jzG HB)) hk_.2.1), (Kd.freshB (g := gb358) (o := .cells #[.slice A0_0 l0_0.length c0_0, .int .i64 a0_1, .int .i64 a0_2] 26 (0, 0)) (jzB BK358) k_ hk_.2.1), (Kd.freshB (g := gb359) (o := .cells #[.slice none 0 0, .int .i64 0, .int .i64 0] 26 (0, 0)) (jzB BK359) k_ hk_.2.1), (Kd.freshB (g := gb360) (o := .cells #[.int .i64 0, .int .i64 0, .slice none 0 0] 32 (0, 0)) (jzB BK360) k_ hk_.2.1)⟩)) (below_size (jzG HB))); have n1_ := Am (blk_below (g := gb358) (o := .cells #[.slice A0_0 l0_0.length c0_0, .int .i64 a0_1, .int .i64 a0_2] 26 (0, 0)) (jzB BK358) hb); have n2_ := Am (blk_below (g := gb359) (o := .cells #[.slice none 0 0, .int .i64 0, .int .i64 0] 26 (0, 0)) (jzB BK359) hb); have n3_ := Am (blk_below (g := gb360) (o := .cells #[.int .i64 0, .int .i64 0, .slice none 0 0] 32 (0, 0)) (jzB BK360) hb); have n4_ := Am (below_step (jzG HB) hb); clear BK358; clear BK359; clear BK360; clear HB; have HO363 := n0_; have BK358 := n1_; have BK359 := n2_; have BK360 := n3_; have HB := n4_; clear n0_ n1_ n2_ n3_ n4_; (try clear hb); (try clear hb2); (try clear hk); (try clear hi); (try clear ho0)) | ((with_reducible refine gate_dst (N := 9) rfl ?_); refine box_event ?hg (N := 9) ?hd (cs := #[.slice none 0 0, .int .i64 0, .int .i64 0]) (t := 26) ?hr ?_; (case hd => rfl); (case hg => rfl); (case hr => first | (go_simp; done) | (go_simp; rfl)); intro gb366 hg w188 hbox hb; have n0_ := Am (Kd.S_below (Kd.S_elderB (jzO HO363) gb366 (Nat.le_of_eq hg.symm)) hb); have n1_ := Am (blk_below (g := gb358) (o := .cells #[.slice A0_0 l0_0.length c0_0, .int .i64 a0_1, .int .i64 a0_2] 26 (0, 0)) (jzB BK358) hb); have n2_ := Am (blk_below (g := gb359) (o := .cells #[.slice none 0 0, .int .i64 0, .int .i64 0] 26 (0, 0)) (jzB BK359) hb); have n3_ := Am (blk_below (g := gb360) (o := .cells #[.int .i64 0, .int .i64 0, .slice none 0 0] 32 (0, 0)) (jzB BK360) hb); have n4_ := Am (below_step (jzG HB) hb); have n5_ := Am (hbox); have n6_ := Am ((by rw [hg]; exact (below_size (jzG HB)) : w.heap.size ≤ gb366)); have n7_ := Am ((by rw [hg]; exact (below_size (jzG HB)) : w.heap.size ≤ gb366)); have n8_ := Am ((by rw [hg]; exact Nat.ne_of_lt (blk_lt (g := gb358) (o := .cells #[.slice A0_0 l0_0.length c0_0, .int .i64 a0_1, .int .i64 a0_2] 26 (0, 0)) (jzB BK358)) : gb358 ≠ gb366)); have n9_ := Am ((by rw [hg]; exact Nat.ne_of_gt (blk_lt (g := gb358) (o := .cells #[.slice A0_0 l0_0.length c0_0, .int .i64 a0_1, .int .i64 a0_2] 26 (0, 0)) (jzB BK358)) : gb366 ≠ gb358)); have n10_ := Am ((by rw [hg]; exact Nat.ne_of_lt (blk_lt (g := gb359) (o := .cells #[.slice none 0 0, .int .i64 0, .int .i64 0] 26 (0, 0)) (jzB BK359)) : gb359 ≠ gb366)); have n11_ := Am ((by rw [hg]; exact Nat.ne_of_gt (blk_lt (g := gb359) (o := .cells #[.slice none 0 0, .int .i64 0, .int .i64 0] 26 (0, 0)) (jzB BK359)) : gb366 ≠ gb359)); have n12_ := Am ((by rw [hg]; exact Nat.ne_of_lt (blk_lt (g := gb360) (o := .cells #[.int .i64 0, .int .i64 0, .slice none 0 0] 32 (0, 0)) (jzB BK360)) : gb360 ≠ gb366)); have n13_ := Am ((by rw [hg]; exact Nat.ne_of_gt (blk_lt (g := gb360) (o := .cells #[.int .i64 0, .int .i64 0, .slice none 0 0] 32 (0, 0)) (jzB BK360)) : gb366 ≠ gb360)); clear HO363; clear BK358; clear BK359; clear BK360; clear HB; have HO363 := n0_; have BK358 := n1_; have BK359 := n2_; have BK360 := n3_; have HB := n4_; have BK366 := n5_; have GW366 := n6_; have GE366 := n7_; have NB358_366 := n8_; have NB366_358 := n9_; have NB359_366 := n10_; have NB366_359 := n11_; have NB360_366 := n12_; have NB366_360 := n13_; clear n0_ n1_ n2_ n3_ n4_ n5_ n6_ n7_ n8_ n9_ n10_ n11_ n12_ n13_; clear hb hbox hg; obtain ⟨Ao189, co189, eo189⟩ := Kd.S_slice HO363.out; subst eo189; have hnb190 := NB366_358.out; have hnc190 := NB358_366.out; have hnb191 := NB366_359.out; have hnc191 := NB359_366.out; have hnb192 := NB366_360.out; have hnc192 := NB360_366.out; have hcz193_0 : w188.cell? ⟨gb366, 0, none⟩ = some (.slice none 0 0) := (b8 BK366.out 0).trans rfl; have hcz193_1 : w188.cell? ⟨gb366, 1, none⟩ = some (.int .i64 0) := (b8 BK366.out 1).trans rfl; have hcz193_2 : w188.cell? ⟨gb366, 2, none⟩ = some (.int .i64 0) := (b8 BK366.out 2).trans rfl; have hfz193_0 := blk_frozen BK366.out 0; have hfz193_1 := blk_frozen BK366.out 1; have hfz193_2 := blk_frozen BK366.out 2; have hcz194_0 : w188.cell? ⟨gb358, 0, none⟩ = some (.slice A0_0 l0_0.length c0_0) := (b8 BK358.out 0).trans rfl; have hcz194_1 : w188.cell? ⟨gb358, 1, none⟩ = some (.int .i64 a0_1) := (b8 BK358.out 1).trans rfl; have hcz194_2 : w188.cell? ⟨gb358, 2, none⟩ = some (.int .i64 a0_2) := (b8 BK358.out 2).trans rfl; have hfz194_0 := blk_frozen BK358.out 0; have hfz194_1 := blk_frozen BK358.out 1; have hfz194_2 := blk_frozen BK358.out 2) | ((with_reducible refine gate_callee (f := 13) rfl ?_); refine goesL_ (some 16) rfl rfl Try.func13 (by kernel_rfl) rfl #[.agg #[.slice A0_0 l0_0.length c0_0, .int .i64 a0_1, .int .i64 a0_2]] rfl jzA ?_; (with_reducible refine (impl_CacheOk.calls k _ _ l0_0 a0_1 a0_2 false _ ?side1 ?side2 A5.out).mono ?_); (case side1 => exact Kd.C_below HR0_0.out (jzG HB)); (case side2 => exact HC0_0.out); rintro e w195 ⟨rfl, hb⟩; refine ⟨_, rfl, ?_⟩; have n0_ := Am (Kd.S_below (by (with_reducible repeat (first | apply Kd.S_alloc | apply Kd.S_drewN | apply Kd.S_drew)); exact (Kd.S_mono (Kd.S_far (p := ⟨gb366, 2, none⟩) (Kd.S_far (p := ⟨gb366, 1, none⟩) (Kd.S_far (p := ⟨gb366, 0, none⟩) (Kd.S_mono HO363.out (fun k_ hk => (⟨hk, hk.2⟩ : _ ∧ k_ ≠ gb366))) (fun _ hk => hk.2) (.slice Ao189 t361.length co189)) (fun _ hk => hk.2) (.int .i64 t364)) (fun _ hk => hk.2) (.int .i64 t365)) (fun _ h_ => h_.1))) hb); have n1_ := Am (blk_below (g := gb358) (o := .cells #[.slice A0_0 l0_0.length c0_0, .int .i64 a0_1, .int .i64 a0_2] 26 (0, 0)) (jzF BK358 NB358_366) hb); have n2_ := Am (blk_below (g := gb359) (o := .cells #[.slice none 0 0, .int .i64 0, .int .i64 0] 26 (0, 0)) (jzF BK359 NB359_366) hb); have n3_ := Am (blk_below (g := gb360) (o := .cells #[.int .i64 0, .int .i64 0, .slice none 0 0] 32 (0, 0)) (jzF BK360 NB360_366) hb); have n4_ := Am (blk_below (g := gb366) (o := .cells #[.slice Ao189 t361.length co189, .int .i64 t364, .int .i64 t365] 26 (0, 0)) (by (with_reducible repeat (first | refine b1 ?_ _ | refine b2 ?_ | refine b3 ?_ _)); refine blk_put (cs := #[.slice Ao189 t361.length co189, .int .i64 t364, .int .i64 0]) ?_ 2 _ rfl; (with_reducible repeat (first | refine b1 ?_ _ | refine b2 ?_ | refine b3 ?_ _)); refine blk_put (cs := #[.slice Ao189 t361.length co189, .int .i64 0, .int .i64 0]) ?_ 1 _ rfl; (with_reducible repeat (first | refine b1 ?_ _ | refine b2 ?_ | refine b3 ?_ _)); refine blk_put (cs := #[.slice none 0 0, .int .i64 0, .int .i64 0]) ?_ 0 _ rfl; (with_reducible repeat (first | refine b1 ?_ _ | refine b2 ?_ | refine b3 ?_ _)); exact BK366.out) hb); have n5_ := Am (below_step (jzG HB) hb); clear HO363; clear BK358; clear BK359; clear BK360; clear BK366; clear HB; have HO363 := n0_; have BK358 := n1_; have BK359 := n2_; have BK360 := n3_; have BK366 := n4_; have HB := n5_; clear n0_ n1_ n2_ n3_ n4_ n5_; (try clear hb); (try clear hb2); (try clear hk); (try clear hi); have hcz196_0 : w195.cell? ⟨gb366, 0, none⟩ = some (.slice Ao189 t361.length co189) := (b8 BK366.out 0).trans rfl; have hcz196_1 : w195.cell? ⟨gb366, 1, none⟩ = some (.int .i64 t364) := (b8 BK366.out 1).trans rfl; have hcz196_2 : w195.cell? ⟨gb366, 2, none⟩ = some (.int .i64 t365) := (b8 BK366.out 2).trans rfl; have hfz196_0 := blk_frozen BK366.out 0; have hfz196_1 := blk_frozen BK366.out 1; have hfz196_2 := blk_frozen BK366.out 2; have hnb197 := NB359_360.out; have hnc197 := NB360_359.out; have hcz198_0 : w195.cell? ⟨gb359, 0, none⟩ = some (.slice none 0 0) := (b8 BK359.out 0).trans rfl; have hcz198_1 : w195.cell? ⟨gb359, 1, none⟩ = some (.int .i64 0) := (b8 BK359.out 1).trans rfl; have hcz198_2 : w195.cell? ⟨gb359, 2, none⟩ = some (.int .i64 0) := (b8 BK359.out 2).trans rfl; have hfz198_0 := blk_frozen BK359.out 0; have hfz198_1 := blk_frozen BK359.out 1; have hfz198_2 := blk_frozen BK359.out 2; have hcz199_0 : w195.cell? ⟨gb360, 0, none⟩ = some (.int .i64 0) := (b8 BK360.out 0).trans rfl; have hcz199_1 : w195.cell? ⟨gb360, 1, none⟩ = some (.int .i64 0) := (b8 BK360.out 1).trans rfl; have hcz199_2 : w195.cell? ⟨gb360, 2, none⟩ = some (.slice none 0 0) := (b8 BK360.out 2).trans rfl; have hfz199_0 := blk_frozen BK360.out 0; have hfz199_1 := blk_frozen BK360.out 1; have hfz199_2 := blk_frozen BK360.out 2))
  refine bodyPost_ret (results_list (rs := [.cell 6 26, .cell 7 32, .tmp 8]) rfl (by simp) (.cell gb359 26 #[.slice Ao189 t361.length co189, .int .i64 t364, .int .i64 t365] (0, 0) _ rfl (by (with_reducible repeat (first | refine b1 ?_ _ | refine b2 ?_ | refine b3 ?_ _)); refine blk_far ?_ NB359_360.out _; (with_reducible repeat (first | refine b1 ?_ _ | refine b2 ?_ | refine b3 ?_ _)); refine blk_far ?_ NB359_360.out _; (with_reducible repeat (first | refine b1 ?_ _ | refine b2 ?_ | refine b3 ?_ _)); refine blk_far ?_ NB359_360.out _; (with_reducible repeat (first | refine b1 ?_ _ | refine b2 ?_ | refine b3 ?_ _)); refine blk_put (cs := #[.slice Ao189 t361.length co189, .int .i64 t364, .int .i64 0]) ?_ 2 _ rfl; (with_reducible repeat (first | refine b1 ?_ _ | refine b2 ?_ | refine b3 ?_ _)); refine blk_put (cs := #[.slice Ao189 t361.length co189, .int .i64 0, .int .i64 0]) ?_ 1 _ rfl; (with_reducible repeat (first | refine b1 ?_ _ | refine b2 ?_ | refine b3 ?_ _)); refine blk_put (cs := #[.slice none 0 0, .int .i64 0, .int .i64 0]) ?_ 0 _ rfl; (with_reducible repeat (first | refine b1 ?_ _ | refine b2 ?_ | refine b3 ?_ _)); exact BK359.out) Try.underlying26 rfl (by kernel_rfl) (.cell gb360 32 #[.int .i64 0, .int .i64 0, .slice none 0 0] (0, 0) _ rfl (by (with_reducible repeat (first | refine b1 ?_ _ | refine b2 ?_ | refine b3 ?_ _)); refine blk_put (cs := #[.int .i64 0, .int .i64 0, .slice none 0 0]) ?_ 2 _ rfl; (with_reducible repeat (first | refine b1 ?_ _ | refine b2 ?_ | refine b3 ?_ _)); refine blk_put (cs := #[.int .i64 0, .int .i64 0, .slice none 0 0]) ?_ 1 _ rfl; (with_reducible repeat (first | refine b1 ?_ _ | refine b2 ?_ | refine b3 ?_ _)); refine blk_put (cs := #[.int .i64 0, .int .i64 0, .slice none 0 0]) ?_ 0 _ rfl; (with_reducible repeat (first | refine b1 ?_ _ | refine b2 ?_ | refine b3 ?_ _)); refine blk_far ?_ NB360_359.out _; (with_reducible repeat (first | refine b1 ?_ _ | refine b2 ?_ | refine b3 ?_ _)); refine blk_far ?_ NB360_359.out _; (with_reducible repeat (first | refine b1 ?_ _ | refine b2 ?_ | refine b3 ?_ _)); refine blk_far ?_ NB360_359.out _; (with_reducible repeat (first | refine b1 ?_ _ | refine b2 ?_ | refine b3 ?_ _)); exact BK360.out) Try.underlying32 rfl (by kernel_rfl) (.tmp .nil)))) rfl ?_
  exact ⟨_, _, by first | rfl | (simp [errW_none, errW_some] <;> rfl) | (simp [*, errW_none, errW_some] <;> rfl), by (with_reducible repeat (first | apply Kd.S_alloc | apply Kd.S_drewN | apply Kd.S_drew)); exact Kd.S_mono (Kd.S_far (p := ⟨gb360, 2, none⟩) (Kd.S_far (p := ⟨gb360, 1, none⟩) (Kd.S_far (p := ⟨gb360, 0, none⟩) (Kd.S_far (p := ⟨gb359, 2, none⟩) (Kd.S_far (p := ⟨gb359, 1, none⟩) (Kd.S_far (p := ⟨gb359, 0, none⟩) (Kd.S_mono (Kd.S_mono HO363.out (fun k_ hk => (⟨hk, hk.1.2.2.1⟩ : _ ∧ k_ ≠ gb359))) (fun k_ hk => (⟨hk, hk.1.1.2.2.2⟩ : _ ∧ k_ ≠ gb360))) (fun _ hk => hk.1.2) (.slice Ao189 t361.length co189)) (fun _ hk => hk.1.2) (.int .i64 t364)) (fun _ hk => hk.1.2) (.int .i64 t365)) (fun _ hk => hk.2) (.int .i64 0)) (fun _ hk => hk.2) (.int .i64 0)) (fun _ hk => hk.2) (.slice none 0 0)) (fun _ hk => ⟨hk.1.1.1.1, (by simp [Value.ownBlock])⟩), by first | exact Kd.R_nil _ _ _ _ _ | exact Kd.S_nil _ _ _ _ _ | exact Kd.V_nil _ _ _ _ _ | exact Kd.Q_nil _ _ _ _ _ | exact Kd.S_nil _ _ _ _ _, jzG HB⟩
theorem impl_FetchGlyph.calls (k : Nat) (A0_0 : Option Addr) (c0_0 : Nat) (l0_0 : List (S32)) (a0_1 : Int) (a0_2 : Int) (a1 : Int) (A2 : Option Addr) (c2 : Nat) (l2 : List (S32)) (r1 : List (S32)) (r2 : Int) (r3 : Int) (r4 : Int) (r5 : Int) (r6 : List Int) (r7 : Bool) (w : World) (hr0_0 : Kd.C k32 w A0_0 l0_0.length l0_0) (hc0_0 : l0_0.length ≤ c0_0) (hr2 : Kd.C k32 w A2 l2.length l2) (hc2 : l2.length ≤ c2) (h : impl_FetchGlyph.f k l0_0 a0_1 a0_2 a1 l2 = some (r1, r2, r3, r4, r5, r6, r7)) :
  Calls Try.prog 10 #[.agg #[.slice A0_0 l0_0.length c0_0, .int .i64 a0_1, .int .i64 a0_2], .int .i64 a1, .slice A2 l2.length c2] w fun e w' => ∃ v0_ v5_ : Value, e = .returned (.tuple #[.agg #[v0_, .int .i64 r2, .int .i64 r3], .agg #[.int .i64 r4, .int .i64 r5, v5_], .bool r7]) ∧ Kd.N k32 32 w' w.heap.size (fun k_ => (w.heap.size ≤ k_) ∧ some k_ ≠ (v5_ : Value).ownBlock) v0_ r1 ∧ Kd.R (Kd.int .i64) 3 w' w.heap.size (fun k_ => (w.heap.size ≤ k_)) v5_ r6 ∧ Below w.heap.size w w' := by
 refine (impl_FetchGlyph.calls0 k A0_0 c0_0 l0_0 a0_1 a0_2 a1 A2 c2 l2 r1 r2 r3 r4 r5 r6 r7 w hr0_0 hc0_0 hr2 hc2 h).mono ?_
 rintro e w' ⟨v0_, v5_, he, hS, hR, hb⟩
 exact ⟨v0_, v5_, he, Kd.S_N hS, hR, hb⟩

end Go.Proofs.Ytphjcllhlecpfaa.PFnCaches
