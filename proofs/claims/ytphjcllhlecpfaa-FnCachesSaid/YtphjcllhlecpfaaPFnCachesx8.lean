/- Written by a program of this session (a turned copy of the kit's printer): what each Go function answers, and that it does. -/
import Derived.Test.YtphjcllhlecpfaaPFnCachesx0
import Derived.Test.YtphjcllhlecpfaaPFnCachesx7
namespace Go.Proofs.Ytphjcllhlecpfaa.PFnCaches
open Go.RowKit Go.Proofs.YtphjcllhlecpfaaW.PrintWords Go.Proofs.YtphjcllhlecpfaaW.PrintLast Go.Proofs.YtphjcllhlecpfaaW.PrintMore
attribute [local go_sem] Go.Proofs.Ytphjcllhlecpfaa.Cells.cell_set_at max2_int min2_int max_two min_two max_three min_three max_four min_four   -- for this text's walks alone
set_option linter.unusedVariables false
set_option linter.unusedSimpArgs false

/-! ### impl_copyCache: function 36 -/
def impl_copyCache.l0 : Nat → List (S32) → Int → Int → List (S32) → Int → Int → Option ((List (S32)) × Int × Int)
 | 0, _, _, _, _, _, _ => none
 | k + 1, x12, x13, x14, x348000, x348001, x348002 => if x14 < x13 then (if 0 ≤ x14 then (if x14 < (x12.length : Int) then ((impl_copyGlyph.f ((rd_T32 x12 x14).f0) ((rd_T32 x12 x14).f1) ((rd_T32 x12 x14).f2)).bind fun bt350 => (if x348000.length < 3518437208883 then (impl_copyCache.l0 k x12 x13 (wrap64 (x14 + 1)) (x348000 ++ [(⟨bt350.1, bt350.2.1, bt350.2.2⟩ : S32)]) x348001 x348002) else (none))) else (none)) else (none)) else (some (x348000, x348001, x348002))
def impl_copyCache.f (k : Nat) (l0_0 : List (S32)) (a0_1 : Int) (a0_2 : Int) : Option ((List (S32)) × Int × Int) := impl_copyCache.l0 k l0_0 (l0_0.length : Int) 0 ([] : List (S32)) a0_1 a0_2
theorem impl_copyCache.mono_l : ∀ k, (∀ y0 y1 y2 y3 y4 y5, LeO (impl_copyCache.l0 k y0 y1 y2 y3 y4 y5) (impl_copyCache.l0 (k + 1) y0 y1 y2 y3 y4 y5))
 | 0 => fun _ _ _ _ _ _ r h => by simp [impl_copyCache.l0] at h
 | k + 1 => by
  have ih0 := impl_copyCache.mono_l k
  ·intro y0 y1 y2 y3 y4 y5
   unfold impl_copyCache.l0
   repeat' first
   | (with_reducible exact ih0 _ _ _ _ _ _)
   | (with_reducible exact LeO.refl _)
   | (with_reducible exact LeO.none _)
   | (with_reducible refine LeO.ite ?_ ?_)
   | (with_reducible refine LeO.bind ?_ (fun _ => ?_))
   | exact ih0 _ _ _ _ _ _
   | exact LeO.none _
   | refine LeO.ite ?_ ?_
   | refine LeO.bind ?_ (fun _ => ?_)
theorem impl_copyCache.mono : ∀ a0 a1 a2 k, LeO (impl_copyCache.f k a0 a1 a2) (impl_copyCache.f (k + 1) a0 a1 a2) := by
 intro a0 a1 a2 k
 have ih0 := impl_copyCache.mono_l k
 unfold impl_copyCache.f
 repeat' first
   | (with_reducible exact ih0 _ _ _ _ _ _)
   | (with_reducible exact LeO.refl _)
   | (with_reducible exact LeO.none _)
   | (with_reducible refine LeO.ite ?_ ?_)
   | (with_reducible refine LeO.bind ?_ (fun _ => ?_))
   | exact ih0 _ _ _ _ _ _
   | exact LeO.none _
   | refine LeO.ite ?_ ?_
   | refine LeO.bind ?_ (fun _ => ?_)
def impl_copyCache.T5 : Bool × List (List Nat × List Nat) := (true, [([], []), ([0], [0]), ([], []), ([2], [2]), ([3], [3]), ([1, 4, 3], [1, 4]), ([0, 1, 2, 3, 4, 5], []), ([6, 5, 5, 0, 1, 2, 3, 4, 5], [5, 6])])
def impl_copyCache.B5 : List Nat := [0, 1, 0, 4, 12, 31, 63, 127]
theorem impl_copyCache.tab5 : rtab .any (opsOf Try.f36 5) = impl_copyCache.T5 := by kernel_rfl
theorem impl_copyCache.bits5 : waitsOk impl_copyCache.T5.2 impl_copyCache.B5 = true := by kernel_rfl
set_option maxHeartbeats 8000000 in
set_option maxRecDepth 100000 in
theorem impl_copyCache.calls (k : Nat) (A0_0 : Option Addr) (c0_0 : Nat) (l0_0 : List (S32)) (a0_1 : Int) (a0_2 : Int) (r1 : List (S32)) (r2 : Int) (r3 : Int) (w : World) (hr0_0 : Kd.C k32 w A0_0 l0_0.length l0_0) (hc0_0 : l0_0.length ≤ c0_0) (h : impl_copyCache.f k l0_0 a0_1 a0_2 = some (r1, r2, r3)) :
  Calls Try.prog 36 #[.agg #[.slice A0_0 l0_0.length c0_0, .int .i64 a0_1, .int .i64 a0_2]] w fun e w' => ∃ v0_ : Value, e = .returned (.agg #[v0_, .int .i64 r2, .int .i64 r3]) ∧ Kd.S k32 32 w' w.heap.size (fun _ => True) v0_ r1 ∧ Below w.heap.size w w' := by
 have hu26 := Try.underlying26
 have hu32 := Try.underlying32
 have HR0_0 := Am hr0_0
 have HC0_0 := Am hc0_0
 clear hr0_0 hc0_0
 have HB := Am (Below.refl w.heap.size w)
 have H : (impl_copyCache.l0 k l0_0 (l0_0.length : Int) 0 ([] : List (S32)) a0_1 a0_2) = some (r1, r2, r3) := h
 clear h
 have H' := Am H
 clear H
 go_enter Try.func36, Try.ntmps36
 go_wp2_with (first | ((with_reducible refine gate_dst (N := 1) rfl ?_); refine box_event ?hg (N := 1) ?hd (cs := #[.slice A0_0 l0_0.length c0_0, .int .i64 a0_1, .int .i64 a0_2]) (t := 26) ?hr ?_; (case hd => rfl); (case hg => rfl); (case hr => first | (go_simp; done) | (go_simp; rfl)); intro gb345 hg w2 hbox hb; have n0_ := Am (below_step (jzH HB) hb); have n1_ := Am (hbox); have n2_ := Am ((by rw [hg]; exact (below_size (jzH HB)) : w.heap.size ≤ gb345)); have n3_ := Am ((by rw [hg]; exact (below_size (jzH HB)) : w.heap.size ≤ gb345)); clear HB; have HB := n0_; have BK345 := n1_; have GW345 := n2_; have GE345 := n3_; clear n0_ n1_ n2_ n3_; clear hb hbox hg) | ((with_reducible refine gate_dst (N := 2) rfl ?_); refine box_event ?hg (N := 2) ?hd (cs := #[.slice none 0 0, .int .i64 0, .int .i64 0]) (t := 26) ?hr ?_; (case hd => rfl); (case hg => rfl); (case hr => first | (go_simp; done) | (go_simp; rfl)); intro gb346 hg w3 hbox hb; have n0_ := Am (blk_below (g := gb345) (o := .cells #[.slice A0_0 l0_0.length c0_0, .int .i64 a0_1, .int .i64 a0_2] 26 (0, 0)) (jzB BK345) hb); have n1_ := Am (below_step (jzG HB) hb); have n2_ := Am (hbox); have n3_ := Am ((by rw [hg]; exact (below_size (jzG HB)) : w.heap.size ≤ gb346)); have n4_ := Am ((by rw [hg]; exact (below_size (jzG HB)) : w.heap.size ≤ gb346)); have n5_ := Am ((by rw [hg]; exact Nat.ne_of_lt (blk_lt (g := gb345) (o := .cells #[.slice A0_0 l0_0.length c0_0, .int .i64 a0_1, .int .i64 a0_2] 26 (0, 0)) (jzB BK345)) : gb345 ≠ gb346)); have n6_ := Am ((by rw [hg]; exact Nat.ne_of_gt (blk_lt (g := gb345) (o := .cells #[.slice A0_0 l0_0.length c0_0, .int .i64 a0_1, .int .i64 a0_2] 26 (0, 0)) (jzB BK345)) : gb346 ≠ gb345)); clear BK345; clear HB; have BK345 := n0_; have HB := n1_; have BK346 := n2_; have GW346 := n3_; have GE346 := n4_; have NB345_346 := n5_; have NB346_345 := n6_; clear n0_ n1_ n2_ n3_ n4_ n5_ n6_; clear hb hbox hg; have hnb4 := NB345_346.out; have hnc4 := NB346_345.out; have hcz5_0 : w3.cell? ⟨gb345, 0, none⟩ = some (.slice A0_0 l0_0.length c0_0) := (b8 BK345.out 0).trans rfl; have hcz5_1 : w3.cell? ⟨gb345, 1, none⟩ = some (.int .i64 a0_1) := (b8 BK345.out 1).trans rfl; have hcz5_2 : w3.cell? ⟨gb345, 2, none⟩ = some (.int .i64 a0_2) := (b8 BK345.out 2).trans rfl; have hfz5_0 := blk_frozen BK345.out 0; have hfz5_1 := blk_frozen BK345.out 1; have hfz5_2 := blk_frozen BK345.out 2) | ((with_reducible refine gate_dst (N := 3) rfl ?_); refine box_event ?hg (N := 3) ?hd (cs := #[.slice none 0 0, .int .i64 0, .int .i64 0]) (t := 26) ?hr ?_; (case hd => rfl); (case hg => rfl); (case hr => first | (go_simp; done) | (go_simp; rfl)); intro gb347 hg w6 hbox hb; have n0_ := Am (blk_below (g := gb345) (o := .cells #[.slice A0_0 l0_0.length c0_0, .int .i64 a0_1, .int .i64 a0_2] 26 (0, 0)) (jzB BK345) hb); have n1_ := Am (blk_below (g := gb346) (o := .cells #[.slice none 0 0, .int .i64 0, .int .i64 0] 26 (0, 0)) (jzB BK346) hb); have n2_ := Am (below_step (jzG HB) hb); have n3_ := Am (hbox); have n4_ := Am ((by rw [hg]; exact (below_size (jzG HB)) : w.heap.size ≤ gb347)); have n5_ := Am ((by rw [hg]; exact (below_size (jzG HB)) : w.heap.size ≤ gb347)); have n6_ := Am ((by rw [hg]; exact Nat.ne_of_lt (blk_lt (g := gb345) (o := .cells #[.slice A0_0 l0_0.length c0_0, .int .i64 a0_1, .int .i64 a0_2] 26 (0, 0)) (jzB BK345)) : gb345 ≠ gb347)); have n7_ := Am ((by rw [hg]; exact Nat.ne_of_gt (blk_lt (g := gb345) (o := .cells #[.slice A0_0 l0_0.length c0_0, .int .i64 a0_1, .int .i64 a0_2] 26 (0, 0)) (jzB BK345)) : gb347 ≠ gb345)); have n8_ := Am ((by rw [hg]; exact Nat.ne_of_lt (blk_lt (g := gb346) (o := .cells #[.slice none 0 0, .int .i64 0, .int .i64 0] 26 (0, 0)) (jzB BK346)) : gb346 ≠ gb347)); have n9_ := Am ((by rw [hg]; exact Nat.ne_of_gt (blk_lt (g := gb346) (o := .cells #[.slice none 0 0, .int .i64 0, .int .i64 0] 26 (0, 0)) (jzB BK346)) : gb347 ≠ gb346)); clear BK345; clear BK346; clear HB; have BK345 := n0_; have BK346 := n1_; have HB := n2_; have BK347 := n3_; have GW347 := n4_; have GE347 := n5_; have NB345_347 := n6_; have NB347_345 := n7_; have NB346_347 := n8_; have NB347_346 := n9_; clear n0_ n1_ n2_ n3_ n4_ n5_ n6_ n7_ n8_ n9_; clear hb hbox hg; have hnb7 := NB347_345.out; have hnc7 := NB345_347.out; have hnb8 := NB347_346.out; have hnc8 := NB346_347.out; have hcz9_0 : w6.cell? ⟨gb347, 0, none⟩ = some (.slice none 0 0) := (b8 BK347.out 0).trans rfl; have hcz9_1 : w6.cell? ⟨gb347, 1, none⟩ = some (.int .i64 0) := (b8 BK347.out 1).trans rfl; have hcz9_2 : w6.cell? ⟨gb347, 2, none⟩ = some (.int .i64 0) := (b8 BK347.out 2).trans rfl; have hfz9_0 := blk_frozen BK347.out 0; have hfz9_1 := blk_frozen BK347.out 1; have hfz9_2 := blk_frozen BK347.out 2; have hcz10_0 : w6.cell? ⟨gb345, 0, none⟩ = some (.slice A0_0 l0_0.length c0_0) := (b8 BK345.out 0).trans rfl; have hcz10_1 : w6.cell? ⟨gb345, 1, none⟩ = some (.int .i64 a0_1) := (b8 BK345.out 1).trans rfl; have hcz10_2 : w6.cell? ⟨gb345, 2, none⟩ = some (.int .i64 a0_2) := (b8 BK345.out 2).trans rfl; have hfz10_0 := blk_frozen BK345.out 0; have hfz10_1 := blk_frozen BK345.out 1; have hfz10_2 := blk_frozen BK345.out 2))
 go_loopg [14] k (fun kq v14 w' => ∃ (x14_1 : Int) (x348000_1 : List (S32)) (u348000 : Value), v14 = .int .i64 x14_1 ∧ Aside0 (impl_copyCache.l0 kq l0_0 (l0_0.length : Int) x14_1 x348000_1 a0_1 a0_2 = some (r1, r2, r3)) ∧ Aside0 (kq ≤ k) ∧ Aside0 (Kd.S k32 32 w' w.heap.size (fun _ => True) u348000 x348000_1) ∧ Aside0 (w'.heap[gb345]? = some (.cells #[(.slice A0_0 l0_0.length c0_0), .int .i64 a0_1, .int .i64 a0_2] 26 (0, 0))) ∧ Aside0 (w'.heap[gb346]? = some (.cells #[(.slice none 0 0), .int .i64 0, .int .i64 0] 26 (0, 0))) ∧ Aside0 (w'.heap[gb347]? = some (.cells #[u348000, .int .i64 a0_1, .int .i64 a0_2] 26 (0, 0))) ∧ Aside0 (Below w.heap.size w w'))
 case atStart => exact ⟨(0), (([] : List (S32))), (.slice none 0 0), (by first | rfl | (simp; done) | (simp [*]; done)), H', ⟨Nat.le_refl _⟩, ⟨by first | exact Kd.S_nil _ _ _ _ _ | exact Kd.N_nil _ _ _ _ _ | exact Kd.V_nil _ _ _ _ _ | exact Kd.Q_nil _ _ _ _ _ | exact Kd.R_nil _ _ _ _ _⟩, ⟨by (with_reducible repeat (first | refine b1 ?_ _ | refine b2 ?_ | refine b3 ?_ _)); refine blk_far ?_ NB345_347.out _; (with_reducible repeat (first | refine b1 ?_ _ | refine b2 ?_ | refine b3 ?_ _)); refine blk_far ?_ NB345_347.out _; (with_reducible repeat (first | refine b1 ?_ _ | refine b2 ?_ | refine b3 ?_ _)); refine blk_far ?_ NB345_347.out _; (with_reducible repeat (first | refine b1 ?_ _ | refine b2 ?_ | refine b3 ?_ _)); exact BK345.out⟩, ⟨by (with_reducible repeat (first | refine b1 ?_ _ | refine b2 ?_ | refine b3 ?_ _)); refine blk_far ?_ NB346_347.out _; (with_reducible repeat (first | refine b1 ?_ _ | refine b2 ?_ | refine b3 ?_ _)); refine blk_far ?_ NB346_347.out _; (with_reducible repeat (first | refine b1 ?_ _ | refine b2 ?_ | refine b3 ?_ _)); refine blk_far ?_ NB346_347.out _; (with_reducible repeat (first | refine b1 ?_ _ | refine b2 ?_ | refine b3 ?_ _)); exact BK346.out⟩, ⟨by (with_reducible repeat (first | refine b1 ?_ _ | refine b2 ?_ | refine b3 ?_ _)); refine blk_put (cs := #[.slice none 0 0, .int .i64 a0_1, .int .i64 0]) ?_ 2 _ rfl; (with_reducible repeat (first | refine b1 ?_ _ | refine b2 ?_ | refine b3 ?_ _)); refine blk_put (cs := #[.slice none 0 0, .int .i64 0, .int .i64 0]) ?_ 1 _ rfl; (with_reducible repeat (first | refine b1 ?_ _ | refine b2 ?_ | refine b3 ?_ _)); refine blk_put (cs := #[.slice none 0 0, .int .i64 0, .int .i64 0]) ?_ 0 _ rfl; (with_reducible repeat (first | refine b1 ?_ _ | refine b2 ?_ | refine b3 ?_ _)); exact BK347.out⟩, ⟨jzG HB⟩⟩
 case round =>
  clear H'
  try clear p2
  try clear c3
  try clear c4
  try clear c7
  try clear c8
  try clear hcz10_0
  try clear hcz10_1
  try clear hcz10_2
  try clear hcz5_0
  try clear hcz5_1
  try clear hcz5_2
  try clear hcz9_0
  try clear hcz9_1
  try clear hcz9_2
  try clear hfz10_0
  try clear hfz10_1
  try clear hfz10_2
  try clear hfz5_0
  try clear hfz5_1
  try clear hfz5_2
  try clear hfz9_0
  try clear hfz9_1
  try clear hfz9_2
  obtain ⟨x14_1, x348000_1, u348000, rfl, HA, HK1, HO_348000, BK345, BK346, BK347, HB⟩ := hrel
  cases gk with
  | zero => exact absurd HA.out (by simp [impl_copyCache.l0])
  | succ k1 =>
   have H := HA.out
   clear HA
   simp only [impl_copyCache.l0] at H
   by_cases c11 : x14_1 < (l0_0.length : Int)
   ·rw [if_pos c11] at H
    have c11b0 : decide (x14_1 < (l0_0.length : Int)) = true := decide_eq_true c11
    clear c11
    by_cases c12 : 0 ≤ x14_1
    ·rw [if_pos c12] at H
     have c12b0 : decide (0 ≤ x14_1) = true := decide_eq_true c12
     clear c12
     by_cases c13 : x14_1 < (l0_0.length : Int)
     ·rw [if_pos c13] at H
      have c13b0 : decide (x14_1 < (l0_0.length : Int)) = true := decide_eq_true c13
      clear c13
      replace H := Option.bind_eq_some_iff.mp H
      obtain ⟨⟨t350, t351, t352⟩, A140, H⟩ := H
      replace H : (if x348000_1.length < 3518437208883 then (impl_copyCache.l0 k1 l0_0 (l0_0.length : Int) (wrap64 (x14_1 + 1)) (x348000_1 ++ [(⟨t350, t351, t352⟩ : S32)]) a0_1 a0_2) else (none)) = some (r1, r2, r3) := H
      have A14 := Am A140
      clear A140
      by_cases c15 : x348000_1.length < 3518437208883
      ·rw [if_pos c15] at H
       have LMc15 := Am c15
       clear c15
       obtain ⟨y355, hy355⟩ : ∃ y_ : List (S32), y_ = (x348000_1 ++ [(⟨t350, t351, t352⟩ : S32)]) := ⟨_, rfl⟩
       replace H : (impl_copyCache.l0 k1 l0_0 (l0_0.length : Int) (wrap64 (x14_1 + 1)) y355 a0_1 a0_2) = some (r1, r2, r3) := by first | (rw [hy355]; with_reducible exact H) | (have H2_ := (Option.bind_some _ _).symm.trans H; rw [hy355]; with_reducible exact H2_) | (have H2_ := (Option.bind_some _ _).symm.trans H; with_reducible exact H2_) | with_reducible exact H | (rw [hy355]; exact H) | exact H
       have Ny355 := Am hy355
       clear hy355
       have H' := Am H
       clear H
       have p348 : 0 ≤ (x14_1 : Int) := of_decide_eq_true jzS
       have q348 : x14_1 < (l0_0.length : Int) := of_decide_eq_true jzS
       obtain ⟨ad348, A348_2, c348_2, e348, hx348_0, hx348_1, hx348_2, hl348_2, hi348_2⟩ := at_T32 HR0_0.out x14_1 p348 q348
       cases e348
       replace hx348_0 := (HB.out.cell (World.block_lt_of_cell? w _ hx348_0)).trans hx348_0
       replace hx348_1 := (HB.out.cell (World.block_lt_of_cell? w _ hx348_1)).trans hx348_1
       replace hx348_2 := (HB.out.cell (World.block_lt_of_cell? w _ hx348_2)).trans hx348_2
       have HR348_2 := Am hi348_2
       have HC348_2 := Am hl348_2
       clear hi348_2 hl348_2
       replace p348 := eq_true p348
       replace q348 := eq_true q348
       try go_wp2_with (first | ((with_reducible refine gate_dst (N := 5) rfl ?_); refine box_event ?hg (N := 5) ?hd (cs := #[.int .i64 0, .int .i64 0, .slice none 0 0]) (t := 32) ?hr ?_; (case hd => rfl); (case hg => rfl); (case hr => first | (go_simp; done) | (go_simp; rfl)); intro gb349 hg w16 hbox hb; have n0_ := Am (Kd.S_below (Kd.S_elderB (jzO HO_348000) gb349 (Nat.le_of_eq hg.symm)) hb); have n1_ := Am (blk_below (g := gb345) (o := .cells #[.slice (some ad348) l0_0.length c0_0, .int .i64 a0_1, .int .i64 a0_2] 26 (0, 0)) (jzB BK345) hb); have n2_ := Am (blk_below (g := gb346) (o := .cells #[.slice none 0 0, .int .i64 0, .int .i64 0] 26 (0, 0)) (jzB BK346) hb); have n3_ := Am (blk_below (g := gb347) (o := .cells #[u348000, .int .i64 a0_1, .int .i64 a0_2] 26 (0, 0)) (jzB BK347) hb); have n4_ := Am (below_step (jzG HB) hb); have n5_ := Am (hbox); have n6_ := Am ((by rw [hg]; exact (below_size (jzG HB)) : w.heap.size ≤ gb349)); have n7_ := Am ((by rw [hg]; exact (below_size (jzG HB)) : w.heap.size ≤ gb349)); have n8_ := Am ((by rw [hg]; exact Nat.ne_of_lt (blk_lt (g := gb345) (o := .cells #[.slice (some ad348) l0_0.length c0_0, .int .i64 a0_1, .int .i64 a0_2] 26 (0, 0)) (jzB BK345)) : gb345 ≠ gb349)); have n9_ := Am ((by rw [hg]; exact Nat.ne_of_gt (blk_lt (g := gb345) (o := .cells #[.slice (some ad348) l0_0.length c0_0, .int .i64 a0_1, .int .i64 a0_2] 26 (0, 0)) (jzB BK345)) : gb349 ≠ gb345)); have n10_ := Am ((by rw [hg]; exact Nat.ne_of_lt (blk_lt (g := gb346) (o := .cells #[.slice none 0 0, .int .i64 0, .int .i64 0] 26 (0, 0)) (jzB BK346)) : gb346 ≠ gb349)); have n11_ := Am ((by rw [hg]; exact Nat.ne_of_gt (blk_lt (g := gb346) (o := .cells #[.slice none 0 0, .int .i64 0, .int .i64 0] 26 (0, 0)) (jzB BK346)) : gb349 ≠ gb346)); have n12_ := Am ((by rw [hg]; exact Nat.ne_of_lt (blk_lt (g := gb347) (o := .cells #[u348000, .int .i64 a0_1, .int .i64 a0_2] 26 (0, 0)) (jzB BK347)) : gb347 ≠ gb349)); have n13_ := Am ((by rw [hg]; exact Nat.ne_of_gt (blk_lt (g := gb347) (o := .cells #[u348000, .int .i64 a0_1, .int .i64 a0_2] 26 (0, 0)) (jzB BK347)) : gb349 ≠ gb347)); clear HO_348000; clear BK345; clear BK346; clear BK347; clear HB; have HO_348000 := n0_; have BK345 := n1_; have BK346 := n2_; have BK347 := n3_; have HB := n4_; have BK349 := n5_; have GW349 := n6_; have GE349 := n7_; have NB345_349 := n8_; have NB349_345 := n9_; have NB346_349 := n10_; have NB349_346 := n11_; have NB347_349 := n12_; have NB349_347 := n13_; clear n0_ n1_ n2_ n3_ n4_ n5_ n6_ n7_ n8_ n9_ n10_ n11_ n12_ n13_; clear hb hbox hg; have hnb17 := NB349_345.out; have hnc17 := NB345_349.out; have hnb18 := NB349_346.out; have hnc18 := NB346_349.out; have hnb19 := NB349_347.out; have hnc19 := NB347_349.out; have hcz20_0 : w16.cell? ⟨gb349, 0, none⟩ = some (.int .i64 0) := (b8 BK349.out 0).trans rfl; have hcz20_1 : w16.cell? ⟨gb349, 1, none⟩ = some (.int .i64 0) := (b8 BK349.out 1).trans rfl; have hcz20_2 : w16.cell? ⟨gb349, 2, none⟩ = some (.slice none 0 0) := (b8 BK349.out 2).trans rfl; have hfz20_0 := blk_frozen BK349.out 0; have hfz20_1 := blk_frozen BK349.out 1; have hfz20_2 := blk_frozen BK349.out 2))
       have n0_ : Aside0 (Kd.S k32 32 (((w16.setCell ⟨gb349, 0, none⟩ (.int .i64 ((rd_T32 l0_0 x14_1).f0))).setCell ⟨gb349, 1, none⟩ (.int .i64 ((rd_T32 l0_0 x14_1).f1))).setCell ⟨gb349, 2, none⟩ (.slice A348_2 ((rd_T32 l0_0 x14_1).f2).length c348_2)) w.heap.size (fun k_ => k_ ≠ gb349) u348000 x348000_1) := ⟨by (with_reducible repeat (first | apply Kd.S_alloc | apply Kd.S_drewN | apply Kd.S_drew)); exact Kd.S_mono (Kd.S_far (p := ⟨gb349, 2, none⟩) (Kd.S_far (p := ⟨gb349, 1, none⟩) (Kd.S_far (p := ⟨gb349, 0, none⟩) (Kd.S_mono HO_348000.out (fun k_ hk => (⟨hk, hk.2⟩ : _ ∧ k_ ≠ gb349))) (fun _ hk => hk.2) (.int .i64 ((rd_T32 l0_0 x14_1).f0))) (fun _ hk => hk.2) (.int .i64 ((rd_T32 l0_0 x14_1).f1))) (fun _ hk => hk.2) (.slice A348_2 ((rd_T32 l0_0 x14_1).f2).length c348_2)) (fun _ hk => hk.1.2)⟩
       have n1_ : Aside0 ((((w16.setCell ⟨gb349, 0, none⟩ (.int .i64 ((rd_T32 l0_0 x14_1).f0))).setCell ⟨gb349, 1, none⟩ (.int .i64 ((rd_T32 l0_0 x14_1).f1))).setCell ⟨gb349, 2, none⟩ (.slice A348_2 ((rd_T32 l0_0 x14_1).f2).length c348_2)).heap[gb345]? = some (.cells #[.slice (some ad348) l0_0.length c0_0, .int .i64 a0_1, .int .i64 a0_2] 26 (0, 0))) := ⟨by (with_reducible repeat (first | refine b1 ?_ _ | refine b2 ?_ | refine b3 ?_ _)); refine blk_far ?_ NB345_349.out _; (with_reducible repeat (first | refine b1 ?_ _ | refine b2 ?_ | refine b3 ?_ _)); refine blk_far ?_ NB345_349.out _; (with_reducible repeat (first | refine b1 ?_ _ | refine b2 ?_ | refine b3 ?_ _)); refine blk_far ?_ NB345_349.out _; (with_reducible repeat (first | refine b1 ?_ _ | refine b2 ?_ | refine b3 ?_ _)); exact BK345.out⟩
       have n2_ : Aside0 ((((w16.setCell ⟨gb349, 0, none⟩ (.int .i64 ((rd_T32 l0_0 x14_1).f0))).setCell ⟨gb349, 1, none⟩ (.int .i64 ((rd_T32 l0_0 x14_1).f1))).setCell ⟨gb349, 2, none⟩ (.slice A348_2 ((rd_T32 l0_0 x14_1).f2).length c348_2)).heap[gb346]? = some (.cells #[.slice none 0 0, .int .i64 0, .int .i64 0] 26 (0, 0))) := ⟨by (with_reducible repeat (first | refine b1 ?_ _ | refine b2 ?_ | refine b3 ?_ _)); refine blk_far ?_ NB346_349.out _; (with_reducible repeat (first | refine b1 ?_ _ | refine b2 ?_ | refine b3 ?_ _)); refine blk_far ?_ NB346_349.out _; (with_reducible repeat (first | refine b1 ?_ _ | refine b2 ?_ | refine b3 ?_ _)); refine blk_far ?_ NB346_349.out _; (with_reducible repeat (first | refine b1 ?_ _ | refine b2 ?_ | refine b3 ?_ _)); exact BK346.out⟩
       have n3_ : Aside0 ((((w16.setCell ⟨gb349, 0, none⟩ (.int .i64 ((rd_T32 l0_0 x14_1).f0))).setCell ⟨gb349, 1, none⟩ (.int .i64 ((rd_T32 l0_0 x14_1).f1))).setCell ⟨gb349, 2, none⟩ (.slice A348_2 ((rd_T32 l0_0 x14_1).f2).length c348_2)).heap[gb347]? = some (.cells #[u348000, .int .i64 a0_1, .int .i64 a0_2] 26 (0, 0))) := ⟨by (with_reducible repeat (first | refine b1 ?_ _ | refine b2 ?_ | refine b3 ?_ _)); refine blk_far ?_ NB347_349.out _; (with_reducible repeat (first | refine b1 ?_ _ | refine b2 ?_ | refine b3 ?_ _)); refine blk_far ?_ NB347_349.out _; (with_reducible repeat (first | refine b1 ?_ _ | refine b2 ?_ | refine b3 ?_ _)); refine blk_far ?_ NB347_349.out _; (with_reducible repeat (first | refine b1 ?_ _ | refine b2 ?_ | refine b3 ?_ _)); exact BK347.out⟩
       have n4_ : Aside0 ((((w16.setCell ⟨gb349, 0, none⟩ (.int .i64 ((rd_T32 l0_0 x14_1).f0))).setCell ⟨gb349, 1, none⟩ (.int .i64 ((rd_T32 l0_0 x14_1).f1))).setCell ⟨gb349, 2, none⟩ (.slice A348_2 ((rd_T32 l0_0 x14_1).f2).length c348_2)).heap[gb349]? = some (.cells #[.int .i64 ((rd_T32 l0_0 x14_1).f0), .int .i64 ((rd_T32 l0_0 x14_1).f1), .slice A348_2 ((rd_T32 l0_0 x14_1).f2).length c348_2] 32 (0, 0))) := ⟨by (with_reducible repeat (first | refine b1 ?_ _ | refine b2 ?_ | refine b3 ?_ _)); refine blk_put (cs := #[.int .i64 ((rd_T32 l0_0 x14_1).f0), .int .i64 ((rd_T32 l0_0 x14_1).f1), .slice none 0 0]) ?_ 2 _ rfl; (with_reducible repeat (first | refine b1 ?_ _ | refine b2 ?_ | refine b3 ?_ _)); refine blk_put (cs := #[.int .i64 ((rd_T32 l0_0 x14_1).f0), .int .i64 0, .slice none 0 0]) ?_ 1 _ rfl; (with_reducible repeat (first | refine b1 ?_ _ | refine b2 ?_ | refine b3 ?_ _)); refine blk_put (cs := #[.int .i64 0, .int .i64 0, .slice none 0 0]) ?_ 0 _ rfl; (with_reducible repeat (first | refine b1 ?_ _ | refine b2 ?_ | refine b3 ?_ _)); exact BK349.out⟩
       have n5_ : Aside0 (Below w.heap.size w (((w16.setCell ⟨gb349, 0, none⟩ (.int .i64 ((rd_T32 l0_0 x14_1).f0))).setCell ⟨gb349, 1, none⟩ (.int .i64 ((rd_T32 l0_0 x14_1).f1))).setCell ⟨gb349, 2, none⟩ (.slice A348_2 ((rd_T32 l0_0 x14_1).f2).length c348_2))) := ⟨jzG HB⟩
       (try clear HO_348000)
       (try clear BK345)
       (try clear BK346)
       (try clear BK347)
       (try clear BK349)
       (try clear HB)
       generalize (((w16.setCell ⟨gb349, 0, none⟩ (.int .i64 ((rd_T32 l0_0 x14_1).f0))).setCell ⟨gb349, 1, none⟩ (.int .i64 ((rd_T32 l0_0 x14_1).f1))).setCell ⟨gb349, 2, none⟩ (.slice A348_2 ((rd_T32 l0_0 x14_1).f2).length c348_2)) = w21 at n0_ n1_ n2_ n3_ n4_ n5_ ⊢
       have HO_348000 := n0_
       have BK345 := n1_
       have BK346 := n2_
       have BK347 := n3_
       have BK349 := n4_
       have HB := n5_
       clear n0_ n1_ n2_ n3_ n4_ n5_
       have n0_ := Am (Kd.S_drew HO_348000.out)
       have n1_ := Am (b2 BK345.out)
       have n2_ := Am (b2 BK346.out)
       have n3_ := Am (b2 BK347.out)
       have n4_ := Am (b2 BK349.out)
       have n5_ := Am (b6 HB.out)
       clear HO_348000
       clear BK345
       clear BK346
       clear BK347
       clear BK349
       clear HB
       have HO_348000 := n0_
       have BK345 := n1_
       have BK346 := n2_
       have BK347 := n3_
       have BK349 := n4_
       have HB := n5_
       clear n0_ n1_ n2_ n3_ n4_ n5_
       refine start_ (n := 8) (S := fun w' => w'.cell? ⟨gb347, 0, none⟩ = some (u348000) ∧ w'.cell? ⟨gb347, 1, none⟩ = some (.int .i64 a0_1) ∧ w'.cell? ⟨gb347, 2, none⟩ = some (.int .i64 a0_2) ∧ w'.cell? ⟨gb349, 0, none⟩ = some (.int .i64 ((rd_T32 l0_0 x14_1).f0)) ∧ w'.cell? ⟨gb349, 1, none⟩ = some (.int .i64 ((rd_T32 l0_0 x14_1).f1)) ∧ w'.cell? ⟨gb349, 2, none⟩ = some (.slice A348_2 ((rd_T32 l0_0 x14_1).f2).length c348_2)) (ds := [7]) #[F,F,F,F,F,F,F,F] (by kernel_rfl) rfl rfl ⟨(b8 BK347.out 0).trans rfl, (b8 BK347.out 1).trans rfl, (b8 BK347.out 2).trans rfl, (b8 BK349.out 0).trans rfl, (b8 BK349.out 1).trans rfl, (b8 BK349.out 2).trans rfl⟩ (fun hHeld => ?_); refine with_tabW impl_copyCache.tab5 impl_copyCache.bits5 (fun HT_ HW_ => ?_)
       generalize w21.drew = w22 at HO_348000 BK345 BK346 BK347 BK349 HB hHeld ⊢
       refine pure_ (i := 0) (N := some 18) (v := ?_) (a' := ?_) #[T,F,F,F,F,F,F,F] rfl rfl (any_of HT_.out (by kernel_rfl)) (fun _ _ _ h => h) (Or.inl ⟨by rfl, ?_⟩) ?_ ?_
       rotate_left; intro w'; go_simp; with_reducible rfl; rotate_left; simp only [Act.put, zA, zB, zC, i64_w, i32_w]; rfl
       refine take_ (i := 1) (N := some 19) (v := ?_) (a' := ?_) #[T,T,F,F,F,F,F,F] rfl rfl (take_ofW HT_.out HW_.out (by kernel_rfl)) (fun _ _ _ h => h) (Or.inl ⟨by rfl, ?_⟩) hHeld ?_ ?_
       rotate_left; rintro w' ⟨s0, s1, s2, s3, s4, s5⟩; go_simp; with_reducible rfl; rotate_left; simp only [Act.put, zA, zB, zC, i64_w, i32_w]; rfl
       refine take_ (i := 2) (N := some 20) (v := ?_) (a' := ?_) #[T,T,T,F,F,F,F,F] rfl rfl (take_ofW HT_.out HW_.out (by kernel_rfl)) (fun _ _ _ h => h) (Or.inl ⟨by rfl, ?_⟩) hHeld ?_ ?_
       rotate_left; rintro w' ⟨s0, s1, s2, s3, s4, s5⟩; go_simp; with_reducible rfl; rotate_left; simp only [Act.put, zA, zB, zC, i64_w, i32_w]; rfl
       refine one_ (i := 3) (N := some 21) #[T,T,T,T,F,F,F,F] rfl rfl (one_of HT_.out (by kernel_rfl)) (by decide) (fun K hK => ?_)
       refine goes_ Try.func38 (by kernel_rfl) rfl #[.agg #[.int .i64 ((rd_T32 l0_0 x14_1).f0), .int .i64 ((rd_T32 l0_0 x14_1).f1), .slice A348_2 ((rd_T32 l0_0 x14_1).f2).length c348_2]] (by rfl) rfl rfl jzA ?_
       with_reducible refine (impl_copyGlyph.calls ((rd_T32 l0_0 x14_1).f0) ((rd_T32 l0_0 x14_1).f1) _ _ ((rd_T32 l0_0 x14_1).f2) t350 t351 t352 _ ?side1 ?side2 A14.out).mono ?_
       (case side1 => exact jzC HR348_2 HB)
       (case side2 => exact HC348_2.out)
       rintro e w23 ⟨v353, rfl, ho0, hb⟩
       refine ⟨_, rfl, ?_⟩
       have n0_ := Am (Kd.S_elder' (jzO HO_348000) (Kd.R_base ho0) hb)
       have n1_ := Am (Kd.R_lower ho0 (below_size (jzG HB)))
       have n2_ := Am (blk_below (g := gb345) (o := .cells #[.slice (some ad348) l0_0.length c0_0, .int .i64 a0_1, .int .i64 a0_2] 26 (0, 0)) (jzB BK345) hb)
       have n3_ := Am (blk_below (g := gb346) (o := .cells #[.slice none 0 0, .int .i64 0, .int .i64 0] 26 (0, 0)) (jzB BK346) hb)
       have n4_ := Am (blk_below (g := gb347) (o := .cells #[u348000, .int .i64 a0_1, .int .i64 a0_2] 26 (0, 0)) (jzB BK347) hb)
       have n5_ := Am (blk_below (g := gb349) (o := .cells #[.int .i64 ((rd_T32 l0_0 x14_1).f0), .int .i64 ((rd_T32 l0_0 x14_1).f1), .slice A348_2 ((rd_T32 l0_0 x14_1).f2).length c348_2] 32 (0, 0)) (jzB BK349) hb)
       have n6_ := Am (below_step (jzG HB) hb)
       clear HO_348000
       clear BK345
       clear BK346
       clear BK347
       clear BK349
       clear HB
       have HO_348000 := n0_
       have HO354 := n1_
       have BK345 := n2_
       have BK346 := n3_
       have BK347 := n4_
       have BK349 := n5_
       have HB := n6_
       clear n0_ n1_ n2_ n3_ n4_ n5_ n6_
       (try clear hb)
       (try clear hb2)
       (try clear hk)
       (try clear hi)
       (try clear ho0)
       obtain ⟨Ao25, co25, eo25⟩ := Kd.R_slice HO354.out
       (first | subst eo25 | (injection eo25 with f1_ f2_ f3_; have f4_ := f1_.symm; have f5_ := f3_.symm; clear f1_ f2_ f3_; subst f4_; subst f5_))
       refine hK.out _ _ ⟨(b8 BK347.out 0).trans rfl, (b8 BK347.out 1).trans rfl, (b8 BK347.out 2).trans rfl, (b8 BK349.out 0).trans rfl, (b8 BK349.out 1).trans rfl, (b8 BK349.out 2).trans rfl⟩ (fun hHeld => ?_)
       clear hK K
       refine norm_ (a' := ?_) ?_ ?_
       rotate_left
       ·show Act.put _ (some 21) _ = _
        simp only [Act.put, zA, zB, zC, i64_w, i32_w]
        rfl
       refine one_ (i := 4) (N := some 22) #[T,T,T,T,T,F,F,F] rfl rfl (one_of HT_.out (by kernel_rfl)) (by decide) (fun K hK => ?_)
       refine value_ (w1 := ?_) (v := ?_) (by rfl) rfl ?_ ?_
       rotate_left 2
       ·go_simp
        constructor
        ·rfl
        ·rfl
       refine hK.out _ _ ⟨(b8 (b3 BK347.out _) 0).trans rfl, (b8 (b3 BK347.out _) 1).trans rfl, (b8 (b3 BK347.out _) 2).trans rfl, (b8 (b3 BK349.out _) 0).trans rfl, (b8 (b3 BK349.out _) 1).trans rfl, (b8 (b3 BK349.out _) 2).trans rfl⟩ (fun hHeld => ?_)
       clear hK K
       refine norm_ (a' := ?_) ?_ ?_
       rotate_left
       ·show Act.put _ (some 22) _ = _
        simp only [Act.put, zA, zB, zC, i64_w, i32_w]
        rfl
       refine one_ (i := 5) (N := some 23) #[T,T,T,T,T,T,F,F] rfl rfl (one_of HT_.out (by kernel_rfl)) (by decide) (fun K hK => ?_)
       refine Kd.S_append_step k32 (w0 := w) w.heap.size (by rfl) (.tmp 19) (.tmp 22) 24 32 (.agg #[(.int .i64 0), (.int .i64 0), (.slice none 0 0)]) 40 rfl Try.underlying24 info32 rfl (by decide) (by omega) u348000 x348000_1 (⟨t350, t351, t352⟩ : S32) [.int .i64 t350, .int .i64 t351, .slice Ao25 t352.length co25] (fun k_ => k_ ≠ gb349) (fun k_ => some k_ = (.slice Ao25 t352.length co25 : Value).ownBlock) rfl rfl ?aP (fun k_ hk_ => ((Kd.R_mono (ok' := fun k_ => ((fun k_ => k_ ≠ gb349)) k_ ∧ some k_ ≠ (u348000 : Value).ownBlock) (Kd.R_types (Kd.R_apart' (HO354.out) (Kd.S_typed HO_348000.out) (by decide)) BK349.out (by decide)) (fun k_ hk => ⟨hk.2, hk.1.2⟩))).1 k_ hk_.symm) ?aF ?aO ?aB ?aS ?aL ?_
       (case aP => exact k32_mkM _ _ _ (⟨t350, t351, t352⟩ : S32) (Kd.R_mono (Kd.R_tight rfl (Kd.R_mono (ok' := fun k_ => ((fun k_ => k_ ≠ gb349)) k_ ∧ some k_ ≠ (u348000 : Value).ownBlock) (Kd.R_types (Kd.R_apart' (HO354.out) (Kd.S_typed HO_348000.out) (by decide)) BK349.out (by decide)) (fun k_ hk => ⟨hk.2, hk.1.2⟩))) (fun _ h_ => h_)))
       (case aB => exact (jzG HB))
       (case aF => exact (fun k_ hk => Kd.freshB (g := gb349) (o := .cells #[.int .i64 ((rd_T32 l0_0 x14_1).f0), .int .i64 ((rd_T32 l0_0 x14_1).f1), .slice A348_2 ((rd_T32 l0_0 x14_1).f2).length c348_2] 32 (0, 0)) (jzB BK349) k_ hk))
       (case aO => exact (by (with_reducible repeat (first | apply Kd.S_alloc | apply Kd.S_drewN | apply Kd.S_drew)); exact Kd.S_mono HO_348000.out (fun k_ hk => ⟨hk.1, fun e_ => hk.2 e_⟩)))
       (case aS => exact (below_size (jzG HB)))
       (case aL => have := LMc15.out; omega)
       intro v356 w24 ho hb hg hat
       rw [← Ny355.out] at ho
       have n0_ := Am (blk_grown (g := gb345) (o := .cells #[.slice (some ad348) l0_0.length c0_0, .int .i64 a0_1, .int .i64 a0_2] 26 (0, 0)) (jzB BK345) hg (Kd.S_ne HO_348000.out BK345.out (by decide)))
       have n1_ := Am (blk_grown (g := gb346) (o := .cells #[.slice none 0 0, .int .i64 0, .int .i64 0] 26 (0, 0)) (jzB BK346) hg (Kd.S_ne HO_348000.out BK346.out (by decide)))
       have n2_ := Am (blk_grown (g := gb347) (o := .cells #[u348000, .int .i64 a0_1, .int .i64 a0_2] 26 (0, 0)) (jzB BK347) hg (Kd.S_ne HO_348000.out BK347.out (by decide)))
       have n3_ := Am (blk_grown (g := gb349) (o := .cells #[.int .i64 ((rd_T32 l0_0 x14_1).f0), .int .i64 ((rd_T32 l0_0 x14_1).f1), .slice A348_2 ((rd_T32 l0_0 x14_1).f2).length c348_2] 32 (0, 0)) (jzB BK349) hg (Kd.S_away HO_348000.out (fun _ hk => hk.1)))
       have n4_ := Am (hb)
       have n5_ := Am (ho)
       clear BK345
       clear BK346
       clear BK347
       clear BK349
       clear HB
       clear HO_348000
       clear HO354
       have BK345 := n0_
       have BK346 := n1_
       have BK347 := n2_
       have BK349 := n3_
       have HB := n4_
       have HO357 := n5_
       clear n0_ n1_ n2_ n3_ n4_ n5_
       clear ho hb hg hat
       obtain ⟨Ao26, co26, eo26⟩ := Kd.S_slice HO357.out
       (first | subst eo26 | (injection eo26 with f1_ f2_ f3_; have f4_ := f1_.symm; have f5_ := f3_.symm; clear f1_ f2_ f3_; subst f4_; subst f5_))
       refine hK.out _ _ ⟨(b8 BK347.out 0).trans rfl, (b8 BK347.out 1).trans rfl, (b8 BK347.out 2).trans rfl, (b8 BK349.out 0).trans rfl, (b8 BK349.out 1).trans rfl, (b8 BK349.out 2).trans rfl⟩ (fun hHeld => ?_)
       clear hK K
       refine norm_ (a' := ?_) ?_ ?_
       rotate_left
       ·show Act.put _ (some 23) _ = _
        simp only [Act.put, zA, zB, zC, i64_w, i32_w]
        rfl
       refine pure_ (i := 6) (N := some 24) (v := ?_) (a' := ?_) #[T,T,T,T,T,T,T,F] rfl rfl (any_of HT_.out (by kernel_rfl)) (fun _ _ _ h => h) (Or.inl ⟨by rfl, ?_⟩) ?_ ?_
       rotate_left; intro w'; go_simp; with_reducible rfl; rotate_left; simp only [Act.put, zA, zB, zC, i64_w, i32_w]; rfl
       refine last_ (i := 7) (N := none) #[T,T,T,T,T,T,T,T] rfl rfl (one_of HT_.out (by kernel_rfl)) (by decide) (fun K hK => ?_)
       have hs27 : w24.cell? ⟨gb347, 0, none⟩ = some (u348000) := (b8 BK347.out 0).trans rfl
       have hfs27 := blk_frozen BK347.out 0
       have hns27_0 := NB345_347.out
       have hns27_1 := NB346_347.out
       have hns27_3 := NB349_347.out
       have hms27_0 := NB347_345.out
       have hms27_1 := NB347_346.out
       have hms27_3 := NB347_349.out
       refine skip_ (w1 := ?_) (by rfl) rfl ?_ ?_
       rotate_left
       ·go_simp
        rfl
       refine hK.out _ _ ?_
       clear hK K
       refine done_ (done_of HT_.out (by kernel_rfl)) ?_
       try go_wp2
       go_roundg k1
       case measure => have := HK1.out; omega
       case rel => exact ⟨(wrap64 (x14_1 + 1)), (y355), (.slice Ao26 y355.length co26), (by first | rfl | (simp; done) | (simp [*]; done)), H', ⟨by have := HK1.out; omega⟩, ⟨by (with_reducible repeat (first | apply Kd.S_alloc | apply Kd.S_drewN | apply Kd.S_drew)); exact Kd.S_mono (Kd.S_far (p := ⟨gb347, 0, none⟩) (Kd.S_types HO357.out BK347.out (by decide)) (fun _ hk => hk.2) (.slice Ao26 y355.length co26)) (fun _ hk => trivial)⟩, ⟨by (with_reducible repeat (first | refine b1 ?_ _ | refine b2 ?_ | refine b3 ?_ _)); refine blk_far ?_ NB345_347.out _; (with_reducible repeat (first | refine b1 ?_ _ | refine b2 ?_ | refine b3 ?_ _)); exact BK345.out⟩, ⟨by (with_reducible repeat (first | refine b1 ?_ _ | refine b2 ?_ | refine b3 ?_ _)); refine blk_far ?_ NB346_347.out _; (with_reducible repeat (first | refine b1 ?_ _ | refine b2 ?_ | refine b3 ?_ _)); exact BK346.out⟩, ⟨by (with_reducible repeat (first | refine b1 ?_ _ | refine b2 ?_ | refine b3 ?_ _)); refine blk_put (cs := #[u348000, .int .i64 a0_1, .int .i64 a0_2]) ?_ 0 _ rfl; (with_reducible repeat (first | refine b1 ?_ _ | refine b2 ?_ | refine b3 ?_ _)); exact BK347.out⟩, ⟨jzG HB⟩⟩
      ·rw [if_neg c15] at H
       exact absurd H (by simp)
     ·rw [if_neg c13] at H
      exact absurd H (by simp)
    ·rw [if_neg c12] at H
     exact absurd H (by simp)
   ·rw [if_neg c11] at H
    have c11b0 : decide (x14_1 < (l0_0.length : Int)) = false := decide_eq_false c11
    clear c11
    simp only [Option.some.injEq, Prod.mk.injEq] at H
    obtain ⟨rfl, rfl, rfl⟩ := H
    have hnb28 := NB347_345.out
    have hnc28 := NB345_347.out
    have hnb29 := NB347_346.out
    have hnc29 := NB346_347.out
    have hcz30_0 : wr.cell? ⟨gb347, 0, none⟩ = some (u348000) := (b8 BK347.out 0).trans rfl
    have hcz30_1 : wr.cell? ⟨gb347, 1, none⟩ = some (.int .i64 a0_1) := (b8 BK347.out 1).trans rfl
    have hcz30_2 : wr.cell? ⟨gb347, 2, none⟩ = some (.int .i64 a0_2) := (b8 BK347.out 2).trans rfl
    have hfz30_0 := blk_frozen BK347.out 0
    have hfz30_1 := blk_frozen BK347.out 1
    have hfz30_2 := blk_frozen BK347.out 2
    obtain ⟨Ao31, co31, eo31⟩ := Kd.S_slice HO_348000.out
    subst eo31
    have hnb32 := NB346_345.out
    have hnc32 := NB345_346.out
    have hcz33_0 : wr.cell? ⟨gb346, 0, none⟩ = some (.slice none 0 0) := (b8 BK346.out 0).trans rfl
    have hcz33_1 : wr.cell? ⟨gb346, 1, none⟩ = some (.int .i64 0) := (b8 BK346.out 1).trans rfl
    have hcz33_2 : wr.cell? ⟨gb346, 2, none⟩ = some (.int .i64 0) := (b8 BK346.out 2).trans rfl
    have hfz33_0 := blk_frozen BK346.out 0
    have hfz33_1 := blk_frozen BK346.out 1
    have hfz33_2 := blk_frozen BK346.out 2
    go_wp2
    refine bodyPost_ret (results_cell_row rfl _ _ gb346 26 #[.slice Ao31 x348000_1.length co31, .int .i64 a0_1, .int .i64 a0_2] (0, 0) _ rfl (by (with_reducible repeat (first | refine b1 ?_ _ | refine b2 ?_ | refine b3 ?_ _)); refine blk_put (cs := #[.slice Ao31 x348000_1.length co31, .int .i64 a0_1, .int .i64 0]) ?_ 2 _ rfl; (with_reducible repeat (first | refine b1 ?_ _ | refine b2 ?_ | refine b3 ?_ _)); refine blk_put (cs := #[.slice Ao31 x348000_1.length co31, .int .i64 0, .int .i64 0]) ?_ 1 _ rfl; (with_reducible repeat (first | refine b1 ?_ _ | refine b2 ?_ | refine b3 ?_ _)); refine blk_put (cs := #[.slice none 0 0, .int .i64 0, .int .i64 0]) ?_ 0 _ rfl; (with_reducible repeat (first | refine b1 ?_ _ | refine b2 ?_ | refine b3 ?_ _)); exact BK346.out) Try.underlying26 rfl (by kernel_rfl)) rfl ?_
    exact ⟨_, by first | rfl | (simp [errW_none, errW_some] <;> rfl) | (simp [*, errW_none, errW_some] <;> rfl), by (with_reducible repeat (first | apply Kd.S_alloc | apply Kd.S_drewN | apply Kd.S_drew)); exact Kd.S_mono (Kd.S_far (p := ⟨gb346, 2, none⟩) (Kd.S_far (p := ⟨gb346, 1, none⟩) (Kd.S_far (p := ⟨gb346, 0, none⟩) (Kd.S_types HO_348000.out BK346.out (by decide)) (fun _ hk => hk.2) (.slice Ao31 x348000_1.length co31)) (fun _ hk => hk.2) (.int .i64 a0_1)) (fun _ hk => hk.2) (.int .i64 a0_2)) (fun _ hk => trivial), jzG HB⟩

end Go.Proofs.Ytphjcllhlecpfaa.PFnCaches
