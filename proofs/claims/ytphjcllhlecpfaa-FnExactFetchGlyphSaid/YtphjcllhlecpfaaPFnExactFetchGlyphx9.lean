/- Written by a program of this session (a turned copy of the kit's printer): what each Go function answers, and that it does. -/
import Derived.Test.YtphjcllhlecpfaaPFnExactFetchGlyphx0
import Derived.Test.YtphjcllhlecpfaaPFnExactFetchGlyphx7
import Derived.Test.YtphjcllhlecpfaaPFnExactFetchGlyphx8
namespace Go.Proofs.Ytphjcllhlecpfaa.PFnExactFetchGlyph
open Go.RowKit Go.Proofs.YtphjcllhlecpfaaW.PrintWords Go.Proofs.YtphjcllhlecpfaaW.PrintLast Go.Proofs.YtphjcllhlecpfaaW.PrintMore
attribute [local go_sem] Go.Proofs.Ytphjcllhlecpfaa.Cells.cell_set_at max2_int min2_int max_two min_two max_three min_three max_four min_four   -- for this text's walks alone
set_option linter.unusedVariables false
set_option linter.unusedSimpArgs false

/-! ### spec_CacheOk: function 43 -/
mutual
def spec_CacheOk.l0 : Nat → Int → List (S32) → Int → Int → Option (Bool)
 | 0, _, _, _, _ => none
 | k + 1, x3, x238000, x238001, x238002 => if x3 < (x238000.length : Int) then (if 0 ≤ x3 then ((spec_GlyphOk.f k ((rd_T32 x238000 x3).f0) ((rd_T32 x238000 x3).f1) ((rd_T32 x238000 x3).f2)).bind fun t242 => (if t242 = true then (spec_CacheOk.l1 k x3 0 x238000 x238001 x238002) else (some false))) else (none)) else ((spec_CacheSize.f k x238000 x238001 x238002).bind fun t238 => (if t238 ≤ 20 then ((spec_l01In.f x238001 0 100000).bind fun t239 => (if t239 = true then ((spec_l01In.f x238002 0 100000).bind fun t240 => (some t240)) else (some false))) else (some false)))
def spec_CacheOk.l1 : Nat → Int → Int → List (S32) → Int → Int → Option (Bool)
 | 0, _, _, _, _, _ => none
 | k + 1, x3, x4, x238000, x238001, x238002 => if x4 < x3 then (if 0 ≤ x4 then (if x4 < (x238000.length : Int) then (if 0 ≤ x3 then (if x3 < (x238000.length : Int) then (if ((rd_T32 x238000 x4).f0) = ((rd_T32 x238000 x3).f0) then (some false) else (spec_CacheOk.l1 k x3 (wrap64 (x4 + 1)) x238000 x238001 x238002)) else (none)) else (none)) else (none)) else (none)) else (spec_CacheOk.l0 k (wrap64 (x3 + 1)) x238000 x238001 x238002)
end
def spec_CacheOk.f (k : Nat) (l0_0 : List (S32)) (a0_1 : Int) (a0_2 : Int) : Option (Bool) := spec_CacheOk.l0 k 0 l0_0 a0_1 a0_2
theorem spec_CacheOk.mono_l : ∀ k, (∀ y0 y1 y2 y3, LeO (spec_CacheOk.l0 k y0 y1 y2 y3) (spec_CacheOk.l0 (k + 1) y0 y1 y2 y3)) ∧ (∀ y0 y1 y2 y3 y4, LeO (spec_CacheOk.l1 k y0 y1 y2 y3 y4) (spec_CacheOk.l1 (k + 1) y0 y1 y2 y3 y4))
 | 0 => ⟨fun _ _ _ _ r h => by simp [spec_CacheOk.l0] at h, fun _ _ _ _ _ r h => by simp [spec_CacheOk.l1] at h⟩
 | k + 1 => by
  obtain ⟨ih0, ih1⟩ := spec_CacheOk.mono_l k
  refine ⟨?_, ?_⟩
  ·intro y0 y1 y2 y3
   unfold spec_CacheOk.l0
   repeat' first
   | (with_reducible exact ih0 _ _ _ _)
   | (with_reducible exact ih1 _ _ _ _ _)
   | (with_reducible exact spec_CacheSize.mono _ _ _ _)
   | (with_reducible exact spec_GlyphOk.mono _ _ _ _)
   | (with_reducible exact LeO.refl _)
   | (with_reducible exact LeO.none _)
   | (with_reducible refine LeO.ite ?_ ?_)
   | (with_reducible refine LeO.bind ?_ (fun _ => ?_))
   | exact ih0 _ _ _ _
   | exact ih1 _ _ _ _ _
   | exact spec_CacheSize.mono _ _ _ _
   | exact spec_GlyphOk.mono _ _ _ _
   | exact LeO.none _
   | refine LeO.ite ?_ ?_
   | refine LeO.bind ?_ (fun _ => ?_)
  ·intro y0 y1 y2 y3 y4
   unfold spec_CacheOk.l1
   repeat' first
   | (with_reducible exact ih0 _ _ _ _)
   | (with_reducible exact ih1 _ _ _ _ _)
   | (with_reducible exact spec_CacheSize.mono _ _ _ _)
   | (with_reducible exact spec_GlyphOk.mono _ _ _ _)
   | (with_reducible exact LeO.refl _)
   | (with_reducible exact LeO.none _)
   | (with_reducible refine LeO.ite ?_ ?_)
   | (with_reducible refine LeO.bind ?_ (fun _ => ?_))
   | exact ih0 _ _ _ _
   | exact ih1 _ _ _ _ _
   | exact spec_CacheSize.mono _ _ _ _
   | exact spec_GlyphOk.mono _ _ _ _
   | exact LeO.none _
   | refine LeO.ite ?_ ?_
   | refine LeO.bind ?_ (fun _ => ?_)
theorem spec_CacheOk.mono : ∀ a0 a1 a2 k, LeO (spec_CacheOk.f k a0 a1 a2) (spec_CacheOk.f (k + 1) a0 a1 a2) := by
 intro a0 a1 a2 k
 obtain ⟨ih0, ih1⟩ := spec_CacheOk.mono_l k
 unfold spec_CacheOk.f
 repeat' first
   | (with_reducible exact ih0 _ _ _ _)
   | (with_reducible exact ih1 _ _ _ _ _)
   | (with_reducible exact spec_CacheSize.mono _ _ _ _)
   | (with_reducible exact spec_GlyphOk.mono _ _ _ _)
   | (with_reducible exact LeO.refl _)
   | (with_reducible exact LeO.none _)
   | (with_reducible refine LeO.ite ?_ ?_)
   | (with_reducible refine LeO.bind ?_ (fun _ => ?_))
   | exact ih0 _ _ _ _
   | exact ih1 _ _ _ _ _
   | exact spec_CacheSize.mono _ _ _ _
   | exact spec_GlyphOk.mono _ _ _ _
   | exact LeO.none _
   | refine LeO.ite ?_ ?_
   | refine LeO.bind ?_ (fun _ => ?_)
set_option maxHeartbeats 8000000 in
set_option maxRecDepth 100000 in
theorem spec_CacheOk.calls (k : Nat) (A0_0 : Option Addr) (c0_0 : Nat) (l0_0 : List (S32)) (a0_1 : Int) (a0_2 : Int) (r : Bool) (w : World) (hr0_0 : Kd.C k32 w A0_0 l0_0.length l0_0) (hc0_0 : l0_0.length ≤ c0_0) (h : spec_CacheOk.f k l0_0 a0_1 a0_2 = some r) :
  Calls Try.prog 43 #[.agg #[.slice A0_0 l0_0.length c0_0, .int .i64 a0_1, .int .i64 a0_2]] w fun e w' => e = .returned (.bool r) ∧ Below w.heap.size w w' := by
 have hu26 := Try.underlying26
 have hu32 := Try.underlying32
 have HR0_0 := Am hr0_0
 have HC0_0 := Am hc0_0
 clear hr0_0 hc0_0
 have HB := Am (Below.refl w.heap.size w)
 have H : (spec_CacheOk.l0 k 0 l0_0 a0_1 a0_2) = some r := h
 clear h
 have H' := Am H
 clear H
 go_enter Try.func43, Try.ntmps43
 go_wp2_with (first | ((with_reducible refine gate_dst (N := 1) rfl ?_); refine box_event ?hg (N := 1) ?hd (cs := #[.slice A0_0 l0_0.length c0_0, .int .i64 a0_1, .int .i64 a0_2]) (t := 26) ?hr ?_; (case hd => rfl); (case hg => rfl); (case hr => first | (go_simp; done) | (go_simp; rfl)); intro gb237 hg w2 hbox hb; have n0_ := Am (below_step (jzH HB) hb); have n1_ := Am (hbox); have n2_ := Am ((by rw [hg]; exact (below_size (jzH HB)) : w.heap.size ≤ gb237)); have n3_ := Am ((by rw [hg]; exact (below_size (jzH HB)) : w.heap.size ≤ gb237)); clear HB; have HB := n0_; have BK237 := n1_; have GW237 := n2_; have GE237 := n3_; clear n0_ n1_ n2_ n3_; clear hb hbox hg))
 repeat (go_quiet (first | ((with_reducible refine gate_dst (N := 1) rfl ?_); refine box_event ?hg (N := 1) ?hd (cs := #[.slice A0_0 l0_0.length c0_0, .int .i64 a0_1, .int .i64 a0_2]) (t := 26) ?hr ?_; (case hd => rfl); (case hg => rfl); (case hr => first | (go_simp; done) | (go_simp; rfl)); intro gb237 hg w2 hbox hb; have n0_ := Am (below_step (jzH HB) hb); have n1_ := Am (hbox); have n2_ := Am ((by rw [hg]; exact (below_size (jzH HB)) : w.heap.size ≤ gb237)); have n3_ := Am ((by rw [hg]; exact (below_size (jzH HB)) : w.heap.size ≤ gb237)); clear HB; have HB := n0_; have BK237 := n1_; have GW237 := n2_; have GE237 := n3_; clear n0_ n1_ n2_ n3_; clear hb hbox hg)); try go_wp2_with (first | ((with_reducible refine gate_dst (N := 1) rfl ?_); refine box_event ?hg (N := 1) ?hd (cs := #[.slice A0_0 l0_0.length c0_0, .int .i64 a0_1, .int .i64 a0_2]) (t := 26) ?hr ?_; (case hd => rfl); (case hg => rfl); (case hr => first | (go_simp; done) | (go_simp; rfl)); intro gb237 hg w2 hbox hb; have n0_ := Am (below_step (jzH HB) hb); have n1_ := Am (hbox); have n2_ := Am ((by rw [hg]; exact (below_size (jzH HB)) : w.heap.size ≤ gb237)); have n3_ := Am ((by rw [hg]; exact (below_size (jzH HB)) : w.heap.size ≤ gb237)); clear HB; have HB := n0_; have BK237 := n1_; have GW237 := n2_; have GE237 := n3_; clear n0_ n1_ n2_ n3_; clear hb hbox hg)))
 go_loopg [3] k (fun kq v3 w' => ∃ (x3_1 : Int), v3 = .int .i64 x3_1 ∧ Aside0 (spec_CacheOk.l0 kq x3_1 l0_0 a0_1 a0_2 = some r) ∧ Aside0 (kq ≤ k) ∧ Aside0 (w'.heap[gb237]? = some (.cells #[(.slice A0_0 l0_0.length c0_0), .int .i64 a0_1, .int .i64 a0_2] 26 (0, 0))) ∧ Aside0 (Below w.heap.size w w'))
 case atStart => exact ⟨(0), (by first | rfl | (simp; done) | (simp [*]; done)), H', ⟨Nat.le_refl _⟩, ⟨by (with_reducible repeat (first | refine b1 ?_ _ | refine b2 ?_ | refine b3 ?_ _)); exact BK237.out⟩, ⟨jzG HB⟩⟩
 case round =>
  clear H'
  try clear p2
  obtain ⟨x3_1, rfl, HA, HK1, BK237, HB⟩ := hrel
  cases gk with
  | zero => exact absurd HA.out (by simp [spec_CacheOk.l0])
  | succ k1 =>
   have H := HA.out
   clear HA
   simp only [spec_CacheOk.l0] at H
   by_cases c3 : x3_1 < (l0_0.length : Int)
   ·rw [if_pos c3] at H
    have c3b0 : decide (x3_1 < (l0_0.length : Int)) = true := decide_eq_true c3
    clear c3
    by_cases c4 : 0 ≤ x3_1
    ·rw [if_pos c4] at H
     have c4b0 : decide (0 ≤ x3_1) = true := decide_eq_true c4
     clear c4
     replace H := Option.bind_eq_some_iff.mp H
     obtain ⟨t242, A50, H⟩ := H
     replace H : (if t242 = true then (spec_CacheOk.l1 k1 x3_1 0 l0_0 a0_1 a0_2) else (some false)) = some r := H
     have A5 := Am A50
     clear A50
     by_cases c6 : t242 = true
     ·subst c6
      have H1 : (spec_CacheOk.l1 k1 x3_1 0 l0_0 a0_1 a0_2) = some r := by rw [if_pos rfl] at H; exact H
      clear H
      have H := H1
      clear H1
      have H' := Am H
      clear H
      have hcz7_0 : wr.cell? ⟨gb237, 0, none⟩ = some (.slice A0_0 l0_0.length c0_0) := (b8 BK237.out 0).trans rfl
      have hcz7_1 : wr.cell? ⟨gb237, 1, none⟩ = some (.int .i64 a0_1) := (b8 BK237.out 1).trans rfl
      have hcz7_2 : wr.cell? ⟨gb237, 2, none⟩ = some (.int .i64 a0_2) := (b8 BK237.out 2).trans rfl
      have hfz7_0 := blk_frozen BK237.out 0
      have hfz7_1 := blk_frozen BK237.out 1
      have hfz7_2 := blk_frozen BK237.out 2
      have p241 : 0 ≤ (x3_1 : Int) := of_decide_eq_true jzS
      have q241 : x3_1 < (l0_0.length : Int) := of_decide_eq_true jzS
      obtain ⟨ad241, A241_2, c241_2, e241, hx241_0, hx241_1, hx241_2, hl241_2, hi241_2⟩ := at_T32 HR0_0.out x3_1 p241 q241
      cases e241
      replace hx241_0 := (HB.out.cell (World.block_lt_of_cell? w _ hx241_0)).trans hx241_0
      replace hx241_1 := (HB.out.cell (World.block_lt_of_cell? w _ hx241_1)).trans hx241_1
      replace hx241_2 := (HB.out.cell (World.block_lt_of_cell? w _ hx241_2)).trans hx241_2
      have HR241_2 := Am hi241_2
      have HC241_2 := Am hl241_2
      clear hi241_2 hl241_2
      replace p241 := eq_true p241
      replace q241 := eq_true q241
      go_wp2_with (first | (go_at_call 55; (with_reducible refine (spec_GlyphOk.calls k1 ((rd_T32 l0_0 x3_1).f0) ((rd_T32 l0_0 x3_1).f1) _ _ ((rd_T32 l0_0 x3_1).f2) true _ ?side1 ?side2 A5.out).mono ?_); (case side1 => exact jzC HR241_2 HB); (case side2 => exact HC241_2.out); rintro e w8 ⟨rfl, hb⟩; have n0_ := Am (blk_below (g := gb237) (o := .cells #[.slice (some ad241) l0_0.length c0_0, .int .i64 a0_1, .int .i64 a0_2] 26 (0, 0)) (jzB BK237) hb); have n1_ := Am (below_step (jzG HB) hb); clear BK237; clear HB; have BK237 := n0_; have HB := n1_; clear n0_ n1_; (try clear hb); (try clear hb2); (try clear hk); (try clear hi)))
      repeat (go_quiet (first | (go_at_call 55; (with_reducible refine (spec_GlyphOk.calls k1 ((rd_T32 l0_0 x3_1).f0) ((rd_T32 l0_0 x3_1).f1) _ _ ((rd_T32 l0_0 x3_1).f2) true _ ?side1 ?side2 A5.out).mono ?_); (case side1 => exact jzC HR241_2 HB); (case side2 => exact HC241_2.out); rintro e w8 ⟨rfl, hb⟩; have n0_ := Am (blk_below (g := gb237) (o := .cells #[.slice (some ad241) l0_0.length c0_0, .int .i64 a0_1, .int .i64 a0_2] 26 (0, 0)) (jzB BK237) hb); have n1_ := Am (below_step (jzG HB) hb); clear BK237; clear HB; have BK237 := n0_; have HB := n1_; clear n0_ n1_; (try clear hb); (try clear hb2); (try clear hk); (try clear hi))); try go_wp2_with (first | (go_at_call 55; (with_reducible refine (spec_GlyphOk.calls k1 ((rd_T32 l0_0 x3_1).f0) ((rd_T32 l0_0 x3_1).f1) _ _ ((rd_T32 l0_0 x3_1).f2) true _ ?side1 ?side2 A5.out).mono ?_); (case side1 => exact jzC HR241_2 HB); (case side2 => exact HC241_2.out); rintro e w8 ⟨rfl, hb⟩; have n0_ := Am (blk_below (g := gb237) (o := .cells #[.slice (some ad241) l0_0.length c0_0, .int .i64 a0_1, .int .i64 a0_2] 26 (0, 0)) (jzB BK237) hb); have n1_ := Am (below_step (jzG HB) hb); clear BK237; clear HB; have BK237 := n0_; have HB := n1_; clear n0_ n1_; (try clear hb); (try clear hb2); (try clear hk); (try clear hi))))
      go_loopg [4] k1 (fun kq v4 w' => ∃ (x4_2 : Int), v4 = .int .i64 x4_2 ∧ Aside0 (spec_CacheOk.l1 kq x3_1 x4_2 l0_0 a0_1 a0_2 = some r) ∧ Aside0 (kq ≤ k1) ∧ Aside0 (w'.heap[gb237]? = some (.cells #[(.slice (some ad241) l0_0.length c0_0), .int .i64 a0_1, .int .i64 a0_2] 26 (0, 0))) ∧ Aside0 (Below w.heap.size w w'))
      case atStart => exact ⟨(0), (by first | rfl | (simp; done) | (simp [*]; done)), H', ⟨Nat.le_refl _⟩, ⟨by (with_reducible repeat (first | refine b1 ?_ _ | refine b2 ?_ | refine b3 ?_ _)); exact BK237.out⟩, ⟨jzG HB⟩⟩
      case round =>
       clear H'
       try clear c2
       try clear p2
       try clear q2
       try clear hx2
       try clear c3
       try clear c3b0
       try clear c4
       try clear c4b0
       try clear c6
       try clear hcz7_0
       try clear hcz7_1
       try clear hcz7_2
       try clear hfz7_0
       try clear hfz7_1
       try clear hfz7_2
       try clear hx241_0
       try clear hx241_1
       try clear hx241_2
       try clear p2
       try clear p241
       try clear q241
       obtain ⟨x4_2, rfl, HA, HK2, BK237, HB⟩ := hrel
       cases gk with
       | zero => exact absurd HA.out (by simp [spec_CacheOk.l1])
       | succ k2 =>
        have H := HA.out
        clear HA
        simp only [spec_CacheOk.l1] at H
        by_cases c9 : x4_2 < x3_1
        ·rw [if_pos c9] at H
         have c9b0 : decide (x4_2 < x3_1) = true := decide_eq_true c9
         clear c9
         by_cases c10 : 0 ≤ x4_2
         ·rw [if_pos c10] at H
          have c10b0 : decide (0 ≤ x4_2) = true := decide_eq_true c10
          clear c10
          by_cases c11 : x4_2 < (l0_0.length : Int)
          ·rw [if_pos c11] at H
           have c11b0 : decide (x4_2 < (l0_0.length : Int)) = true := decide_eq_true c11
           clear c11
           by_cases c12 : 0 ≤ x3_1
           ·rw [if_pos c12] at H
            have c12b0 : decide (0 ≤ x3_1) = true := decide_eq_true c12
            clear c12
            by_cases c13 : x3_1 < (l0_0.length : Int)
            ·rw [if_pos c13] at H
             have c13b0 : decide (x3_1 < (l0_0.length : Int)) = true := decide_eq_true c13
             clear c13
             by_cases c14 : ((rd_T32 l0_0 x4_2).f0) = ((rd_T32 l0_0 x3_1).f0)
             ·rw [if_pos c14] at H
              have c14b0 : (((rd_T32 l0_0 x4_2).f0) == ((rd_T32 l0_0 x3_1).f0)) = true := beq_iff_eq.mpr c14
              have c14b1 : (((rd_T32 l0_0 x4_2).f0) != ((rd_T32 l0_0 x3_1).f0)) = false := bne_eq_false_iff_eq.mpr c14
              clear c14
              obtain rfl := Option.some.inj H
              have hcz15_0 : wr.cell? ⟨gb237, 0, none⟩ = some (.slice (some ad241) l0_0.length c0_0) := (b8 BK237.out 0).trans rfl
              have hcz15_1 : wr.cell? ⟨gb237, 1, none⟩ = some (.int .i64 a0_1) := (b8 BK237.out 1).trans rfl
              have hcz15_2 : wr.cell? ⟨gb237, 2, none⟩ = some (.int .i64 a0_2) := (b8 BK237.out 2).trans rfl
              have hfz15_0 := blk_frozen BK237.out 0
              have hfz15_1 := blk_frozen BK237.out 1
              have hfz15_2 := blk_frozen BK237.out 2
              have p243 : 0 ≤ (x4_2 : Int) := of_decide_eq_true jzS
              have q243 : x4_2 < (l0_0.length : Int) := of_decide_eq_true jzS
              obtain ⟨ad243, A243_2, c243_2, e243, hx243_0, hx243_1, hx243_2, hl243_2, hi243_2⟩ := at_T32 HR0_0.out x4_2 p243 q243
              obtain rfl : ad241 = ad243 := (by injection e243)
              replace hx243_0 := (HB.out.cell (World.block_lt_of_cell? w _ hx243_0)).trans hx243_0
              replace hx243_1 := (HB.out.cell (World.block_lt_of_cell? w _ hx243_1)).trans hx243_1
              replace hx243_2 := (HB.out.cell (World.block_lt_of_cell? w _ hx243_2)).trans hx243_2
              have HR243_2 := Am hi243_2
              have HC243_2 := Am hl243_2
              clear hi243_2 hl243_2
              replace p243 := eq_true p243
              replace q243 := eq_true q243
              have p244 : 0 ≤ (x3_1 : Int) := of_decide_eq_true jzS
              have q244 : x3_1 < (l0_0.length : Int) := of_decide_eq_true jzS
              obtain ⟨ad244, A244_2, c244_2, e244, hx244_0, hx244_1, hx244_2, hl244_2, hi244_2⟩ := at_T32 HR0_0.out x3_1 p244 q244
              obtain rfl : ad241 = ad244 := (by injection e244)
              replace hx244_0 := (HB.out.cell (World.block_lt_of_cell? w _ hx244_0)).trans hx244_0
              replace hx244_1 := (HB.out.cell (World.block_lt_of_cell? w _ hx244_1)).trans hx244_1
              replace hx244_2 := (HB.out.cell (World.block_lt_of_cell? w _ hx244_2)).trans hx244_2
              have HR244_2 := Am hi244_2
              have HC244_2 := Am hl244_2
              clear hi244_2 hl244_2
              replace p244 := eq_true p244
              replace q244 := eq_true q244
              go_wp2
              repeat (go_quiet (fail); try go_wp2)
              go_ret
              exact ⟨by first | rfl | (simp [errW_none, errW_some] <;> rfl) | (simp [*, errW_none, errW_some] <;> rfl), jzG HB⟩
             ·rw [if_neg c14] at H
              have c14b0 : (((rd_T32 l0_0 x4_2).f0) == ((rd_T32 l0_0 x3_1).f0)) = false := beq_eq_false_iff_ne.mpr c14
              have c14b1 : (((rd_T32 l0_0 x4_2).f0) != ((rd_T32 l0_0 x3_1).f0)) = true := bne_iff_ne.mpr c14
              have H' := Am H
              clear H
              have hcz16_0 : wr.cell? ⟨gb237, 0, none⟩ = some (.slice (some ad241) l0_0.length c0_0) := (b8 BK237.out 0).trans rfl
              have hcz16_1 : wr.cell? ⟨gb237, 1, none⟩ = some (.int .i64 a0_1) := (b8 BK237.out 1).trans rfl
              have hcz16_2 : wr.cell? ⟨gb237, 2, none⟩ = some (.int .i64 a0_2) := (b8 BK237.out 2).trans rfl
              have hfz16_0 := blk_frozen BK237.out 0
              have hfz16_1 := blk_frozen BK237.out 1
              have hfz16_2 := blk_frozen BK237.out 2
              have p243 : 0 ≤ (x4_2 : Int) := of_decide_eq_true jzS
              have q243 : x4_2 < (l0_0.length : Int) := of_decide_eq_true jzS
              obtain ⟨ad243, A243_2, c243_2, e243, hx243_0, hx243_1, hx243_2, hl243_2, hi243_2⟩ := at_T32 HR0_0.out x4_2 p243 q243
              obtain rfl : ad241 = ad243 := (by injection e243)
              replace hx243_0 := (HB.out.cell (World.block_lt_of_cell? w _ hx243_0)).trans hx243_0
              replace hx243_1 := (HB.out.cell (World.block_lt_of_cell? w _ hx243_1)).trans hx243_1
              replace hx243_2 := (HB.out.cell (World.block_lt_of_cell? w _ hx243_2)).trans hx243_2
              have HR243_2 := Am hi243_2
              have HC243_2 := Am hl243_2
              clear hi243_2 hl243_2
              replace p243 := eq_true p243
              replace q243 := eq_true q243
              have p244 : 0 ≤ (x3_1 : Int) := of_decide_eq_true jzS
              have q244 : x3_1 < (l0_0.length : Int) := of_decide_eq_true jzS
              obtain ⟨ad244, A244_2, c244_2, e244, hx244_0, hx244_1, hx244_2, hl244_2, hi244_2⟩ := at_T32 HR0_0.out x3_1 p244 q244
              obtain rfl : ad241 = ad244 := (by injection e244)
              replace hx244_0 := (HB.out.cell (World.block_lt_of_cell? w _ hx244_0)).trans hx244_0
              replace hx244_1 := (HB.out.cell (World.block_lt_of_cell? w _ hx244_1)).trans hx244_1
              replace hx244_2 := (HB.out.cell (World.block_lt_of_cell? w _ hx244_2)).trans hx244_2
              have HR244_2 := Am hi244_2
              have HC244_2 := Am hl244_2
              clear hi244_2 hl244_2
              replace p244 := eq_true p244
              replace q244 := eq_true q244
              go_wp2
              repeat (go_quiet (fail); try go_wp2)
              go_roundg k2
              case measure => have := HK1.out; have := HK2.out; omega
              case rel => exact ⟨(wrap64 (x4_2 + 1)), (by first | rfl | (simp; done) | (simp [*]; done)), H', ⟨by have := HK1.out; have := HK2.out; omega⟩, ⟨by (with_reducible repeat (first | refine b1 ?_ _ | refine b2 ?_ | refine b3 ?_ _)); exact BK237.out⟩, ⟨jzG HB⟩⟩
            ·rw [if_neg c13] at H
             exact absurd H (by simp)
           ·rw [if_neg c12] at H
            exact absurd H (by simp)
          ·rw [if_neg c11] at H
           exact absurd H (by simp)
         ·rw [if_neg c10] at H
          exact absurd H (by simp)
        ·rw [if_neg c9] at H
         have c9b0 : decide (x4_2 < x3_1) = false := decide_eq_false c9
         clear c9
         have H' := Am H
         clear H
         go_wp2
         repeat (go_quiet (fail); try go_wp2)
         go_roundg k2
         case measure => have := HK1.out; have := HK2.out; omega
         case rel => exact ⟨(wrap64 (x3_1 + 1)), (by first | rfl | (simp; done) | (simp [*]; done)), H', ⟨by have := HK1.out; have := HK2.out; omega⟩, ⟨by (with_reducible repeat (first | refine b1 ?_ _ | refine b2 ?_ | refine b3 ?_ _)); exact BK237.out⟩, ⟨jzG HB⟩⟩
     ·replace c6 := Bool.eq_false_iff.mpr c6
      subst c6
      have H1 : (some false) = some r := by rw [if_neg (show ¬ (false = true) by decide)] at H; exact H
      clear H
      have H := H1
      clear H1
      obtain rfl := Option.some.inj H
      have hcz17_0 : wr.cell? ⟨gb237, 0, none⟩ = some (.slice A0_0 l0_0.length c0_0) := (b8 BK237.out 0).trans rfl
      have hcz17_1 : wr.cell? ⟨gb237, 1, none⟩ = some (.int .i64 a0_1) := (b8 BK237.out 1).trans rfl
      have hcz17_2 : wr.cell? ⟨gb237, 2, none⟩ = some (.int .i64 a0_2) := (b8 BK237.out 2).trans rfl
      have hfz17_0 := blk_frozen BK237.out 0
      have hfz17_1 := blk_frozen BK237.out 1
      have hfz17_2 := blk_frozen BK237.out 2
      have p241 : 0 ≤ (x3_1 : Int) := of_decide_eq_true jzS
      have q241 : x3_1 < (l0_0.length : Int) := of_decide_eq_true jzS
      obtain ⟨ad241, A241_2, c241_2, e241, hx241_0, hx241_1, hx241_2, hl241_2, hi241_2⟩ := at_T32 HR0_0.out x3_1 p241 q241
      cases e241
      replace hx241_0 := (HB.out.cell (World.block_lt_of_cell? w _ hx241_0)).trans hx241_0
      replace hx241_1 := (HB.out.cell (World.block_lt_of_cell? w _ hx241_1)).trans hx241_1
      replace hx241_2 := (HB.out.cell (World.block_lt_of_cell? w _ hx241_2)).trans hx241_2
      have HR241_2 := Am hi241_2
      have HC241_2 := Am hl241_2
      clear hi241_2 hl241_2
      replace p241 := eq_true p241
      replace q241 := eq_true q241
      go_wp2_with (first | (go_at_call 55; (with_reducible refine (spec_GlyphOk.calls k1 ((rd_T32 l0_0 x3_1).f0) ((rd_T32 l0_0 x3_1).f1) _ _ ((rd_T32 l0_0 x3_1).f2) false _ ?side1 ?side2 A5.out).mono ?_); (case side1 => exact jzC HR241_2 HB); (case side2 => exact HC241_2.out); rintro e w18 ⟨rfl, hb⟩; have n0_ := Am (blk_below (g := gb237) (o := .cells #[.slice (some ad241) l0_0.length c0_0, .int .i64 a0_1, .int .i64 a0_2] 26 (0, 0)) (jzB BK237) hb); have n1_ := Am (below_step (jzG HB) hb); clear BK237; clear HB; have BK237 := n0_; have HB := n1_; clear n0_ n1_; (try clear hb); (try clear hb2); (try clear hk); (try clear hi)))
      repeat (go_quiet (first | (go_at_call 55; (with_reducible refine (spec_GlyphOk.calls k1 ((rd_T32 l0_0 x3_1).f0) ((rd_T32 l0_0 x3_1).f1) _ _ ((rd_T32 l0_0 x3_1).f2) false _ ?side1 ?side2 A5.out).mono ?_); (case side1 => exact jzC HR241_2 HB); (case side2 => exact HC241_2.out); rintro e w18 ⟨rfl, hb⟩; have n0_ := Am (blk_below (g := gb237) (o := .cells #[.slice (some ad241) l0_0.length c0_0, .int .i64 a0_1, .int .i64 a0_2] 26 (0, 0)) (jzB BK237) hb); have n1_ := Am (below_step (jzG HB) hb); clear BK237; clear HB; have BK237 := n0_; have HB := n1_; clear n0_ n1_; (try clear hb); (try clear hb2); (try clear hk); (try clear hi))); try go_wp2_with (first | (go_at_call 55; (with_reducible refine (spec_GlyphOk.calls k1 ((rd_T32 l0_0 x3_1).f0) ((rd_T32 l0_0 x3_1).f1) _ _ ((rd_T32 l0_0 x3_1).f2) false _ ?side1 ?side2 A5.out).mono ?_); (case side1 => exact jzC HR241_2 HB); (case side2 => exact HC241_2.out); rintro e w18 ⟨rfl, hb⟩; have n0_ := Am (blk_below (g := gb237) (o := .cells #[.slice (some ad241) l0_0.length c0_0, .int .i64 a0_1, .int .i64 a0_2] 26 (0, 0)) (jzB BK237) hb); have n1_ := Am (below_step (jzG HB) hb); clear BK237; clear HB; have BK237 := n0_; have HB := n1_; clear n0_ n1_; (try clear hb); (try clear hb2); (try clear hk); (try clear hi))))
      go_ret
      exact ⟨by first | rfl | (simp [errW_none, errW_some] <;> rfl) | (simp [*, errW_none, errW_some] <;> rfl), jzG HB⟩
    ·rw [if_neg c4] at H
     exact absurd H (by simp)
   ·rw [if_neg c3] at H
    have c3b0 : decide (x3_1 < (l0_0.length : Int)) = false := decide_eq_false c3
    clear c3
    replace H := Option.bind_eq_some_iff.mp H
    obtain ⟨t238, A190, H⟩ := H
    replace H : (if t238 ≤ 20 then ((spec_l01In.f a0_1 0 100000).bind fun t239 => (if t239 = true then ((spec_l01In.f a0_2 0 100000).bind fun t240 => (some t240)) else (some false))) else (some false)) = some r := H
    have A19 := Am A190
    clear A190
    by_cases c20 : t238 ≤ 20
    ·rw [if_pos c20] at H
     have c20b0 : decide (t238 ≤ 20) = true := decide_eq_true c20
     clear c20
     replace H := Option.bind_eq_some_iff.mp H
     obtain ⟨t239, A210, H⟩ := H
     replace H : (if t239 = true then ((spec_l01In.f a0_2 0 100000).bind fun t240 => (some t240)) else (some false)) = some r := H
     have A21 := Am A210
     clear A210
     by_cases c22 : t239 = true
     ·subst c22
      have H1 : ((spec_l01In.f a0_2 0 100000).bind fun t240 => (some t240)) = some r := by rw [if_pos rfl] at H; exact H
      clear H
      have H := H1
      clear H1
      replace H := Option.bind_eq_some_iff.mp H
      obtain ⟨t240, A230, H⟩ := H
      replace H : (some t240) = some r := H
      have A23 := Am A230
      clear A230
      obtain rfl := Option.some.inj H
      have hcz24_0 : wr.cell? ⟨gb237, 0, none⟩ = some (.slice A0_0 l0_0.length c0_0) := (b8 BK237.out 0).trans rfl
      have hcz24_1 : wr.cell? ⟨gb237, 1, none⟩ = some (.int .i64 a0_1) := (b8 BK237.out 1).trans rfl
      have hcz24_2 : wr.cell? ⟨gb237, 2, none⟩ = some (.int .i64 a0_2) := (b8 BK237.out 2).trans rfl
      have hfz24_0 := blk_frozen BK237.out 0
      have hfz24_1 := blk_frozen BK237.out 1
      have hfz24_2 := blk_frozen BK237.out 2
      go_wp2_with (first | (go_at_call 47; (with_reducible refine (spec_CacheSize.calls k1 _ _ l0_0 a0_1 a0_2 t238 _ ?side1 ?side2 A19.out).mono ?_); (case side1 => exact jzC HR0_0 HB); (case side2 => exact HC0_0.out); rintro e w25 ⟨rfl, hb⟩; have n0_ := Am (blk_below (g := gb237) (o := .cells #[.slice A0_0 l0_0.length c0_0, .int .i64 a0_1, .int .i64 a0_2] 26 (0, 0)) (jzB BK237) hb); have n1_ := Am (below_step (jzG HB) hb); clear BK237; clear HB; have BK237 := n0_; have HB := n1_; clear n0_ n1_; (try clear hb); (try clear hb2); (try clear hk); (try clear hi); have hcz26_0 : w25.cell? ⟨gb237, 0, none⟩ = some (.slice A0_0 l0_0.length c0_0) := (b8 BK237.out 0).trans rfl; have hcz26_1 : w25.cell? ⟨gb237, 1, none⟩ = some (.int .i64 a0_1) := (b8 BK237.out 1).trans rfl; have hcz26_2 : w25.cell? ⟨gb237, 2, none⟩ = some (.int .i64 a0_2) := (b8 BK237.out 2).trans rfl; have hfz26_0 := blk_frozen BK237.out 0; have hfz26_1 := blk_frozen BK237.out 1; have hfz26_2 := blk_frozen BK237.out 2) | (go_at_call 56; (with_reducible refine (spec_l01In.calls a0_1 0 100000 true _ A21.out).mono ?_); rintro e w' ⟨rfl, ⟨nd, rfl⟩⟩; (try first | exact ⟨rfl, _, World.drewN_drewN _ _ _⟩ | exact ⟨rfl, _, Eq.trans (World.drewN_drewN _ _ _) (congrArg (World.drewN _) (Nat.add_assoc _ _ _))⟩)) | (go_at_call 56; (with_reducible refine (spec_l01In.calls a0_2 0 100000 t240 _ A23.out).mono ?_); rintro e w' ⟨rfl, ⟨nd, rfl⟩⟩; (try first | exact ⟨rfl, _, World.drewN_drewN _ _ _⟩ | exact ⟨rfl, _, Eq.trans (World.drewN_drewN _ _ _) (congrArg (World.drewN _) (Nat.add_assoc _ _ _))⟩)))
      repeat (go_quiet (first | (go_at_call 47; (with_reducible refine (spec_CacheSize.calls k1 _ _ l0_0 a0_1 a0_2 t238 _ ?side1 ?side2 A19.out).mono ?_); (case side1 => exact jzC HR0_0 HB); (case side2 => exact HC0_0.out); rintro e w25 ⟨rfl, hb⟩; have n0_ := Am (blk_below (g := gb237) (o := .cells #[.slice A0_0 l0_0.length c0_0, .int .i64 a0_1, .int .i64 a0_2] 26 (0, 0)) (jzB BK237) hb); have n1_ := Am (below_step (jzG HB) hb); clear BK237; clear HB; have BK237 := n0_; have HB := n1_; clear n0_ n1_; (try clear hb); (try clear hb2); (try clear hk); (try clear hi); have hcz26_0 : w25.cell? ⟨gb237, 0, none⟩ = some (.slice A0_0 l0_0.length c0_0) := (b8 BK237.out 0).trans rfl; have hcz26_1 : w25.cell? ⟨gb237, 1, none⟩ = some (.int .i64 a0_1) := (b8 BK237.out 1).trans rfl; have hcz26_2 : w25.cell? ⟨gb237, 2, none⟩ = some (.int .i64 a0_2) := (b8 BK237.out 2).trans rfl; have hfz26_0 := blk_frozen BK237.out 0; have hfz26_1 := blk_frozen BK237.out 1; have hfz26_2 := blk_frozen BK237.out 2) | (go_at_call 56; (with_reducible refine (spec_l01In.calls a0_1 0 100000 true _ A21.out).mono ?_); rintro e w' ⟨rfl, ⟨nd, rfl⟩⟩; (try first | exact ⟨rfl, _, World.drewN_drewN _ _ _⟩ | exact ⟨rfl, _, Eq.trans (World.drewN_drewN _ _ _) (congrArg (World.drewN _) (Nat.add_assoc _ _ _))⟩)) | (go_at_call 56; (with_reducible refine (spec_l01In.calls a0_2 0 100000 t240 _ A23.out).mono ?_); rintro e w' ⟨rfl, ⟨nd, rfl⟩⟩; (try first | exact ⟨rfl, _, World.drewN_drewN _ _ _⟩ | exact ⟨rfl, _, Eq.trans (World.drewN_drewN _ _ _) (congrArg (World.drewN _) (Nat.add_assoc _ _ _))⟩))); try go_wp2_with (first | (go_at_call 47; (with_reducible refine (spec_CacheSize.calls k1 _ _ l0_0 a0_1 a0_2 t238 _ ?side1 ?side2 A19.out).mono ?_); (case side1 => exact jzC HR0_0 HB); (case side2 => exact HC0_0.out); rintro e w25 ⟨rfl, hb⟩; have n0_ := Am (blk_below (g := gb237) (o := .cells #[.slice A0_0 l0_0.length c0_0, .int .i64 a0_1, .int .i64 a0_2] 26 (0, 0)) (jzB BK237) hb); have n1_ := Am (below_step (jzG HB) hb); clear BK237; clear HB; have BK237 := n0_; have HB := n1_; clear n0_ n1_; (try clear hb); (try clear hb2); (try clear hk); (try clear hi); have hcz26_0 : w25.cell? ⟨gb237, 0, none⟩ = some (.slice A0_0 l0_0.length c0_0) := (b8 BK237.out 0).trans rfl; have hcz26_1 : w25.cell? ⟨gb237, 1, none⟩ = some (.int .i64 a0_1) := (b8 BK237.out 1).trans rfl; have hcz26_2 : w25.cell? ⟨gb237, 2, none⟩ = some (.int .i64 a0_2) := (b8 BK237.out 2).trans rfl; have hfz26_0 := blk_frozen BK237.out 0; have hfz26_1 := blk_frozen BK237.out 1; have hfz26_2 := blk_frozen BK237.out 2) | (go_at_call 56; (with_reducible refine (spec_l01In.calls a0_1 0 100000 true _ A21.out).mono ?_); rintro e w' ⟨rfl, ⟨nd, rfl⟩⟩; (try first | exact ⟨rfl, _, World.drewN_drewN _ _ _⟩ | exact ⟨rfl, _, Eq.trans (World.drewN_drewN _ _ _) (congrArg (World.drewN _) (Nat.add_assoc _ _ _))⟩)) | (go_at_call 56; (with_reducible refine (spec_l01In.calls a0_2 0 100000 t240 _ A23.out).mono ?_); rintro e w' ⟨rfl, ⟨nd, rfl⟩⟩; (try first | exact ⟨rfl, _, World.drewN_drewN _ _ _⟩ | exact ⟨rfl, _, Eq.trans (World.drewN_drewN _ _ _) (congrArg (World.drewN _) (Nat.add_assoc _ _ _))⟩))))
      go_ret
      exact ⟨by first | rfl | (simp [errW_none, errW_some] <;> rfl) | (simp [*, errW_none, errW_some] <;> rfl), jzG HB⟩
     ·replace c22 := Bool.eq_false_iff.mpr c22
      subst c22
      have H1 : (some false) = some r := by rw [if_neg (show ¬ (false = true) by decide)] at H; exact H
      clear H
      have H := H1
      clear H1
      obtain rfl := Option.some.inj H
      have hcz27_0 : wr.cell? ⟨gb237, 0, none⟩ = some (.slice A0_0 l0_0.length c0_0) := (b8 BK237.out 0).trans rfl
      have hcz27_1 : wr.cell? ⟨gb237, 1, none⟩ = some (.int .i64 a0_1) := (b8 BK237.out 1).trans rfl
      have hcz27_2 : wr.cell? ⟨gb237, 2, none⟩ = some (.int .i64 a0_2) := (b8 BK237.out 2).trans rfl
      have hfz27_0 := blk_frozen BK237.out 0
      have hfz27_1 := blk_frozen BK237.out 1
      have hfz27_2 := blk_frozen BK237.out 2
      go_wp2_with (first | (go_at_call 47; (with_reducible refine (spec_CacheSize.calls k1 _ _ l0_0 a0_1 a0_2 t238 _ ?side1 ?side2 A19.out).mono ?_); (case side1 => exact jzC HR0_0 HB); (case side2 => exact HC0_0.out); rintro e w28 ⟨rfl, hb⟩; have n0_ := Am (blk_below (g := gb237) (o := .cells #[.slice A0_0 l0_0.length c0_0, .int .i64 a0_1, .int .i64 a0_2] 26 (0, 0)) (jzB BK237) hb); have n1_ := Am (below_step (jzG HB) hb); clear BK237; clear HB; have BK237 := n0_; have HB := n1_; clear n0_ n1_; (try clear hb); (try clear hb2); (try clear hk); (try clear hi); have hcz29_0 : w28.cell? ⟨gb237, 0, none⟩ = some (.slice A0_0 l0_0.length c0_0) := (b8 BK237.out 0).trans rfl; have hcz29_1 : w28.cell? ⟨gb237, 1, none⟩ = some (.int .i64 a0_1) := (b8 BK237.out 1).trans rfl; have hcz29_2 : w28.cell? ⟨gb237, 2, none⟩ = some (.int .i64 a0_2) := (b8 BK237.out 2).trans rfl; have hfz29_0 := blk_frozen BK237.out 0; have hfz29_1 := blk_frozen BK237.out 1; have hfz29_2 := blk_frozen BK237.out 2) | (go_at_call 56; (with_reducible refine (spec_l01In.calls a0_1 0 100000 false _ A21.out).mono ?_); rintro e w' ⟨rfl, ⟨nd, rfl⟩⟩; (try first | exact ⟨rfl, _, World.drewN_drewN _ _ _⟩ | exact ⟨rfl, _, Eq.trans (World.drewN_drewN _ _ _) (congrArg (World.drewN _) (Nat.add_assoc _ _ _))⟩)))
      repeat (go_quiet (first | (go_at_call 47; (with_reducible refine (spec_CacheSize.calls k1 _ _ l0_0 a0_1 a0_2 t238 _ ?side1 ?side2 A19.out).mono ?_); (case side1 => exact jzC HR0_0 HB); (case side2 => exact HC0_0.out); rintro e w28 ⟨rfl, hb⟩; have n0_ := Am (blk_below (g := gb237) (o := .cells #[.slice A0_0 l0_0.length c0_0, .int .i64 a0_1, .int .i64 a0_2] 26 (0, 0)) (jzB BK237) hb); have n1_ := Am (below_step (jzG HB) hb); clear BK237; clear HB; have BK237 := n0_; have HB := n1_; clear n0_ n1_; (try clear hb); (try clear hb2); (try clear hk); (try clear hi); have hcz29_0 : w28.cell? ⟨gb237, 0, none⟩ = some (.slice A0_0 l0_0.length c0_0) := (b8 BK237.out 0).trans rfl; have hcz29_1 : w28.cell? ⟨gb237, 1, none⟩ = some (.int .i64 a0_1) := (b8 BK237.out 1).trans rfl; have hcz29_2 : w28.cell? ⟨gb237, 2, none⟩ = some (.int .i64 a0_2) := (b8 BK237.out 2).trans rfl; have hfz29_0 := blk_frozen BK237.out 0; have hfz29_1 := blk_frozen BK237.out 1; have hfz29_2 := blk_frozen BK237.out 2) | (go_at_call 56; (with_reducible refine (spec_l01In.calls a0_1 0 100000 false _ A21.out).mono ?_); rintro e w' ⟨rfl, ⟨nd, rfl⟩⟩; (try first | exact ⟨rfl, _, World.drewN_drewN _ _ _⟩ | exact ⟨rfl, _, Eq.trans (World.drewN_drewN _ _ _) (congrArg (World.drewN _) (Nat.add_assoc _ _ _))⟩))); try go_wp2_with (first | (go_at_call 47; (with_reducible refine (spec_CacheSize.calls k1 _ _ l0_0 a0_1 a0_2 t238 _ ?side1 ?side2 A19.out).mono ?_); (case side1 => exact jzC HR0_0 HB); (case side2 => exact HC0_0.out); rintro e w28 ⟨rfl, hb⟩; have n0_ := Am (blk_below (g := gb237) (o := .cells #[.slice A0_0 l0_0.length c0_0, .int .i64 a0_1, .int .i64 a0_2] 26 (0, 0)) (jzB BK237) hb); have n1_ := Am (below_step (jzG HB) hb); clear BK237; clear HB; have BK237 := n0_; have HB := n1_; clear n0_ n1_; (try clear hb); (try clear hb2); (try clear hk); (try clear hi); have hcz29_0 : w28.cell? ⟨gb237, 0, none⟩ = some (.slice A0_0 l0_0.length c0_0) := (b8 BK237.out 0).trans rfl; have hcz29_1 : w28.cell? ⟨gb237, 1, none⟩ = some (.int .i64 a0_1) := (b8 BK237.out 1).trans rfl; have hcz29_2 : w28.cell? ⟨gb237, 2, none⟩ = some (.int .i64 a0_2) := (b8 BK237.out 2).trans rfl; have hfz29_0 := blk_frozen BK237.out 0; have hfz29_1 := blk_frozen BK237.out 1; have hfz29_2 := blk_frozen BK237.out 2) | (go_at_call 56; (with_reducible refine (spec_l01In.calls a0_1 0 100000 false _ A21.out).mono ?_); rintro e w' ⟨rfl, ⟨nd, rfl⟩⟩; (try first | exact ⟨rfl, _, World.drewN_drewN _ _ _⟩ | exact ⟨rfl, _, Eq.trans (World.drewN_drewN _ _ _) (congrArg (World.drewN _) (Nat.add_assoc _ _ _))⟩))))
      go_ret
      exact ⟨by first | rfl | (simp [errW_none, errW_some] <;> rfl) | (simp [*, errW_none, errW_some] <;> rfl), jzG HB⟩
    ·rw [if_neg c20] at H
     have c20b0 : decide (t238 ≤ 20) = false := decide_eq_false c20
     clear c20
     obtain rfl := Option.some.inj H
     have hcz30_0 : wr.cell? ⟨gb237, 0, none⟩ = some (.slice A0_0 l0_0.length c0_0) := (b8 BK237.out 0).trans rfl
     have hcz30_1 : wr.cell? ⟨gb237, 1, none⟩ = some (.int .i64 a0_1) := (b8 BK237.out 1).trans rfl
     have hcz30_2 : wr.cell? ⟨gb237, 2, none⟩ = some (.int .i64 a0_2) := (b8 BK237.out 2).trans rfl
     have hfz30_0 := blk_frozen BK237.out 0
     have hfz30_1 := blk_frozen BK237.out 1
     have hfz30_2 := blk_frozen BK237.out 2
     go_wp2_with (first | (go_at_call 47; (with_reducible refine (spec_CacheSize.calls k1 _ _ l0_0 a0_1 a0_2 t238 _ ?side1 ?side2 A19.out).mono ?_); (case side1 => exact jzC HR0_0 HB); (case side2 => exact HC0_0.out); rintro e w31 ⟨rfl, hb⟩; have n0_ := Am (blk_below (g := gb237) (o := .cells #[.slice A0_0 l0_0.length c0_0, .int .i64 a0_1, .int .i64 a0_2] 26 (0, 0)) (jzB BK237) hb); have n1_ := Am (below_step (jzG HB) hb); clear BK237; clear HB; have BK237 := n0_; have HB := n1_; clear n0_ n1_; (try clear hb); (try clear hb2); (try clear hk); (try clear hi)))
     repeat (go_quiet (first | (go_at_call 47; (with_reducible refine (spec_CacheSize.calls k1 _ _ l0_0 a0_1 a0_2 t238 _ ?side1 ?side2 A19.out).mono ?_); (case side1 => exact jzC HR0_0 HB); (case side2 => exact HC0_0.out); rintro e w31 ⟨rfl, hb⟩; have n0_ := Am (blk_below (g := gb237) (o := .cells #[.slice A0_0 l0_0.length c0_0, .int .i64 a0_1, .int .i64 a0_2] 26 (0, 0)) (jzB BK237) hb); have n1_ := Am (below_step (jzG HB) hb); clear BK237; clear HB; have BK237 := n0_; have HB := n1_; clear n0_ n1_; (try clear hb); (try clear hb2); (try clear hk); (try clear hi))); try go_wp2_with (first | (go_at_call 47; (with_reducible refine (spec_CacheSize.calls k1 _ _ l0_0 a0_1 a0_2 t238 _ ?side1 ?side2 A19.out).mono ?_); (case side1 => exact jzC HR0_0 HB); (case side2 => exact HC0_0.out); rintro e w31 ⟨rfl, hb⟩; have n0_ := Am (blk_below (g := gb237) (o := .cells #[.slice A0_0 l0_0.length c0_0, .int .i64 a0_1, .int .i64 a0_2] 26 (0, 0)) (jzB BK237) hb); have n1_ := Am (below_step (jzG HB) hb); clear BK237; clear HB; have BK237 := n0_; have HB := n1_; clear n0_ n1_; (try clear hb); (try clear hb2); (try clear hk); (try clear hi))))
     go_ret
     exact ⟨by first | rfl | (simp [errW_none, errW_some] <;> rfl) | (simp [*, errW_none, errW_some] <;> rfl), jzG HB⟩

end Go.Proofs.Ytphjcllhlecpfaa.PFnExactFetchGlyph
