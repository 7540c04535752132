/- Written by a program of this session (a turned copy of the kit's printer): what each Go function answers, and that it does. -/
import Derived.Test.YtphjcllhlecpfaaPFnCachesx0
import Derived.Test.YtphjcllhlecpfaaPFnCachesx5
namespace Go.Proofs.Ytphjcllhlecpfaa.PFnCaches
open Go.RowKit Go.Proofs.YtphjcllhlecpfaaW.PrintWords Go.Proofs.YtphjcllhlecpfaaW.PrintLast Go.Proofs.YtphjcllhlecpfaaW.PrintMore
attribute [local go_sem] Go.Proofs.Ytphjcllhlecpfaa.Cells.cell_set_at max2_int min2_int max_two min_two max_three min_three max_four min_four   -- for this text's walks alone
set_option linter.unusedVariables false
set_option linter.unusedSimpArgs false

/-! ### impl_glyphAt: function 37 -/
def impl_glyphAt.l0 : Nat → Int → Bool → List (S32) → Int → Int → Option (Int)
 | 0, _, _, _, _, _ => none
 | k + 1, x1, x2, x9, x10, x11 => if x11 < x10 then (if 0 ≤ x11 then (if x11 < (x9.length : Int) then (if ((rd_T32 x9 x11).f0) = x1 then (if x2 = true then ((impl_GlyphOk.f k ((rd_T32 x9 x11).f0) ((rd_T32 x9 x11).f1) ((rd_T32 x9 x11).f2)).bind fun t316 => (if t316 = true then (some x11) else (impl_glyphAt.l0 k x1 x2 x9 x10 (wrap64 (x11 + 1))))) else (some x11)) else (impl_glyphAt.l0 k x1 x2 x9 x10 (wrap64 (x11 + 1)))) else (none)) else (none)) else (some (-1))
def impl_glyphAt.f (k : Nat) (l0 : List (S32)) (a1 : Int) (a2 : Bool) : Option (Int) := impl_glyphAt.l0 k a1 a2 l0 (l0.length : Int) 0
theorem impl_glyphAt.mono_l : ∀ k, (∀ y0 y1 y2 y3 y4, LeO (impl_glyphAt.l0 k y0 y1 y2 y3 y4) (impl_glyphAt.l0 (k + 1) y0 y1 y2 y3 y4))
 | 0 => fun _ _ _ _ _ r h => by simp [impl_glyphAt.l0] at h
 | k + 1 => by
  have ih0 := impl_glyphAt.mono_l k
  ·intro y0 y1 y2 y3 y4
   unfold impl_glyphAt.l0
   repeat' first
   | (with_reducible exact ih0 _ _ _ _ _)
   | (with_reducible exact impl_GlyphOk.mono _ _ _ _)
   | (with_reducible exact LeO.refl _)
   | (with_reducible exact LeO.none _)
   | (with_reducible refine LeO.ite ?_ ?_)
   | (with_reducible refine LeO.bind ?_ (fun _ => ?_))
   | exact ih0 _ _ _ _ _
   | exact impl_GlyphOk.mono _ _ _ _
   | exact LeO.none _
   | refine LeO.ite ?_ ?_
   | refine LeO.bind ?_ (fun _ => ?_)
theorem impl_glyphAt.mono : ∀ a0 a1 a2 k, LeO (impl_glyphAt.f k a0 a1 a2) (impl_glyphAt.f (k + 1) a0 a1 a2) := by
 intro a0 a1 a2 k
 have ih0 := impl_glyphAt.mono_l k
 unfold impl_glyphAt.f
 repeat' first
   | (with_reducible exact ih0 _ _ _ _ _)
   | (with_reducible exact impl_GlyphOk.mono _ _ _ _)
   | (with_reducible exact LeO.refl _)
   | (with_reducible exact LeO.none _)
   | (with_reducible refine LeO.ite ?_ ?_)
   | (with_reducible refine LeO.bind ?_ (fun _ => ?_))
   | exact ih0 _ _ _ _ _
   | exact impl_GlyphOk.mono _ _ _ _
   | exact LeO.none _
   | refine LeO.ite ?_ ?_
   | refine LeO.bind ?_ (fun _ => ?_)
set_option maxHeartbeats 8000000 in
set_option maxRecDepth 100000 in
theorem impl_glyphAt.calls (k : Nat) (A0 : Option Addr) (c0 : Nat) (l0 : List (S32)) (a1 : Int) (a2 : Bool) (r : Int) (w : World) (hr0 : Kd.C k32 w A0 l0.length l0) (hc0 : l0.length ≤ c0) (h : impl_glyphAt.f k l0 a1 a2 = some r) :
  Calls Try.prog 37 #[.slice A0 l0.length c0, .int .i64 a1, .bool a2] w fun e w' => e = .returned (.int .i64 r) ∧ Below w.heap.size w w' := by
 have hu32 := Try.underlying32
 have HR0 := Am hr0
 have HC0 := Am hc0
 clear hr0 hc0
 have HB := Am (Below.refl w.heap.size w)
 have H : (impl_glyphAt.l0 k a1 a2 l0 (l0.length : Int) 0) = some r := h
 clear h
 have H' := Am H
 clear H
 go_enter Try.func37, Try.ntmps37
 go_wp2
 go_loopg [11] k (fun kq v11 w' => ∃ (x11_1 : Int), v11 = .int .i64 x11_1 ∧ Aside0 (impl_glyphAt.l0 kq a1 a2 l0 (l0.length : Int) x11_1 = some r) ∧ Aside0 (kq ≤ k) ∧ Aside0 (Below w.heap.size w w'))
 case atStart => exact ⟨(0), (by first | rfl | (simp; done) | (simp [*]; done)), H', ⟨Nat.le_refl _⟩, ⟨jzH HB⟩⟩
 case round =>
  clear H'
  try clear p2
  try clear c3
  obtain ⟨x11_1, rfl, HA, HK1, HB⟩ := hrel
  cases gk with
  | zero => exact absurd HA.out (by simp [impl_glyphAt.l0])
  | succ k1 =>
   have H := HA.out
   clear HA
   simp only [impl_glyphAt.l0] at H
   by_cases c4 : x11_1 < (l0.length : Int)
   ·rw [if_pos c4] at H
    have c4b0 : decide (x11_1 < (l0.length : Int)) = true := decide_eq_true c4
    clear c4
    by_cases c5 : 0 ≤ x11_1
    ·rw [if_pos c5] at H
     have c5b0 : decide (0 ≤ x11_1) = true := decide_eq_true c5
     clear c5
     by_cases c6 : x11_1 < (l0.length : Int)
     ·rw [if_pos c6] at H
      have c6b0 : decide (x11_1 < (l0.length : Int)) = true := decide_eq_true c6
      clear c6
      by_cases c7 : ((rd_T32 l0 x11_1).f0) = a1
      ·rw [if_pos c7] at H
       have c7b0 : (((rd_T32 l0 x11_1).f0) == a1) = true := beq_iff_eq.mpr c7
       have c7b1 : (((rd_T32 l0 x11_1).f0) != a1) = false := bne_eq_false_iff_eq.mpr c7
       clear c7
       by_cases c8 : a2 = true
       ·subst c8
        have H1 : ((impl_GlyphOk.f k1 ((rd_T32 l0 x11_1).f0) ((rd_T32 l0 x11_1).f1) ((rd_T32 l0 x11_1).f2)).bind fun t316 => (if t316 = true then (some x11_1) else (impl_glyphAt.l0 k1 a1 true l0 (l0.length : Int) (wrap64 (x11_1 + 1))))) = some r := by rw [if_pos rfl] at H; exact H
        clear H
        have H := H1
        clear H1
        replace H := Option.bind_eq_some_iff.mp H
        obtain ⟨t316, A90, H⟩ := H
        replace H : (if t316 = true then (some x11_1) else (impl_glyphAt.l0 k1 a1 true l0 (l0.length : Int) (wrap64 (x11_1 + 1)))) = some r := H
        have A9 := Am A90
        clear A90
        by_cases c10 : t316 = true
        ·subst c10
         have H1 : (some x11_1) = some r := by rw [if_pos rfl] at H; exact H
         clear H
         have H := H1
         clear H1
         obtain rfl := Option.some.inj H
         have p314 : 0 ≤ (x11_1 : Int) := of_decide_eq_true jzS
         have q314 : x11_1 < (l0.length : Int) := of_decide_eq_true jzS
         obtain ⟨ad314, A314_2, c314_2, e314, hx314_0, hx314_1, hx314_2, hl314_2, hi314_2⟩ := at_T32 HR0.out x11_1 p314 q314
         cases e314
         replace hx314_0 := (HB.out.cell (World.block_lt_of_cell? w _ hx314_0)).trans hx314_0
         replace hx314_1 := (HB.out.cell (World.block_lt_of_cell? w _ hx314_1)).trans hx314_1
         replace hx314_2 := (HB.out.cell (World.block_lt_of_cell? w _ hx314_2)).trans hx314_2
         have HR314_2 := Am hi314_2
         have HC314_2 := Am hl314_2
         clear hi314_2 hl314_2
         replace p314 := eq_true p314
         replace q314 := eq_true q314
         go_wp2_with (first | ((with_reducible refine gate_dst (N := 8) rfl ?_); refine box_event ?hg (N := 8) ?hd (cs := #[.int .i64 0, .int .i64 0, .slice none 0 0]) (t := 32) ?hr ?_; (case hd => rfl); (case hg => rfl); (case hr => first | (go_simp; done) | (go_simp; rfl)); intro gb315 hg w11 hbox hb; have n0_ := Am (below_step (jzH HB) hb); have n1_ := Am (hbox); have n2_ := Am ((by rw [hg]; exact (below_size (jzH HB)) : w.heap.size ≤ gb315)); have n3_ := Am ((by rw [hg]; exact (below_size (jzH HB)) : w.heap.size ≤ gb315)); clear HB; have HB := n0_; have BK315 := n1_; have GW315 := n2_; have GE315 := n3_; clear n0_ n1_ n2_ n3_; clear hb hbox hg; have hcz12_0 : w11.cell? ⟨gb315, 0, none⟩ = some (.int .i64 0) := (b8 BK315.out 0).trans rfl; have hcz12_1 : w11.cell? ⟨gb315, 1, none⟩ = some (.int .i64 0) := (b8 BK315.out 1).trans rfl; have hcz12_2 : w11.cell? ⟨gb315, 2, none⟩ = some (.slice none 0 0) := (b8 BK315.out 2).trans rfl; have hfz12_0 := blk_frozen BK315.out 0; have hfz12_1 := blk_frozen BK315.out 1; have hfz12_2 := blk_frozen BK315.out 2) | (go_at_call 39; (with_reducible refine (impl_GlyphOk.calls k1 ((rd_T32 l0 x11_1).f0) ((rd_T32 l0 x11_1).f1) _ _ ((rd_T32 l0 x11_1).f2) true _ ?side1 ?side2 A9.out).mono ?_); (case side1 => exact Kd.C_below HR314_2.out (jzG HB)); (case side2 => exact HC314_2.out); rintro e w13 ⟨rfl, hb⟩; have n0_ := Am (blk_below (g := gb315) (o := .cells #[.int .i64 ((rd_T32 l0 x11_1).f0), .int .i64 ((rd_T32 l0 x11_1).f1), .slice A314_2 ((rd_T32 l0 x11_1).f2).length c314_2] 32 (0, 0)) (by (with_reducible repeat (first | refine b1 ?_ _ | refine b2 ?_ | refine b3 ?_ _)); refine blk_put (cs := #[.int .i64 ((rd_T32 l0 x11_1).f0), .int .i64 ((rd_T32 l0 x11_1).f1), .slice none 0 0]) ?_ 2 _ rfl; (with_reducible repeat (first | refine b1 ?_ _ | refine b2 ?_ | refine b3 ?_ _)); refine blk_put (cs := #[.int .i64 ((rd_T32 l0 x11_1).f0), .int .i64 0, .slice none 0 0]) ?_ 1 _ rfl; (with_reducible repeat (first | refine b1 ?_ _ | refine b2 ?_ | refine b3 ?_ _)); refine blk_put (cs := #[.int .i64 0, .int .i64 0, .slice none 0 0]) ?_ 0 _ rfl; (with_reducible repeat (first | refine b1 ?_ _ | refine b2 ?_ | refine b3 ?_ _)); exact BK315.out) hb); have n1_ := Am (below_step (jzG HB) hb); clear BK315; clear HB; have BK315 := n0_; have HB := n1_; clear n0_ n1_; (try clear hb); (try clear hb2); (try clear hk); (try clear hi)))
         go_ret
         exact ⟨by first | rfl | (simp [errW_none, errW_some] <;> rfl) | (simp [*, errW_none, errW_some] <;> rfl), jzG HB⟩
        ·replace c10 := Bool.eq_false_iff.mpr c10
         subst c10
         have H1 : (impl_glyphAt.l0 k1 a1 true l0 (l0.length : Int) (wrap64 (x11_1 + 1))) = some r := by rw [if_neg (show ¬ (false = true) by decide)] at H; exact H
         clear H
         have H := H1
         clear H1
         have H' := Am H
         clear H
         have p314 : 0 ≤ (x11_1 : Int) := of_decide_eq_true jzS
         have q314 : x11_1 < (l0.length : Int) := of_decide_eq_true jzS
         obtain ⟨ad314, A314_2, c314_2, e314, hx314_0, hx314_1, hx314_2, hl314_2, hi314_2⟩ := at_T32 HR0.out x11_1 p314 q314
         cases e314
         replace hx314_0 := (HB.out.cell (World.block_lt_of_cell? w _ hx314_0)).trans hx314_0
         replace hx314_1 := (HB.out.cell (World.block_lt_of_cell? w _ hx314_1)).trans hx314_1
         replace hx314_2 := (HB.out.cell (World.block_lt_of_cell? w _ hx314_2)).trans hx314_2
         have HR314_2 := Am hi314_2
         have HC314_2 := Am hl314_2
         clear hi314_2 hl314_2
         replace p314 := eq_true p314
         replace q314 := eq_true q314
         go_wp2_with (first | ((with_reducible refine gate_dst (N := 8) rfl ?_); refine box_event ?hg (N := 8) ?hd (cs := #[.int .i64 0, .int .i64 0, .slice none 0 0]) (t := 32) ?hr ?_; (case hd => rfl); (case hg => rfl); (case hr => first | (go_simp; done) | (go_simp; rfl)); intro gb315 hg w14 hbox hb; have n0_ := Am (below_step (jzH HB) hb); have n1_ := Am (hbox); have n2_ := Am ((by rw [hg]; exact (below_size (jzH HB)) : w.heap.size ≤ gb315)); have n3_ := Am ((by rw [hg]; exact (below_size (jzH HB)) : w.heap.size ≤ gb315)); clear HB; have HB := n0_; have BK315 := n1_; have GW315 := n2_; have GE315 := n3_; clear n0_ n1_ n2_ n3_; clear hb hbox hg; have hcz15_0 : w14.cell? ⟨gb315, 0, none⟩ = some (.int .i64 0) := (b8 BK315.out 0).trans rfl; have hcz15_1 : w14.cell? ⟨gb315, 1, none⟩ = some (.int .i64 0) := (b8 BK315.out 1).trans rfl; have hcz15_2 : w14.cell? ⟨gb315, 2, none⟩ = some (.slice none 0 0) := (b8 BK315.out 2).trans rfl; have hfz15_0 := blk_frozen BK315.out 0; have hfz15_1 := blk_frozen BK315.out 1; have hfz15_2 := blk_frozen BK315.out 2) | (go_at_call 39; (with_reducible refine (impl_GlyphOk.calls k1 ((rd_T32 l0 x11_1).f0) ((rd_T32 l0 x11_1).f1) _ _ ((rd_T32 l0 x11_1).f2) false _ ?side1 ?side2 A9.out).mono ?_); (case side1 => exact Kd.C_below HR314_2.out (jzG HB)); (case side2 => exact HC314_2.out); rintro e w16 ⟨rfl, hb⟩; have n0_ := Am (blk_below (g := gb315) (o := .cells #[.int .i64 ((rd_T32 l0 x11_1).f0), .int .i64 ((rd_T32 l0 x11_1).f1), .slice A314_2 ((rd_T32 l0 x11_1).f2).length c314_2] 32 (0, 0)) (by (with_reducible repeat (first | refine b1 ?_ _ | refine b2 ?_ | refine b3 ?_ _)); refine blk_put (cs := #[.int .i64 ((rd_T32 l0 x11_1).f0), .int .i64 ((rd_T32 l0 x11_1).f1), .slice none 0 0]) ?_ 2 _ rfl; (with_reducible repeat (first | refine b1 ?_ _ | refine b2 ?_ | refine b3 ?_ _)); refine blk_put (cs := #[.int .i64 ((rd_T32 l0 x11_1).f0), .int .i64 0, .slice none 0 0]) ?_ 1 _ rfl; (with_reducible repeat (first | refine b1 ?_ _ | refine b2 ?_ | refine b3 ?_ _)); refine blk_put (cs := #[.int .i64 0, .int .i64 0, .slice none 0 0]) ?_ 0 _ rfl; (with_reducible repeat (first | refine b1 ?_ _ | refine b2 ?_ | refine b3 ?_ _)); exact BK315.out) hb); have n1_ := Am (below_step (jzG HB) hb); clear BK315; clear HB; have BK315 := n0_; have HB := n1_; clear n0_ n1_; (try clear hb); (try clear hb2); (try clear hk); (try clear hi)))
         go_roundg k1
         case measure => have := HK1.out; omega
         case rel => exact ⟨(wrap64 (x11_1 + 1)), (by first | rfl | (simp; done) | (simp [*]; done)), H', ⟨by have := HK1.out; omega⟩, ⟨jzG HB⟩⟩
       ·replace c8 := Bool.eq_false_iff.mpr c8
        subst c8
        have H1 : (some x11_1) = some r := by rw [if_neg (show ¬ (false = true) by decide)] at H; exact H
        clear H
        have H := H1
        clear H1
        obtain rfl := Option.some.inj H
        have p314 : 0 ≤ (x11_1 : Int) := of_decide_eq_true jzS
        have q314 : x11_1 < (l0.length : Int) := of_decide_eq_true jzS
        obtain ⟨ad314, A314_2, c314_2, e314, hx314_0, hx314_1, hx314_2, hl314_2, hi314_2⟩ := at_T32 HR0.out x11_1 p314 q314
        cases e314
        replace hx314_0 := (HB.out.cell (World.block_lt_of_cell? w _ hx314_0)).trans hx314_0
        replace hx314_1 := (HB.out.cell (World.block_lt_of_cell? w _ hx314_1)).trans hx314_1
        replace hx314_2 := (HB.out.cell (World.block_lt_of_cell? w _ hx314_2)).trans hx314_2
        have HR314_2 := Am hi314_2
        have HC314_2 := Am hl314_2
        clear hi314_2 hl314_2
        replace p314 := eq_true p314
        replace q314 := eq_true q314
        go_wp2_with (first | ((with_reducible refine gate_dst (N := 8) rfl ?_); refine box_event ?hg (N := 8) ?hd (cs := #[.int .i64 0, .int .i64 0, .slice none 0 0]) (t := 32) ?hr ?_; (case hd => rfl); (case hg => rfl); (case hr => first | (go_simp; done) | (go_simp; rfl)); intro gb315 hg w17 hbox hb; have n0_ := Am (below_step (jzH HB) hb); have n1_ := Am (hbox); have n2_ := Am ((by rw [hg]; exact (below_size (jzH HB)) : w.heap.size ≤ gb315)); have n3_ := Am ((by rw [hg]; exact (below_size (jzH HB)) : w.heap.size ≤ gb315)); clear HB; have HB := n0_; have BK315 := n1_; have GW315 := n2_; have GE315 := n3_; clear n0_ n1_ n2_ n3_; clear hb hbox hg; have hcz18_0 : w17.cell? ⟨gb315, 0, none⟩ = some (.int .i64 0) := (b8 BK315.out 0).trans rfl; have hcz18_1 : w17.cell? ⟨gb315, 1, none⟩ = some (.int .i64 0) := (b8 BK315.out 1).trans rfl; have hcz18_2 : w17.cell? ⟨gb315, 2, none⟩ = some (.slice none 0 0) := (b8 BK315.out 2).trans rfl; have hfz18_0 := blk_frozen BK315.out 0; have hfz18_1 := blk_frozen BK315.out 1; have hfz18_2 := blk_frozen BK315.out 2))
        go_ret
        exact ⟨by first | rfl | (simp [errW_none, errW_some] <;> rfl) | (simp [*, errW_none, errW_some] <;> rfl), jzG HB⟩
      ·rw [if_neg c7] at H
       have c7b0 : (((rd_T32 l0 x11_1).f0) == a1) = false := beq_eq_false_iff_ne.mpr c7
       have c7b1 : (((rd_T32 l0 x11_1).f0) != a1) = true := bne_iff_ne.mpr c7
       have H' := Am H
       clear H
       have p314 : 0 ≤ (x11_1 : Int) := of_decide_eq_true jzS
       have q314 : x11_1 < (l0.length : Int) := of_decide_eq_true jzS
       obtain ⟨ad314, A314_2, c314_2, e314, hx314_0, hx314_1, hx314_2, hl314_2, hi314_2⟩ := at_T32 HR0.out x11_1 p314 q314
       cases e314
       replace hx314_0 := (HB.out.cell (World.block_lt_of_cell? w _ hx314_0)).trans hx314_0
       replace hx314_1 := (HB.out.cell (World.block_lt_of_cell? w _ hx314_1)).trans hx314_1
       replace hx314_2 := (HB.out.cell (World.block_lt_of_cell? w _ hx314_2)).trans hx314_2
       have HR314_2 := Am hi314_2
       have HC314_2 := Am hl314_2
       clear hi314_2 hl314_2
       replace p314 := eq_true p314
       replace q314 := eq_true q314
       go_wp2_with (first | ((with_reducible refine gate_dst (N := 8) rfl ?_); refine box_event ?hg (N := 8) ?hd (cs := #[.int .i64 0, .int .i64 0, .slice none 0 0]) (t := 32) ?hr ?_; (case hd => rfl); (case hg => rfl); (case hr => first | (go_simp; done) | (go_simp; rfl)); intro gb315 hg w19 hbox hb; have n0_ := Am (below_step (jzH HB) hb); have n1_ := Am (hbox); have n2_ := Am ((by rw [hg]; exact (below_size (jzH HB)) : w.heap.size ≤ gb315)); have n3_ := Am ((by rw [hg]; exact (below_size (jzH HB)) : w.heap.size ≤ gb315)); clear HB; have HB := n0_; have BK315 := n1_; have GW315 := n2_; have GE315 := n3_; clear n0_ n1_ n2_ n3_; clear hb hbox hg; have hcz20_0 : w19.cell? ⟨gb315, 0, none⟩ = some (.int .i64 0) := (b8 BK315.out 0).trans rfl; have hcz20_1 : w19.cell? ⟨gb315, 1, none⟩ = some (.int .i64 0) := (b8 BK315.out 1).trans rfl; have hcz20_2 : w19.cell? ⟨gb315, 2, none⟩ = some (.slice none 0 0) := (b8 BK315.out 2).trans rfl; have hfz20_0 := blk_frozen BK315.out 0; have hfz20_1 := blk_frozen BK315.out 1; have hfz20_2 := blk_frozen BK315.out 2))
       go_roundg k1
       case measure => have := HK1.out; omega
       case rel => exact ⟨(wrap64 (x11_1 + 1)), (by first | rfl | (simp; done) | (simp [*]; done)), H', ⟨by have := HK1.out; omega⟩, ⟨jzG HB⟩⟩
     ·rw [if_neg c6] at H
      exact absurd H (by simp)
    ·rw [if_neg c5] at H
     exact absurd H (by simp)
   ·rw [if_neg c4] at H
    have c4b0 : decide (x11_1 < (l0.length : Int)) = false := decide_eq_false c4
    clear c4
    obtain rfl := Option.some.inj H
    go_wp2
    go_ret
    exact ⟨by first | rfl | (simp [errW_none, errW_some] <;> rfl) | (simp [*, errW_none, errW_some] <;> rfl), jzH HB⟩

/-! ### impl_HoldsGlyph: function 12 -/
def impl_HoldsGlyph.f (k : Nat) (l0_0 : List (S32)) (a0_1 : Int) (a0_2 : Int) (a1 : Int) : Option (Bool) := (impl_glyphAt.f k l0_0 a1 false).bind fun t318 => (some (decide (t318 ≥ 0)))
theorem impl_HoldsGlyph.mono : ∀ a0 a1 a2 a3 k, LeO (impl_HoldsGlyph.f k a0 a1 a2 a3) (impl_HoldsGlyph.f (k + 1) a0 a1 a2 a3) := by
 intro a0 a1 a2 a3 k
 unfold impl_HoldsGlyph.f
 repeat' first
   | (with_reducible exact impl_glyphAt.mono _ _ _ _)
   | (with_reducible exact LeO.refl _)
   | (with_reducible exact LeO.none _)
   | (with_reducible refine LeO.ite ?_ ?_)
   | (with_reducible refine LeO.bind ?_ (fun _ => ?_))
   | exact impl_glyphAt.mono _ _ _ _
   | exact LeO.none _
   | refine LeO.ite ?_ ?_
   | refine LeO.bind ?_ (fun _ => ?_)
set_option maxHeartbeats 8000000 in
set_option maxRecDepth 100000 in
theorem impl_HoldsGlyph.calls (k : Nat) (A0_0 : Option Addr) (c0_0 : Nat) (l0_0 : List (S32)) (a0_1 : Int) (a0_2 : Int) (a1 : Int) (r : Bool) (w : World) (hr0_0 : Kd.C k32 w A0_0 l0_0.length l0_0) (hc0_0 : l0_0.length ≤ c0_0) (h : impl_HoldsGlyph.f k l0_0 a0_1 a0_2 a1 = some r) :
  Calls Try.prog 12 #[.agg #[.slice A0_0 l0_0.length c0_0, .int .i64 a0_1, .int .i64 a0_2], .int .i64 a1] w fun e w' => e = .returned (.bool r) ∧ Below w.heap.size w w' := by
 have hu26 := Try.underlying26
 have HR0_0 := Am hr0_0
 have HC0_0 := Am hc0_0
 clear hr0_0 hc0_0
 have HB := Am (Below.refl w.heap.size w)
 have H : ((impl_glyphAt.f k l0_0 a1 false).bind fun t318 => (some (decide (t318 ≥ 0)))) = some r := h
 clear h
 replace H := Option.bind_eq_some_iff.mp H
 obtain ⟨t318, A30, H⟩ := H
 replace H : (some (decide (t318 ≥ 0))) = some r := H
 have A3 := Am A30
 clear A30
 obtain rfl := Option.some.inj H
 go_enter Try.func12, Try.ntmps12
 go_wp2_with (first | ((with_reducible refine gate_dst (N := 2) rfl ?_); refine box_event ?hg (N := 2) ?hd (cs := #[.slice A0_0 l0_0.length c0_0, .int .i64 a0_1, .int .i64 a0_2]) (t := 26) ?hr ?_; (case hd => rfl); (case hg => rfl); (case hr => first | (go_simp; done) | (go_simp; rfl)); intro gb317 hg w4 hbox hb; have n0_ := Am (below_step (jzH HB) hb); have n1_ := Am (hbox); have n2_ := Am ((by rw [hg]; exact (below_size (jzH HB)) : w.heap.size ≤ gb317)); have n3_ := Am ((by rw [hg]; exact (below_size (jzH HB)) : w.heap.size ≤ gb317)); clear HB; have HB := n0_; have BK317 := n1_; have GW317 := n2_; have GE317 := n3_; clear n0_ n1_ n2_ n3_; clear hb hbox hg; have hcz5_0 : w4.cell? ⟨gb317, 0, none⟩ = some (.slice A0_0 l0_0.length c0_0) := (b8 BK317.out 0).trans rfl; have hcz5_1 : w4.cell? ⟨gb317, 1, none⟩ = some (.int .i64 a0_1) := (b8 BK317.out 1).trans rfl; have hcz5_2 : w4.cell? ⟨gb317, 2, none⟩ = some (.int .i64 a0_2) := (b8 BK317.out 2).trans rfl; have hfz5_0 := blk_frozen BK317.out 0; have hfz5_1 := blk_frozen BK317.out 1; have hfz5_2 := blk_frozen BK317.out 2) | ((with_reducible refine gate_callee (f := 37) rfl ?_); refine goesL_ (some 8) rfl rfl Try.func37 (by kernel_rfl) rfl #[.slice A0_0 l0_0.length c0_0, .int .i64 a1, .bool false] rfl jzA ?_; (with_reducible refine (impl_glyphAt.calls k _ _ l0_0 a1 false t318 _ ?side1 ?side2 A3.out).mono ?_); (case side1 => exact jzC HR0_0 HB); (case side2 => exact HC0_0.out); rintro e w6 ⟨rfl, hb⟩; refine ⟨_, rfl, ?_⟩; have n0_ := Am (blk_below (g := gb317) (o := .cells #[.slice A0_0 l0_0.length c0_0, .int .i64 a0_1, .int .i64 a0_2] 26 (0, 0)) (jzB BK317) hb); have n1_ := Am (below_step (jzG HB) hb); clear BK317; clear HB; have BK317 := n0_; have HB := n1_; clear n0_ n1_; (try clear hb); (try clear hb2); (try clear hk); (try clear hi)))
 go_ret
 exact ⟨by first | rfl | (simp [errW_none, errW_some] <;> rfl) | (simp [*, errW_none, errW_some] <;> rfl), jzG HB⟩

/-! ### impl_CacheSize: function 17 -/
def impl_CacheSize.l0 : Nat → Int → List (S32) → Int → Int → Option (Int)
 | 0, _, _, _, _ => none
 | k + 1, x3, x7, x8, x9 => if x9 < x8 then (if 0 ≤ x9 then (if x9 < (x7.length : Int) then (impl_CacheSize.l0 k (wrap64 (x3 + (((rd_T32 x7 x9).f2).length : Int))) x7 x8 (wrap64 (x9 + 1))) else (none)) else (none)) else (some x3)
def impl_CacheSize.f (k : Nat) (l0_0 : List (S32)) (a0_1 : Int) (a0_2 : Int) : Option (Int) := impl_CacheSize.l0 k 0 l0_0 (l0_0.length : Int) 0
theorem impl_CacheSize.mono_l : ∀ k, (∀ y0 y1 y2 y3, LeO (impl_CacheSize.l0 k y0 y1 y2 y3) (impl_CacheSize.l0 (k + 1) y0 y1 y2 y3))
 | 0 => fun _ _ _ _ r h => by simp [impl_CacheSize.l0] at h
 | k + 1 => by
  have ih0 := impl_CacheSize.mono_l k
  ·intro y0 y1 y2 y3
   unfold impl_CacheSize.l0
   repeat' first
   | (with_reducible exact ih0 _ _ _ _)
   | (with_reducible exact LeO.refl _)
   | (with_reducible exact LeO.none _)
   | (with_reducible refine LeO.ite ?_ ?_)
   | (with_reducible refine LeO.bind ?_ (fun _ => ?_))
   | exact ih0 _ _ _ _
   | exact LeO.none _
   | refine LeO.ite ?_ ?_
   | refine LeO.bind ?_ (fun _ => ?_)
theorem impl_CacheSize.mono : ∀ a0 a1 a2 k, LeO (impl_CacheSize.f k a0 a1 a2) (impl_CacheSize.f (k + 1) a0 a1 a2) := by
 intro a0 a1 a2 k
 have ih0 := impl_CacheSize.mono_l k
 unfold impl_CacheSize.f
 repeat' first
   | (with_reducible exact ih0 _ _ _ _)
   | (with_reducible exact LeO.refl _)
   | (with_reducible exact LeO.none _)
   | (with_reducible refine LeO.ite ?_ ?_)
   | (with_reducible refine LeO.bind ?_ (fun _ => ?_))
   | exact ih0 _ _ _ _
   | exact LeO.none _
   | refine LeO.ite ?_ ?_
   | refine LeO.bind ?_ (fun _ => ?_)
set_option maxHeartbeats 8000000 in
set_option maxRecDepth 100000 in
theorem impl_CacheSize.calls (k : Nat) (A0_0 : Option Addr) (c0_0 : Nat) (l0_0 : List (S32)) (a0_1 : Int) (a0_2 : Int) (r : Int) (w : World) (hr0_0 : Kd.C k32 w A0_0 l0_0.length l0_0) (hc0_0 : l0_0.length ≤ c0_0) (h : impl_CacheSize.f k l0_0 a0_1 a0_2 = some r) :
  Calls Try.prog 17 #[.agg #[.slice A0_0 l0_0.length c0_0, .int .i64 a0_1, .int .i64 a0_2]] w fun e w' => e = .returned (.int .i64 r) ∧ Below w.heap.size w w' := by
 have hu26 := Try.underlying26
 have hu32 := Try.underlying32
 have HR0_0 := Am hr0_0
 have HC0_0 := Am hc0_0
 clear hr0_0 hc0_0
 have HB := Am (Below.refl w.heap.size w)
 have H : (impl_CacheSize.l0 k 0 l0_0 (l0_0.length : Int) 0) = some r := h
 clear h
 have H' := Am H
 clear H
 go_enter Try.func17, Try.ntmps17
 go_wp2_with (first | ((with_reducible refine gate_dst (N := 1) rfl ?_); refine box_event ?hg (N := 1) ?hd (cs := #[.slice A0_0 l0_0.length c0_0, .int .i64 a0_1, .int .i64 a0_2]) (t := 26) ?hr ?_; (case hd => rfl); (case hg => rfl); (case hr => first | (go_simp; done) | (go_simp; rfl)); intro gb319 hg w2 hbox hb; have n0_ := Am (below_step (jzH HB) hb); have n1_ := Am (hbox); have n2_ := Am ((by rw [hg]; exact (below_size (jzH HB)) : w.heap.size ≤ gb319)); have n3_ := Am ((by rw [hg]; exact (below_size (jzH HB)) : w.heap.size ≤ gb319)); clear HB; have HB := n0_; have BK319 := n1_; have GW319 := n2_; have GE319 := n3_; clear n0_ n1_ n2_ n3_; clear hb hbox hg; have hcz3_0 : w2.cell? ⟨gb319, 0, none⟩ = some (.slice A0_0 l0_0.length c0_0) := (b8 BK319.out 0).trans rfl; have hcz3_1 : w2.cell? ⟨gb319, 1, none⟩ = some (.int .i64 a0_1) := (b8 BK319.out 1).trans rfl; have hcz3_2 : w2.cell? ⟨gb319, 2, none⟩ = some (.int .i64 a0_2) := (b8 BK319.out 2).trans rfl; have hfz3_0 := blk_frozen BK319.out 0; have hfz3_1 := blk_frozen BK319.out 1; have hfz3_2 := blk_frozen BK319.out 2))
 go_loopg [3, 9] k (fun kq v3 v9 w' => ∃ (x3_1 : Int) (x9_1 : Int), v3 = .int .i64 x3_1 ∧ v9 = .int .i64 x9_1 ∧ Aside0 (impl_CacheSize.l0 kq x3_1 l0_0 (l0_0.length : Int) x9_1 = some r) ∧ Aside0 (kq ≤ k) ∧ Aside0 (w'.heap[gb319]? = some (.cells #[(.slice A0_0 l0_0.length c0_0), .int .i64 a0_1, .int .i64 a0_2] 26 (0, 0))) ∧ Aside0 (Below w.heap.size w w'))
 case atStart => exact ⟨(0), (0), (by first | rfl | (simp; done) | (simp [*]; done)), (by first | rfl | (simp; done) | (simp [*]; done)), H', ⟨Nat.le_refl _⟩, ⟨by (with_reducible repeat (first | refine b1 ?_ _ | refine b2 ?_ | refine b3 ?_ _)); exact BK319.out⟩, ⟨jzG HB⟩⟩
 case round =>
  clear H'
  try clear c1
  try clear p2
  try clear hcz3_0
  try clear hcz3_1
  try clear hcz3_2
  try clear hfz3_0
  try clear hfz3_1
  try clear hfz3_2
  obtain ⟨x3_1, x9_1, rfl, rfl, HA, HK1, BK319, HB⟩ := hrel
  cases gk with
  | zero => exact absurd HA.out (by simp [impl_CacheSize.l0])
  | succ k1 =>
   have H := HA.out
   clear HA
   simp only [impl_CacheSize.l0] at H
   by_cases c4 : x9_1 < (l0_0.length : Int)
   ·rw [if_pos c4] at H
    have c4b0 : decide (x9_1 < (l0_0.length : Int)) = true := decide_eq_true c4
    clear c4
    by_cases c5 : 0 ≤ x9_1
    ·rw [if_pos c5] at H
     have c5b0 : decide (0 ≤ x9_1) = true := decide_eq_true c5
     clear c5
     by_cases c6 : x9_1 < (l0_0.length : Int)
     ·rw [if_pos c6] at H
      have c6b0 : decide (x9_1 < (l0_0.length : Int)) = true := decide_eq_true c6
      clear c6
      have H' := Am H
      clear H
      have p320 : 0 ≤ (x9_1 : Int) := of_decide_eq_true jzS
      have q320 : x9_1 < (l0_0.length : Int) := of_decide_eq_true jzS
      obtain ⟨ad320, A320_2, c320_2, e320, hx320_0, hx320_1, hx320_2, hl320_2, hi320_2⟩ := at_T32 HR0_0.out x9_1 p320 q320
      cases e320
      replace hx320_0 := (HB.out.cell (World.block_lt_of_cell? w _ hx320_0)).trans hx320_0
      replace hx320_1 := (HB.out.cell (World.block_lt_of_cell? w _ hx320_1)).trans hx320_1
      replace hx320_2 := (HB.out.cell (World.block_lt_of_cell? w _ hx320_2)).trans hx320_2
      have HR320_2 := Am hi320_2
      have HC320_2 := Am hl320_2
      clear hi320_2 hl320_2
      replace p320 := eq_true p320
      replace q320 := eq_true q320
      go_wp2_with (first | ((with_reducible refine gate_dst (N := 5) rfl ?_); refine box_event ?hg (N := 5) ?hd (cs := #[.int .i64 0, .int .i64 0, .slice none 0 0]) (t := 32) ?hr ?_; (case hd => rfl); (case hg => rfl); (case hr => first | (go_simp; done) | (go_simp; rfl)); intro gb321 hg w7 hbox hb; have n0_ := Am (blk_below (g := gb319) (o := .cells #[.slice (some ad320) l0_0.length c0_0, .int .i64 a0_1, .int .i64 a0_2] 26 (0, 0)) (jzB BK319) hb); have n1_ := Am (below_step (jzG HB) hb); have n2_ := Am (hbox); have n3_ := Am ((by rw [hg]; exact (below_size (jzG HB)) : w.heap.size ≤ gb321)); have n4_ := Am ((by rw [hg]; exact (below_size (jzG HB)) : w.heap.size ≤ gb321)); have n5_ := Am ((by rw [hg]; exact Nat.ne_of_lt (blk_lt (g := gb319) (o := .cells #[.slice (some ad320) l0_0.length c0_0, .int .i64 a0_1, .int .i64 a0_2] 26 (0, 0)) (jzB BK319)) : gb319 ≠ gb321)); have n6_ := Am ((by rw [hg]; exact Nat.ne_of_gt (blk_lt (g := gb319) (o := .cells #[.slice (some ad320) l0_0.length c0_0, .int .i64 a0_1, .int .i64 a0_2] 26 (0, 0)) (jzB BK319)) : gb321 ≠ gb319)); clear BK319; clear HB; have BK319 := n0_; have HB := n1_; have BK321 := n2_; have GW321 := n3_; have GE321 := n4_; have NB319_321 := n5_; have NB321_319 := n6_; clear n0_ n1_ n2_ n3_ n4_ n5_ n6_; clear hb hbox hg; have hnb8 := NB321_319.out; have hnc8 := NB319_321.out; have hcz9_0 : w7.cell? ⟨gb321, 0, none⟩ = some (.int .i64 0) := (b8 BK321.out 0).trans rfl; have hcz9_1 : w7.cell? ⟨gb321, 1, none⟩ = some (.int .i64 0) := (b8 BK321.out 1).trans rfl; have hcz9_2 : w7.cell? ⟨gb321, 2, none⟩ = some (.slice none 0 0) := (b8 BK321.out 2).trans rfl; have hfz9_0 := blk_frozen BK321.out 0; have hfz9_1 := blk_frozen BK321.out 1; have hfz9_2 := blk_frozen BK321.out 2))
      go_roundg k1
      case measure => have := HK1.out; omega
      case rel => exact ⟨(wrap64 (x3_1 + (((rd_T32 l0_0 x9_1).f2).length : Int))), (wrap64 (x9_1 + 1)), (by first | rfl | (simp; done) | (simp [*]; done)), (by first | rfl | (simp; done) | (simp [*]; done)), H', ⟨by have := HK1.out; omega⟩, ⟨by (with_reducible repeat (first | refine b1 ?_ _ | refine b2 ?_ | refine b3 ?_ _)); refine blk_far ?_ NB319_321.out _; (with_reducible repeat (first | refine b1 ?_ _ | refine b2 ?_ | refine b3 ?_ _)); refine blk_far ?_ NB319_321.out _; (with_reducible repeat (first | refine b1 ?_ _ | refine b2 ?_ | refine b3 ?_ _)); refine blk_far ?_ NB319_321.out _; (with_reducible repeat (first | refine b1 ?_ _ | refine b2 ?_ | refine b3 ?_ _)); exact BK319.out⟩, ⟨jzG HB⟩⟩
     ·rw [if_neg c6] at H
      exact absurd H (by simp)
    ·rw [if_neg c5] at H
     exact absurd H (by simp)
   ·rw [if_neg c4] at H
    have c4b0 : decide (x9_1 < (l0_0.length : Int)) = false := decide_eq_false c4
    clear c4
    obtain rfl := Option.some.inj H
    go_wp2
    go_ret
    exact ⟨by first | rfl | (simp [errW_none, errW_some] <;> rfl) | (simp [*, errW_none, errW_some] <;> rfl), jzG HB⟩

end Go.Proofs.Ytphjcllhlecpfaa.PFnCaches
