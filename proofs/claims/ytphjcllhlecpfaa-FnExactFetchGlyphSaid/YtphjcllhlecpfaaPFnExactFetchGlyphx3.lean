/- Written by a program of this session (a turned copy of the kit's printer): what each Go function answers, and that it does. -/
import Derived.Test.YtphjcllhlecpfaaPFnExactFetchGlyphx0
import Derived.Test.YtphjcllhlecpfaaPFnExactFetchGlyphx2
namespace Go.Proofs.Ytphjcllhlecpfaa.PFnExactFetchGlyph
open Go.RowKit Go.Proofs.YtphjcllhlecpfaaW.PrintWords Go.Proofs.YtphjcllhlecpfaaW.PrintLast Go.Proofs.YtphjcllhlecpfaaW.PrintMore
attribute [local go_sem] Go.Proofs.Ytphjcllhlecpfaa.Cells.cell_set_at max2_int min2_int max_two min_two max_three min_three max_four min_four   -- for this text's walks alone
set_option linter.unusedVariables false
set_option linter.unusedSimpArgs false

/-! ### impl_copyCache: function 36 -/
def impl_copyCache.l0 : Nat → List (S32) → Int → Int → List (S32) → Int → Int → Option ((List (S32)) × Int × Int)
 | 0, _, _, _, _, _, _ => none
 | k + 1, x12, x13, x14, x141000, x141001, x141002 => if x14 < x13 then (if 0 ≤ x14 then (if x14 < (x12.length : Int) then ((impl_copyGlyph.f ((rd_T32 x12 x14).f0) ((rd_T32 x12 x14).f1) ((rd_T32 x12 x14).f2)).bind fun bt143 => (if x141000.length < 3518437208883 then (impl_copyCache.l0 k x12 x13 (wrap64 (x14 + 1)) (x141000 ++ [(⟨bt143.1, bt143.2.1, bt143.2.2⟩ : S32)]) x141001 x141002) else (none))) else (none)) else (none)) else (some (x141000, x141001, x141002))
def impl_copyCache.f (k : Nat) (l0_0 : List (S32)) (a0_1 : Int) (a0_2 : Int) : Option ((List (S32)) × Int × Int) := impl_copyCache.l0 k l0_0 (l0_0.length : Int) 0 ([] : List (S32)) a0_1 a0_2
theorem impl_copyCache.mono_l : ∀ k, (∀ y0 y1 y2 y3 y4 y5, LeO (impl_copyCache.l0 k y0 y1 y2 y3 y4 y5) (impl_copyCache.l0 (k + 1) y0 y1 y2 y3 y4 y5))
 | 0 => fun _ _ _ _ _ _ r h => by simp [impl_copyCache.l0] at h
 | k + 1 => by
  have ih0 := impl_copyCache.mono_l k
  ·intro y0 y1 y2 y3 y4 y5
   unfold impl_copyCache.l0
   repeat' first
   | (with_reducible exact ih0 _ _ _ _ _ _)
   | (with_reducible exact LeO.refl _)
   | (with_reducible exact LeO.none _)
   | (with_reducible refine LeO.ite ?_ ?_)
   | (with_reducible refine LeO.bind ?_ (fun _ => ?_))
   | exact ih0 _ _ _ _ _ _
   | exact LeO.none _
   | refine LeO.ite ?_ ?_
   | refine LeO.bind ?_ (fun _ => ?_)
theorem impl_copyCache.mono : ∀ a0 a1 a2 k, LeO (impl_copyCache.f k a0 a1 a2) (impl_copyCache.f (k + 1) a0 a1 a2) := by
 intro a0 a1 a2 k
 have ih0 := impl_copyCache.mono_l k
 unfold impl_copyCache.f
 repeat' first
   | (with_reducible exact ih0 _ _ _ _ _ _)
   | (with_reducible exact LeO.refl _)
   | (with_reducible exact LeO.none _)
   | (with_reducible refine LeO.ite ?_ ?_)
   | (with_reducible refine LeO.bind ?_ (fun _ => ?_))
   | exact ih0 _ _ _ _ _ _
   | exact LeO.none _
   | refine LeO.ite ?_ ?_
   | refine LeO.bind ?_ (fun _ => ?_)
def impl_copyCache.T5 : Bool × List (List Nat × List Nat) := (true, [([], []), ([0], [0]), ([], []), ([2], [2]), ([3], [3]), ([1, 4, 3], [1, 4]), ([0, 1, 2, 3, 4, 5], []), ([6, 5, 5, 0, 1, 2, 3, 4, 5], [5, 6])])
def impl_copyCache.B5 : List Nat := [0, 1, 0, 4, 12, 31, 63, 127]
theorem impl_copyCache.tab5 : rtab .any (opsOf Try.f36 5) = impl_copyCache.T5 := by kernel_rfl
theorem impl_copyCache.bits5 : waitsOk impl_copyCache.T5.2 impl_copyCache.B5 = true := by kernel_rfl
set_option maxHeartbeats 8000000 in
set_option maxRecDepth 100000 in
theorem impl_copyCache.calls (k : Nat) (A0_0 : Option Addr) (c0_0 : Nat) (l0_0 : List (S32)) (a0_1 : Int) (a0_2 : Int) (r1 : List (S32)) (r2 : Int) (r3 : Int) (w : World) (hr0_0 : Kd.C k32 w A0_0 l0_0.length l0_0) (hc0_0 : l0_0.length ≤ c0_0) (h : impl_copyCache.f k l0_0 a0_1 a0_2 = some (r1, r2, r3)) :
  Calls Try.prog 36 #[.agg #[.slice A0_0 l0_0.length c0_0, .int .i64 a0_1, .int .i64 a0_2]] w fun e w' => ∃ v0_ : Value, e = .returned (.agg #[v0_, .int .i64 r2, .int .i64 r3]) ∧ Kd.S k32 32 w' w.heap.size (fun _ => True) v0_ r1 ∧ Below w.heap.size w w' := by
 have hu26 := Try.underlying26
 have hu32 := Try.underlying32
 have HR0_0 := Am hr0_0
 have HC0_0 := Am hc0_0
 clear hr0_0 hc0_0
 have HB := Am (Below.refl w.heap.size w)
 have H : (impl_copyCache.l0 k l0_0 (l0_0.length : Int) 0 ([] : List (S32)) a0_1 a0_2) = some (r1, r2, r3) := h
 clear h
 have H' := Am H
 clear H
 go_enter Try.func36, Try.ntmps36
 go_wp2_with (first | ((with_reducible refine gate_dst (N := 1) rfl ?_); refine box_event ?hg (N := 1) ?hd (cs := #[.slice A0_0 l0_0.length c0_0, .int .i64 a0_1, .int .i64 a0_2]) (t := 26) ?hr ?_; (case hd => rfl); (case hg => rfl); (case hr => first | (go_simp; done) | (go_simp; rfl)); intro gb138 hg w2 hbox hb; have n0_ := Am (below_step (jzH HB) hb); have n1_ := Am (hbox); have n2_ := Am ((by rw [hg]; exact (below_size (jzH HB)) : w.heap.size ≤ gb138)); have n3_ := Am ((by rw [hg]; exact (below_size (jzH HB)) : w.heap.size ≤ gb138)); clear HB; have HB := n0_; have BK138 := n1_; have GW138 := n2_; have GE138 := n3_; clear n0_ n1_ n2_ n3_; clear hb hbox hg) | ((with_reducible refine gate_dst (N := 2) rfl ?_); refine box_event ?hg (N := 2) ?hd (cs := #[.slice none 0 0, .int .i64 0, .int .i64 0]) (t := 26) ?hr ?_; (case hd => rfl); (case hg => rfl); (case hr => first | (go_simp; done) | (go_simp; rfl)); intro gb139 hg w3 hbox hb; have n0_ := Am (blk_below (g := gb138) (o := .cells #[.slice A0_0 l0_0.length c0_0, .int .i64 a0_1, .int .i64 a0_2] 26 (0, 0)) (jzB BK138) hb); have n1_ := Am (below_step (jzG HB) hb); have n2_ := Am (hbox); have n3_ := Am ((by rw [hg]; exact (below_size (jzG HB)) : w.heap.size ≤ gb139)); have n4_ := Am ((by rw [hg]; exact (below_size (jzG HB)) : w.heap.size ≤ gb139)); have n5_ := Am ((by rw [hg]; exact Nat.ne_of_lt (blk_lt (g := gb138) (o := .cells #[.slice A0_0 l0_0.length c0_0, .int .i64 a0_1, .int .i64 a0_2] 26 (0, 0)) (jzB BK138)) : gb138 ≠ gb139)); have n6_ := Am ((by rw [hg]; exact Nat.ne_of_gt (blk_lt (g := gb138) (o := .cells #[.slice A0_0 l0_0.length c0_0, .int .i64 a0_1, .int .i64 a0_2] 26 (0, 0)) (jzB BK138)) : gb139 ≠ gb138)); clear BK138; clear HB; have BK138 := n0_; have HB := n1_; have BK139 := n2_; have GW139 := n3_; have GE139 := n4_; have NB138_139 := n5_; have NB139_138 := n6_; clear n0_ n1_ n2_ n3_ n4_ n5_ n6_; clear hb hbox hg; have hnb4 := NB138_139.out; have hnc4 := NB139_138.out; have hcz5_0 : w3.cell? ⟨gb138, 0, none⟩ = some (.slice A0_0 l0_0.length c0_0) := (b8 BK138.out 0).trans rfl; have hcz5_1 : w3.cell? ⟨gb138, 1, none⟩ = some (.int .i64 a0_1) := (b8 BK138.out 1).trans rfl; have hcz5_2 : w3.cell? ⟨gb138, 2, none⟩ = some (.int .i64 a0_2) := (b8 BK138.out 2).trans rfl; have hfz5_0 := blk_frozen BK138.out 0; have hfz5_1 := blk_frozen BK138.out 1; have hfz5_2 := blk_frozen BK138.out 2) | ((with_reducible refine gate_dst (N := 3) rfl ?_); refine box_event ?hg (N := 3) ?hd (cs := #[.slice none 0 0, .int .i64 0, .int .i64 0]) (t := 26) ?hr ?_; (case hd => rfl); (case hg => rfl); (case hr => first | (go_simp; done) | (go_simp; rfl)); intro gb140 hg w6 hbox hb; have n0_ := Am (blk_below (g := gb138) (o := .cells #[.slice A0_0 l0_0.length c0_0, .int .i64 a0_1, .int .i64 a0_2] 26 (0, 0)) (jzB BK138) hb); have n1_ := Am (blk_below (g := gb139) (o := .cells #[.slice none 0 0, .int .i64 0, .int .i64 0] 26 (0, 0)) (jzB BK139) hb); have n2_ := Am (below_step (jzG HB) hb); have n3_ := Am (hbox); have n4_ := Am ((by rw [hg]; exact (below_size (jzG HB)) : w.heap.size ≤ gb140)); have n5_ := Am ((by rw [hg]; exact (below_size (jzG HB)) : w.heap.size ≤ gb140)); have n6_ := Am ((by rw [hg]; exact Nat.ne_of_lt (blk_lt (g := gb138) (o := .cells #[.slice A0_0 l0_0.length c0_0, .int .i64 a0_1, .int .i64 a0_2] 26 (0, 0)) (jzB BK138)) : gb138 ≠ gb140)); have n7_ := Am ((by rw [hg]; exact Nat.ne_of_gt (blk_lt (g := gb138) (o := .cells #[.slice A0_0 l0_0.length c0_0, .int .i64 a0_1, .int .i64 a0_2] 26 (0, 0)) (jzB BK138)) : gb140 ≠ gb138)); have n8_ := Am ((by rw [hg]; exact Nat.ne_of_lt (blk_lt (g := gb139) (o := .cells #[.slice none 0 0, .int .i64 0, .int .i64 0] 26 (0, 0)) (jzB BK139)) : gb139 ≠ gb140)); have n9_ := Am ((by rw [hg]; exact Nat.ne_of_gt (blk_lt (g := gb139) (o := .cells #[.slice none 0 0, .int .i64 0, .int .i64 0] 26 (0, 0)) (jzB BK139)) : gb140 ≠ gb139)); clear BK138; clear BK139; clear HB; have BK138 := n0_; have BK139 := n1_; have HB := n2_; have BK140 := n3_; have GW140 := n4_; have GE140 := n5_; have NB138_140 := n6_; have NB140_138 := n7_; have NB139_140 := n8_; have NB140_139 := n9_; clear n0_ n1_ n2_ n3_ n4_ n5_ n6_ n7_ n8_ n9_; clear hb hbox hg; have hnb7 := NB140_138.out; have hnc7 := NB138_140.out; have hnb8 := NB140_139.out; have hnc8 := NB139_140.out; have hcz9_0 : w6.cell? ⟨gb140, 0, none⟩ = some (.slice none 0 0) := (b8 BK140.out 0).trans rfl; have hcz9_1 : w6.cell? ⟨gb140, 1, none⟩ = some (.int .i64 0) := (b8 BK140.out 1).trans rfl; have hcz9_2 : w6.cell? ⟨gb140, 2, none⟩ = some (.int .i64 0) := (b8 BK140.out 2).trans rfl; have hfz9_0 := blk_frozen BK140.out 0; have hfz9_1 := blk_frozen BK140.out 1; have hfz9_2 := blk_frozen BK140.out 2; have hcz10_0 : w6.cell? ⟨gb138, 0, none⟩ = some (.slice A0_0 l0_0.length c0_0) := (b8 BK138.out 0).trans rfl; have hcz10_1 : w6.cell? ⟨gb138, 1, none⟩ = some (.int .i64 a0_1) := (b8 BK138.out 1).trans rfl; have hcz10_2 : w6.cell? ⟨gb138, 2, none⟩ = some (.int .i64 a0_2) := (b8 BK138.out 2).trans rfl; have hfz10_0 := blk_frozen BK138.out 0; have hfz10_1 := blk_frozen BK138.out 1; have hfz10_2 := blk_frozen BK138.out 2))
 go_loopg [14] k (fun kq v14 w' => ∃ (x14_1 : Int) (x141000_1 : List (S32)) (u141000 : Value), v14 = .int .i64 x14_1 ∧ Aside0 (impl_copyCache.l0 kq l0_0 (l0_0.length : Int) x14_1 x141000_1 a0_1 a0_2 = some (r1, r2, r3)) ∧ Aside0 (kq ≤ k) ∧ Aside0 (Kd.S k32 32 w' w.heap.size (fun _ => True) u141000 x141000_1) ∧ Aside0 (w'.heap[gb138]? = some (.cells #[(.slice A0_0 l0_0.length c0_0), .int .i64 a0_1, .int .i64 a0_2] 26 (0, 0))) ∧ Aside0 (w'.heap[gb139]? = some (.cells #[(.slice none 0 0), .int .i64 0, .int .i64 0] 26 (0, 0))) ∧ Aside0 (w'.heap[gb140]? = some (.cells #[u141000, .int .i64 a0_1, .int .i64 a0_2] 26 (0, 0))) ∧ Aside0 (Below w.heap.size w w'))
 case atStart => exact ⟨(0), (([] : List (S32))), (.slice none 0 0), (by first | rfl | (simp; done) | (simp [*]; done)), H', ⟨Nat.le_refl _⟩, ⟨by first | exact Kd.S_nil _ _ _ _ _ | exact Kd.N_nil _ _ _ _ _ | exact Kd.V_nil _ _ _ _ _ | exact Kd.Q_nil _ _ _ _ _ | exact Kd.R_nil _ _ _ _ _⟩, ⟨by (with_reducible repeat (first | refine b1 ?_ _ | refine b2 ?_ | refine b3 ?_ _)); refine blk_far ?_ NB138_140.out _; (with_reducible repeat (first | refine b1 ?_ _ | refine b2 ?_ | refine b3 ?_ _)); refine blk_far ?_ NB138_140.out _; (with_reducible repeat (first | refine b1 ?_ _ | refine b2 ?_ | refine b3 ?_ _)); refine blk_far ?_ NB138_140.out _; (with_reducible repeat (first | refine b1 ?_ _ | refine b2 ?_ | refine b3 ?_ _)); exact BK138.out⟩, ⟨by (with_reducible repeat (first | refine b1 ?_ _ | refine b2 ?_ | refine b3 ?_ _)); refine blk_far ?_ NB139_140.out _; (with_reducible repeat (first | refine b1 ?_ _ | refine b2 ?_ | refine b3 ?_ _)); refine blk_far ?_ NB139_140.out _; (with_reducible repeat (first | refine b1 ?_ _ | refine b2 ?_ | refine b3 ?_ _)); refine blk_far ?_ NB139_140.out _; (with_reducible repeat (first | refine b1 ?_ _ | refine b2 ?_ | refine b3 ?_ _)); exact BK139.out⟩, ⟨by (with_reducible repeat (first | refine b1 ?_ _ | refine b2 ?_ | refine b3 ?_ _)); refine blk_put (cs := #[.slice none 0 0, .int .i64 a0_1, .int .i64 0]) ?_ 2 _ rfl; (with_reducible repeat (first | refine b1 ?_ _ | refine b2 ?_ | refine b3 ?_ _)); refine blk_put (cs := #[.slice none 0 0, .int .i64 0, .int .i64 0]) ?_ 1 _ rfl; (with_reducible repeat (first | refine b1 ?_ _ | refine b2 ?_ | refine b3 ?_ _)); refine blk_put (cs := #[.slice none 0 0, .int .i64 0, .int .i64 0]) ?_ 0 _ rfl; (with_reducible repeat (first | refine b1 ?_ _ | refine b2 ?_ | refine b3 ?_ _)); exact BK140.out⟩, ⟨jzG HB⟩⟩
 case round =>
  clear H'
  try clear p2
  try clear c3
  try clear c4
  try clear c7
  try clear c8
  try clear hcz10_0
  try clear hcz10_1
  try clear hcz10_2
  try clear hcz5_0
  try clear hcz5_1
  try clear hcz5_2
  try clear hcz9_0
  try clear hcz9_1
  try clear hcz9_2
  try clear hfz10_0
  try clear hfz10_1
  try clear hfz10_2
  try clear hfz5_0
  try clear hfz5_1
  try clear hfz5_2
  try clear hfz9_0
  try clear hfz9_1
  try clear hfz9_2
  obtain ⟨x14_1, x141000_1, u141000, rfl, HA, HK1, HO_141000, BK138, BK139, BK140, HB⟩ := hrel
  cases gk with
  | zero => exact absurd HA.out (by simp [impl_copyCache.l0])
  | succ k1 =>
   have H := HA.out
   clear HA
   simp only [impl_copyCache.l0] at H
   by_cases c11 : x14_1 < (l0_0.length : Int)
   ·rw [if_pos c11] at H
    have c11b0 : decide (x14_1 < (l0_0.length : Int)) = true := decide_eq_true c11
    clear c11
    by_cases c12 : 0 ≤ x14_1
    ·rw [if_pos c12] at H
     have c12b0 : decide (0 ≤ x14_1) = true := decide_eq_true c12
     clear c12
     by_cases c13 : x14_1 < (l0_0.length : Int)
     ·rw [if_pos c13] at H
      have c13b0 : decide (x14_1 < (l0_0.length : Int)) = true := decide_eq_true c13
      clear c13
      replace H := Option.bind_eq_some_iff.mp H
      obtain ⟨⟨t143, t144, t145⟩, A140, H⟩ := H
      replace H : (if x141000_1.length < 3518437208883 then (impl_copyCache.l0 k1 l0_0 (l0_0.length : Int) (wrap64 (x14_1 + 1)) (x141000_1 ++ [(⟨t143, t144, t145⟩ : S32)]) a0_1 a0_2) else (none)) = some (r1, r2, r3) := H
      have A14 := Am A140
      clear A140
      by_cases c15 : x141000_1.length < 3518437208883
      ·rw [if_pos c15] at H
       have LMc15 := Am c15
       clear c15
       obtain ⟨y148, hy148⟩ : ∃ y_ : List (S32), y_ = (x141000_1 ++ [(⟨t143, t144, t145⟩ : S32)]) := ⟨_, rfl⟩
       replace H : (impl_copyCache.l0 k1 l0_0 (l0_0.length : Int) (wrap64 (x14_1 + 1)) y148 a0_1 a0_2) = some (r1, r2, r3) := by first | (rw [hy148]; with_reducible exact H) | (have H2_ := (Option.bind_some _ _).symm.trans H; rw [hy148]; with_reducible exact H2_) | (have H2_ := (Option.bind_some _ _).symm.trans H; with_reducible exact H2_) | with_reducible exact H | (rw [hy148]; exact H) | exact H
       have Ny148 := Am hy148
       clear hy148
       have H' := Am H
       clear H
       have p141 : 0 ≤ (x14_1 : Int) := of_decide_eq_true jzS
       have q141 : x14_1 < (l0_0.length : Int) := of_decide_eq_true jzS
       obtain ⟨ad141, A141_2, c141_2, e141, hx141_0, hx141_1, hx141_2, hl141_2, hi141_2⟩ := at_T32 HR0_0.out x14_1 p141 q141
       cases e141
       replace hx141_0 := (HB.out.cell (World.block_lt_of_cell? w _ hx141_0)).trans hx141_0
       replace hx141_1 := (HB.out.cell (World.block_lt_of_cell? w _ hx141_1)).trans hx141_1
       replace hx141_2 := (HB.out.cell (World.block_lt_of_cell? w _ hx141_2)).trans hx141_2
       have HR141_2 := Am hi141_2
       have HC141_2 := Am hl141_2
       clear hi141_2 hl141_2
       replace p141 := eq_true p141
       replace q141 := eq_true q141
       try go_wp2_with (first | ((with_reducible refine gate_dst (N := 5) rfl ?_); refine box_event ?hg (N := 5) ?hd (cs := #[.int .i64 0, .int .i64 0, .slice none 0 0]) (t := 32) ?hr ?_; (case hd => rfl); (case hg => rfl); (case hr => first | (go_simp; done) | (go_simp; rfl)); intro gb142 hg w16 hbox hb; have n0_ := Am (Kd.S_below (Kd.S_elderB (jzO HO_141000) gb142 (Nat.le_of_eq hg.symm)) hb); have n1_ := Am (blk_below (g := gb138) (o := .cells #[.slice (some ad141) l0_0.length c0_0, .int .i64 a0_1, .int .i64 a0_2] 26 (0, 0)) (jzB BK138) hb); have n2_ := Am (blk_below (g := gb139) (o := .cells #[.slice none 0 0, .int .i64 0, .int .i64 0] 26 (0, 0)) (jzB BK139) hb); have n3_ := Am (blk_below (g := gb140) (o := .cells #[u141000, .int .i64 a0_1, .int .i64 a0_2] 26 (0, 0)) (jzB BK140) hb); have n4_ := Am (below_step (jzG HB) hb); have n5_ := Am (hbox); have n6_ := Am ((by rw [hg]; exact (below_size (jzG HB)) : w.heap.size ≤ gb142)); have n7_ := Am ((by rw [hg]; exact (below_size (jzG HB)) : w.heap.size ≤ gb142)); have n8_ := Am ((by rw [hg]; exact Nat.ne_of_lt (blk_lt (g := gb138) (o := .cells #[.slice (some ad141) l0_0.length c0_0, .int .i64 a0_1, .int .i64 a0_2] 26 (0, 0)) (jzB BK138)) : gb138 ≠ gb142)); have n9_ := Am ((by rw [hg]; exact Nat.ne_of_gt (blk_lt (g := gb138) (o := .cells #[.slice (some ad141) l0_0.length c0_0, .int .i64 a0_1, .int .i64 a0_2] 26 (0, 0)) (jzB BK138)) : gb142 ≠ gb138)); have n10_ := Am ((by rw [hg]; exact Nat.ne_of_lt (blk_lt (g := gb139) (o := .cells #[.slice none 0 0, .int .i64 0, .int .i64 0] 26 (0, 0)) (jzB BK139)) : gb139 ≠ gb142)); have n11_ := Am ((by rw [hg]; exact Nat.ne_of_gt (blk_lt (g := gb139) (o := .cells #[.slice none 0 0, .int .i64 0, .int .i64 0] 26 (0, 0)) (jzB BK139)) : gb142 ≠ gb139)); have n12_ := Am ((by rw [hg]; exact Nat.ne_of_lt (blk_lt (g := gb140) (o := .cells #[u141000, .int .i64 a0_1, .int .i64 a0_2] 26 (0, 0)) (jzB BK140)) : gb140 ≠ gb142)); have n13_ := Am ((by rw [hg]; exact Nat.ne_of_gt (blk_lt (g := gb140) (o := .cells #[u141000, .int .i64 a0_1, .int .i64 a0_2] 26 (0, 0)) (jzB BK140)) : gb142 ≠ gb140)); clear HO_141000; clear BK138; clear BK139; clear BK140; clear HB; have HO_141000 := n0_; have BK138 := n1_; have BK139 := n2_; have BK140 := n3_; have HB := n4_; have BK142 := n5_; have GW142 := n6_; have GE142 := n7_; have NB138_142 := n8_; have NB142_138 := n9_; have NB139_142 := n10_; have NB142_139 := n11_; have NB140_142 := n12_; have NB142_140 := n13_; clear n0_ n1_ n2_ n3_ n4_ n5_ n6_ n7_ n8_ n9_ n10_ n11_ n12_ n13_; clear hb hbox hg; have hnb17 := NB142_138.out; have hnc17 := NB138_142.out; have hnb18 := NB142_139.out; have hnc18 := NB139_142.out; have hnb19 := NB142_140.out; have hnc19 := NB140_142.out; have hcz20_0 : w16.cell? ⟨gb142, 0, none⟩ = some (.int .i64 0) := (b8 BK142.out 0).trans rfl; have hcz20_1 : w16.cell? ⟨gb142, 1, none⟩ = some (.int .i64 0) := (b8 BK142.out 1).trans rfl; have hcz20_2 : w16.cell? ⟨gb142, 2, none⟩ = some (.slice none 0 0) := (b8 BK142.out 2).trans rfl; have hfz20_0 := blk_frozen BK142.out 0; have hfz20_1 := blk_frozen BK142.out 1; have hfz20_2 := blk_frozen BK142.out 2))
       have n0_ : Aside0 (Kd.S k32 32 (((w16.setCell ⟨gb142, 0, none⟩ (.int .i64 ((rd_T32 l0_0 x14_1).f0))).setCell ⟨gb142, 1, none⟩ (.int .i64 ((rd_T32 l0_0 x14_1).f1))).setCell ⟨gb142, 2, none⟩ (.slice A141_2 ((rd_T32 l0_0 x14_1).f2).length c141_2)) w.heap.size (fun k_ => k_ ≠ gb142) u141000 x141000_1) := ⟨by (with_reducible repeat (first | apply Kd.S_alloc | apply Kd.S_drewN | apply Kd.S_drew)); exact Kd.S_mono (Kd.S_far (p := ⟨gb142, 2, none⟩) (Kd.S_far (p := ⟨gb142, 1, none⟩) (Kd.S_far (p := ⟨gb142, 0, none⟩) (Kd.S_mono HO_141000.out (fun k_ hk => (⟨hk, hk.2⟩ : _ ∧ k_ ≠ gb142))) (fun _ hk => hk.2) (.int .i64 ((rd_T32 l0_0 x14_1).f0))) (fun _ hk => hk.2) (.int .i64 ((rd_T32 l0_0 x14_1).f1))) (fun _ hk => hk.2) (.slice A141_2 ((rd_T32 l0_0 x14_1).f2).length c141_2)) (fun _ hk => hk.1.2)⟩
       have n1_ : Aside0 ((((w16.setCell ⟨gb142, 0, none⟩ (.int .i64 ((rd_T32 l0_0 x14_1).f0))).setCell ⟨gb142, 1, none⟩ (.int .i64 ((rd_T32 l0_0 x14_1).f1))).setCell ⟨gb142, 2, none⟩ (.slice A141_2 ((rd_T32 l0_0 x14_1).f2).length c141_2)).heap[gb138]? = some (.cells #[.slice (some ad141) l0_0.length c0_0, .int .i64 a0_1, .int .i64 a0_2] 26 (0, 0))) := ⟨by (with_reducible repeat (first | refine b1 ?_ _ | refine b2 ?_ | refine b3 ?_ _)); refine blk_far ?_ NB138_142.out _; (with_reducible repeat (first | refine b1 ?_ _ | refine b2 ?_ | refine b3 ?_ _)); refine blk_far ?_ NB138_142.out _; (with_reducible repeat (first | refine b1 ?_ _ | refine b2 ?_ | refine b3 ?_ _)); refine blk_far ?_ NB138_142.out _; (with_reducible repeat (first | refine b1 ?_ _ | refine b2 ?_ | refine b3 ?_ _)); exact BK138.out⟩
       have n2_ : Aside0 ((((w16.setCell ⟨gb142, 0, none⟩ (.int .i64 ((rd_T32 l0_0 x14_1).f0))).setCell ⟨gb142, 1, none⟩ (.int .i64 ((rd_T32 l0_0 x14_1).f1))).setCell ⟨gb142, 2, none⟩ (.slice A141_2 ((rd_T32 l0_0 x14_1).f2).length c141_2)).heap[gb139]? = some (.cells #[.slice none 0 0, .int .i64 0, .int .i64 0] 26 (0, 0))) := ⟨by (with_reducible repeat (first | refine b1 ?_ _ | refine b2 ?_ | refine b3 ?_ _)); refine blk_far ?_ NB139_142.out _; (with_reducible repeat (first | refine b1 ?_ _ | refine b2 ?_ | refine b3 ?_ _)); refine blk_far ?_ NB139_142.out _; (with_reducible repeat (first | refine b1 ?_ _ | refine b2 ?_ | refine b3 ?_ _)); refine blk_far ?_ NB139_142.out _; (with_reducible repeat (first | refine b1 ?_ _ | refine b2 ?_ | refine b3 ?_ _)); exact BK139.out⟩
       have n3_ : Aside0 ((((w16.setCell ⟨gb142, 0, none⟩ (.int .i64 ((rd_T32 l0_0 x14_1).f0))).setCell ⟨gb142, 1, none⟩ (.int .i64 ((rd_T32 l0_0 x14_1).f1))).setCell ⟨gb142, 2, none⟩ (.slice A141_2 ((rd_T32 l0_0 x14_1).f2).length c141_2)).heap[gb140]? = some (.cells #[u141000, .int .i64 a0_1, .int .i64 a0_2] 26 (0, 0))) := ⟨by (with_reducible repeat (first | refine b1 ?_ _ | refine b2 ?_ | refine b3 ?_ _)); refine blk_far ?_ NB140_142.out _; (with_reducible repeat (first | refine b1 ?_ _ | refine b2 ?_ | refine b3 ?_ _)); refine blk_far ?_ NB140_142.out _; (with_reducible repeat (first | refine b1 ?_ _ | refine b2 ?_ | refine b3 ?_ _)); refine blk_far ?_ NB140_142.out _; (with_reducible repeat (first | refine b1 ?_ _ | refine b2 ?_ | refine b3 ?_ _)); exact BK140.out⟩
       have n4_ : Aside0 ((((w16.setCell ⟨gb142, 0, none⟩ (.int .i64 ((rd_T32 l0_0 x14_1).f0))).setCell ⟨gb142, 1, none⟩ (.int .i64 ((rd_T32 l0_0 x14_1).f1))).setCell ⟨gb142, 2, none⟩ (.slice A141_2 ((rd_T32 l0_0 x14_1).f2).length c141_2)).heap[gb142]? = some (.cells #[.int .i64 ((rd_T32 l0_0 x14_1).f0), .int .i64 ((rd_T32 l0_0 x14_1).f1), .slice A141_2 ((rd_T32 l0_0 x14_1).f2).length c141_2] 32 (0, 0))) := ⟨by (with_reducible repeat (first | refine b1 ?_ _ | refine b2 ?_ | refine b3 ?_ _)); refine blk_put (cs := #[.int .i64 ((rd_T32 l0_0 x14_1).f0), .int .i64 ((rd_T32 l0_0 x14_1).f1), .slice none 0 0]) ?_ 2 _ rfl; (with_reducible repeat (first | refine b1 ?_ _ | refine b2 ?_ | refine b3 ?_ _)); refine blk_put (cs := #[.int .i64 ((rd_T32 l0_0 x14_1).f0), .int .i64 0, .slice none 0 0]) ?_ 1 _ rfl; (with_reducible repeat (first | refine b1 ?_ _ | refine b2 ?_ | refine b3 ?_ _)); refine blk_put (cs := #[.int .i64 0, .int .i64 0, .slice none 0 0]) ?_ 0 _ rfl; (with_reducible repeat (first | refine b1 ?_ _ | refine b2 ?_ | refine b3 ?_ _)); exact BK142.out⟩
       have n5_ : Aside0 (Below w.heap.size w (((w16.setCell ⟨gb142, 0, none⟩ (.int .i64 ((rd_T32 l0_0 x14_1).f0))).setCell ⟨gb142, 1, none⟩ (.int .i64 ((rd_T32 l0_0 x14_1).f1))).setCell ⟨gb142, 2, none⟩ (.slice A141_2 ((rd_T32 l0_0 x14_1).f2).length c141_2))) := ⟨jzG HB⟩
       (try clear HO_141000)
       (try clear BK138)
       (try clear BK139)
       (try clear BK140)
       (try clear BK142)
       (try clear HB)
       generalize (((w16.setCell ⟨gb142, 0, none⟩ (.int .i64 ((rd_T32 l0_0 x14_1).f0))).setCell ⟨gb142, 1, none⟩ (.int .i64 ((rd_T32 l0_0 x14_1).f1))).setCell ⟨gb142, 2, none⟩ (.slice A141_2 ((rd_T32 l0_0 x14_1).f2).length c141_2)) = w21 at n0_ n1_ n2_ n3_ n4_ n5_ ⊢
       have HO_141000 := n0_
       have BK138 := n1_
       have BK139 := n2_
       have BK140 := n3_
       have BK142 := n4_
       have HB := n5_
       clear n0_ n1_ n2_ n3_ n4_ n5_
       have n0_ := Am (Kd.S_drew HO_141000.out)
       have n1_ := Am (b2 BK138.out)
       have n2_ := Am (b2 BK139.out)
       have n3_ := Am (b2 BK140.out)
       have n4_ := Am (b2 BK142.out)
       have n5_ := Am (b6 HB.out)
       clear HO_141000
       clear BK138
       clear BK139
       clear BK140
       clear BK142
       clear HB
       have HO_141000 := n0_
       have BK138 := n1_
       have BK139 := n2_
       have BK140 := n3_
       have BK142 := n4_
       have HB := n5_
       clear n0_ n1_ n2_ n3_ n4_ n5_
       refine start_ (n := 8) (S := fun w' => w'.cell? ⟨gb140, 0, none⟩ = some (u141000) ∧ w'.cell? ⟨gb140, 1, none⟩ = some (.int .i64 a0_1) ∧ w'.cell? ⟨gb140, 2, none⟩ = some (.int .i64 a0_2) ∧ w'.cell? ⟨gb142, 0, none⟩ = some (.int .i64 ((rd_T32 l0_0 x14_1).f0)) ∧ w'.cell? ⟨gb142, 1, none⟩ = some (.int .i64 ((rd_T32 l0_0 x14_1).f1)) ∧ w'.cell? ⟨gb142, 2, none⟩ = some (.slice A141_2 ((rd_T32 l0_0 x14_1).f2).length c141_2)) (ds := [7]) #[F,F,F,F,F,F,F,F] (by kernel_rfl) rfl rfl ⟨(b8 BK140.out 0).trans rfl, (b8 BK140.out 1).trans rfl, (b8 BK140.out 2).trans rfl, (b8 BK142.out 0).trans rfl, (b8 BK142.out 1).trans rfl, (b8 BK142.out 2).trans rfl⟩ (fun hHeld => ?_); refine with_tabW impl_copyCache.tab5 impl_copyCache.bits5 (fun HT_ HW_ => ?_)
       generalize w21.drew = w22 at HO_141000 BK138 BK139 BK140 BK142 HB hHeld ⊢
       refine pure_ (i := 0) (N := some 18) (v := ?_) (a' := ?_) #[T,F,F,F,F,F,F,F] rfl rfl (any_of HT_.out (by kernel_rfl)) (fun _ _ _ h => h) (Or.inl ⟨by rfl, ?_⟩) ?_ ?_
       rotate_left; intro w'; go_simp; with_reducible rfl; rotate_left; simp only [Act.put, zA, zB, zC, i64_w, i32_w]; rfl
       refine take_ (i := 1) (N := some 19) (v := ?_) (a' := ?_) #[T,T,F,F,F,F,F,F] rfl rfl (take_ofW HT_.out HW_.out (by kernel_rfl)) (fun _ _ _ h => h) (Or.inl ⟨by rfl, ?_⟩) hHeld ?_ ?_
       rotate_left; rintro w' ⟨s0, s1, s2, s3, s4, s5⟩; go_simp; with_reducible rfl; rotate_left; simp only [Act.put, zA, zB, zC, i64_w, i32_w]; rfl
       refine take_ (i := 2) (N := some 20) (v := ?_) (a' := ?_) #[T,T,T,F,F,F,F,F] rfl rfl (take_ofW HT_.out HW_.out (by kernel_rfl)) (fun _ _ _ h => h) (Or.inl ⟨by rfl, ?_⟩) hHeld ?_ ?_
       rotate_left; rintro w' ⟨s0, s1, s2, s3, s4, s5⟩; go_simp; with_reducible rfl; rotate_left; simp only [Act.put, zA, zB, zC, i64_w, i32_w]; rfl
       refine one_ (i := 3) (N := some 21) #[T,T,T,T,F,F,F,F] rfl rfl (one_of HT_.out (by kernel_rfl)) (by decide) (fun K hK => ?_)
       refine goes_ Try.func38 (by kernel_rfl) rfl #[.agg #[.int .i64 ((rd_T32 l0_0 x14_1).f0), .int .i64 ((rd_T32 l0_0 x14_1).f1), .slice A141_2 ((rd_T32 l0_0 x14_1).f2).length c141_2]] (by rfl) rfl rfl jzA ?_
       with_reducible refine (impl_copyGlyph.calls ((rd_T32 l0_0 x14_1).f0) ((rd_T32 l0_0 x14_1).f1) _ _ ((rd_T32 l0_0 x14_1).f2) t143 t144 t145 _ ?side1 ?side2 A14.out).mono ?_
       (case side1 => exact jzC HR141_2 HB)
       (case side2 => exact HC141_2.out)
       rintro e w23 ⟨v146, rfl, ho0, hb⟩
       refine ⟨_, rfl, ?_⟩
       have n0_ := Am (Kd.S_elder' (jzO HO_141000) (Kd.R_base ho0) hb)
       have n1_ := Am (Kd.R_lower ho0 (below_size (jzG HB)))
       have n2_ := Am (blk_below (g := gb138) (o := .cells #[.slice (some ad141) l0_0.length c0_0, .int .i64 a0_1, .int .i64 a0_2] 26 (0, 0)) (jzB BK138) hb)
       have n3_ := Am (blk_below (g := gb139) (o := .cells #[.slice none 0 0, .int .i64 0, .int .i64 0] 26 (0, 0)) (jzB BK139) hb)
       have n4_ := Am (blk_below (g := gb140) (o := .cells #[u141000, .int .i64 a0_1, .int .i64 a0_2] 26 (0, 0)) (jzB BK140) hb)
       have n5_ := Am (blk_below (g := gb142) (o := .cells #[.int .i64 ((rd_T32 l0_0 x14_1).f0), .int .i64 ((rd_T32 l0_0 x14_1).f1), .slice A141_2 ((rd_T32 l0_0 x14_1).f2).length c141_2] 32 (0, 0)) (jzB BK142) hb)
       have n6_ := Am (below_step (jzG HB) hb)
       clear HO_141000
       clear BK138
       clear BK139
       clear BK140
       clear BK142
       clear HB
       have HO_141000 := n0_
       have HO147 := n1_
       have BK138 := n2_
       have BK139 := n3_
       have BK140 := n4_
       have BK142 := n5_
       have HB := n6_
       clear n0_ n1_ n2_ n3_ n4_ n5_ n6_
       (try clear hb)
       (try clear hb2)
       (try clear hk)
       (try clear hi)
       (try clear ho0)
       obtain ⟨Ao25, co25, eo25⟩ := Kd.R_slice HO147.out
       (first | subst eo25 | (injection eo25 with f1_ f2_ f3_; have f4_ := f1_.symm; have f5_ := f3_.symm; clear f1_ f2_ f3_; subst f4_; subst f5_))
       refine hK.out _ _ ⟨(b8 BK140.out 0).trans rfl, (b8 BK140.out 1).trans rfl, (b8 BK140.out 2).trans rfl, (b8 BK142.out 0).trans rfl, (b8 BK142.out 1).trans rfl, (b8 BK142.out 2).trans rfl⟩ (fun hHeld => ?_)
       clear hK K
       refine norm_ (a' := ?_) ?_ ?_
       rotate_left
       ·show Act.put _ (some 21) _ = _
        simp only [Act.put, zA, zB, zC, i64_w, i32_w]
        rfl
       refine one_ (i := 4) (N := some 22) #[T,T,T,T,T,F,F,F] rfl rfl (one_of HT_.out (by kernel_rfl)) (by decide) (fun K hK => ?_)
       refine value_ (w1 := ?_) (v := ?_) (by rfl) rfl ?_ ?_
       rotate_left 2
       ·go_simp
        constructor
        ·rfl
        ·rfl
       refine hK.out _ _ ⟨(b8 (b3 BK140.out _) 0).trans rfl, (b8 (b3 BK140.out _) 1).trans rfl, (b8 (b3 BK140.out _) 2).trans rfl, (b8 (b3 BK142.out _) 0).trans rfl, (b8 (b3 BK142.out _) 1).trans rfl, (b8 (b3 BK142.out _) 2).trans rfl⟩ (fun hHeld => ?_)
       clear hK K
       refine norm_ (a' := ?_) ?_ ?_
       rotate_left
       ·show Act.put _ (some 22) _ = _
        simp only [Act.put, zA, zB, zC, i64_w, i32_w]
        rfl
       refine one_ (i := 5) (N := some 23) #[T,T,T,T,T,T,F,F] rfl rfl (one_of HT_.out (by kernel_rfl)) (by decide) (fun K hK => ?_)
       refine Kd.S_append_step k32 (w0 := w) w.heap.size (by rfl) (.tmp 19) (.tmp 22) 24 32 (.agg #[(.int .i64 0), (.int .i64 0), (.slice none 0 0)]) 40 rfl Try.underlying24 info32 rfl (by decide) (by omega) u141000 x141000_1 (⟨t143, t144, t145⟩ : S32) [.int .i64 t143, .int .i64 t144, .slice Ao25 t145.length co25] (fun k_ => k_ ≠ gb142) (fun k_ => some k_ = (.slice Ao25 t145.length co25 : Value).ownBlock) rfl rfl ?aP (fun k_ hk_ => ((Kd.R_mono (ok' := fun k_ => ((fun k_ => k_ ≠ gb142)) k_ ∧ some k_ ≠ (u141000 : Value).ownBlock) (Kd.R_types (Kd.R_apart' (HO147.out) (Kd.S_typed HO_141000.out) (by decide)) BK142.out (by decide)) (fun k_ hk => ⟨hk.2, hk.1.2⟩))).1 k_ hk_.symm) ?aF ?aO ?aB ?aS ?aL ?_
       (case aP => exact k32_mkM _ _ _ (⟨t143, t144, t145⟩ : S32) (Kd.R_mono (Kd.R_tight rfl (Kd.R_mono (ok' := fun k_ => ((fun k_ => k_ ≠ gb142)) k_ ∧ some k_ ≠ (u141000 : Value).ownBlock) (Kd.R_types (Kd.R_apart' (HO147.out) (Kd.S_typed HO_141000.out) (by decide)) BK142.out (by decide)) (fun k_ hk => ⟨hk.2, hk.1.2⟩))) (fun _ h_ => h_)))
       (case aB => exact (jzG HB))
       (case aF => exact (fun k_ hk => Kd.freshB (g := gb142) (o := .cells #[.int .i64 ((rd_T32 l0_0 x14_1).f0), .int .i64 ((rd_T32 l0_0 x14_1).f1), .slice A141_2 ((rd_T32 l0_0 x14_1).f2).length c141_2] 32 (0, 0)) (jzB BK142) k_ hk))
       (case aO => exact (by (with_reducible repeat (first | apply Kd.S_alloc | apply Kd.S_drewN | apply Kd.S_drew)); exact Kd.S_mono HO_141000.out (fun k_ hk => ⟨hk.1, fun e_ => hk.2 e_⟩)))
       (case aS => exact (below_size (jzG HB)))
       (case aL => have := LMc15.out; omega)
       intro v149 w24 ho hb hg hat
       rw [← Ny148.out] at ho
       have n0_ := Am (blk_grown (g := gb138) (o := .cells #[.slice (some ad141) l0_0.length c0_0, .int .i64 a0_1, .int .i64 a0_2] 26 (0, 0)) (jzB BK138) hg (Kd.S_ne HO_141000.out BK138.out (by decide)))
       have n1_ := Am (blk_grown (g := gb139) (o := .cells #[.slice none 0 0, .int .i64 0, .int .i64 0] 26 (0, 0)) (jzB BK139) hg (Kd.S_ne HO_141000.out BK139.out (by decide)))
       have n2_ := Am (blk_grown (g := gb140) (o := .cells #[u141000, .int .i64 a0_1, .int .i64 a0_2] 26 (0, 0)) (jzB BK140) hg (Kd.S_ne HO_141000.out BK140.out (by decide)))
       have n3_ := Am (blk_grown (g := gb142) (o := .cells #[.int .i64 ((rd_T32 l0_0 x14_1).f0), .int .i64 ((rd_T32 l0_0 x14_1).f1), .slice A141_2 ((rd_T32 l0_0 x14_1).f2).length c141_2] 32 (0, 0)) (jzB BK142) hg (Kd.S_away HO_141000.out (fun _ hk => hk.1)))
       have n4_ := Am (hb)
       have n5_ := Am (ho)
       clear BK138
       clear BK139
       clear BK140
       clear BK142
       clear HB
       clear HO_141000
       clear HO147
       have BK138 := n0_
       have BK139 := n1_
       have BK140 := n2_
       have BK142 := n3_
       have HB := n4_
       have HO150 := n5_
       clear n0_ n1_ n2_ n3_ n4_ n5_
       clear ho hb hg hat
       obtain ⟨Ao26, co26, eo26⟩ := Kd.S_slice HO150.out
       (first | subst eo26 | (injection eo26 with f1_ f2_ f3_; have f4_ := f1_.symm; have f5_ := f3_.symm; clear f1_ f2_ f3_; subst f4_; subst f5_))
       refine hK.out _ _ ⟨(b8 BK140.out 0).trans rfl, (b8 BK140.out 1).trans rfl, (b8 BK140.out 2).trans rfl, (b8 BK142.out 0).trans rfl, (b8 BK142.out 1).trans rfl, (b8 BK142.out 2).trans rfl⟩ (fun hHeld => ?_)
       clear hK K
       refine norm_ (a' := ?_) ?_ ?_
       rotate_left
       ·show Act.put _ (some 23) _ = _
        simp only [Act.put, zA, zB, zC, i64_w, i32_w]
        rfl
       refine pure_ (i := 6) (N := some 24) (v := ?_) (a' := ?_) #[T,T,T,T,T,T,T,F] rfl rfl (any_of HT_.out (by kernel_rfl)) (fun _ _ _ h => h) (Or.inl ⟨by rfl, ?_⟩) ?_ ?_
       rotate_left; intro w'; go_simp; with_reducible rfl; rotate_left; simp only [Act.put, zA, zB, zC, i64_w, i32_w]; rfl
       refine last_ (i := 7) (N := none) #[T,T,T,T,T,T,T,T] rfl rfl (one_of HT_.out (by kernel_rfl)) (by decide) (fun K hK => ?_)
       have hs27 : w24.cell? ⟨gb140, 0, none⟩ = some (u141000) := (b8 BK140.out 0).trans rfl
       have hfs27 := blk_frozen BK140.out 0
       have hns27_0 := NB138_140.out
       have hns27_1 := NB139_140.out
       have hns27_3 := NB142_140.out
       have hms27_0 := NB140_138.out
       have hms27_1 := NB140_139.out
       have hms27_3 := NB140_142.out
       refine skip_ (w1 := ?_) (by rfl) rfl ?_ ?_
       rotate_left
       ·go_simp
        rfl
       refine hK.out _ _ ?_
       clear hK K
       refine done_ (done_of HT_.out (by kernel_rfl)) ?_
       try go_wp2
       go_roundg k1
       case measure => have := HK1.out; omega
       case rel => exact ⟨(wrap64 (x14_1 + 1)), (y148), (.slice Ao26 y148.length co26), (by first | rfl | (simp; done) | (simp [*]; done)), H', ⟨by have := HK1.out; omega⟩, ⟨by (with_reducible repeat (first | apply Kd.S_alloc | apply Kd.S_drewN | apply Kd.S_drew)); exact Kd.S_mono (Kd.S_far (p := ⟨gb140, 0, none⟩) (Kd.S_types HO150.out BK140.out (by decide)) (fun _ hk => hk.2) (.slice Ao26 y148.length co26)) (fun _ hk => trivial)⟩, ⟨by (with_reducible repeat (first | refine b1 ?_ _ | refine b2 ?_ | refine b3 ?_ _)); refine blk_far ?_ NB138_140.out _; (with_reducible repeat (first | refine b1 ?_ _ | refine b2 ?_ | refine b3 ?_ _)); exact BK138.out⟩, ⟨by (with_reducible repeat (first | refine b1 ?_ _ | refine b2 ?_ | refine b3 ?_ _)); refine blk_far ?_ NB139_140.out _; (with_reducible repeat (first | refine b1 ?_ _ | refine b2 ?_ | refine b3 ?_ _)); exact BK139.out⟩, ⟨by (with_reducible repeat (first | refine b1 ?_ _ | refine b2 ?_ | refine b3 ?_ _)); refine blk_put (cs := #[u141000, .int .i64 a0_1, .int .i64 a0_2]) ?_ 0 _ rfl; (with_reducible repeat (first | refine b1 ?_ _ | refine b2 ?_ | refine b3 ?_ _)); exact BK140.out⟩, ⟨jzG HB⟩⟩
      ·rw [if_neg c15] at H
       exact absurd H (by simp)
     ·rw [if_neg c13] at H
      exact absurd H (by simp)
    ·rw [if_neg c12] at H
     exact absurd H (by simp)
   ·rw [if_neg c11] at H
    have c11b0 : decide (x14_1 < (l0_0.length : Int)) = false := decide_eq_false c11
    clear c11
    simp only [Option.some.injEq, Prod.mk.injEq] at H
    obtain ⟨rfl, rfl, rfl⟩ := H
    have hnb28 := NB140_138.out
    have hnc28 := NB138_140.out
    have hnb29 := NB140_139.out
    have hnc29 := NB139_140.out
    have hcz30_0 : wr.cell? ⟨gb140, 0, none⟩ = some (u141000) := (b8 BK140.out 0).trans rfl
    have hcz30_1 : wr.cell? ⟨gb140, 1, none⟩ = some (.int .i64 a0_1) := (b8 BK140.out 1).trans rfl
    have hcz30_2 : wr.cell? ⟨gb140, 2, none⟩ = some (.int .i64 a0_2) := (b8 BK140.out 2).trans rfl
    have hfz30_0 := blk_frozen BK140.out 0
    have hfz30_1 := blk_frozen BK140.out 1
    have hfz30_2 := blk_frozen BK140.out 2
    obtain ⟨Ao31, co31, eo31⟩ := Kd.S_slice HO_141000.out
    subst eo31
    have hnb32 := NB139_138.out
    have hnc32 := NB138_139.out
    have hcz33_0 : wr.cell? ⟨gb139, 0, none⟩ = some (.slice none 0 0) := (b8 BK139.out 0).trans rfl
    have hcz33_1 : wr.cell? ⟨gb139, 1, none⟩ = some (.int .i64 0) := (b8 BK139.out 1).trans rfl
    have hcz33_2 : wr.cell? ⟨gb139, 2, none⟩ = some (.int .i64 0) := (b8 BK139.out 2).trans rfl
    have hfz33_0 := blk_frozen BK139.out 0
    have hfz33_1 := blk_frozen BK139.out 1
    have hfz33_2 := blk_frozen BK139.out 2
    go_wp2
    refine bodyPost_ret (results_cell_row rfl _ _ gb139 26 #[.slice Ao31 x141000_1.length co31, .int .i64 a0_1, .int .i64 a0_2] (0, 0) _ rfl (by (with_reducible repeat (first | refine b1 ?_ _ | refine b2 ?_ | refine b3 ?_ _)); refine blk_put (cs := #[.slice Ao31 x141000_1.length co31, .int .i64 a0_1, .int .i64 0]) ?_ 2 _ rfl; (with_reducible repeat (first | refine b1 ?_ _ | refine b2 ?_ | refine b3 ?_ _)); refine blk_put (cs := #[.slice Ao31 x141000_1.length co31, .int .i64 0, .int .i64 0]) ?_ 1 _ rfl; (with_reducible repeat (first | refine b1 ?_ _ | refine b2 ?_ | refine b3 ?_ _)); refine blk_put (cs := #[.slice none 0 0, .int .i64 0, .int .i64 0]) ?_ 0 _ rfl; (with_reducible repeat (first | refine b1 ?_ _ | refine b2 ?_ | refine b3 ?_ _)); exact BK139.out) Try.underlying26 rfl (by kernel_rfl)) rfl ?_
    exact ⟨_, by first | rfl | (simp [errW_none, errW_some] <;> rfl) | (simp [*, errW_none, errW_some] <;> rfl), by (with_reducible repeat (first | apply Kd.S_alloc | apply Kd.S_drewN | apply Kd.S_drew)); exact Kd.S_mono (Kd.S_far (p := ⟨gb139, 2, none⟩) (Kd.S_far (p := ⟨gb139, 1, none⟩) (Kd.S_far (p := ⟨gb139, 0, none⟩) (Kd.S_types HO_141000.out BK139.out (by decide)) (fun _ hk => hk.2) (.slice Ao31 x141000_1.length co31)) (fun _ hk => hk.2) (.int .i64 a0_1)) (fun _ hk => hk.2) (.int .i64 a0_2)) (fun _ hk => trivial), jzG HB⟩

end Go.Proofs.Ytphjcllhlecpfaa.PFnExactFetchGlyph
