/- Written by a program of this session (a turned copy of the kit's printer): what each Go function answers, and that it does. -/
import Derived.Test.YtphjcllhlecpfaaPFnCachesx0
import Derived.Test.YtphjcllhlecpfaaPFnCachesx2
namespace Go.Proofs.Ytphjcllhlecpfaa.PFnCaches
open Go.RowKit Go.Proofs.YtphjcllhlecpfaaW.PrintWords Go.Proofs.YtphjcllhlecpfaaW.PrintLast Go.Proofs.YtphjcllhlecpfaaW.PrintMore
attribute [local go_sem] Go.Proofs.Ytphjcllhlecpfaa.Cells.cell_set_at max2_int min2_int max_two min_two max_three min_three max_four min_four   -- for this text's walks alone
set_option linter.unusedVariables false
set_option linter.unusedSimpArgs false

/-! ### spec_l25Find: function 42 -/
def spec_l25Find.l0 : Nat → List (S32) → Int → Int → Option (Int)
 | 0, _, _, _ => none
 | k + 1, x0, x1, x5 => if x5 < (x0.length : Int) then (if 0 ≤ x5 then (if ((rd_T32 x0 x5).f0) = x1 then ((spec_GlyphOk.f k ((rd_T32 x0 x5).f0) ((rd_T32 x0 x5).f1) ((rd_T32 x0 x5).f2)).bind fun t182 => (if t182 = true then (some x5) else (spec_l25Find.l0 k x0 x1 (wrap64 (x5 + 1))))) else (spec_l25Find.l0 k x0 x1 (wrap64 (x5 + 1)))) else (none)) else (some (-1))
def spec_l25Find.f (k : Nat) (l0 : List (S32)) (a1 : Int) : Option (Int) := spec_l25Find.l0 k l0 a1 0
theorem spec_l25Find.mono_l : ∀ k, (∀ y0 y1 y2, LeO (spec_l25Find.l0 k y0 y1 y2) (spec_l25Find.l0 (k + 1) y0 y1 y2))
 | 0 => fun _ _ _ r h => by simp [spec_l25Find.l0] at h
 | k + 1 => by
  have ih0 := spec_l25Find.mono_l k
  ·intro y0 y1 y2
   unfold spec_l25Find.l0
   repeat' first
   | (with_reducible exact ih0 _ _ _)
   | (with_reducible exact spec_GlyphOk.mono _ _ _ _)
   | (with_reducible exact LeO.refl _)
   | (with_reducible exact LeO.none _)
   | (with_reducible refine LeO.ite ?_ ?_)
   | (with_reducible refine LeO.bind ?_ (fun _ => ?_))
   | exact ih0 _ _ _
   | exact spec_GlyphOk.mono _ _ _ _
   | exact LeO.none _
   | refine LeO.ite ?_ ?_
   | refine LeO.bind ?_ (fun _ => ?_)
theorem spec_l25Find.mono : ∀ a0 a1 k, LeO (spec_l25Find.f k a0 a1) (spec_l25Find.f (k + 1) a0 a1) := by
 intro a0 a1 k
 have ih0 := spec_l25Find.mono_l k
 unfold spec_l25Find.f
 repeat' first
   | (with_reducible exact ih0 _ _ _)
   | (with_reducible exact spec_GlyphOk.mono _ _ _ _)
   | (with_reducible exact LeO.refl _)
   | (with_reducible exact LeO.none _)
   | (with_reducible refine LeO.ite ?_ ?_)
   | (with_reducible refine LeO.bind ?_ (fun _ => ?_))
   | exact ih0 _ _ _
   | exact spec_GlyphOk.mono _ _ _ _
   | exact LeO.none _
   | refine LeO.ite ?_ ?_
   | refine LeO.bind ?_ (fun _ => ?_)
set_option maxHeartbeats 8000000 in
set_option maxRecDepth 100000 in
theorem spec_l25Find.calls (k : Nat) (A0 : Option Addr) (c0 : Nat) (l0 : List (S32)) (a1 : Int) (r : Int) (w : World) (hr0 : Kd.C k32 w A0 l0.length l0) (hc0 : l0.length ≤ c0) (h : spec_l25Find.f k l0 a1 = some r) :
  Calls Try.prog 42 #[.slice A0 l0.length c0, .int .i64 a1] w fun e w' => e = .returned (.int .i64 r) ∧ Below w.heap.size w w' := by
 have hu32 := Try.underlying32
 have HR0 := Am hr0
 have HC0 := Am hc0
 clear hr0 hc0
 have HB := Am (Below.refl w.heap.size w)
 have H : (spec_l25Find.l0 k l0 a1 0) = some r := h
 clear h
 have H' := Am H
 clear H
 go_enter Try.func42, Try.ntmps42
 go_wp2
 go_loopg [5] k (fun kq v5 w' => ∃ (x5_1 : Int), v5 = .int .i64 x5_1 ∧ Aside0 (spec_l25Find.l0 kq l0 a1 x5_1 = some r) ∧ Aside0 (kq ≤ k) ∧ Aside0 (Below w.heap.size w w'))
 case atStart => exact ⟨(0), (by first | rfl | (simp; done) | (simp [*]; done)), H', ⟨Nat.le_refl _⟩, ⟨jzH HB⟩⟩
 case round =>
  clear H'
  try clear p2
  obtain ⟨x5_1, rfl, HA, HK1, HB⟩ := hrel
  cases gk with
  | zero => exact absurd HA.out (by simp [spec_l25Find.l0])
  | succ k1 =>
   have H := HA.out
   clear HA
   simp only [spec_l25Find.l0] at H
   by_cases c3 : x5_1 < (l0.length : Int)
   ·rw [if_pos c3] at H
    have c3b0 : decide (x5_1 < (l0.length : Int)) = true := decide_eq_true c3
    clear c3
    by_cases c4 : 0 ≤ x5_1
    ·rw [if_pos c4] at H
     have c4b0 : decide (0 ≤ x5_1) = true := decide_eq_true c4
     clear c4
     by_cases c5 : ((rd_T32 l0 x5_1).f0) = a1
     ·rw [if_pos c5] at H
      have c5b0 : (((rd_T32 l0 x5_1).f0) == a1) = true := beq_iff_eq.mpr c5
      have c5b1 : (((rd_T32 l0 x5_1).f0) != a1) = false := bne_eq_false_iff_eq.mpr c5
      clear c5
      replace H := Option.bind_eq_some_iff.mp H
      obtain ⟨t182, A60, H⟩ := H
      replace H : (if t182 = true then (some x5_1) else (spec_l25Find.l0 k1 l0 a1 (wrap64 (x5_1 + 1)))) = some r := H
      have A6 := Am A60
      clear A60
      by_cases c7 : t182 = true
      ·subst c7
       have H1 : (some x5_1) = some r := by rw [if_pos rfl] at H; exact H
       clear H
       have H := H1
       clear H1
       obtain rfl := Option.some.inj H
       have p180 : 0 ≤ (x5_1 : Int) := of_decide_eq_true jzS
       have q180 : x5_1 < (l0.length : Int) := of_decide_eq_true jzS
       obtain ⟨ad180, A180_2, c180_2, e180, hx180_0, hx180_1, hx180_2, hl180_2, hi180_2⟩ := at_T32 HR0.out x5_1 p180 q180
       cases e180
       replace hx180_0 := (HB.out.cell (World.block_lt_of_cell? w _ hx180_0)).trans hx180_0
       replace hx180_1 := (HB.out.cell (World.block_lt_of_cell? w _ hx180_1)).trans hx180_1
       replace hx180_2 := (HB.out.cell (World.block_lt_of_cell? w _ hx180_2)).trans hx180_2
       have HR180_2 := Am hi180_2
       have HC180_2 := Am hl180_2
       clear hi180_2 hl180_2
       replace p180 := eq_true p180
       replace q180 := eq_true q180
       have p181 : 0 ≤ (x5_1 : Int) := of_decide_eq_true jzS
       have q181 : x5_1 < (l0.length : Int) := of_decide_eq_true jzS
       obtain ⟨ad181, A181_2, c181_2, e181, hx181_0, hx181_1, hx181_2, hl181_2, hi181_2⟩ := at_T32 HR0.out x5_1 p181 q181
       obtain rfl : ad180 = ad181 := (by injection e181)
       replace hx181_0 := (HB.out.cell (World.block_lt_of_cell? w _ hx181_0)).trans hx181_0
       replace hx181_1 := (HB.out.cell (World.block_lt_of_cell? w _ hx181_1)).trans hx181_1
       replace hx181_2 := (HB.out.cell (World.block_lt_of_cell? w _ hx181_2)).trans hx181_2
       have HR181_2 := Am hi181_2
       have HC181_2 := Am hl181_2
       clear hi181_2 hl181_2
       replace p181 := eq_true p181
       replace q181 := eq_true q181
       have ea_ := Option.some.inj (hx180_2.symm.trans hx181_2)
       injection ea_ with ea_ en_ ec_
       subst ea_
       subst ec_
       clear en_
       go_wp2_with (first | (go_at_call 55; (with_reducible refine (spec_GlyphOk.calls k1 ((rd_T32 l0 x5_1).f0) ((rd_T32 l0 x5_1).f1) _ _ ((rd_T32 l0 x5_1).f2) true _ ?side1 ?side2 A6.out).mono ?_); (case side1 => exact jzC HR181_2 HB); (case side2 => exact HC181_2.out); rintro e w8 ⟨rfl, hb⟩; have n0_ := Am (below_step (jzH HB) hb); clear HB; have HB := n0_; clear n0_; (try clear hb); (try clear hb2); (try clear hk); (try clear hi)))
       go_ret
       exact ⟨by first | rfl | (simp [errW_none, errW_some] <;> rfl) | (simp [*, errW_none, errW_some] <;> rfl), jzH HB⟩
      ·replace c7 := Bool.eq_false_iff.mpr c7
       subst c7
       have H1 : (spec_l25Find.l0 k1 l0 a1 (wrap64 (x5_1 + 1))) = some r := by rw [if_neg (show ¬ (false = true) by decide)] at H; exact H
       clear H
       have H := H1
       clear H1
       have H' := Am H
       clear H
       have p180 : 0 ≤ (x5_1 : Int) := of_decide_eq_true jzS
       have q180 : x5_1 < (l0.length : Int) := of_decide_eq_true jzS
       obtain ⟨ad180, A180_2, c180_2, e180, hx180_0, hx180_1, hx180_2, hl180_2, hi180_2⟩ := at_T32 HR0.out x5_1 p180 q180
       cases e180
       replace hx180_0 := (HB.out.cell (World.block_lt_of_cell? w _ hx180_0)).trans hx180_0
       replace hx180_1 := (HB.out.cell (World.block_lt_of_cell? w _ hx180_1)).trans hx180_1
       replace hx180_2 := (HB.out.cell (World.block_lt_of_cell? w _ hx180_2)).trans hx180_2
       have HR180_2 := Am hi180_2
       have HC180_2 := Am hl180_2
       clear hi180_2 hl180_2
       replace p180 := eq_true p180
       replace q180 := eq_true q180
       have p181 : 0 ≤ (x5_1 : Int) := of_decide_eq_true jzS
       have q181 : x5_1 < (l0.length : Int) := of_decide_eq_true jzS
       obtain ⟨ad181, A181_2, c181_2, e181, hx181_0, hx181_1, hx181_2, hl181_2, hi181_2⟩ := at_T32 HR0.out x5_1 p181 q181
       obtain rfl : ad180 = ad181 := (by injection e181)
       replace hx181_0 := (HB.out.cell (World.block_lt_of_cell? w _ hx181_0)).trans hx181_0
       replace hx181_1 := (HB.out.cell (World.block_lt_of_cell? w _ hx181_1)).trans hx181_1
       replace hx181_2 := (HB.out.cell (World.block_lt_of_cell? w _ hx181_2)).trans hx181_2
       have HR181_2 := Am hi181_2
       have HC181_2 := Am hl181_2
       clear hi181_2 hl181_2
       replace p181 := eq_true p181
       replace q181 := eq_true q181
       have ea_ := Option.some.inj (hx180_2.symm.trans hx181_2)
       injection ea_ with ea_ en_ ec_
       subst ea_
       subst ec_
       clear en_
       go_wp2_with (first | (go_at_call 55; (with_reducible refine (spec_GlyphOk.calls k1 ((rd_T32 l0 x5_1).f0) ((rd_T32 l0 x5_1).f1) _ _ ((rd_T32 l0 x5_1).f2) false _ ?side1 ?side2 A6.out).mono ?_); (case side1 => exact jzC HR181_2 HB); (case side2 => exact HC181_2.out); rintro e w9 ⟨rfl, hb⟩; have n0_ := Am (below_step (jzH HB) hb); clear HB; have HB := n0_; clear n0_; (try clear hb); (try clear hb2); (try clear hk); (try clear hi)))
       go_roundg k1
       case measure => have := HK1.out; omega
       case rel => exact ⟨(wrap64 (x5_1 + 1)), (by first | rfl | (simp; done) | (simp [*]; done)), H', ⟨by have := HK1.out; omega⟩, ⟨jzH HB⟩⟩
     ·rw [if_neg c5] at H
      have c5b0 : (((rd_T32 l0 x5_1).f0) == a1) = false := beq_eq_false_iff_ne.mpr c5
      have c5b1 : (((rd_T32 l0 x5_1).f0) != a1) = true := bne_iff_ne.mpr c5
      have H' := Am H
      clear H
      have p180 : 0 ≤ (x5_1 : Int) := of_decide_eq_true jzS
      have q180 : x5_1 < (l0.length : Int) := of_decide_eq_true jzS
      obtain ⟨ad180, A180_2, c180_2, e180, hx180_0, hx180_1, hx180_2, hl180_2, hi180_2⟩ := at_T32 HR0.out x5_1 p180 q180
      cases e180
      replace hx180_0 := (HB.out.cell (World.block_lt_of_cell? w _ hx180_0)).trans hx180_0
      replace hx180_1 := (HB.out.cell (World.block_lt_of_cell? w _ hx180_1)).trans hx180_1
      replace hx180_2 := (HB.out.cell (World.block_lt_of_cell? w _ hx180_2)).trans hx180_2
      have HR180_2 := Am hi180_2
      have HC180_2 := Am hl180_2
      clear hi180_2 hl180_2
      replace p180 := eq_true p180
      replace q180 := eq_true q180
      go_wp2
      go_roundg k1
      case measure => have := HK1.out; omega
      case rel => exact ⟨(wrap64 (x5_1 + 1)), (by first | rfl | (simp; done) | (simp [*]; done)), H', ⟨by have := HK1.out; omega⟩, ⟨jzH HB⟩⟩
    ·rw [if_neg c4] at H
     exact absurd H (by simp)
   ·rw [if_neg c3] at H
    have c3b0 : decide (x5_1 < (l0.length : Int)) = false := decide_eq_false c3
    clear c3
    obtain rfl := Option.some.inj H
    go_wp2
    go_ret
    exact ⟨by first | rfl | (simp [errW_none, errW_some] <;> rfl) | (simp [*, errW_none, errW_some] <;> rfl), jzH HB⟩

/-! ### spec_CacheSize: function 47 -/
def spec_CacheSize.l0 : Nat → Int → Int → List (S32) → Int → Int → Option (Int)
 | 0, _, _, _, _, _ => none
 | k + 1, x3, x4, x184000, x184001, x184002 => if x4 < (x184000.length : Int) then (if 0 ≤ x4 then (spec_CacheSize.l0 k (wrap64 (x3 + (((rd_T32 x184000 x4).f2).length : Int))) (wrap64 (x4 + 1)) x184000 x184001 x184002) else (none)) else (some x3)
def spec_CacheSize.f (k : Nat) (l0_0 : List (S32)) (a0_1 : Int) (a0_2 : Int) : Option (Int) := spec_CacheSize.l0 k 0 0 l0_0 a0_1 a0_2
theorem spec_CacheSize.mono_l : ∀ k, (∀ y0 y1 y2 y3 y4, LeO (spec_CacheSize.l0 k y0 y1 y2 y3 y4) (spec_CacheSize.l0 (k + 1) y0 y1 y2 y3 y4))
 | 0 => fun _ _ _ _ _ r h => by simp [spec_CacheSize.l0] at h
 | k + 1 => by
  have ih0 := spec_CacheSize.mono_l k
  ·intro y0 y1 y2 y3 y4
   unfold spec_CacheSize.l0
   repeat' first
   | (with_reducible exact ih0 _ _ _ _ _)
   | (with_reducible exact LeO.refl _)
   | (with_reducible exact LeO.none _)
   | (with_reducible refine LeO.ite ?_ ?_)
   | (with_reducible refine LeO.bind ?_ (fun _ => ?_))
   | exact ih0 _ _ _ _ _
   | exact LeO.none _
   | refine LeO.ite ?_ ?_
   | refine LeO.bind ?_ (fun _ => ?_)
theorem spec_CacheSize.mono : ∀ a0 a1 a2 k, LeO (spec_CacheSize.f k a0 a1 a2) (spec_CacheSize.f (k + 1) a0 a1 a2) := by
 intro a0 a1 a2 k
 have ih0 := spec_CacheSize.mono_l k
 unfold spec_CacheSize.f
 repeat' first
   | (with_reducible exact ih0 _ _ _ _ _)
   | (with_reducible exact LeO.refl _)
   | (with_reducible exact LeO.none _)
   | (with_reducible refine LeO.ite ?_ ?_)
   | (with_reducible refine LeO.bind ?_ (fun _ => ?_))
   | exact ih0 _ _ _ _ _
   | exact LeO.none _
   | refine LeO.ite ?_ ?_
   | refine LeO.bind ?_ (fun _ => ?_)
set_option maxHeartbeats 8000000 in
set_option maxRecDepth 100000 in
theorem spec_CacheSize.calls (k : Nat) (A0_0 : Option Addr) (c0_0 : Nat) (l0_0 : List (S32)) (a0_1 : Int) (a0_2 : Int) (r : Int) (w : World) (hr0_0 : Kd.C k32 w A0_0 l0_0.length l0_0) (hc0_0 : l0_0.length ≤ c0_0) (h : spec_CacheSize.f k l0_0 a0_1 a0_2 = some r) :
  Calls Try.prog 47 #[.agg #[.slice A0_0 l0_0.length c0_0, .int .i64 a0_1, .int .i64 a0_2]] w fun e w' => e = .returned (.int .i64 r) ∧ Below w.heap.size w w' := by
 have hu26 := Try.underlying26
 have HR0_0 := Am hr0_0
 have HC0_0 := Am hc0_0
 clear hr0_0 hc0_0
 have HB := Am (Below.refl w.heap.size w)
 have H : (spec_CacheSize.l0 k 0 0 l0_0 a0_1 a0_2) = some r := h
 clear h
 have H' := Am H
 clear H
 go_enter Try.func47, Try.ntmps47
 go_wp2_with (first | ((with_reducible refine gate_dst (N := 1) rfl ?_); refine box_event ?hg (N := 1) ?hd (cs := #[.slice A0_0 l0_0.length c0_0, .int .i64 a0_1, .int .i64 a0_2]) (t := 26) ?hr ?_; (case hd => rfl); (case hg => rfl); (case hr => first | (go_simp; done) | (go_simp; rfl)); intro gb183 hg w2 hbox hb; have n0_ := Am (below_step (jzH HB) hb); have n1_ := Am (hbox); have n2_ := Am ((by rw [hg]; exact (below_size (jzH HB)) : w.heap.size ≤ gb183)); have n3_ := Am ((by rw [hg]; exact (below_size (jzH HB)) : w.heap.size ≤ gb183)); clear HB; have HB := n0_; have BK183 := n1_; have GW183 := n2_; have GE183 := n3_; clear n0_ n1_ n2_ n3_; clear hb hbox hg))
 go_loopg [3, 4] k (fun kq v3 v4 w' => ∃ (x3_1 : Int) (x4_1 : Int), v3 = .int .i64 x3_1 ∧ v4 = .int .i64 x4_1 ∧ Aside0 (spec_CacheSize.l0 kq x3_1 x4_1 l0_0 a0_1 a0_2 = some r) ∧ Aside0 (kq ≤ k) ∧ Aside0 (w'.heap[gb183]? = some (.cells #[(.slice A0_0 l0_0.length c0_0), .int .i64 a0_1, .int .i64 a0_2] 26 (0, 0))) ∧ Aside0 (Below w.heap.size w w'))
 case atStart => exact ⟨(0), (0), (by first | rfl | (simp; done) | (simp [*]; done)), (by first | rfl | (simp; done) | (simp [*]; done)), H', ⟨Nat.le_refl _⟩, ⟨by (with_reducible repeat (first | refine b1 ?_ _ | refine b2 ?_ | refine b3 ?_ _)); exact BK183.out⟩, ⟨jzG HB⟩⟩
 case round =>
  clear H'
  try clear p2
  obtain ⟨x3_1, x4_1, rfl, rfl, HA, HK1, BK183, HB⟩ := hrel
  cases gk with
  | zero => exact absurd HA.out (by simp [spec_CacheSize.l0])
  | succ k1 =>
   have H := HA.out
   clear HA
   simp only [spec_CacheSize.l0] at H
   by_cases c3 : x4_1 < (l0_0.length : Int)
   ·rw [if_pos c3] at H
    have c3b0 : decide (x4_1 < (l0_0.length : Int)) = true := decide_eq_true c3
    clear c3
    by_cases c4 : 0 ≤ x4_1
    ·rw [if_pos c4] at H
     have c4b0 : decide (0 ≤ x4_1) = true := decide_eq_true c4
     clear c4
     have H' := Am H
     clear H
     have hcz5_0 : wr.cell? ⟨gb183, 0, none⟩ = some (.slice A0_0 l0_0.length c0_0) := (b8 BK183.out 0).trans rfl
     have hcz5_1 : wr.cell? ⟨gb183, 1, none⟩ = some (.int .i64 a0_1) := (b8 BK183.out 1).trans rfl
     have hcz5_2 : wr.cell? ⟨gb183, 2, none⟩ = some (.int .i64 a0_2) := (b8 BK183.out 2).trans rfl
     have hfz5_0 := blk_frozen BK183.out 0
     have hfz5_1 := blk_frozen BK183.out 1
     have hfz5_2 := blk_frozen BK183.out 2
     have p184 : 0 ≤ (x4_1 : Int) := of_decide_eq_true jzS
     have q184 : x4_1 < (l0_0.length : Int) := of_decide_eq_true jzS
     obtain ⟨ad184, A184_2, c184_2, e184, hx184_0, hx184_1, hx184_2, hl184_2, hi184_2⟩ := at_T32 HR0_0.out x4_1 p184 q184
     cases e184
     replace hx184_0 := (HB.out.cell (World.block_lt_of_cell? w _ hx184_0)).trans hx184_0
     replace hx184_1 := (HB.out.cell (World.block_lt_of_cell? w _ hx184_1)).trans hx184_1
     replace hx184_2 := (HB.out.cell (World.block_lt_of_cell? w _ hx184_2)).trans hx184_2
     have HR184_2 := Am hi184_2
     have HC184_2 := Am hl184_2
     clear hi184_2 hl184_2
     replace p184 := eq_true p184
     replace q184 := eq_true q184
     go_wp2
     go_roundg k1
     case measure => have := HK1.out; omega
     case rel => exact ⟨(wrap64 (x3_1 + (((rd_T32 l0_0 x4_1).f2).length : Int))), (wrap64 (x4_1 + 1)), (by first | rfl | (simp; done) | (simp [*]; done)), (by first | rfl | (simp; done) | (simp [*]; done)), H', ⟨by have := HK1.out; omega⟩, ⟨by (with_reducible repeat (first | refine b1 ?_ _ | refine b2 ?_ | refine b3 ?_ _)); exact BK183.out⟩, ⟨jzG HB⟩⟩
    ·rw [if_neg c4] at H
     exact absurd H (by simp)
   ·rw [if_neg c3] at H
    have c3b0 : decide (x4_1 < (l0_0.length : Int)) = false := decide_eq_false c3
    clear c3
    obtain rfl := Option.some.inj H
    have hcz6_0 : wr.cell? ⟨gb183, 0, none⟩ = some (.slice A0_0 l0_0.length c0_0) := (b8 BK183.out 0).trans rfl
    have hcz6_1 : wr.cell? ⟨gb183, 1, none⟩ = some (.int .i64 a0_1) := (b8 BK183.out 1).trans rfl
    have hcz6_2 : wr.cell? ⟨gb183, 2, none⟩ = some (.int .i64 a0_2) := (b8 BK183.out 2).trans rfl
    have hfz6_0 := blk_frozen BK183.out 0
    have hfz6_1 := blk_frozen BK183.out 1
    have hfz6_2 := blk_frozen BK183.out 2
    go_wp2
    go_ret
    exact ⟨by first | rfl | (simp [errW_none, errW_some] <;> rfl) | (simp [*, errW_none, errW_some] <;> rfl), jzG HB⟩

/-! ### spec_CacheOk: function 43 -/
mutual
def spec_CacheOk.l0 : Nat → Int → List (S32) → Int → Int → Option (Bool)
 | 0, _, _, _, _ => none
 | k + 1, x3, x186000, x186001, x186002 => if x3 < (x186000.length : Int) then (if 0 ≤ x3 then ((spec_GlyphOk.f k ((rd_T32 x186000 x3).f0) ((rd_T32 x186000 x3).f1) ((rd_T32 x186000 x3).f2)).bind fun t190 => (if t190 = true then (spec_CacheOk.l1 k x3 0 x186000 x186001 x186002) else (some false))) else (none)) else ((spec_CacheSize.f k x186000 x186001 x186002).bind fun t186 => (if t186 ≤ 20 then ((spec_l01In.f x186001 0 100000).bind fun t187 => (if t187 = true then ((spec_l01In.f x186002 0 100000).bind fun t188 => (some t188)) else (some false))) else (some false)))
def spec_CacheOk.l1 : Nat → Int → Int → List (S32) → Int → Int → Option (Bool)
 | 0, _, _, _, _, _ => none
 | k + 1, x3, x4, x186000, x186001, x186002 => if x4 < x3 then (if 0 ≤ x4 then (if x4 < (x186000.length : Int) then (if 0 ≤ x3 then (if x3 < (x186000.length : Int) then (if ((rd_T32 x186000 x4).f0) = ((rd_T32 x186000 x3).f0) then (some false) else (spec_CacheOk.l1 k x3 (wrap64 (x4 + 1)) x186000 x186001 x186002)) else (none)) else (none)) else (none)) else (none)) else (spec_CacheOk.l0 k (wrap64 (x3 + 1)) x186000 x186001 x186002)
end
def spec_CacheOk.f (k : Nat) (l0_0 : List (S32)) (a0_1 : Int) (a0_2 : Int) : Option (Bool) := spec_CacheOk.l0 k 0 l0_0 a0_1 a0_2
theorem spec_CacheOk.mono_l : ∀ k, (∀ y0 y1 y2 y3, LeO (spec_CacheOk.l0 k y0 y1 y2 y3) (spec_CacheOk.l0 (k + 1) y0 y1 y2 y3)) ∧ (∀ y0 y1 y2 y3 y4, LeO (spec_CacheOk.l1 k y0 y1 y2 y3 y4) (spec_CacheOk.l1 (k + 1) y0 y1 y2 y3 y4))
 | 0 => ⟨fun _ _ _ _ r h => by simp [spec_CacheOk.l0] at h, fun _ _ _ _ _ r h => by simp [spec_CacheOk.l1] at h⟩
 | k + 1 => by
  obtain ⟨ih0, ih1⟩ := spec_CacheOk.mono_l k
  refine ⟨?_, ?_⟩
  ·intro y0 y1 y2 y3
   unfold spec_CacheOk.l0
   repeat' first
   | (with_reducible exact ih0 _ _ _ _)
   | (with_reducible exact ih1 _ _ _ _ _)
   | (with_reducible exact spec_CacheSize.mono _ _ _ _)
   | (with_reducible exact spec_GlyphOk.mono _ _ _ _)
   | (with_reducible exact LeO.refl _)
   | (with_reducible exact LeO.none _)
   | (with_reducible refine LeO.ite ?_ ?_)
   | (with_reducible refine LeO.bind ?_ (fun _ => ?_))
   | exact ih0 _ _ _ _
   | exact ih1 _ _ _ _ _
   | exact spec_CacheSize.mono _ _ _ _
   | exact spec_GlyphOk.mono _ _ _ _
   | exact LeO.none _
   | refine LeO.ite ?_ ?_
   | refine LeO.bind ?_ (fun _ => ?_)
  ·intro y0 y1 y2 y3 y4
   unfold spec_CacheOk.l1
   repeat' first
   | (with_reducible exact ih0 _ _ _ _)
   | (with_reducible exact ih1 _ _ _ _ _)
   | (with_reducible exact spec_CacheSize.mono _ _ _ _)
   | (with_reducible exact spec_GlyphOk.mono _ _ _ _)
   | (with_reducible exact LeO.refl _)
   | (with_reducible exact LeO.none _)
   | (with_reducible refine LeO.ite ?_ ?_)
   | (with_reducible refine LeO.bind ?_ (fun _ => ?_))
   | exact ih0 _ _ _ _
   | exact ih1 _ _ _ _ _
   | exact spec_CacheSize.mono _ _ _ _
   | exact spec_GlyphOk.mono _ _ _ _
   | exact LeO.none _
   | refine LeO.ite ?_ ?_
   | refine LeO.bind ?_ (fun _ => ?_)
theorem spec_CacheOk.mono : ∀ a0 a1 a2 k, LeO (spec_CacheOk.f k a0 a1 a2) (spec_CacheOk.f (k + 1) a0 a1 a2) := by
 intro a0 a1 a2 k
 obtain ⟨ih0, ih1⟩ := spec_CacheOk.mono_l k
 unfold spec_CacheOk.f
 repeat' first
   | (with_reducible exact ih0 _ _ _ _)
   | (with_reducible exact ih1 _ _ _ _ _)
   | (with_reducible exact spec_CacheSize.mono _ _ _ _)
   | (with_reducible exact spec_GlyphOk.mono _ _ _ _)
   | (with_reducible exact LeO.refl _)
   | (with_reducible exact LeO.none _)
   | (with_reducible refine LeO.ite ?_ ?_)
   | (with_reducible refine LeO.bind ?_ (fun _ => ?_))
   | exact ih0 _ _ _ _
   | exact ih1 _ _ _ _ _
   | exact spec_CacheSize.mono _ _ _ _
   | exact spec_GlyphOk.mono _ _ _ _
   | exact LeO.none _
   | refine LeO.ite ?_ ?_
   | refine LeO.bind ?_ (fun _ => ?_)
set_option maxHeartbeats 8000000 in
set_option maxRecDepth 100000 in
theorem spec_CacheOk.calls (k : Nat) (A0_0 : Option Addr) (c0_0 : Nat) (l0_0 : List (S32)) (a0_1 : Int) (a0_2 : Int) (r : Bool) (w : World) (hr0_0 : Kd.C k32 w A0_0 l0_0.length l0_0) (hc0_0 : l0_0.length ≤ c0_0) (h : spec_CacheOk.f k l0_0 a0_1 a0_2 = some r) :
  Calls Try.prog 43 #[.agg #[.slice A0_0 l0_0.length c0_0, .int .i64 a0_1, .int .i64 a0_2]] w fun e w' => e = .returned (.bool r) ∧ Below w.heap.size w w' := by
 have hu26 := Try.underlying26
 have hu32 := Try.underlying32
 have HR0_0 := Am hr0_0
 have HC0_0 := Am hc0_0
 clear hr0_0 hc0_0
 have HB := Am (Below.refl w.heap.size w)
 have H : (spec_CacheOk.l0 k 0 l0_0 a0_1 a0_2) = some r := h
 clear h
 have H' := Am H
 clear H
 go_enter Try.func43, Try.ntmps43
 go_wp2_with (first | ((with_reducible refine gate_dst (N := 1) rfl ?_); refine box_event ?hg (N := 1) ?hd (cs := #[.slice A0_0 l0_0.length c0_0, .int .i64 a0_1, .int .i64 a0_2]) (t := 26) ?hr ?_; (case hd => rfl); (case hg => rfl); (case hr => first | (go_simp; done) | (go_simp; rfl)); intro gb185 hg w2 hbox hb; have n0_ := Am (below_step (jzH HB) hb); have n1_ := Am (hbox); have n2_ := Am ((by rw [hg]; exact (below_size (jzH HB)) : w.heap.size ≤ gb185)); have n3_ := Am ((by rw [hg]; exact (below_size (jzH HB)) : w.heap.size ≤ gb185)); clear HB; have HB := n0_; have BK185 := n1_; have GW185 := n2_; have GE185 := n3_; clear n0_ n1_ n2_ n3_; clear hb hbox hg))
 repeat (go_quiet (first | ((with_reducible refine gate_dst (N := 1) rfl ?_); refine box_event ?hg (N := 1) ?hd (cs := #[.slice A0_0 l0_0.length c0_0, .int .i64 a0_1, .int .i64 a0_2]) (t := 26) ?hr ?_; (case hd => rfl); (case hg => rfl); (case hr => first | (go_simp; done) | (go_simp; rfl)); intro gb185 hg w2 hbox hb; have n0_ := Am (below_step (jzH HB) hb); have n1_ := Am (hbox); have n2_ := Am ((by rw [hg]; exact (below_size (jzH HB)) : w.heap.size ≤ gb185)); have n3_ := Am ((by rw [hg]; exact (below_size (jzH HB)) : w.heap.size ≤ gb185)); clear HB; have HB := n0_; have BK185 := n1_; have GW185 := n2_; have GE185 := n3_; clear n0_ n1_ n2_ n3_; clear hb hbox hg)); try go_wp2_with (first | ((with_reducible refine gate_dst (N := 1) rfl ?_); refine box_event ?hg (N := 1) ?hd (cs := #[.slice A0_0 l0_0.length c0_0, .int .i64 a0_1, .int .i64 a0_2]) (t := 26) ?hr ?_; (case hd => rfl); (case hg => rfl); (case hr => first | (go_simp; done) | (go_simp; rfl)); intro gb185 hg w2 hbox hb; have n0_ := Am (below_step (jzH HB) hb); have n1_ := Am (hbox); have n2_ := Am ((by rw [hg]; exact (below_size (jzH HB)) : w.heap.size ≤ gb185)); have n3_ := Am ((by rw [hg]; exact (below_size (jzH HB)) : w.heap.size ≤ gb185)); clear HB; have HB := n0_; have BK185 := n1_; have GW185 := n2_; have GE185 := n3_; clear n0_ n1_ n2_ n3_; clear hb hbox hg)))
 go_loopg [3] k (fun kq v3 w' => ∃ (x3_1 : Int), v3 = .int .i64 x3_1 ∧ Aside0 (spec_CacheOk.l0 kq x3_1 l0_0 a0_1 a0_2 = some r) ∧ Aside0 (kq ≤ k) ∧ Aside0 (w'.heap[gb185]? = some (.cells #[(.slice A0_0 l0_0.length c0_0), .int .i64 a0_1, .int .i64 a0_2] 26 (0, 0))) ∧ Aside0 (Below w.heap.size w w'))
 case atStart => exact ⟨(0), (by first | rfl | (simp; done) | (simp [*]; done)), H', ⟨Nat.le_refl _⟩, ⟨by (with_reducible repeat (first | refine b1 ?_ _ | refine b2 ?_ | refine b3 ?_ _)); exact BK185.out⟩, ⟨jzG HB⟩⟩
 case round =>
  clear H'
  try clear p2
  obtain ⟨x3_1, rfl, HA, HK1, BK185, HB⟩ := hrel
  cases gk with
  | zero => exact absurd HA.out (by simp [spec_CacheOk.l0])
  | succ k1 =>
   have H := HA.out
   clear HA
   simp only [spec_CacheOk.l0] at H
   by_cases c3 : x3_1 < (l0_0.length : Int)
   ·rw [if_pos c3] at H
    have c3b0 : decide (x3_1 < (l0_0.length : Int)) = true := decide_eq_true c3
    clear c3
    by_cases c4 : 0 ≤ x3_1
    ·rw [if_pos c4] at H
     have c4b0 : decide (0 ≤ x3_1) = true := decide_eq_true c4
     clear c4
     replace H := Option.bind_eq_some_iff.mp H
     obtain ⟨t190, A50, H⟩ := H
     replace H : (if t190 = true then (spec_CacheOk.l1 k1 x3_1 0 l0_0 a0_1 a0_2) else (some false)) = some r := H
     have A5 := Am A50
     clear A50
     by_cases c6 : t190 = true
     ·subst c6
      have H1 : (spec_CacheOk.l1 k1 x3_1 0 l0_0 a0_1 a0_2) = some r := by rw [if_pos rfl] at H; exact H
      clear H
      have H := H1
      clear H1
      have H' := Am H
      clear H
      have hcz7_0 : wr.cell? ⟨gb185, 0, none⟩ = some (.slice A0_0 l0_0.length c0_0) := (b8 BK185.out 0).trans rfl
      have hcz7_1 : wr.cell? ⟨gb185, 1, none⟩ = some (.int .i64 a0_1) := (b8 BK185.out 1).trans rfl
      have hcz7_2 : wr.cell? ⟨gb185, 2, none⟩ = some (.int .i64 a0_2) := (b8 BK185.out 2).trans rfl
      have hfz7_0 := blk_frozen BK185.out 0
      have hfz7_1 := blk_frozen BK185.out 1
      have hfz7_2 := blk_frozen BK185.out 2
      have p189 : 0 ≤ (x3_1 : Int) := of_decide_eq_true jzS
      have q189 : x3_1 < (l0_0.length : Int) := of_decide_eq_true jzS
      obtain ⟨ad189, A189_2, c189_2, e189, hx189_0, hx189_1, hx189_2, hl189_2, hi189_2⟩ := at_T32 HR0_0.out x3_1 p189 q189
      cases e189
      replace hx189_0 := (HB.out.cell (World.block_lt_of_cell? w _ hx189_0)).trans hx189_0
      replace hx189_1 := (HB.out.cell (World.block_lt_of_cell? w _ hx189_1)).trans hx189_1
      replace hx189_2 := (HB.out.cell (World.block_lt_of_cell? w _ hx189_2)).trans hx189_2
      have HR189_2 := Am hi189_2
      have HC189_2 := Am hl189_2
      clear hi189_2 hl189_2
      replace p189 := eq_true p189
      replace q189 := eq_true q189
      go_wp2_with (first | (go_at_call 55; (with_reducible refine (spec_GlyphOk.calls k1 ((rd_T32 l0_0 x3_1).f0) ((rd_T32 l0_0 x3_1).f1) _ _ ((rd_T32 l0_0 x3_1).f2) true _ ?side1 ?side2 A5.out).mono ?_); (case side1 => exact jzC HR189_2 HB); (case side2 => exact HC189_2.out); rintro e w8 ⟨rfl, hb⟩; have n0_ := Am (blk_below (g := gb185) (o := .cells #[.slice (some ad189) l0_0.length c0_0, .int .i64 a0_1, .int .i64 a0_2] 26 (0, 0)) (jzB BK185) hb); have n1_ := Am (below_step (jzG HB) hb); clear BK185; clear HB; have BK185 := n0_; have HB := n1_; clear n0_ n1_; (try clear hb); (try clear hb2); (try clear hk); (try clear hi)))
      repeat (go_quiet (first | (go_at_call 55; (with_reducible refine (spec_GlyphOk.calls k1 ((rd_T32 l0_0 x3_1).f0) ((rd_T32 l0_0 x3_1).f1) _ _ ((rd_T32 l0_0 x3_1).f2) true _ ?side1 ?side2 A5.out).mono ?_); (case side1 => exact jzC HR189_2 HB); (case side2 => exact HC189_2.out); rintro e w8 ⟨rfl, hb⟩; have n0_ := Am (blk_below (g := gb185) (o := .cells #[.slice (some ad189) l0_0.length c0_0, .int .i64 a0_1, .int .i64 a0_2] 26 (0, 0)) (jzB BK185) hb); have n1_ := Am (below_step (jzG HB) hb); clear BK185; clear HB; have BK185 := n0_; have HB := n1_; clear n0_ n1_; (try clear hb); (try clear hb2); (try clear hk); (try clear hi))); try go_wp2_with (first | (go_at_call 55; (with_reducible refine (spec_GlyphOk.calls k1 ((rd_T32 l0_0 x3_1).f0) ((rd_T32 l0_0 x3_1).f1) _ _ ((rd_T32 l0_0 x3_1).f2) true _ ?side1 ?side2 A5.out).mono ?_); (case side1 => exact jzC HR189_2 HB); (case side2 => exact HC189_2.out); rintro e w8 ⟨rfl, hb⟩; have n0_ := Am (blk_below (g := gb185) (o := .cells #[.slice (some ad189) l0_0.length c0_0, .int .i64 a0_1, .int .i64 a0_2] 26 (0, 0)) (jzB BK185) hb); have n1_ := Am (below_step (jzG HB) hb); clear BK185; clear HB; have BK185 := n0_; have HB := n1_; clear n0_ n1_; (try clear hb); (try clear hb2); (try clear hk); (try clear hi))))
      go_loopg [4] k1 (fun kq v4 w' => ∃ (x4_2 : Int), v4 = .int .i64 x4_2 ∧ Aside0 (spec_CacheOk.l1 kq x3_1 x4_2 l0_0 a0_1 a0_2 = some r) ∧ Aside0 (kq ≤ k1) ∧ Aside0 (w'.heap[gb185]? = some (.cells #[(.slice (some ad189) l0_0.length c0_0), .int .i64 a0_1, .int .i64 a0_2] 26 (0, 0))) ∧ Aside0 (Below w.heap.size w w'))
      case atStart => exact ⟨(0), (by first | rfl | (simp; done) | (simp [*]; done)), H', ⟨Nat.le_refl _⟩, ⟨by (with_reducible repeat (first | refine b1 ?_ _ | refine b2 ?_ | refine b3 ?_ _)); exact BK185.out⟩, ⟨jzG HB⟩⟩
      case round =>
       clear H'
       try clear c1
       try clear p1
       try clear q1
       try clear hx1
       try clear p2
       try clear c3
       try clear c3b0
       try clear c4
       try clear c4b0
       try clear c6
       try clear hcz7_0
       try clear hcz7_1
       try clear hcz7_2
       try clear hfz7_0
       try clear hfz7_1
       try clear hfz7_2
       try clear hx189_0
       try clear hx189_1
       try clear hx189_2
       try clear p189
       try clear p2
       try clear q189
       obtain ⟨x4_2, rfl, HA, HK2, BK185, HB⟩ := hrel
       cases gk with
       | zero => exact absurd HA.out (by simp [spec_CacheOk.l1])
       | succ k2 =>
        have H := HA.out
        clear HA
        simp only [spec_CacheOk.l1] at H
        by_cases c9 : x4_2 < x3_1
        ·rw [if_pos c9] at H
         have c9b0 : decide (x4_2 < x3_1) = true := decide_eq_true c9
         clear c9
         by_cases c10 : 0 ≤ x4_2
         ·rw [if_pos c10] at H
          have c10b0 : decide (0 ≤ x4_2) = true := decide_eq_true c10
          clear c10
          by_cases c11 : x4_2 < (l0_0.length : Int)
          ·rw [if_pos c11] at H
           have c11b0 : decide (x4_2 < (l0_0.length : Int)) = true := decide_eq_true c11
           clear c11
           by_cases c12 : 0 ≤ x3_1
           ·rw [if_pos c12] at H
            have c12b0 : decide (0 ≤ x3_1) = true := decide_eq_true c12
            clear c12
            by_cases c13 : x3_1 < (l0_0.length : Int)
            ·rw [if_pos c13] at H
             have c13b0 : decide (x3_1 < (l0_0.length : Int)) = true := decide_eq_true c13
             clear c13
             by_cases c14 : ((rd_T32 l0_0 x4_2).f0) = ((rd_T32 l0_0 x3_1).f0)
             ·rw [if_pos c14] at H
              have c14b0 : (((rd_T32 l0_0 x4_2).f0) == ((rd_T32 l0_0 x3_1).f0)) = true := beq_iff_eq.mpr c14
              have c14b1 : (((rd_T32 l0_0 x4_2).f0) != ((rd_T32 l0_0 x3_1).f0)) = false := bne_eq_false_iff_eq.mpr c14
              clear c14
              obtain rfl := Option.some.inj H
              have hcz15_0 : wr.cell? ⟨gb185, 0, none⟩ = some (.slice (some ad189) l0_0.length c0_0) := (b8 BK185.out 0).trans rfl
              have hcz15_1 : wr.cell? ⟨gb185, 1, none⟩ = some (.int .i64 a0_1) := (b8 BK185.out 1).trans rfl
              have hcz15_2 : wr.cell? ⟨gb185, 2, none⟩ = some (.int .i64 a0_2) := (b8 BK185.out 2).trans rfl
              have hfz15_0 := blk_frozen BK185.out 0
              have hfz15_1 := blk_frozen BK185.out 1
              have hfz15_2 := blk_frozen BK185.out 2
              have p191 : 0 ≤ (x4_2 : Int) := of_decide_eq_true jzS
              have q191 : x4_2 < (l0_0.length : Int) := of_decide_eq_true jzS
              obtain ⟨ad191, A191_2, c191_2, e191, hx191_0, hx191_1, hx191_2, hl191_2, hi191_2⟩ := at_T32 HR0_0.out x4_2 p191 q191
              obtain rfl : ad189 = ad191 := (by injection e191)
              replace hx191_0 := (HB.out.cell (World.block_lt_of_cell? w _ hx191_0)).trans hx191_0
              replace hx191_1 := (HB.out.cell (World.block_lt_of_cell? w _ hx191_1)).trans hx191_1
              replace hx191_2 := (HB.out.cell (World.block_lt_of_cell? w _ hx191_2)).trans hx191_2
              have HR191_2 := Am hi191_2
              have HC191_2 := Am hl191_2
              clear hi191_2 hl191_2
              replace p191 := eq_true p191
              replace q191 := eq_true q191
              have p192 : 0 ≤ (x3_1 : Int) := of_decide_eq_true jzS
              have q192 : x3_1 < (l0_0.length : Int) := of_decide_eq_true jzS
              obtain ⟨ad192, A192_2, c192_2, e192, hx192_0, hx192_1, hx192_2, hl192_2, hi192_2⟩ := at_T32 HR0_0.out x3_1 p192 q192
              obtain rfl : ad189 = ad192 := (by injection e192)
              replace hx192_0 := (HB.out.cell (World.block_lt_of_cell? w _ hx192_0)).trans hx192_0
              replace hx192_1 := (HB.out.cell (World.block_lt_of_cell? w _ hx192_1)).trans hx192_1
              replace hx192_2 := (HB.out.cell (World.block_lt_of_cell? w _ hx192_2)).trans hx192_2
              have HR192_2 := Am hi192_2
              have HC192_2 := Am hl192_2
              clear hi192_2 hl192_2
              replace p192 := eq_true p192
              replace q192 := eq_true q192
              go_wp2
              repeat (go_quiet (fail); try go_wp2)
              go_ret
              exact ⟨by first | rfl | (simp [errW_none, errW_some] <;> rfl) | (simp [*, errW_none, errW_some] <;> rfl), jzG HB⟩
             ·rw [if_neg c14] at H
              have c14b0 : (((rd_T32 l0_0 x4_2).f0) == ((rd_T32 l0_0 x3_1).f0)) = false := beq_eq_false_iff_ne.mpr c14
              have c14b1 : (((rd_T32 l0_0 x4_2).f0) != ((rd_T32 l0_0 x3_1).f0)) = true := bne_iff_ne.mpr c14
              have H' := Am H
              clear H
              have hcz16_0 : wr.cell? ⟨gb185, 0, none⟩ = some (.slice (some ad189) l0_0.length c0_0) := (b8 BK185.out 0).trans rfl
              have hcz16_1 : wr.cell? ⟨gb185, 1, none⟩ = some (.int .i64 a0_1) := (b8 BK185.out 1).trans rfl
              have hcz16_2 : wr.cell? ⟨gb185, 2, none⟩ = some (.int .i64 a0_2) := (b8 BK185.out 2).trans rfl
              have hfz16_0 := blk_frozen BK185.out 0
              have hfz16_1 := blk_frozen BK185.out 1
              have hfz16_2 := blk_frozen BK185.out 2
              have p191 : 0 ≤ (x4_2 : Int) := of_decide_eq_true jzS
              have q191 : x4_2 < (l0_0.length : Int) := of_decide_eq_true jzS
              obtain ⟨ad191, A191_2, c191_2, e191, hx191_0, hx191_1, hx191_2, hl191_2, hi191_2⟩ := at_T32 HR0_0.out x4_2 p191 q191
              obtain rfl : ad189 = ad191 := (by injection e191)
              replace hx191_0 := (HB.out.cell (World.block_lt_of_cell? w _ hx191_0)).trans hx191_0
              replace hx191_1 := (HB.out.cell (World.block_lt_of_cell? w _ hx191_1)).trans hx191_1
              replace hx191_2 := (HB.out.cell (World.block_lt_of_cell? w _ hx191_2)).trans hx191_2
              have HR191_2 := Am hi191_2
              have HC191_2 := Am hl191_2
              clear hi191_2 hl191_2
              replace p191 := eq_true p191
              replace q191 := eq_true q191
              have p192 : 0 ≤ (x3_1 : Int) := of_decide_eq_true jzS
              have q192 : x3_1 < (l0_0.length : Int) := of_decide_eq_true jzS
              obtain ⟨ad192, A192_2, c192_2, e192, hx192_0, hx192_1, hx192_2, hl192_2, hi192_2⟩ := at_T32 HR0_0.out x3_1 p192 q192
              obtain rfl : ad189 = ad192 := (by injection e192)
              replace hx192_0 := (HB.out.cell (World.block_lt_of_cell? w _ hx192_0)).trans hx192_0
              replace hx192_1 := (HB.out.cell (World.block_lt_of_cell? w _ hx192_1)).trans hx192_1
              replace hx192_2 := (HB.out.cell (World.block_lt_of_cell? w _ hx192_2)).trans hx192_2
              have HR192_2 := Am hi192_2
              have HC192_2 := Am hl192_2
              clear hi192_2 hl192_2
              replace p192 := eq_true p192
              replace q192 := eq_true q192
              go_wp2
              repeat (go_quiet (fail); try go_wp2)
              go_roundg k2
              case measure => have := HK1.out; have := HK2.out; omega
              case rel => exact ⟨(wrap64 (x4_2 + 1)), (by first | rfl | (simp; done) | (simp [*]; done)), H', ⟨by have := HK1.out; have := HK2.out; omega⟩, ⟨by (with_reducible repeat (first | refine b1 ?_ _ | refine b2 ?_ | refine b3 ?_ _)); exact BK185.out⟩, ⟨jzG HB⟩⟩
            ·rw [if_neg c13] at H
             exact absurd H (by simp)
           ·rw [if_neg c12] at H
            exact absurd H (by simp)
          ·rw [if_neg c11] at H
           exact absurd H (by simp)
         ·rw [if_neg c10] at H
          exact absurd H (by simp)
        ·rw [if_neg c9] at H
         have c9b0 : decide (x4_2 < x3_1) = false := decide_eq_false c9
         clear c9
         have H' := Am H
         clear H
         go_wp2
         repeat (go_quiet (fail); try go_wp2)
         go_roundg k2
         case measure => have := HK1.out; have := HK2.out; omega
         case rel => exact ⟨(wrap64 (x3_1 + 1)), (by first | rfl | (simp; done) | (simp [*]; done)), H', ⟨by have := HK1.out; have := HK2.out; omega⟩, ⟨by (with_reducible repeat (first | refine b1 ?_ _ | refine b2 ?_ | refine b3 ?_ _)); exact BK185.out⟩, ⟨jzG HB⟩⟩
     ·replace c6 := Bool.eq_false_iff.mpr c6
      subst c6
      have H1 : (some false) = some r := by rw [if_neg (show ¬ (false = true) by decide)] at H; exact H
      clear H
      have H := H1
      clear H1
      obtain rfl := Option.some.inj H
      have hcz17_0 : wr.cell? ⟨gb185, 0, none⟩ = some (.slice A0_0 l0_0.length c0_0) := (b8 BK185.out 0).trans rfl
      have hcz17_1 : wr.cell? ⟨gb185, 1, none⟩ = some (.int .i64 a0_1) := (b8 BK185.out 1).trans rfl
      have hcz17_2 : wr.cell? ⟨gb185, 2, none⟩ = some (.int .i64 a0_2) := (b8 BK185.out 2).trans rfl
      have hfz17_0 := blk_frozen BK185.out 0
      have hfz17_1 := blk_frozen BK185.out 1
      have hfz17_2 := blk_frozen BK185.out 2
      have p189 : 0 ≤ (x3_1 : Int) := of_decide_eq_true jzS
      have q189 : x3_1 < (l0_0.length : Int) := of_decide_eq_true jzS
      obtain ⟨ad189, A189_2, c189_2, e189, hx189_0, hx189_1, hx189_2, hl189_2, hi189_2⟩ := at_T32 HR0_0.out x3_1 p189 q189
      cases e189
      replace hx189_0 := (HB.out.cell (World.block_lt_of_cell? w _ hx189_0)).trans hx189_0
      replace hx189_1 := (HB.out.cell (World.block_lt_of_cell? w _ hx189_1)).trans hx189_1
      replace hx189_2 := (HB.out.cell (World.block_lt_of_cell? w _ hx189_2)).trans hx189_2
      have HR189_2 := Am hi189_2
      have HC189_2 := Am hl189_2
      clear hi189_2 hl189_2
      replace p189 := eq_true p189
      replace q189 := eq_true q189
      go_wp2_with (first | (go_at_call 55; (with_reducible refine (spec_GlyphOk.calls k1 ((rd_T32 l0_0 x3_1).f0) ((rd_T32 l0_0 x3_1).f1) _ _ ((rd_T32 l0_0 x3_1).f2) false _ ?side1 ?side2 A5.out).mono ?_); (case side1 => exact jzC HR189_2 HB); (case side2 => exact HC189_2.out); rintro e w18 ⟨rfl, hb⟩; have n0_ := Am (blk_below (g := gb185) (o := .cells #[.slice (some ad189) l0_0.length c0_0, .int .i64 a0_1, .int .i64 a0_2] 26 (0, 0)) (jzB BK185) hb); have n1_ := Am (below_step (jzG HB) hb); clear BK185; clear HB; have BK185 := n0_; have HB := n1_; clear n0_ n1_; (try clear hb); (try clear hb2); (try clear hk); (try clear hi)))
      repeat (go_quiet (first | (go_at_call 55; (with_reducible refine (spec_GlyphOk.calls k1 ((rd_T32 l0_0 x3_1).f0) ((rd_T32 l0_0 x3_1).f1) _ _ ((rd_T32 l0_0 x3_1).f2) false _ ?side1 ?side2 A5.out).mono ?_); (case side1 => exact jzC HR189_2 HB); (case side2 => exact HC189_2.out); rintro e w18 ⟨rfl, hb⟩; have n0_ := Am (blk_below (g := gb185) (o := .cells #[.slice (some ad189) l0_0.length c0_0, .int .i64 a0_1, .int .i64 a0_2] 26 (0, 0)) (jzB BK185) hb); have n1_ := Am (below_step (jzG HB) hb); clear BK185; clear HB; have BK185 := n0_; have HB := n1_; clear n0_ n1_; (try clear hb); (try clear hb2); (try clear hk); (try clear hi))); try go_wp2_with (first | (go_at_call 55; (with_reducible refine (spec_GlyphOk.calls k1 ((rd_T32 l0_0 x3_1).f0) ((rd_T32 l0_0 x3_1).f1) _ _ ((rd_T32 l0_0 x3_1).f2) false _ ?side1 ?side2 A5.out).mono ?_); (case side1 => exact jzC HR189_2 HB); (case side2 => exact HC189_2.out); rintro e w18 ⟨rfl, hb⟩; have n0_ := Am (blk_below (g := gb185) (o := .cells #[.slice (some ad189) l0_0.length c0_0, .int .i64 a0_1, .int .i64 a0_2] 26 (0, 0)) (jzB BK185) hb); have n1_ := Am (below_step (jzG HB) hb); clear BK185; clear HB; have BK185 := n0_; have HB := n1_; clear n0_ n1_; (try clear hb); (try clear hb2); (try clear hk); (try clear hi))))
      go_ret
      exact ⟨by first | rfl | (simp [errW_none, errW_some] <;> rfl) | (simp [*, errW_none, errW_some] <;> rfl), jzG HB⟩
    ·rw [if_neg c4] at H
     exact absurd H (by simp)
   ·rw [if_neg c3] at H
    have c3b0 : decide (x3_1 < (l0_0.length : Int)) = false := decide_eq_false c3
    clear c3
    replace H := Option.bind_eq_some_iff.mp H
    obtain ⟨t186, A190, H⟩ := H
    replace H : (if t186 ≤ 20 then ((spec_l01In.f a0_1 0 100000).bind fun t187 => (if t187 = true then ((spec_l01In.f a0_2 0 100000).bind fun t188 => (some t188)) else (some false))) else (some false)) = some r := H
    have A19 := Am A190
    clear A190
    by_cases c20 : t186 ≤ 20
    ·rw [if_pos c20] at H
     have c20b0 : decide (t186 ≤ 20) = true := decide_eq_true c20
     clear c20
     replace H := Option.bind_eq_some_iff.mp H
     obtain ⟨t187, A210, H⟩ := H
     replace H : (if t187 = true then ((spec_l01In.f a0_2 0 100000).bind fun t188 => (some t188)) else (some false)) = some r := H
     have A21 := Am A210
     clear A210
     by_cases c22 : t187 = true
     ·subst c22
      have H1 : ((spec_l01In.f a0_2 0 100000).bind fun t188 => (some t188)) = some r := by rw [if_pos rfl] at H; exact H
      clear H
      have H := H1
      clear H1
      replace H := Option.bind_eq_some_iff.mp H
      obtain ⟨t188, A230, H⟩ := H
      replace H : (some t188) = some r := H
      have A23 := Am A230
      clear A230
      obtain rfl := Option.some.inj H
      have hcz24_0 : wr.cell? ⟨gb185, 0, none⟩ = some (.slice A0_0 l0_0.length c0_0) := (b8 BK185.out 0).trans rfl
      have hcz24_1 : wr.cell? ⟨gb185, 1, none⟩ = some (.int .i64 a0_1) := (b8 BK185.out 1).trans rfl
      have hcz24_2 : wr.cell? ⟨gb185, 2, none⟩ = some (.int .i64 a0_2) := (b8 BK185.out 2).trans rfl
      have hfz24_0 := blk_frozen BK185.out 0
      have hfz24_1 := blk_frozen BK185.out 1
      have hfz24_2 := blk_frozen BK185.out 2
      go_wp2_with (first | (go_at_call 47; (with_reducible refine (spec_CacheSize.calls k1 _ _ l0_0 a0_1 a0_2 t186 _ ?side1 ?side2 A19.out).mono ?_); (case side1 => exact jzC HR0_0 HB); (case side2 => exact HC0_0.out); rintro e w25 ⟨rfl, hb⟩; have n0_ := Am (blk_below (g := gb185) (o := .cells #[.slice A0_0 l0_0.length c0_0, .int .i64 a0_1, .int .i64 a0_2] 26 (0, 0)) (jzB BK185) hb); have n1_ := Am (below_step (jzG HB) hb); clear BK185; clear HB; have BK185 := n0_; have HB := n1_; clear n0_ n1_; (try clear hb); (try clear hb2); (try clear hk); (try clear hi); have hcz26_0 : w25.cell? ⟨gb185, 0, none⟩ = some (.slice A0_0 l0_0.length c0_0) := (b8 BK185.out 0).trans rfl; have hcz26_1 : w25.cell? ⟨gb185, 1, none⟩ = some (.int .i64 a0_1) := (b8 BK185.out 1).trans rfl; have hcz26_2 : w25.cell? ⟨gb185, 2, none⟩ = some (.int .i64 a0_2) := (b8 BK185.out 2).trans rfl; have hfz26_0 := blk_frozen BK185.out 0; have hfz26_1 := blk_frozen BK185.out 1; have hfz26_2 := blk_frozen BK185.out 2) | (go_at_call 56; (with_reducible refine (spec_l01In.calls a0_1 0 100000 true _ A21.out).mono ?_); rintro e w' ⟨rfl, ⟨nd, rfl⟩⟩; (try first | exact ⟨rfl, _, World.drewN_drewN _ _ _⟩ | exact ⟨rfl, _, Eq.trans (World.drewN_drewN _ _ _) (congrArg (World.drewN _) (Nat.add_assoc _ _ _))⟩)) | (go_at_call 56; (with_reducible refine (spec_l01In.calls a0_2 0 100000 t188 _ A23.out).mono ?_); rintro e w' ⟨rfl, ⟨nd, rfl⟩⟩; (try first | exact ⟨rfl, _, World.drewN_drewN _ _ _⟩ | exact ⟨rfl, _, Eq.trans (World.drewN_drewN _ _ _) (congrArg (World.drewN _) (Nat.add_assoc _ _ _))⟩)))
      repeat (go_quiet (first | (go_at_call 47; (with_reducible refine (spec_CacheSize.calls k1 _ _ l0_0 a0_1 a0_2 t186 _ ?side1 ?side2 A19.out).mono ?_); (case side1 => exact jzC HR0_0 HB); (case side2 => exact HC0_0.out); rintro e w25 ⟨rfl, hb⟩; have n0_ := Am (blk_below (g := gb185) (o := .cells #[.slice A0_0 l0_0.length c0_0, .int .i64 a0_1, .int .i64 a0_2] 26 (0, 0)) (jzB BK185) hb); have n1_ := Am (below_step (jzG HB) hb); clear BK185; clear HB; have BK185 := n0_; have HB := n1_; clear n0_ n1_; (try clear hb); (try clear hb2); (try clear hk); (try clear hi); have hcz26_0 : w25.cell? ⟨gb185, 0, none⟩ = some (.slice A0_0 l0_0.length c0_0) := (b8 BK185.out 0).trans rfl; have hcz26_1 : w25.cell? ⟨gb185, 1, none⟩ = some (.int .i64 a0_1) := (b8 BK185.out 1).trans rfl; have hcz26_2 : w25.cell? ⟨gb185, 2, none⟩ = some (.int .i64 a0_2) := (b8 BK185.out 2).trans rfl; have hfz26_0 := blk_frozen BK185.out 0; have hfz26_1 := blk_frozen BK185.out 1; have hfz26_2 := blk_frozen BK185.out 2) | (go_at_call 56; (with_reducible refine (spec_l01In.calls a0_1 0 100000 true _ A21.out).mono ?_); rintro e w' ⟨rfl, ⟨nd, rfl⟩⟩; (try first | exact ⟨rfl, _, World.drewN_drewN _ _ _⟩ | exact ⟨rfl, _, Eq.trans (World.drewN_drewN _ _ _) (congrArg (World.drewN _) (Nat.add_assoc _ _ _))⟩)) | (go_at_call 56; (with_reducible refine (spec_l01In.calls a0_2 0 100000 t188 _ A23.out).mono ?_); rintro e w' ⟨rfl, ⟨nd, rfl⟩⟩; (try first | exact ⟨rfl, _, World.drewN_drewN _ _ _⟩ | exact ⟨rfl, _, Eq.trans (World.drewN_drewN _ _ _) (congrArg (World.drewN _) (Nat.add_assoc _ _ _))⟩))); try go_wp2_with (first | (go_at_call 47; (with_reducible refine (spec_CacheSize.calls k1 _ _ l0_0 a0_1 a0_2 t186 _ ?side1 ?side2 A19.out).mono ?_); (case side1 => exact jzC HR0_0 HB); (case side2 => exact HC0_0.out); rintro e w25 ⟨rfl, hb⟩; have n0_ := Am (blk_below (g := gb185) (o := .cells #[.slice A0_0 l0_0.length c0_0, .int .i64 a0_1, .int .i64 a0_2] 26 (0, 0)) (jzB BK185) hb); have n1_ := Am (below_step (jzG HB) hb); clear BK185; clear HB; have BK185 := n0_; have HB := n1_; clear n0_ n1_; (try clear hb); (try clear hb2); (try clear hk); (try clear hi); have hcz26_0 : w25.cell? ⟨gb185, 0, none⟩ = some (.slice A0_0 l0_0.length c0_0) := (b8 BK185.out 0).trans rfl; have hcz26_1 : w25.cell? ⟨gb185, 1, none⟩ = some (.int .i64 a0_1) := (b8 BK185.out 1).trans rfl; have hcz26_2 : w25.cell? ⟨gb185, 2, none⟩ = some (.int .i64 a0_2) := (b8 BK185.out 2).trans rfl; have hfz26_0 := blk_frozen BK185.out 0; have hfz26_1 := blk_frozen BK185.out 1; have hfz26_2 := blk_frozen BK185.out 2) | (go_at_call 56; (with_reducible refine (spec_l01In.calls a0_1 0 100000 true _ A21.out).mono ?_); rintro e w' ⟨rfl, ⟨nd, rfl⟩⟩; (try first | exact ⟨rfl, _, World.drewN_drewN _ _ _⟩ | exact ⟨rfl, _, Eq.trans (World.drewN_drewN _ _ _) (congrArg (World.drewN _) (Nat.add_assoc _ _ _))⟩)) | (go_at_call 56; (with_reducible refine (spec_l01In.calls a0_2 0 100000 t188 _ A23.out).mono ?_); rintro e w' ⟨rfl, ⟨nd, rfl⟩⟩; (try first | exact ⟨rfl, _, World.drewN_drewN _ _ _⟩ | exact ⟨rfl, _, Eq.trans (World.drewN_drewN _ _ _) (congrArg (World.drewN _) (Nat.add_assoc _ _ _))⟩))))
      go_ret
      exact ⟨by first | rfl | (simp [errW_none, errW_some] <;> rfl) | (simp [*, errW_none, errW_some] <;> rfl), jzG HB⟩
     ·replace c22 := Bool.eq_false_iff.mpr c22
      subst c22
      have H1 : (some false) = some r := by rw [if_neg (show ¬ (false = true) by decide)] at H; exact H
      clear H
      have H := H1
      clear H1
      obtain rfl := Option.some.inj H
      have hcz27_0 : wr.cell? ⟨gb185, 0, none⟩ = some (.slice A0_0 l0_0.length c0_0) := (b8 BK185.out 0).trans rfl
      have hcz27_1 : wr.cell? ⟨gb185, 1, none⟩ = some (.int .i64 a0_1) := (b8 BK185.out 1).trans rfl
      have hcz27_2 : wr.cell? ⟨gb185, 2, none⟩ = some (.int .i64 a0_2) := (b8 BK185.out 2).trans rfl
      have hfz27_0 := blk_frozen BK185.out 0
      have hfz27_1 := blk_frozen BK185.out 1
      have hfz27_2 := blk_frozen BK185.out 2
      go_wp2_with (first | (go_at_call 47; (with_reducible refine (spec_CacheSize.calls k1 _ _ l0_0 a0_1 a0_2 t186 _ ?side1 ?side2 A19.out).mono ?_); (case side1 => exact jzC HR0_0 HB); (case side2 => exact HC0_0.out); rintro e w28 ⟨rfl, hb⟩; have n0_ := Am (blk_below (g := gb185) (o := .cells #[.slice A0_0 l0_0.length c0_0, .int .i64 a0_1, .int .i64 a0_2] 26 (0, 0)) (jzB BK185) hb); have n1_ := Am (below_step (jzG HB) hb); clear BK185; clear HB; have BK185 := n0_; have HB := n1_; clear n0_ n1_; (try clear hb); (try clear hb2); (try clear hk); (try clear hi); have hcz29_0 : w28.cell? ⟨gb185, 0, none⟩ = some (.slice A0_0 l0_0.length c0_0) := (b8 BK185.out 0).trans rfl; have hcz29_1 : w28.cell? ⟨gb185, 1, none⟩ = some (.int .i64 a0_1) := (b8 BK185.out 1).trans rfl; have hcz29_2 : w28.cell? ⟨gb185, 2, none⟩ = some (.int .i64 a0_2) := (b8 BK185.out 2).trans rfl; have hfz29_0 := blk_frozen BK185.out 0; have hfz29_1 := blk_frozen BK185.out 1; have hfz29_2 := blk_frozen BK185.out 2) | (go_at_call 56; (with_reducible refine (spec_l01In.calls a0_1 0 100000 false _ A21.out).mono ?_); rintro e w' ⟨rfl, ⟨nd, rfl⟩⟩; (try first | exact ⟨rfl, _, World.drewN_drewN _ _ _⟩ | exact ⟨rfl, _, Eq.trans (World.drewN_drewN _ _ _) (congrArg (World.drewN _) (Nat.add_assoc _ _ _))⟩)))
      repeat (go_quiet (first | (go_at_call 47; (with_reducible refine (spec_CacheSize.calls k1 _ _ l0_0 a0_1 a0_2 t186 _ ?side1 ?side2 A19.out).mono ?_); (case side1 => exact jzC HR0_0 HB); (case side2 => exact HC0_0.out); rintro e w28 ⟨rfl, hb⟩; have n0_ := Am (blk_below (g := gb185) (o := .cells #[.slice A0_0 l0_0.length c0_0, .int .i64 a0_1, .int .i64 a0_2] 26 (0, 0)) (jzB BK185) hb); have n1_ := Am (below_step (jzG HB) hb); clear BK185; clear HB; have BK185 := n0_; have HB := n1_; clear n0_ n1_; (try clear hb); (try clear hb2); (try clear hk); (try clear hi); have hcz29_0 : w28.cell? ⟨gb185, 0, none⟩ = some (.slice A0_0 l0_0.length c0_0) := (b8 BK185.out 0).trans rfl; have hcz29_1 : w28.cell? ⟨gb185, 1, none⟩ = some (.int .i64 a0_1) := (b8 BK185.out 1).trans rfl; have hcz29_2 : w28.cell? ⟨gb185, 2, none⟩ = some (.int .i64 a0_2) := (b8 BK185.out 2).trans rfl; have hfz29_0 := blk_frozen BK185.out 0; have hfz29_1 := blk_frozen BK185.out 1; have hfz29_2 := blk_frozen BK185.out 2) | (go_at_call 56; (with_reducible refine (spec_l01In.calls a0_1 0 100000 false _ A21.out).mono ?_); rintro e w' ⟨rfl, ⟨nd, rfl⟩⟩; (try first | exact ⟨rfl, _, World.drewN_drewN _ _ _⟩ | exact ⟨rfl, _, Eq.trans (World.drewN_drewN _ _ _) (congrArg (World.drewN _) (Nat.add_assoc _ _ _))⟩))); try go_wp2_with (first | (go_at_call 47; (with_reducible refine (spec_CacheSize.calls k1 _ _ l0_0 a0_1 a0_2 t186 _ ?side1 ?side2 A19.out).mono ?_); (case side1 => exact jzC HR0_0 HB); (case side2 => exact HC0_0.out); rintro e w28 ⟨rfl, hb⟩; have n0_ := Am (blk_below (g := gb185) (o := .cells #[.slice A0_0 l0_0.length c0_0, .int .i64 a0_1, .int .i64 a0_2] 26 (0, 0)) (jzB BK185) hb); have n1_ := Am (below_step (jzG HB) hb); clear BK185; clear HB; have BK185 := n0_; have HB := n1_; clear n0_ n1_; (try clear hb); (try clear hb2); (try clear hk); (try clear hi); have hcz29_0 : w28.cell? ⟨gb185, 0, none⟩ = some (.slice A0_0 l0_0.length c0_0) := (b8 BK185.out 0).trans rfl; have hcz29_1 : w28.cell? ⟨gb185, 1, none⟩ = some (.int .i64 a0_1) := (b8 BK185.out 1).trans rfl; have hcz29_2 : w28.cell? ⟨gb185, 2, none⟩ = some (.int .i64 a0_2) := (b8 BK185.out 2).trans rfl; have hfz29_0 := blk_frozen BK185.out 0; have hfz29_1 := blk_frozen BK185.out 1; have hfz29_2 := blk_frozen BK185.out 2) | (go_at_call 56; (with_reducible refine (spec_l01In.calls a0_1 0 100000 false _ A21.out).mono ?_); rintro e w' ⟨rfl, ⟨nd, rfl⟩⟩; (try first | exact ⟨rfl, _, World.drewN_drewN _ _ _⟩ | exact ⟨rfl, _, Eq.trans (World.drewN_drewN _ _ _) (congrArg (World.drewN _) (Nat.add_assoc _ _ _))⟩))))
      go_ret
      exact ⟨by first | rfl | (simp [errW_none, errW_some] <;> rfl) | (simp [*, errW_none, errW_some] <;> rfl), jzG HB⟩
    ·rw [if_neg c20] at H
     have c20b0 : decide (t186 ≤ 20) = false := decide_eq_false c20
     clear c20
     obtain rfl := Option.some.inj H
     have hcz30_0 : wr.cell? ⟨gb185, 0, none⟩ = some (.slice A0_0 l0_0.length c0_0) := (b8 BK185.out 0).trans rfl
     have hcz30_1 : wr.cell? ⟨gb185, 1, none⟩ = some (.int .i64 a0_1) := (b8 BK185.out 1).trans rfl
     have hcz30_2 : wr.cell? ⟨gb185, 2, none⟩ = some (.int .i64 a0_2) := (b8 BK185.out 2).trans rfl
     have hfz30_0 := blk_frozen BK185.out 0
     have hfz30_1 := blk_frozen BK185.out 1
     have hfz30_2 := blk_frozen BK185.out 2
     go_wp2_with (first | (go_at_call 47; (with_reducible refine (spec_CacheSize.calls k1 _ _ l0_0 a0_1 a0_2 t186 _ ?side1 ?side2 A19.out).mono ?_); (case side1 => exact jzC HR0_0 HB); (case side2 => exact HC0_0.out); rintro e w31 ⟨rfl, hb⟩; have n0_ := Am (blk_below (g := gb185) (o := .cells #[.slice A0_0 l0_0.length c0_0, .int .i64 a0_1, .int .i64 a0_2] 26 (0, 0)) (jzB BK185) hb); have n1_ := Am (below_step (jzG HB) hb); clear BK185; clear HB; have BK185 := n0_; have HB := n1_; clear n0_ n1_; (try clear hb); (try clear hb2); (try clear hk); (try clear hi)))
     repeat (go_quiet (first | (go_at_call 47; (with_reducible refine (spec_CacheSize.calls k1 _ _ l0_0 a0_1 a0_2 t186 _ ?side1 ?side2 A19.out).mono ?_); (case side1 => exact jzC HR0_0 HB); (case side2 => exact HC0_0.out); rintro e w31 ⟨rfl, hb⟩; have n0_ := Am (blk_below (g := gb185) (o := .cells #[.slice A0_0 l0_0.length c0_0, .int .i64 a0_1, .int .i64 a0_2] 26 (0, 0)) (jzB BK185) hb); have n1_ := Am (below_step (jzG HB) hb); clear BK185; clear HB; have BK185 := n0_; have HB := n1_; clear n0_ n1_; (try clear hb); (try clear hb2); (try clear hk); (try clear hi))); try go_wp2_with (first | (go_at_call 47; (with_reducible refine (spec_CacheSize.calls k1 _ _ l0_0 a0_1 a0_2 t186 _ ?side1 ?side2 A19.out).mono ?_); (case side1 => exact jzC HR0_0 HB); (case side2 => exact HC0_0.out); rintro e w31 ⟨rfl, hb⟩; have n0_ := Am (blk_below (g := gb185) (o := .cells #[.slice A0_0 l0_0.length c0_0, .int .i64 a0_1, .int .i64 a0_2] 26 (0, 0)) (jzB BK185) hb); have n1_ := Am (below_step (jzG HB) hb); clear BK185; clear HB; have BK185 := n0_; have HB := n1_; clear n0_ n1_; (try clear hb); (try clear hb2); (try clear hk); (try clear hi))))
     go_ret
     exact ⟨by first | rfl | (simp [errW_none, errW_some] <;> rfl) | (simp [*, errW_none, errW_some] <;> rfl), jzG HB⟩

end Go.Proofs.Ytphjcllhlecpfaa.PFnCaches
