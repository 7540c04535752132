/- Written by a program of this session (a turned copy of the kit's printer): what each Go function answers, and that it does. -/
import Derived.Test.YtphjcllhlecpfaaPFnCachesx0
import Derived.Test.YtphjcllhlecpfaaPFnCachesx5
import Derived.Test.YtphjcllhlecpfaaPFnCachesx6
namespace Go.Proofs.Ytphjcllhlecpfaa.PFnCaches
open Go.RowKit Go.Proofs.YtphjcllhlecpfaaW.PrintWords Go.Proofs.YtphjcllhlecpfaaW.PrintLast Go.Proofs.YtphjcllhlecpfaaW.PrintMore
attribute [local go_sem] Go.Proofs.Ytphjcllhlecpfaa.Cells.cell_set_at max2_int min2_int max_two min_two max_three min_three max_four min_four   -- for this text's walks alone
set_option linter.unusedVariables false
set_option linter.unusedSimpArgs false

/-! ### impl_CacheOk: function 13 -/
def impl_CacheOk.l0 : Nat → List (S32) → Int → Int → List (S32) → Int → Int → Option (Bool)
 | 0, _, _, _, _, _, _ => none
 | k + 1, x6, x7, x8, x323000, x323001, x323002 => if x8 < x7 then (if 0 ≤ x8 then (if x8 < (x6.length : Int) then ((impl_GlyphOk.f k ((rd_T32 x6 x8).f0) ((rd_T32 x6 x8).f1) ((rd_T32 x6 x8).f2)).bind fun t328 => (if t328 = true then (if x8 ≤ (x323000.length : Int) then ((impl_HoldsGlyph.f k (x323000.take (x8 : Int).toNat) 0 0 ((rd_T32 x6 x8).f0)).bind fun t333 => (if t333 = true then (some false) else (impl_CacheOk.l0 k x6 x7 (wrap64 (x8 + 1)) x323000 x323001 x323002))) else (none)) else (some false))) else (none)) else (none)) else ((impl_CacheSize.f k x323000 x323001 x323002).bind fun t323 => (if t323 ≤ 20 then ((impl_within.f x323001 0 100000).bind fun t324 => (if t324 = true then ((impl_within.f x323002 0 100000).bind fun t325 => (some t325)) else (some false))) else (some false)))
def impl_CacheOk.f (k : Nat) (l0_0 : List (S32)) (a0_1 : Int) (a0_2 : Int) : Option (Bool) := impl_CacheOk.l0 k l0_0 (l0_0.length : Int) 0 l0_0 a0_1 a0_2
theorem impl_CacheOk.mono_l : ∀ k, (∀ y0 y1 y2 y3 y4 y5, LeO (impl_CacheOk.l0 k y0 y1 y2 y3 y4 y5) (impl_CacheOk.l0 (k + 1) y0 y1 y2 y3 y4 y5))
 | 0 => fun _ _ _ _ _ _ r h => by simp [impl_CacheOk.l0] at h
 | k + 1 => by
  have ih0 := impl_CacheOk.mono_l k
  ·intro y0 y1 y2 y3 y4 y5
   unfold impl_CacheOk.l0
   repeat' first
   | (with_reducible exact ih0 _ _ _ _ _ _)
   | (with_reducible exact impl_CacheSize.mono _ _ _ _)
   | (with_reducible exact impl_GlyphOk.mono _ _ _ _)
   | (with_reducible exact impl_HoldsGlyph.mono _ _ _ _ _)
   | (with_reducible exact LeO.refl _)
   | (with_reducible exact LeO.none _)
   | (with_reducible refine LeO.ite ?_ ?_)
   | (with_reducible refine LeO.bind ?_ (fun _ => ?_))
   | exact ih0 _ _ _ _ _ _
   | exact impl_CacheSize.mono _ _ _ _
   | exact impl_GlyphOk.mono _ _ _ _
   | exact impl_HoldsGlyph.mono _ _ _ _ _
   | exact LeO.none _
   | refine LeO.ite ?_ ?_
   | refine LeO.bind ?_ (fun _ => ?_)
theorem impl_CacheOk.mono : ∀ a0 a1 a2 k, LeO (impl_CacheOk.f k a0 a1 a2) (impl_CacheOk.f (k + 1) a0 a1 a2) := by
 intro a0 a1 a2 k
 have ih0 := impl_CacheOk.mono_l k
 unfold impl_CacheOk.f
 repeat' first
   | (with_reducible exact ih0 _ _ _ _ _ _)
   | (with_reducible exact impl_CacheSize.mono _ _ _ _)
   | (with_reducible exact impl_GlyphOk.mono _ _ _ _)
   | (with_reducible exact impl_HoldsGlyph.mono _ _ _ _ _)
   | (with_reducible exact LeO.refl _)
   | (with_reducible exact LeO.none _)
   | (with_reducible refine LeO.ite ?_ ?_)
   | (with_reducible refine LeO.bind ?_ (fun _ => ?_))
   | exact ih0 _ _ _ _ _ _
   | exact impl_CacheSize.mono _ _ _ _
   | exact impl_GlyphOk.mono _ _ _ _
   | exact impl_HoldsGlyph.mono _ _ _ _ _
   | exact LeO.none _
   | refine LeO.ite ?_ ?_
   | refine LeO.bind ?_ (fun _ => ?_)
def impl_CacheOk.T4 : Bool × List (List Nat × List Nat) := (true, [([], []), ([0], [0]), ([1], [1]), ([2, 1], [2]), ([3], [3]), ([4, 3], [3, 4]), ([3], [3]), ([5, 6, 3], [3, 5, 6]), ([7, 3], [3, 7]), ([3], [3]), ([9, 3], [3, 9]), ([8, 10, 3, 3], [3, 8, 10]), ([3, 11], [3, 11])])
def impl_CacheOk.B4 : List Nat := [0, 1, 3, 7, 15, 31, 15, 127, 255, 15, 527, 2047, 4095]
theorem impl_CacheOk.tab4 : rtab .any (opsOf Try.f13 4) = impl_CacheOk.T4 := by kernel_rfl
theorem impl_CacheOk.bits4 : waitsOk impl_CacheOk.T4.2 impl_CacheOk.B4 = true := by kernel_rfl
set_option maxHeartbeats 8000000 in
set_option maxRecDepth 100000 in
theorem impl_CacheOk.calls (k : Nat) (A0_0 : Option Addr) (c0_0 : Nat) (l0_0 : List (S32)) (a0_1 : Int) (a0_2 : Int) (r : Bool) (w : World) (hr0_0 : Kd.C k32 w A0_0 l0_0.length l0_0) (hc0_0 : l0_0.length ≤ c0_0) (h : impl_CacheOk.f k l0_0 a0_1 a0_2 = some r) :
  Calls Try.prog 13 #[.agg #[.slice A0_0 l0_0.length c0_0, .int .i64 a0_1, .int .i64 a0_2]] w fun e w' => e = .returned (.bool r) ∧ Below w.heap.size w w' := by
 have hu26 := Try.underlying26
 have hu32 := Try.underlying32
 have HR0_0 := Am hr0_0
 have HC0_0 := Am hc0_0
 clear hr0_0 hc0_0
 have HB := Am (Below.refl w.heap.size w)
 have H : (impl_CacheOk.l0 k l0_0 (l0_0.length : Int) 0 l0_0 a0_1 a0_2) = some r := h
 clear h
 have H' := Am H
 clear H
 go_enter Try.func13, Try.ntmps13
 go_wp2_with (first | ((with_reducible refine gate_dst (N := 1) rfl ?_); refine box_event ?hg (N := 1) ?hd (cs := #[.slice A0_0 l0_0.length c0_0, .int .i64 a0_1, .int .i64 a0_2]) (t := 26) ?hr ?_; (case hd => rfl); (case hg => rfl); (case hr => first | (go_simp; done) | (go_simp; rfl)); intro gb322 hg w2 hbox hb; have n0_ := Am (below_step (jzH HB) hb); have n1_ := Am (hbox); have n2_ := Am ((by rw [hg]; exact (below_size (jzH HB)) : w.heap.size ≤ gb322)); have n3_ := Am ((by rw [hg]; exact (below_size (jzH HB)) : w.heap.size ≤ gb322)); clear HB; have HB := n0_; have BK322 := n1_; have GW322 := n2_; have GE322 := n3_; clear n0_ n1_ n2_ n3_; clear hb hbox hg; have hcz3_0 : w2.cell? ⟨gb322, 0, none⟩ = some (.slice A0_0 l0_0.length c0_0) := (b8 BK322.out 0).trans rfl; have hcz3_1 : w2.cell? ⟨gb322, 1, none⟩ = some (.int .i64 a0_1) := (b8 BK322.out 1).trans rfl; have hcz3_2 : w2.cell? ⟨gb322, 2, none⟩ = some (.int .i64 a0_2) := (b8 BK322.out 2).trans rfl; have hfz3_0 := blk_frozen BK322.out 0; have hfz3_1 := blk_frozen BK322.out 1; have hfz3_2 := blk_frozen BK322.out 2))
 go_loopg [8] k (fun kq v8 w' => ∃ (x8_1 : Int), v8 = .int .i64 x8_1 ∧ Aside0 (impl_CacheOk.l0 kq l0_0 (l0_0.length : Int) x8_1 l0_0 a0_1 a0_2 = some r) ∧ Aside0 (kq ≤ k) ∧ Aside0 (w'.heap[gb322]? = some (.cells #[(.slice A0_0 l0_0.length c0_0), .int .i64 a0_1, .int .i64 a0_2] 26 (0, 0))) ∧ Aside0 (Below w.heap.size w w'))
 case atStart => exact ⟨(0), (by first | rfl | (simp; done) | (simp [*]; done)), H', ⟨Nat.le_refl _⟩, ⟨by (with_reducible repeat (first | refine b1 ?_ _ | refine b2 ?_ | refine b3 ?_ _)); exact BK322.out⟩, ⟨jzG HB⟩⟩
 case round =>
  clear H'
  try clear c1
  try clear p2
  try clear hcz3_0
  try clear hcz3_1
  try clear hcz3_2
  try clear hfz3_0
  try clear hfz3_1
  try clear hfz3_2
  obtain ⟨x8_1, rfl, HA, HK1, BK322, HB⟩ := hrel
  cases gk with
  | zero => exact absurd HA.out (by simp [impl_CacheOk.l0])
  | succ k1 =>
   have H := HA.out
   clear HA
   simp only [impl_CacheOk.l0] at H
   by_cases c4 : x8_1 < (l0_0.length : Int)
   ·rw [if_pos c4] at H
    have c4b0 : decide (x8_1 < (l0_0.length : Int)) = true := decide_eq_true c4
    clear c4
    by_cases c5 : 0 ≤ x8_1
    ·rw [if_pos c5] at H
     have c5b0 : decide (0 ≤ x8_1) = true := decide_eq_true c5
     clear c5
     by_cases c6 : x8_1 < (l0_0.length : Int)
     ·rw [if_pos c6] at H
      have c6b0 : decide (x8_1 < (l0_0.length : Int)) = true := decide_eq_true c6
      clear c6
      replace H := Option.bind_eq_some_iff.mp H
      obtain ⟨t328, A70, H⟩ := H
      replace H : (if t328 = true then (if x8_1 ≤ (l0_0.length : Int) then ((impl_HoldsGlyph.f k1 (l0_0.take (x8_1 : Int).toNat) 0 0 ((rd_T32 l0_0 x8_1).f0)).bind fun t333 => (if t333 = true then (some false) else (impl_CacheOk.l0 k1 l0_0 (l0_0.length : Int) (wrap64 (x8_1 + 1)) l0_0 a0_1 a0_2))) else (none)) else (some false)) = some r := H
      have A7 := Am A70
      clear A70
      by_cases c8 : t328 = true
      ·subst c8
       have H1 : (if x8_1 ≤ (l0_0.length : Int) then ((impl_HoldsGlyph.f k1 (l0_0.take (x8_1 : Int).toNat) 0 0 ((rd_T32 l0_0 x8_1).f0)).bind fun t333 => (if t333 = true then (some false) else (impl_CacheOk.l0 k1 l0_0 (l0_0.length : Int) (wrap64 (x8_1 + 1)) l0_0 a0_1 a0_2))) else (none)) = some r := by rw [if_pos rfl] at H; exact H
       clear H
       have H := H1
       clear H1
       have c9b0 := eq_true (of_decide_eq_true jzS : 0 ≤ x8_1)
       by_cases c10 : x8_1 ≤ (l0_0.length : Int)
       ·rw [if_pos c10] at H
        have c10b0 := eq_true c10
        have c10b1 : decide (x8_1 ≤ (l0_0.length : Int)) = true := decide_eq_true c10
        clear c10
        obtain ⟨y329, hy329⟩ : ∃ y_ : List (S32), y_ = (l0_0.take (x8_1 : Int).toNat) := ⟨_, rfl⟩
        replace H : ((impl_HoldsGlyph.f k1 y329 0 0 ((rd_T32 l0_0 x8_1).f0)).bind fun t333 => (if t333 = true then (some false) else (impl_CacheOk.l0 k1 l0_0 (l0_0.length : Int) (wrap64 (x8_1 + 1)) l0_0 a0_1 a0_2))) = some r := by first | (rw [hy329]; with_reducible exact H) | (have H2_ := (Option.bind_some _ _).symm.trans H; rw [hy329]; with_reducible exact H2_) | (have H2_ := (Option.bind_some _ _).symm.trans H; with_reducible exact H2_) | with_reducible exact H | (rw [hy329]; exact H) | exact H
        have Ny329 := Am hy329
        clear hy329
        replace H := Option.bind_eq_some_iff.mp H
        obtain ⟨t333, A110, H⟩ := H
        replace H : (if t333 = true then (some false) else (impl_CacheOk.l0 k1 l0_0 (l0_0.length : Int) (wrap64 (x8_1 + 1)) l0_0 a0_1 a0_2)) = some r := H
        have A11 := Am A110
        clear A110
        by_cases c12 : t333 = true
        ·subst c12
         have H1 : (some false) = some r := by rw [if_pos rfl] at H; exact H
         clear H
         have H := H1
         clear H1
         obtain rfl := Option.some.inj H
         have p326 : 0 ≤ (x8_1 : Int) := of_decide_eq_true jzS
         have q326 : x8_1 < (l0_0.length : Int) := of_decide_eq_true jzS
         obtain ⟨ad326, A326_2, c326_2, e326, hx326_0, hx326_1, hx326_2, hl326_2, hi326_2⟩ := at_T32 HR0_0.out x8_1 p326 q326
         cases e326
         replace hx326_0 := (HB.out.cell (World.block_lt_of_cell? w _ hx326_0)).trans hx326_0
         replace hx326_1 := (HB.out.cell (World.block_lt_of_cell? w _ hx326_1)).trans hx326_1
         replace hx326_2 := (HB.out.cell (World.block_lt_of_cell? w _ hx326_2)).trans hx326_2
         have HR326_2 := Am hi326_2
         have HC326_2 := Am hl326_2
         clear hi326_2 hl326_2
         replace p326 := eq_true p326
         replace q326 := eq_true q326
         try go_wp2_with (first | ((with_reducible refine gate_dst (N := 4) rfl ?_); refine box_event ?hg (N := 4) ?hd (cs := #[.int .i64 0, .int .i64 0, .slice none 0 0]) (t := 32) ?hr ?_; (case hd => rfl); (case hg => rfl); (case hr => first | (go_simp; done) | (go_simp; rfl)); intro gb327 hg w13 hbox hb; have n0_ := Am (blk_below (g := gb322) (o := .cells #[.slice (some ad326) l0_0.length c0_0, .int .i64 a0_1, .int .i64 a0_2] 26 (0, 0)) (jzB BK322) hb); have n1_ := Am (below_step (jzG HB) hb); have n2_ := Am (hbox); have n3_ := Am ((by rw [hg]; exact (below_size (jzG HB)) : w.heap.size ≤ gb327)); have n4_ := Am ((by rw [hg]; exact (below_size (jzG HB)) : w.heap.size ≤ gb327)); have n5_ := Am ((by rw [hg]; exact Nat.ne_of_lt (blk_lt (g := gb322) (o := .cells #[.slice (some ad326) l0_0.length c0_0, .int .i64 a0_1, .int .i64 a0_2] 26 (0, 0)) (jzB BK322)) : gb322 ≠ gb327)); have n6_ := Am ((by rw [hg]; exact Nat.ne_of_gt (blk_lt (g := gb322) (o := .cells #[.slice (some ad326) l0_0.length c0_0, .int .i64 a0_1, .int .i64 a0_2] 26 (0, 0)) (jzB BK322)) : gb327 ≠ gb322)); clear BK322; clear HB; have BK322 := n0_; have HB := n1_; have BK327 := n2_; have GW327 := n3_; have GE327 := n4_; have NB322_327 := n5_; have NB327_322 := n6_; clear n0_ n1_ n2_ n3_ n4_ n5_ n6_; clear hb hbox hg; have hnb14 := NB327_322.out; have hnc14 := NB322_327.out; have hcz15_0 : w13.cell? ⟨gb327, 0, none⟩ = some (.int .i64 0) := (b8 BK327.out 0).trans rfl; have hcz15_1 : w13.cell? ⟨gb327, 1, none⟩ = some (.int .i64 0) := (b8 BK327.out 1).trans rfl; have hcz15_2 : w13.cell? ⟨gb327, 2, none⟩ = some (.slice none 0 0) := (b8 BK327.out 2).trans rfl; have hfz15_0 := blk_frozen BK327.out 0; have hfz15_1 := blk_frozen BK327.out 1; have hfz15_2 := blk_frozen BK327.out 2))
         have n0_ : Aside0 ((((w13.setCell ⟨gb327, 0, none⟩ (.int .i64 ((rd_T32 l0_0 x8_1).f0))).setCell ⟨gb327, 1, none⟩ (.int .i64 ((rd_T32 l0_0 x8_1).f1))).setCell ⟨gb327, 2, none⟩ (.slice A326_2 ((rd_T32 l0_0 x8_1).f2).length c326_2)).heap[gb322]? = some (.cells #[.slice (some ad326) l0_0.length c0_0, .int .i64 a0_1, .int .i64 a0_2] 26 (0, 0))) := ⟨by (with_reducible repeat (first | refine b1 ?_ _ | refine b2 ?_ | refine b3 ?_ _)); refine blk_far ?_ NB322_327.out _; (with_reducible repeat (first | refine b1 ?_ _ | refine b2 ?_ | refine b3 ?_ _)); refine blk_far ?_ NB322_327.out _; (with_reducible repeat (first | refine b1 ?_ _ | refine b2 ?_ | refine b3 ?_ _)); refine blk_far ?_ NB322_327.out _; (with_reducible repeat (first | refine b1 ?_ _ | refine b2 ?_ | refine b3 ?_ _)); exact BK322.out⟩
         have n1_ : Aside0 ((((w13.setCell ⟨gb327, 0, none⟩ (.int .i64 ((rd_T32 l0_0 x8_1).f0))).setCell ⟨gb327, 1, none⟩ (.int .i64 ((rd_T32 l0_0 x8_1).f1))).setCell ⟨gb327, 2, none⟩ (.slice A326_2 ((rd_T32 l0_0 x8_1).f2).length c326_2)).heap[gb327]? = some (.cells #[.int .i64 ((rd_T32 l0_0 x8_1).f0), .int .i64 ((rd_T32 l0_0 x8_1).f1), .slice A326_2 ((rd_T32 l0_0 x8_1).f2).length c326_2] 32 (0, 0))) := ⟨by (with_reducible repeat (first | refine b1 ?_ _ | refine b2 ?_ | refine b3 ?_ _)); refine blk_put (cs := #[.int .i64 ((rd_T32 l0_0 x8_1).f0), .int .i64 ((rd_T32 l0_0 x8_1).f1), .slice none 0 0]) ?_ 2 _ rfl; (with_reducible repeat (first | refine b1 ?_ _ | refine b2 ?_ | refine b3 ?_ _)); refine blk_put (cs := #[.int .i64 ((rd_T32 l0_0 x8_1).f0), .int .i64 0, .slice none 0 0]) ?_ 1 _ rfl; (with_reducible repeat (first | refine b1 ?_ _ | refine b2 ?_ | refine b3 ?_ _)); refine blk_put (cs := #[.int .i64 0, .int .i64 0, .slice none 0 0]) ?_ 0 _ rfl; (with_reducible repeat (first | refine b1 ?_ _ | refine b2 ?_ | refine b3 ?_ _)); exact BK327.out⟩
         have n2_ : Aside0 (Below w.heap.size w (((w13.setCell ⟨gb327, 0, none⟩ (.int .i64 ((rd_T32 l0_0 x8_1).f0))).setCell ⟨gb327, 1, none⟩ (.int .i64 ((rd_T32 l0_0 x8_1).f1))).setCell ⟨gb327, 2, none⟩ (.slice A326_2 ((rd_T32 l0_0 x8_1).f2).length c326_2))) := ⟨jzG HB⟩
         (try clear BK322)
         (try clear BK327)
         (try clear HB)
         generalize (((w13.setCell ⟨gb327, 0, none⟩ (.int .i64 ((rd_T32 l0_0 x8_1).f0))).setCell ⟨gb327, 1, none⟩ (.int .i64 ((rd_T32 l0_0 x8_1).f1))).setCell ⟨gb327, 2, none⟩ (.slice A326_2 ((rd_T32 l0_0 x8_1).f2).length c326_2)) = w16 at n0_ n1_ n2_ ⊢
         have BK322 := n0_
         have BK327 := n1_
         have HB := n2_
         clear n0_ n1_ n2_
         have n0_ := Am (b2 BK322.out)
         have n1_ := Am (b2 BK327.out)
         have n2_ := Am (b6 HB.out)
         clear BK322
         clear BK327
         clear HB
         have BK322 := n0_
         have BK327 := n1_
         have HB := n2_
         clear n0_ n1_ n2_
         refine start_ (n := 13) (S := fun w' => w'.cell? ⟨gb327, 0, none⟩ = some (.int .i64 ((rd_T32 l0_0 x8_1).f0)) ∧ w'.cell? ⟨gb327, 1, none⟩ = some (.int .i64 ((rd_T32 l0_0 x8_1).f1)) ∧ w'.cell? ⟨gb327, 2, none⟩ = some (.slice A326_2 ((rd_T32 l0_0 x8_1).f2).length c326_2) ∧ w'.cell? ⟨gb322, 0, none⟩ = some (.slice (some ad326) l0_0.length c0_0) ∧ w'.cell? ⟨gb322, 1, none⟩ = some (.int .i64 a0_1) ∧ w'.cell? ⟨gb322, 2, none⟩ = some (.int .i64 a0_2)) (ds := []) #[F,F,F,F,F,F,F,F,F,F,F,F,F] (by kernel_rfl) rfl rfl ⟨(b8 BK327.out 0).trans rfl, (b8 BK327.out 1).trans rfl, (b8 BK327.out 2).trans rfl, (b8 BK322.out 0).trans rfl, (b8 BK322.out 1).trans rfl, (b8 BK322.out 2).trans rfl⟩ (fun hHeld => ?_); refine with_tabW impl_CacheOk.tab4 impl_CacheOk.bits4 (fun HT_ HW_ => ?_)
         generalize w16.drew = w17 at BK322 BK327 HB hHeld ⊢
         refine take_ (i := 0) (N := some 13) (v := ?_) (a' := ?_) #[T,F,F,F,F,F,F,F,F,F,F,F,F] rfl rfl (take_ofW HT_.out HW_.out (by kernel_rfl)) (fun _ _ _ h => h) (Or.inl ⟨by rfl, ?_⟩) hHeld ?_ ?_
         rotate_left; rintro w' ⟨s0, s1, s2, s3, s4, s5⟩; go_simp; with_reducible rfl; rotate_left; simp only [Act.put, zA, zB, zC, i64_w, i32_w]; rfl
         refine one_ (i := 1) (N := some 14) #[T,T,F,F,F,F,F,F,F,F,F,F,F] rfl rfl (one_of HT_.out (by kernel_rfl)) (by decide) (fun K hK => ?_)
         refine goes_ Try.func39 (by kernel_rfl) rfl #[.agg #[.int .i64 ((rd_T32 l0_0 x8_1).f0), .int .i64 ((rd_T32 l0_0 x8_1).f1), .slice A326_2 ((rd_T32 l0_0 x8_1).f2).length c326_2]] (by rfl) rfl rfl jzA ?_
         with_reducible refine (impl_GlyphOk.calls k1 ((rd_T32 l0_0 x8_1).f0) ((rd_T32 l0_0 x8_1).f1) _ _ ((rd_T32 l0_0 x8_1).f2) true _ ?side1 ?side2 A7.out).mono ?_
         (case side1 => exact jzC HR326_2 HB)
         (case side2 => exact HC326_2.out)
         rintro e w18 ⟨rfl, hb⟩
         refine ⟨_, rfl, ?_⟩
         have n0_ := Am (blk_below (g := gb322) (o := .cells #[.slice (some ad326) l0_0.length c0_0, .int .i64 a0_1, .int .i64 a0_2] 26 (0, 0)) (jzB BK322) hb)
         have n1_ := Am (blk_below (g := gb327) (o := .cells #[.int .i64 ((rd_T32 l0_0 x8_1).f0), .int .i64 ((rd_T32 l0_0 x8_1).f1), .slice A326_2 ((rd_T32 l0_0 x8_1).f2).length c326_2] 32 (0, 0)) (jzB BK327) hb)
         have n2_ := Am (below_step (jzG HB) hb)
         clear BK322
         clear BK327
         clear HB
         have BK322 := n0_
         have BK327 := n1_
         have HB := n2_
         clear n0_ n1_ n2_
         (try clear hb)
         (try clear hb2)
         (try clear hk)
         (try clear hi)
         have q19 : (x8_1 : Int) ≤ ((l0_0.length : Int) : Int) := of_decide_eq_true jzS
         obtain ⟨i019, hi019, _, hsz19, _⟩ := info_parts info32
         have hroom19 : l0_0.length ≤ c0_0 := HC0_0.out
         have hC19 : Kd.C k32 _ (some ad326) l0_0.length l0_0 := HR0_0.out
         have hcut19 := cut_to (P := Try.prog) 24 32 .i64 Try.underlying24 hi019 (some ad326) l0_0.length c0_0 x8_1 (of_decide_eq_true jzS) q19 hroom19
         have hr19 := Kd.C_take (m := (x8_1 : Int).toNat) hC19 (by omega)
         have hy19 : y329.length = (x8_1 : Int).toNat := (by rw [Ny329.out, List.length_take]; omega)
         rw [← Ny329.out] at hr19
         rw [← hy19] at hcut19
         have HR332 := Am hr19
         have HC332 := Am (show y329.length ≤ c0_0 from by omega)
         clear hr19 hC19 hroom19 hi019 hsz19
         have KY19 := Am hy19
         clear hy19
         replace q19 := eq_true q19
         refine hK.out _ _ ⟨(b8 BK327.out 0).trans rfl, (b8 BK327.out 1).trans rfl, (b8 BK327.out 2).trans rfl, (b8 BK322.out 0).trans rfl, (b8 BK322.out 1).trans rfl, (b8 BK322.out 2).trans rfl⟩ (fun hHeld => ?_)
         clear hK K
         refine norm_ (a' := ?_) ?_ ?_
         rotate_left
         ·show Act.put _ (some 14) _ = _
          simp only [Act.put, zA, zB, zC, i64_w, i32_w]
          rfl
         refine pure_ (i := 2) (N := some 15) (v := ?_) (a' := ?_) #[T,T,T,F,F,F,F,F,F,F,F,F,F] rfl rfl (any_of HT_.out (by kernel_rfl)) (fun _ _ _ h => h) (Or.inl ⟨by rfl, ?_⟩) ?_ ?_
         rotate_left; intro w'; go_simp; with_reducible rfl; rotate_left; simp only [Act.put, zA, zB, zC, i64_w, i32_w]; rfl
         refine pure_ (i := 3) (N := some 16) (v := ?_) (a' := ?_) #[T,T,T,T,F,F,F,F,F,F,F,F,F] rfl rfl (any_of HT_.out (by kernel_rfl)) (fun _ _ _ h => h) (Or.inl ⟨by rfl, ?_⟩) ?_ ?_
         rotate_left; intro w'; go_simp; with_reducible rfl; rotate_left; simp only [Act.put, zA, zB, zC, i64_w, i32_w]; rfl
         refine pure_ (i := 4) (N := some 17) (v := ?_) (a' := ?_) #[T,T,T,T,T,F,F,F,F,F,F,F,F] rfl rfl (any_of HT_.out (by kernel_rfl)) (fun _ _ _ h => h) (Or.inl ⟨by rfl, ?_⟩) ?_ ?_
         rotate_left; intro w'; go_simp; with_reducible rfl; rotate_left; simp only [Act.put, zA, zB, zC, i64_w, i32_w]; rfl
         refine pure_ (i := 6) (N := some 19) (v := ?_) (a' := ?_) #[T,T,T,T,T,F,T,F,F,F,F,F,F] rfl rfl (any_of HT_.out (by kernel_rfl)) (fun _ _ _ h => h) (Or.inl ⟨by rfl, ?_⟩) ?_ ?_
         rotate_left; intro w'; go_simp; with_reducible rfl; rotate_left; simp only [Act.put, zA, zB, zC, i64_w, i32_w]; rfl
         refine pure_ (i := 9) (N := some 22) (v := ?_) (a' := ?_) #[T,T,T,T,T,F,T,F,F,T,F,F,F] rfl rfl (any_of HT_.out (by kernel_rfl)) (fun _ _ _ h => h) (Or.inl ⟨by rfl, ?_⟩) ?_ ?_
         rotate_left; intro w'; go_simp; with_reducible rfl; rotate_left; simp only [Act.put, zA, zB, zC, i64_w, i32_w]; rfl
         refine take_ (i := 5) (N := some 18) (v := ?_) (a' := ?_) #[T,T,T,T,T,T,T,F,F,T,F,F,F] rfl rfl (take_ofW HT_.out HW_.out (by kernel_rfl)) (fun _ _ _ h => h) (Or.inl ⟨by rfl, ?_⟩) hHeld ?_ ?_
         rotate_left; rintro w' ⟨s0, s1, s2, s3, s4, s5⟩; go_simp; with_reducible rfl; rotate_left; simp only [Act.put, zA, zB, zC, i64_w, i32_w]; rfl
         refine pure_ (i := 7) (N := some 20) (v := ?_) (a' := ?_) #[T,T,T,T,T,T,T,T,F,T,F,F,F] rfl rfl (any_of HT_.out (by kernel_rfl)) (fun _ _ _ h => h) (Or.inl ⟨by rfl, ?_⟩) ?_ ?_
         rotate_left; intro w'; go_simp; with_reducible rfl; rotate_left; simp only [Act.put, zA, zB, zC, i64_w, i32_w]; rfl
         refine pure_ (i := 8) (N := some 21) (v := ?_) (a' := ?_) #[T,T,T,T,T,T,T,T,T,T,F,F,F] rfl rfl (any_of HT_.out (by kernel_rfl)) (fun _ _ _ h => h) (Or.inl ⟨by rfl, ?_⟩) ?_ ?_
         rotate_left; intro w'; go_simp; with_reducible rfl; rotate_left; simp only [Act.put, zA, zB, zC, i64_w, i32_w]; rfl
         refine take_ (i := 10) (N := some 23) (v := ?_) (a' := ?_) #[T,T,T,T,T,T,T,T,T,T,T,F,F] rfl rfl (take_ofW HT_.out HW_.out (by kernel_rfl)) (fun _ _ _ h => h) (Or.inl ⟨by rfl, ?_⟩) hHeld ?_ ?_
         rotate_left; rintro w' ⟨s0, s1, s2, s3, s4, s5⟩; go_simp; with_reducible rfl; rotate_left; simp only [Act.put, zA, zB, zC, i64_w, i32_w]; rfl
         refine one_ (i := 11) (N := some 24) #[T,T,T,T,T,T,T,T,T,T,T,T,F] rfl rfl (one_of HT_.out (by kernel_rfl)) (by decide) (fun K hK => ?_)
         refine goes_ Try.func12 (by kernel_rfl) rfl #[.agg #[.slice (some ad326) y329.length c0_0, .int .i64 0, .int .i64 0], .int .i64 ((rd_T32 l0_0 x8_1).f0)] (by rfl) rfl rfl jzA ?_
         with_reducible refine (impl_HoldsGlyph.calls k1 _ _ y329 0 0 ((rd_T32 l0_0 x8_1).f0) true _ ?side1 ?side2 A11.out).mono ?_
         (case side1 => exact jzC HR332 HB)
         (case side2 => exact HC332.out)
         rintro e w20 ⟨rfl, hb⟩
         refine ⟨_, rfl, ?_⟩
         have n0_ := Am (blk_below (g := gb322) (o := .cells #[.slice (some ad326) l0_0.length c0_0, .int .i64 a0_1, .int .i64 a0_2] 26 (0, 0)) (jzB BK322) hb)
         have n1_ := Am (blk_below (g := gb327) (o := .cells #[.int .i64 ((rd_T32 l0_0 x8_1).f0), .int .i64 ((rd_T32 l0_0 x8_1).f1), .slice A326_2 ((rd_T32 l0_0 x8_1).f2).length c326_2] 32 (0, 0)) (jzB BK327) hb)
         have n2_ := Am (below_step (jzG HB) hb)
         clear BK322
         clear BK327
         clear HB
         have BK322 := n0_
         have BK327 := n1_
         have HB := n2_
         clear n0_ n1_ n2_
         (try clear hb)
         (try clear hb2)
         (try clear hk)
         (try clear hi)
         refine hK.out _ _ ⟨(b8 BK327.out 0).trans rfl, (b8 BK327.out 1).trans rfl, (b8 BK327.out 2).trans rfl, (b8 BK322.out 0).trans rfl, (b8 BK322.out 1).trans rfl, (b8 BK322.out 2).trans rfl⟩ (fun hHeld => ?_)
         clear hK K
         refine norm_ (a' := ?_) ?_ ?_
         rotate_left
         ·show Act.put _ (some 24) _ = _
          simp only [Act.put, zA, zB, zC, i64_w, i32_w]
          rfl
         refine pure_ (i := 12) (N := some 25) (v := ?_) (a' := ?_) #[T,T,T,T,T,T,T,T,T,T,T,T,T] rfl rfl (any_of HT_.out (by kernel_rfl)) (fun _ _ _ h => h) (Or.inl ⟨by rfl, ?_⟩) ?_ ?_
         rotate_left; intro w'; go_simp; with_reducible rfl; rotate_left; simp only [Act.put, zA, zB, zC, i64_w, i32_w]; rfl
         refine done_ (done_of HT_.out (by kernel_rfl)) ?_
         try go_wp2
         go_ret
         exact ⟨by first | rfl | (simp [errW_none, errW_some] <;> rfl) | (simp [*, errW_none, errW_some] <;> rfl), jzG HB⟩
        ·replace c12 := Bool.eq_false_iff.mpr c12
         subst c12
         have H1 : (impl_CacheOk.l0 k1 l0_0 (l0_0.length : Int) (wrap64 (x8_1 + 1)) l0_0 a0_1 a0_2) = some r := by rw [if_neg (show ¬ (false = true) by decide)] at H; exact H
         clear H
         have H := H1
         clear H1
         have H' := Am H
         clear H
         have p326 : 0 ≤ (x8_1 : Int) := of_decide_eq_true jzS
         have q326 : x8_1 < (l0_0.length : Int) := of_decide_eq_true jzS
         obtain ⟨ad326, A326_2, c326_2, e326, hx326_0, hx326_1, hx326_2, hl326_2, hi326_2⟩ := at_T32 HR0_0.out x8_1 p326 q326
         cases e326
         replace hx326_0 := (HB.out.cell (World.block_lt_of_cell? w _ hx326_0)).trans hx326_0
         replace hx326_1 := (HB.out.cell (World.block_lt_of_cell? w _ hx326_1)).trans hx326_1
         replace hx326_2 := (HB.out.cell (World.block_lt_of_cell? w _ hx326_2)).trans hx326_2
         have HR326_2 := Am hi326_2
         have HC326_2 := Am hl326_2
         clear hi326_2 hl326_2
         replace p326 := eq_true p326
         replace q326 := eq_true q326
         try go_wp2_with (first | ((with_reducible refine gate_dst (N := 4) rfl ?_); refine box_event ?hg (N := 4) ?hd (cs := #[.int .i64 0, .int .i64 0, .slice none 0 0]) (t := 32) ?hr ?_; (case hd => rfl); (case hg => rfl); (case hr => first | (go_simp; done) | (go_simp; rfl)); intro gb327 hg w21 hbox hb; have n0_ := Am (blk_below (g := gb322) (o := .cells #[.slice (some ad326) l0_0.length c0_0, .int .i64 a0_1, .int .i64 a0_2] 26 (0, 0)) (jzB BK322) hb); have n1_ := Am (below_step (jzG HB) hb); have n2_ := Am (hbox); have n3_ := Am ((by rw [hg]; exact (below_size (jzG HB)) : w.heap.size ≤ gb327)); have n4_ := Am ((by rw [hg]; exact (below_size (jzG HB)) : w.heap.size ≤ gb327)); have n5_ := Am ((by rw [hg]; exact Nat.ne_of_lt (blk_lt (g := gb322) (o := .cells #[.slice (some ad326) l0_0.length c0_0, .int .i64 a0_1, .int .i64 a0_2] 26 (0, 0)) (jzB BK322)) : gb322 ≠ gb327)); have n6_ := Am ((by rw [hg]; exact Nat.ne_of_gt (blk_lt (g := gb322) (o := .cells #[.slice (some ad326) l0_0.length c0_0, .int .i64 a0_1, .int .i64 a0_2] 26 (0, 0)) (jzB BK322)) : gb327 ≠ gb322)); clear BK322; clear HB; have BK322 := n0_; have HB := n1_; have BK327 := n2_; have GW327 := n3_; have GE327 := n4_; have NB322_327 := n5_; have NB327_322 := n6_; clear n0_ n1_ n2_ n3_ n4_ n5_ n6_; clear hb hbox hg; have hnb22 := NB327_322.out; have hnc22 := NB322_327.out; have hcz23_0 : w21.cell? ⟨gb327, 0, none⟩ = some (.int .i64 0) := (b8 BK327.out 0).trans rfl; have hcz23_1 : w21.cell? ⟨gb327, 1, none⟩ = some (.int .i64 0) := (b8 BK327.out 1).trans rfl; have hcz23_2 : w21.cell? ⟨gb327, 2, none⟩ = some (.slice none 0 0) := (b8 BK327.out 2).trans rfl; have hfz23_0 := blk_frozen BK327.out 0; have hfz23_1 := blk_frozen BK327.out 1; have hfz23_2 := blk_frozen BK327.out 2))
         have n0_ : Aside0 ((((w21.setCell ⟨gb327, 0, none⟩ (.int .i64 ((rd_T32 l0_0 x8_1).f0))).setCell ⟨gb327, 1, none⟩ (.int .i64 ((rd_T32 l0_0 x8_1).f1))).setCell ⟨gb327, 2, none⟩ (.slice A326_2 ((rd_T32 l0_0 x8_1).f2).length c326_2)).heap[gb322]? = some (.cells #[.slice (some ad326) l0_0.length c0_0, .int .i64 a0_1, .int .i64 a0_2] 26 (0, 0))) := ⟨by (with_reducible repeat (first | refine b1 ?_ _ | refine b2 ?_ | refine b3 ?_ _)); refine blk_far ?_ NB322_327.out _; (with_reducible repeat (first | refine b1 ?_ _ | refine b2 ?_ | refine b3 ?_ _)); refine blk_far ?_ NB322_327.out _; (with_reducible repeat (first | refine b1 ?_ _ | refine b2 ?_ | refine b3 ?_ _)); refine blk_far ?_ NB322_327.out _; (with_reducible repeat (first | refine b1 ?_ _ | refine b2 ?_ | refine b3 ?_ _)); exact BK322.out⟩
         have n1_ : Aside0 ((((w21.setCell ⟨gb327, 0, none⟩ (.int .i64 ((rd_T32 l0_0 x8_1).f0))).setCell ⟨gb327, 1, none⟩ (.int .i64 ((rd_T32 l0_0 x8_1).f1))).setCell ⟨gb327, 2, none⟩ (.slice A326_2 ((rd_T32 l0_0 x8_1).f2).length c326_2)).heap[gb327]? = some (.cells #[.int .i64 ((rd_T32 l0_0 x8_1).f0), .int .i64 ((rd_T32 l0_0 x8_1).f1), .slice A326_2 ((rd_T32 l0_0 x8_1).f2).length c326_2] 32 (0, 0))) := ⟨by (with_reducible repeat (first | refine b1 ?_ _ | refine b2 ?_ | refine b3 ?_ _)); refine blk_put (cs := #[.int .i64 ((rd_T32 l0_0 x8_1).f0), .int .i64 ((rd_T32 l0_0 x8_1).f1), .slice none 0 0]) ?_ 2 _ rfl; (with_reducible repeat (first | refine b1 ?_ _ | refine b2 ?_ | refine b3 ?_ _)); refine blk_put (cs := #[.int .i64 ((rd_T32 l0_0 x8_1).f0), .int .i64 0, .slice none 0 0]) ?_ 1 _ rfl; (with_reducible repeat (first | refine b1 ?_ _ | refine b2 ?_ | refine b3 ?_ _)); refine blk_put (cs := #[.int .i64 0, .int .i64 0, .slice none 0 0]) ?_ 0 _ rfl; (with_reducible repeat (first | refine b1 ?_ _ | refine b2 ?_ | refine b3 ?_ _)); exact BK327.out⟩
         have n2_ : Aside0 (Below w.heap.size w (((w21.setCell ⟨gb327, 0, none⟩ (.int .i64 ((rd_T32 l0_0 x8_1).f0))).setCell ⟨gb327, 1, none⟩ (.int .i64 ((rd_T32 l0_0 x8_1).f1))).setCell ⟨gb327, 2, none⟩ (.slice A326_2 ((rd_T32 l0_0 x8_1).f2).length c326_2))) := ⟨jzG HB⟩
         (try clear BK322)
         (try clear BK327)
         (try clear HB)
         generalize (((w21.setCell ⟨gb327, 0, none⟩ (.int .i64 ((rd_T32 l0_0 x8_1).f0))).setCell ⟨gb327, 1, none⟩ (.int .i64 ((rd_T32 l0_0 x8_1).f1))).setCell ⟨gb327, 2, none⟩ (.slice A326_2 ((rd_T32 l0_0 x8_1).f2).length c326_2)) = w24 at n0_ n1_ n2_ ⊢
         have BK322 := n0_
         have BK327 := n1_
         have HB := n2_
         clear n0_ n1_ n2_
         have n0_ := Am (b2 BK322.out)
         have n1_ := Am (b2 BK327.out)
         have n2_ := Am (b6 HB.out)
         clear BK322
         clear BK327
         clear HB
         have BK322 := n0_
         have BK327 := n1_
         have HB := n2_
         clear n0_ n1_ n2_
         refine start_ (n := 13) (S := fun w' => w'.cell? ⟨gb327, 0, none⟩ = some (.int .i64 ((rd_T32 l0_0 x8_1).f0)) ∧ w'.cell? ⟨gb327, 1, none⟩ = some (.int .i64 ((rd_T32 l0_0 x8_1).f1)) ∧ w'.cell? ⟨gb327, 2, none⟩ = some (.slice A326_2 ((rd_T32 l0_0 x8_1).f2).length c326_2) ∧ w'.cell? ⟨gb322, 0, none⟩ = some (.slice (some ad326) l0_0.length c0_0) ∧ w'.cell? ⟨gb322, 1, none⟩ = some (.int .i64 a0_1) ∧ w'.cell? ⟨gb322, 2, none⟩ = some (.int .i64 a0_2)) (ds := []) #[F,F,F,F,F,F,F,F,F,F,F,F,F] (by kernel_rfl) rfl rfl ⟨(b8 BK327.out 0).trans rfl, (b8 BK327.out 1).trans rfl, (b8 BK327.out 2).trans rfl, (b8 BK322.out 0).trans rfl, (b8 BK322.out 1).trans rfl, (b8 BK322.out 2).trans rfl⟩ (fun hHeld => ?_); refine with_tabW impl_CacheOk.tab4 impl_CacheOk.bits4 (fun HT_ HW_ => ?_)
         generalize w24.drew = w25 at BK322 BK327 HB hHeld ⊢
         refine take_ (i := 0) (N := some 13) (v := ?_) (a' := ?_) #[T,F,F,F,F,F,F,F,F,F,F,F,F] rfl rfl (take_ofW HT_.out HW_.out (by kernel_rfl)) (fun _ _ _ h => h) (Or.inl ⟨by rfl, ?_⟩) hHeld ?_ ?_
         rotate_left; rintro w' ⟨s0, s1, s2, s3, s4, s5⟩; go_simp; with_reducible rfl; rotate_left; simp only [Act.put, zA, zB, zC, i64_w, i32_w]; rfl
         refine one_ (i := 1) (N := some 14) #[T,T,F,F,F,F,F,F,F,F,F,F,F] rfl rfl (one_of HT_.out (by kernel_rfl)) (by decide) (fun K hK => ?_)
         refine goes_ Try.func39 (by kernel_rfl) rfl #[.agg #[.int .i64 ((rd_T32 l0_0 x8_1).f0), .int .i64 ((rd_T32 l0_0 x8_1).f1), .slice A326_2 ((rd_T32 l0_0 x8_1).f2).length c326_2]] (by rfl) rfl rfl jzA ?_
         with_reducible refine (impl_GlyphOk.calls k1 ((rd_T32 l0_0 x8_1).f0) ((rd_T32 l0_0 x8_1).f1) _ _ ((rd_T32 l0_0 x8_1).f2) true _ ?side1 ?side2 A7.out).mono ?_
         (case side1 => exact jzC HR326_2 HB)
         (case side2 => exact HC326_2.out)
         rintro e w26 ⟨rfl, hb⟩
         refine ⟨_, rfl, ?_⟩
         have n0_ := Am (blk_below (g := gb322) (o := .cells #[.slice (some ad326) l0_0.length c0_0, .int .i64 a0_1, .int .i64 a0_2] 26 (0, 0)) (jzB BK322) hb)
         have n1_ := Am (blk_below (g := gb327) (o := .cells #[.int .i64 ((rd_T32 l0_0 x8_1).f0), .int .i64 ((rd_T32 l0_0 x8_1).f1), .slice A326_2 ((rd_T32 l0_0 x8_1).f2).length c326_2] 32 (0, 0)) (jzB BK327) hb)
         have n2_ := Am (below_step (jzG HB) hb)
         clear BK322
         clear BK327
         clear HB
         have BK322 := n0_
         have BK327 := n1_
         have HB := n2_
         clear n0_ n1_ n2_
         (try clear hb)
         (try clear hb2)
         (try clear hk)
         (try clear hi)
         have q27 : (x8_1 : Int) ≤ ((l0_0.length : Int) : Int) := of_decide_eq_true jzS
         obtain ⟨i027, hi027, _, hsz27, _⟩ := info_parts info32
         have hroom27 : l0_0.length ≤ c0_0 := HC0_0.out
         have hC27 : Kd.C k32 _ (some ad326) l0_0.length l0_0 := HR0_0.out
         have hcut27 := cut_to (P := Try.prog) 24 32 .i64 Try.underlying24 hi027 (some ad326) l0_0.length c0_0 x8_1 (of_decide_eq_true jzS) q27 hroom27
         have hr27 := Kd.C_take (m := (x8_1 : Int).toNat) hC27 (by omega)
         have hy27 : y329.length = (x8_1 : Int).toNat := (by rw [Ny329.out, List.length_take]; omega)
         rw [← Ny329.out] at hr27
         rw [← hy27] at hcut27
         have HR332 := Am hr27
         have HC332 := Am (show y329.length ≤ c0_0 from by omega)
         clear hr27 hC27 hroom27 hi027 hsz27
         have KY27 := Am hy27
         clear hy27
         replace q27 := eq_true q27
         refine hK.out _ _ ⟨(b8 BK327.out 0).trans rfl, (b8 BK327.out 1).trans rfl, (b8 BK327.out 2).trans rfl, (b8 BK322.out 0).trans rfl, (b8 BK322.out 1).trans rfl, (b8 BK322.out 2).trans rfl⟩ (fun hHeld => ?_)
         clear hK K
         refine norm_ (a' := ?_) ?_ ?_
         rotate_left
         ·show Act.put _ (some 14) _ = _
          simp only [Act.put, zA, zB, zC, i64_w, i32_w]
          rfl
         refine pure_ (i := 2) (N := some 15) (v := ?_) (a' := ?_) #[T,T,T,F,F,F,F,F,F,F,F,F,F] rfl rfl (any_of HT_.out (by kernel_rfl)) (fun _ _ _ h => h) (Or.inl ⟨by rfl, ?_⟩) ?_ ?_
         rotate_left; intro w'; go_simp; with_reducible rfl; rotate_left; simp only [Act.put, zA, zB, zC, i64_w, i32_w]; rfl
         refine pure_ (i := 3) (N := some 16) (v := ?_) (a' := ?_) #[T,T,T,T,F,F,F,F,F,F,F,F,F] rfl rfl (any_of HT_.out (by kernel_rfl)) (fun _ _ _ h => h) (Or.inl ⟨by rfl, ?_⟩) ?_ ?_
         rotate_left; intro w'; go_simp; with_reducible rfl; rotate_left; simp only [Act.put, zA, zB, zC, i64_w, i32_w]; rfl
         refine pure_ (i := 4) (N := some 17) (v := ?_) (a' := ?_) #[T,T,T,T,T,F,F,F,F,F,F,F,F] rfl rfl (any_of HT_.out (by kernel_rfl)) (fun _ _ _ h => h) (Or.inl ⟨by rfl, ?_⟩) ?_ ?_
         rotate_left; intro w'; go_simp; with_reducible rfl; rotate_left; simp only [Act.put, zA, zB, zC, i64_w, i32_w]; rfl
         refine pure_ (i := 6) (N := some 19) (v := ?_) (a' := ?_) #[T,T,T,T,T,F,T,F,F,F,F,F,F] rfl rfl (any_of HT_.out (by kernel_rfl)) (fun _ _ _ h => h) (Or.inl ⟨by rfl, ?_⟩) ?_ ?_
         rotate_left; intro w'; go_simp; with_reducible rfl; rotate_left; simp only [Act.put, zA, zB, zC, i64_w, i32_w]; rfl
         refine pure_ (i := 9) (N := some 22) (v := ?_) (a' := ?_) #[T,T,T,T,T,F,T,F,F,T,F,F,F] rfl rfl (any_of HT_.out (by kernel_rfl)) (fun _ _ _ h => h) (Or.inl ⟨by rfl, ?_⟩) ?_ ?_
         rotate_left; intro w'; go_simp; with_reducible rfl; rotate_left; simp only [Act.put, zA, zB, zC, i64_w, i32_w]; rfl
         refine take_ (i := 5) (N := some 18) (v := ?_) (a' := ?_) #[T,T,T,T,T,T,T,F,F,T,F,F,F] rfl rfl (take_ofW HT_.out HW_.out (by kernel_rfl)) (fun _ _ _ h => h) (Or.inl ⟨by rfl, ?_⟩) hHeld ?_ ?_
         rotate_left; rintro w' ⟨s0, s1, s2, s3, s4, s5⟩; go_simp; with_reducible rfl; rotate_left; simp only [Act.put, zA, zB, zC, i64_w, i32_w]; rfl
         refine pure_ (i := 7) (N := some 20) (v := ?_) (a' := ?_) #[T,T,T,T,T,T,T,T,F,T,F,F,F] rfl rfl (any_of HT_.out (by kernel_rfl)) (fun _ _ _ h => h) (Or.inl ⟨by rfl, ?_⟩) ?_ ?_
         rotate_left; intro w'; go_simp; with_reducible rfl; rotate_left; simp only [Act.put, zA, zB, zC, i64_w, i32_w]; rfl
         refine pure_ (i := 8) (N := some 21) (v := ?_) (a' := ?_) #[T,T,T,T,T,T,T,T,T,T,F,F,F] rfl rfl (any_of HT_.out (by kernel_rfl)) (fun _ _ _ h => h) (Or.inl ⟨by rfl, ?_⟩) ?_ ?_
         rotate_left; intro w'; go_simp; with_reducible rfl; rotate_left; simp only [Act.put, zA, zB, zC, i64_w, i32_w]; rfl
         refine take_ (i := 10) (N := some 23) (v := ?_) (a' := ?_) #[T,T,T,T,T,T,T,T,T,T,T,F,F] rfl rfl (take_ofW HT_.out HW_.out (by kernel_rfl)) (fun _ _ _ h => h) (Or.inl ⟨by rfl, ?_⟩) hHeld ?_ ?_
         rotate_left; rintro w' ⟨s0, s1, s2, s3, s4, s5⟩; go_simp; with_reducible rfl; rotate_left; simp only [Act.put, zA, zB, zC, i64_w, i32_w]; rfl
         refine one_ (i := 11) (N := some 24) #[T,T,T,T,T,T,T,T,T,T,T,T,F] rfl rfl (one_of HT_.out (by kernel_rfl)) (by decide) (fun K hK => ?_)
         refine goes_ Try.func12 (by kernel_rfl) rfl #[.agg #[.slice (some ad326) y329.length c0_0, .int .i64 0, .int .i64 0], .int .i64 ((rd_T32 l0_0 x8_1).f0)] (by rfl) rfl rfl jzA ?_
         with_reducible refine (impl_HoldsGlyph.calls k1 _ _ y329 0 0 ((rd_T32 l0_0 x8_1).f0) false _ ?side1 ?side2 A11.out).mono ?_
         (case side1 => exact jzC HR332 HB)
         (case side2 => exact HC332.out)
         rintro e w28 ⟨rfl, hb⟩
         refine ⟨_, rfl, ?_⟩
         have n0_ := Am (blk_below (g := gb322) (o := .cells #[.slice (some ad326) l0_0.length c0_0, .int .i64 a0_1, .int .i64 a0_2] 26 (0, 0)) (jzB BK322) hb)
         have n1_ := Am (blk_below (g := gb327) (o := .cells #[.int .i64 ((rd_T32 l0_0 x8_1).f0), .int .i64 ((rd_T32 l0_0 x8_1).f1), .slice A326_2 ((rd_T32 l0_0 x8_1).f2).length c326_2] 32 (0, 0)) (jzB BK327) hb)
         have n2_ := Am (below_step (jzG HB) hb)
         clear BK322
         clear BK327
         clear HB
         have BK322 := n0_
         have BK327 := n1_
         have HB := n2_
         clear n0_ n1_ n2_
         (try clear hb)
         (try clear hb2)
         (try clear hk)
         (try clear hi)
         refine hK.out _ _ ⟨(b8 BK327.out 0).trans rfl, (b8 BK327.out 1).trans rfl, (b8 BK327.out 2).trans rfl, (b8 BK322.out 0).trans rfl, (b8 BK322.out 1).trans rfl, (b8 BK322.out 2).trans rfl⟩ (fun hHeld => ?_)
         clear hK K
         refine norm_ (a' := ?_) ?_ ?_
         rotate_left
         ·show Act.put _ (some 24) _ = _
          simp only [Act.put, zA, zB, zC, i64_w, i32_w]
          rfl
         refine pure_ (i := 12) (N := some 25) (v := ?_) (a' := ?_) #[T,T,T,T,T,T,T,T,T,T,T,T,T] rfl rfl (any_of HT_.out (by kernel_rfl)) (fun _ _ _ h => h) (Or.inl ⟨by rfl, ?_⟩) ?_ ?_
         rotate_left; intro w'; go_simp; with_reducible rfl; rotate_left; simp only [Act.put, zA, zB, zC, i64_w, i32_w]; rfl
         refine done_ (done_of HT_.out (by kernel_rfl)) ?_
         try go_wp2
         go_roundg k1
         case measure => have := HK1.out; omega
         case rel => exact ⟨(wrap64 (x8_1 + 1)), (by first | rfl | (simp; done) | (simp [*]; done)), H', ⟨by have := HK1.out; omega⟩, ⟨by (with_reducible repeat (first | refine b1 ?_ _ | refine b2 ?_ | refine b3 ?_ _)); exact BK322.out⟩, ⟨jzG HB⟩⟩
       ·rw [if_neg c10] at H
        exact absurd H (by simp)
      ·replace c8 := Bool.eq_false_iff.mpr c8
       subst c8
       have H1 : (some false) = some r := by rw [if_neg (show ¬ (false = true) by decide)] at H; exact H
       clear H
       have H := H1
       clear H1
       obtain rfl := Option.some.inj H
       have p326 : 0 ≤ (x8_1 : Int) := of_decide_eq_true jzS
       have q326 : x8_1 < (l0_0.length : Int) := of_decide_eq_true jzS
       obtain ⟨ad326, A326_2, c326_2, e326, hx326_0, hx326_1, hx326_2, hl326_2, hi326_2⟩ := at_T32 HR0_0.out x8_1 p326 q326
       cases e326
       replace hx326_0 := (HB.out.cell (World.block_lt_of_cell? w _ hx326_0)).trans hx326_0
       replace hx326_1 := (HB.out.cell (World.block_lt_of_cell? w _ hx326_1)).trans hx326_1
       replace hx326_2 := (HB.out.cell (World.block_lt_of_cell? w _ hx326_2)).trans hx326_2
       have HR326_2 := Am hi326_2
       have HC326_2 := Am hl326_2
       clear hi326_2 hl326_2
       replace p326 := eq_true p326
       replace q326 := eq_true q326
       try go_wp2_with (first | ((with_reducible refine gate_dst (N := 4) rfl ?_); refine box_event ?hg (N := 4) ?hd (cs := #[.int .i64 0, .int .i64 0, .slice none 0 0]) (t := 32) ?hr ?_; (case hd => rfl); (case hg => rfl); (case hr => first | (go_simp; done) | (go_simp; rfl)); intro gb327 hg w29 hbox hb; have n0_ := Am (blk_below (g := gb322) (o := .cells #[.slice (some ad326) l0_0.length c0_0, .int .i64 a0_1, .int .i64 a0_2] 26 (0, 0)) (jzB BK322) hb); have n1_ := Am (below_step (jzG HB) hb); have n2_ := Am (hbox); have n3_ := Am ((by rw [hg]; exact (below_size (jzG HB)) : w.heap.size ≤ gb327)); have n4_ := Am ((by rw [hg]; exact (below_size (jzG HB)) : w.heap.size ≤ gb327)); have n5_ := Am ((by rw [hg]; exact Nat.ne_of_lt (blk_lt (g := gb322) (o := .cells #[.slice (some ad326) l0_0.length c0_0, .int .i64 a0_1, .int .i64 a0_2] 26 (0, 0)) (jzB BK322)) : gb322 ≠ gb327)); have n6_ := Am ((by rw [hg]; exact Nat.ne_of_gt (blk_lt (g := gb322) (o := .cells #[.slice (some ad326) l0_0.length c0_0, .int .i64 a0_1, .int .i64 a0_2] 26 (0, 0)) (jzB BK322)) : gb327 ≠ gb322)); clear BK322; clear HB; have BK322 := n0_; have HB := n1_; have BK327 := n2_; have GW327 := n3_; have GE327 := n4_; have NB322_327 := n5_; have NB327_322 := n6_; clear n0_ n1_ n2_ n3_ n4_ n5_ n6_; clear hb hbox hg; have hnb30 := NB327_322.out; have hnc30 := NB322_327.out; have hcz31_0 : w29.cell? ⟨gb327, 0, none⟩ = some (.int .i64 0) := (b8 BK327.out 0).trans rfl; have hcz31_1 : w29.cell? ⟨gb327, 1, none⟩ = some (.int .i64 0) := (b8 BK327.out 1).trans rfl; have hcz31_2 : w29.cell? ⟨gb327, 2, none⟩ = some (.slice none 0 0) := (b8 BK327.out 2).trans rfl; have hfz31_0 := blk_frozen BK327.out 0; have hfz31_1 := blk_frozen BK327.out 1; have hfz31_2 := blk_frozen BK327.out 2))
       have n0_ : Aside0 ((((w29.setCell ⟨gb327, 0, none⟩ (.int .i64 ((rd_T32 l0_0 x8_1).f0))).setCell ⟨gb327, 1, none⟩ (.int .i64 ((rd_T32 l0_0 x8_1).f1))).setCell ⟨gb327, 2, none⟩ (.slice A326_2 ((rd_T32 l0_0 x8_1).f2).length c326_2)).heap[gb322]? = some (.cells #[.slice (some ad326) l0_0.length c0_0, .int .i64 a0_1, .int .i64 a0_2] 26 (0, 0))) := ⟨by (with_reducible repeat (first | refine b1 ?_ _ | refine b2 ?_ | refine b3 ?_ _)); refine blk_far ?_ NB322_327.out _; (with_reducible repeat (first | refine b1 ?_ _ | refine b2 ?_ | refine b3 ?_ _)); refine blk_far ?_ NB322_327.out _; (with_reducible repeat (first | refine b1 ?_ _ | refine b2 ?_ | refine b3 ?_ _)); refine blk_far ?_ NB322_327.out _; (with_reducible repeat (first | refine b1 ?_ _ | refine b2 ?_ | refine b3 ?_ _)); exact BK322.out⟩
       have n1_ : Aside0 ((((w29.setCell ⟨gb327, 0, none⟩ (.int .i64 ((rd_T32 l0_0 x8_1).f0))).setCell ⟨gb327, 1, none⟩ (.int .i64 ((rd_T32 l0_0 x8_1).f1))).setCell ⟨gb327, 2, none⟩ (.slice A326_2 ((rd_T32 l0_0 x8_1).f2).length c326_2)).heap[gb327]? = some (.cells #[.int .i64 ((rd_T32 l0_0 x8_1).f0), .int .i64 ((rd_T32 l0_0 x8_1).f1), .slice A326_2 ((rd_T32 l0_0 x8_1).f2).length c326_2] 32 (0, 0))) := ⟨by (with_reducible repeat (first | refine b1 ?_ _ | refine b2 ?_ | refine b3 ?_ _)); refine blk_put (cs := #[.int .i64 ((rd_T32 l0_0 x8_1).f0), .int .i64 ((rd_T32 l0_0 x8_1).f1), .slice none 0 0]) ?_ 2 _ rfl; (with_reducible repeat (first | refine b1 ?_ _ | refine b2 ?_ | refine b3 ?_ _)); refine blk_put (cs := #[.int .i64 ((rd_T32 l0_0 x8_1).f0), .int .i64 0, .slice none 0 0]) ?_ 1 _ rfl; (with_reducible repeat (first | refine b1 ?_ _ | refine b2 ?_ | refine b3 ?_ _)); refine blk_put (cs := #[.int .i64 0, .int .i64 0, .slice none 0 0]) ?_ 0 _ rfl; (with_reducible repeat (first | refine b1 ?_ _ | refine b2 ?_ | refine b3 ?_ _)); exact BK327.out⟩
       have n2_ : Aside0 (Below w.heap.size w (((w29.setCell ⟨gb327, 0, none⟩ (.int .i64 ((rd_T32 l0_0 x8_1).f0))).setCell ⟨gb327, 1, none⟩ (.int .i64 ((rd_T32 l0_0 x8_1).f1))).setCell ⟨gb327, 2, none⟩ (.slice A326_2 ((rd_T32 l0_0 x8_1).f2).length c326_2))) := ⟨jzG HB⟩
       (try clear BK322)
       (try clear BK327)
       (try clear HB)
       generalize (((w29.setCell ⟨gb327, 0, none⟩ (.int .i64 ((rd_T32 l0_0 x8_1).f0))).setCell ⟨gb327, 1, none⟩ (.int .i64 ((rd_T32 l0_0 x8_1).f1))).setCell ⟨gb327, 2, none⟩ (.slice A326_2 ((rd_T32 l0_0 x8_1).f2).length c326_2)) = w32 at n0_ n1_ n2_ ⊢
       have BK322 := n0_
       have BK327 := n1_
       have HB := n2_
       clear n0_ n1_ n2_
       have n0_ := Am (b2 BK322.out)
       have n1_ := Am (b2 BK327.out)
       have n2_ := Am (b6 HB.out)
       clear BK322
       clear BK327
       clear HB
       have BK322 := n0_
       have BK327 := n1_
       have HB := n2_
       clear n0_ n1_ n2_
       refine start_ (n := 13) (S := fun w' => w'.cell? ⟨gb327, 0, none⟩ = some (.int .i64 ((rd_T32 l0_0 x8_1).f0)) ∧ w'.cell? ⟨gb327, 1, none⟩ = some (.int .i64 ((rd_T32 l0_0 x8_1).f1)) ∧ w'.cell? ⟨gb327, 2, none⟩ = some (.slice A326_2 ((rd_T32 l0_0 x8_1).f2).length c326_2)) (ds := []) #[F,F,F,F,F,F,F,F,F,F,F,F,F] (by kernel_rfl) rfl rfl ⟨(b8 BK327.out 0).trans rfl, (b8 BK327.out 1).trans rfl, (b8 BK327.out 2).trans rfl⟩ (fun hHeld => ?_); refine with_tabW impl_CacheOk.tab4 impl_CacheOk.bits4 (fun HT_ HW_ => ?_)
       generalize w32.drew = w33 at BK322 BK327 HB hHeld ⊢
       refine take_ (i := 0) (N := some 13) (v := ?_) (a' := ?_) #[T,F,F,F,F,F,F,F,F,F,F,F,F] rfl rfl (take_ofW HT_.out HW_.out (by kernel_rfl)) (fun _ _ _ h => h) (Or.inl ⟨by rfl, ?_⟩) hHeld ?_ ?_
       rotate_left; rintro w' ⟨s0, s1, s2⟩; go_simp; with_reducible rfl; rotate_left; simp only [Act.put, zA, zB, zC, i64_w, i32_w]; rfl
       refine one_ (i := 1) (N := some 14) #[T,T,F,F,F,F,F,F,F,F,F,F,F] rfl rfl (one_of HT_.out (by kernel_rfl)) (by decide) (fun K hK => ?_)
       refine goes_ Try.func39 (by kernel_rfl) rfl #[.agg #[.int .i64 ((rd_T32 l0_0 x8_1).f0), .int .i64 ((rd_T32 l0_0 x8_1).f1), .slice A326_2 ((rd_T32 l0_0 x8_1).f2).length c326_2]] (by rfl) rfl rfl jzA ?_
       with_reducible refine (impl_GlyphOk.calls k1 ((rd_T32 l0_0 x8_1).f0) ((rd_T32 l0_0 x8_1).f1) _ _ ((rd_T32 l0_0 x8_1).f2) false _ ?side1 ?side2 A7.out).mono ?_
       (case side1 => exact jzC HR326_2 HB)
       (case side2 => exact HC326_2.out)
       rintro e w34 ⟨rfl, hb⟩
       refine ⟨_, rfl, ?_⟩
       have n0_ := Am (blk_below (g := gb322) (o := .cells #[.slice (some ad326) l0_0.length c0_0, .int .i64 a0_1, .int .i64 a0_2] 26 (0, 0)) (jzB BK322) hb)
       have n1_ := Am (blk_below (g := gb327) (o := .cells #[.int .i64 ((rd_T32 l0_0 x8_1).f0), .int .i64 ((rd_T32 l0_0 x8_1).f1), .slice A326_2 ((rd_T32 l0_0 x8_1).f2).length c326_2] 32 (0, 0)) (jzB BK327) hb)
       have n2_ := Am (below_step (jzG HB) hb)
       clear BK322
       clear BK327
       clear HB
       have BK322 := n0_
       have BK327 := n1_
       have HB := n2_
       clear n0_ n1_ n2_
       (try clear hb)
       (try clear hb2)
       (try clear hk)
       (try clear hi)
       refine hK.out _ _ ⟨(b8 BK327.out 0).trans rfl, (b8 BK327.out 1).trans rfl, (b8 BK327.out 2).trans rfl⟩ (fun hHeld => ?_)
       clear hK K
       refine norm_ (a' := ?_) ?_ ?_
       rotate_left
       ·show Act.put _ (some 14) _ = _
        simp only [Act.put, zA, zB, zC, i64_w, i32_w]
        rfl
       refine pure_ (i := 2) (N := some 15) (v := ?_) (a' := ?_) #[T,T,T,F,F,F,F,F,F,F,F,F,F] rfl rfl (any_of HT_.out (by kernel_rfl)) (fun _ _ _ h => h) (Or.inl ⟨by rfl, ?_⟩) ?_ ?_
       rotate_left; intro w'; go_simp; with_reducible rfl; rotate_left; simp only [Act.put, zA, zB, zC, i64_w, i32_w]; rfl
       refine pure_ (i := 3) (N := some 16) (v := ?_) (a' := ?_) #[T,T,T,T,F,F,F,F,F,F,F,F,F] rfl rfl (any_of HT_.out (by kernel_rfl)) (fun _ _ _ h => h) (Or.inl ⟨by rfl, ?_⟩) ?_ ?_
       rotate_left; intro w'; go_simp; with_reducible rfl; rotate_left; simp only [Act.put, zA, zB, zC, i64_w, i32_w]; rfl
       refine pure_ (i := 4) (N := some 17) (v := undef) (a' := ?_) #[T,T,T,T,T,F,F,F,F,F,F,F,F] rfl rfl (any_of HT_.out (by kernel_rfl)) (fun _ _ _ h => h) (Or.inr ⟨by rfl, rfl⟩) ?_ ?_
       rotate_left; simp only [Act.put, zA, zB, zC, i64_w, i32_w]; rfl
       refine pure_ (i := 5) (N := some 18) (v := undef) (a' := ?_) #[T,T,T,T,T,T,F,F,F,F,F,F,F] rfl rfl (any_of HT_.out (by kernel_rfl)) (fun _ _ _ h => h) (Or.inr ⟨by rfl, rfl⟩) ?_ ?_
       rotate_left; simp only [Act.put, zA, zB, zC, i64_w, i32_w]; rfl
       refine pure_ (i := 6) (N := some 19) (v := undef) (a' := ?_) #[T,T,T,T,T,T,T,F,F,F,F,F,F] rfl rfl (any_of HT_.out (by kernel_rfl)) (fun _ _ _ h => h) (Or.inr ⟨by rfl, rfl⟩) ?_ ?_
       rotate_left; simp only [Act.put, zA, zB, zC, i64_w, i32_w]; rfl
       refine pure_ (i := 7) (N := some 20) (v := undef) (a' := ?_) #[T,T,T,T,T,T,T,T,F,F,F,F,F] rfl rfl (any_of HT_.out (by kernel_rfl)) (fun _ _ _ h => h) (Or.inr ⟨by rfl, rfl⟩) ?_ ?_
       rotate_left; simp only [Act.put, zA, zB, zC, i64_w, i32_w]; rfl
       refine pure_ (i := 8) (N := some 21) (v := undef) (a' := ?_) #[T,T,T,T,T,T,T,T,T,F,F,F,F] rfl rfl (any_of HT_.out (by kernel_rfl)) (fun _ _ _ h => h) (Or.inr ⟨by rfl, rfl⟩) ?_ ?_
       rotate_left; simp only [Act.put, zA, zB, zC, i64_w, i32_w]; rfl
       refine pure_ (i := 9) (N := some 22) (v := undef) (a' := ?_) #[T,T,T,T,T,T,T,T,T,T,F,F,F] rfl rfl (any_of HT_.out (by kernel_rfl)) (fun _ _ _ h => h) (Or.inr ⟨by rfl, rfl⟩) ?_ ?_
       rotate_left; simp only [Act.put, zA, zB, zC, i64_w, i32_w]; rfl
       refine pure_ (i := 10) (N := some 23) (v := undef) (a' := ?_) #[T,T,T,T,T,T,T,T,T,T,T,F,F] rfl rfl (any_of HT_.out (by kernel_rfl)) (fun _ _ _ h => h) (Or.inr ⟨by rfl, rfl⟩) ?_ ?_
       rotate_left; simp only [Act.put, zA, zB, zC, i64_w, i32_w]; rfl
       refine pure_ (i := 11) (N := some 24) (v := undef) (a' := ?_) #[T,T,T,T,T,T,T,T,T,T,T,T,F] rfl rfl (any_of HT_.out (by kernel_rfl)) (fun _ _ _ h => h) (Or.inr ⟨by rfl, rfl⟩) ?_ ?_
       rotate_left; simp only [Act.put, zA, zB, zC, i64_w, i32_w]; rfl
       refine pure_ (i := 12) (N := some 25) (v := ?_) (a' := ?_) #[T,T,T,T,T,T,T,T,T,T,T,T,T] rfl rfl (any_of HT_.out (by kernel_rfl)) (fun _ _ _ h => h) (Or.inl ⟨by rfl, ?_⟩) ?_ ?_
       rotate_left; intro w'; go_simp; with_reducible rfl; rotate_left; simp only [Act.put, zA, zB, zC, i64_w, i32_w]; rfl
       refine done_ (done_of HT_.out (by kernel_rfl)) ?_
       try go_wp2
       go_ret
       exact ⟨by first | rfl | (simp [errW_none, errW_some] <;> rfl) | (simp [*, errW_none, errW_some] <;> rfl), jzG HB⟩
     ·rw [if_neg c6] at H
      exact absurd H (by simp)
    ·rw [if_neg c5] at H
     exact absurd H (by simp)
   ·rw [if_neg c4] at H
    have c4b0 : decide (x8_1 < (l0_0.length : Int)) = false := decide_eq_false c4
    clear c4
    replace H := Option.bind_eq_some_iff.mp H
    obtain ⟨t323, A350, H⟩ := H
    replace H : (if t323 ≤ 20 then ((impl_within.f a0_1 0 100000).bind fun t324 => (if t324 = true then ((impl_within.f a0_2 0 100000).bind fun t325 => (some t325)) else (some false))) else (some false)) = some r := H
    have A35 := Am A350
    clear A350
    by_cases c36 : t323 ≤ 20
    ·rw [if_pos c36] at H
     have c36b0 : decide (t323 ≤ 20) = true := decide_eq_true c36
     clear c36
     replace H := Option.bind_eq_some_iff.mp H
     obtain ⟨t324, A370, H⟩ := H
     replace H : (if t324 = true then ((impl_within.f a0_2 0 100000).bind fun t325 => (some t325)) else (some false)) = some r := H
     have A37 := Am A370
     clear A370
     by_cases c38 : t324 = true
     ·subst c38
      have H1 : ((impl_within.f a0_2 0 100000).bind fun t325 => (some t325)) = some r := by rw [if_pos rfl] at H; exact H
      clear H
      have H := H1
      clear H1
      replace H := Option.bind_eq_some_iff.mp H
      obtain ⟨t325, A390, H⟩ := H
      replace H : (some t325) = some r := H
      have A39 := Am A390
      clear A390
      obtain rfl := Option.some.inj H
      have hcz40_0 : wr.cell? ⟨gb322, 0, none⟩ = some (.slice A0_0 l0_0.length c0_0) := (b8 BK322.out 0).trans rfl
      have hcz40_1 : wr.cell? ⟨gb322, 1, none⟩ = some (.int .i64 a0_1) := (b8 BK322.out 1).trans rfl
      have hcz40_2 : wr.cell? ⟨gb322, 2, none⟩ = some (.int .i64 a0_2) := (b8 BK322.out 2).trans rfl
      have hfz40_0 := blk_frozen BK322.out 0
      have hfz40_1 := blk_frozen BK322.out 1
      have hfz40_2 := blk_frozen BK322.out 2
      go_wp2_with (first | ((with_reducible refine gate_callee (f := 17) rfl ?_); refine goesL_ (some 28) rfl rfl Try.func17 (by kernel_rfl) rfl #[.agg #[.slice A0_0 l0_0.length c0_0, .int .i64 a0_1, .int .i64 a0_2]] rfl jzA ?_; (with_reducible refine (impl_CacheSize.calls k1 _ _ l0_0 a0_1 a0_2 t323 _ ?side1 ?side2 A35.out).mono ?_); (case side1 => exact jzC HR0_0 HB); (case side2 => exact HC0_0.out); rintro e w41 ⟨rfl, hb⟩; refine ⟨_, rfl, ?_⟩; have n0_ := Am (blk_below (g := gb322) (o := .cells #[.slice A0_0 l0_0.length c0_0, .int .i64 a0_1, .int .i64 a0_2] 26 (0, 0)) (jzB BK322) hb); have n1_ := Am (below_step (jzG HB) hb); clear BK322; clear HB; have BK322 := n0_; have HB := n1_; clear n0_ n1_; (try clear hb); (try clear hb2); (try clear hk); (try clear hi); have hcz42_0 : w41.cell? ⟨gb322, 0, none⟩ = some (.slice A0_0 l0_0.length c0_0) := (b8 BK322.out 0).trans rfl; have hcz42_1 : w41.cell? ⟨gb322, 1, none⟩ = some (.int .i64 a0_1) := (b8 BK322.out 1).trans rfl; have hcz42_2 : w41.cell? ⟨gb322, 2, none⟩ = some (.int .i64 a0_2) := (b8 BK322.out 2).trans rfl; have hfz42_0 := blk_frozen BK322.out 0; have hfz42_1 := blk_frozen BK322.out 1; have hfz42_2 := blk_frozen BK322.out 2) | (go_at_call 40; (with_reducible refine (impl_within.calls a0_1 0 100000 true _ A37.out).mono ?_); rintro e w' ⟨rfl, ⟨nd, rfl⟩⟩) | (go_at_call 40; (with_reducible refine (impl_within.calls a0_2 0 100000 t325 _ A39.out).mono ?_); rintro e w' ⟨rfl, ⟨nd, rfl⟩⟩))
      go_ret
      exact ⟨by first | rfl | (simp [errW_none, errW_some] <;> rfl) | (simp [*, errW_none, errW_some] <;> rfl), jzG HB⟩
     ·replace c38 := Bool.eq_false_iff.mpr c38
      subst c38
      have H1 : (some false) = some r := by rw [if_neg (show ¬ (false = true) by decide)] at H; exact H
      clear H
      have H := H1
      clear H1
      obtain rfl := Option.some.inj H
      have hcz43_0 : wr.cell? ⟨gb322, 0, none⟩ = some (.slice A0_0 l0_0.length c0_0) := (b8 BK322.out 0).trans rfl
      have hcz43_1 : wr.cell? ⟨gb322, 1, none⟩ = some (.int .i64 a0_1) := (b8 BK322.out 1).trans rfl
      have hcz43_2 : wr.cell? ⟨gb322, 2, none⟩ = some (.int .i64 a0_2) := (b8 BK322.out 2).trans rfl
      have hfz43_0 := blk_frozen BK322.out 0
      have hfz43_1 := blk_frozen BK322.out 1
      have hfz43_2 := blk_frozen BK322.out 2
      go_wp2_with (first | ((with_reducible refine gate_callee (f := 17) rfl ?_); refine goesL_ (some 28) rfl rfl Try.func17 (by kernel_rfl) rfl #[.agg #[.slice A0_0 l0_0.length c0_0, .int .i64 a0_1, .int .i64 a0_2]] rfl jzA ?_; (with_reducible refine (impl_CacheSize.calls k1 _ _ l0_0 a0_1 a0_2 t323 _ ?side1 ?side2 A35.out).mono ?_); (case side1 => exact jzC HR0_0 HB); (case side2 => exact HC0_0.out); rintro e w44 ⟨rfl, hb⟩; refine ⟨_, rfl, ?_⟩; have n0_ := Am (blk_below (g := gb322) (o := .cells #[.slice A0_0 l0_0.length c0_0, .int .i64 a0_1, .int .i64 a0_2] 26 (0, 0)) (jzB BK322) hb); have n1_ := Am (below_step (jzG HB) hb); clear BK322; clear HB; have BK322 := n0_; have HB := n1_; clear n0_ n1_; (try clear hb); (try clear hb2); (try clear hk); (try clear hi); have hcz45_0 : w44.cell? ⟨gb322, 0, none⟩ = some (.slice A0_0 l0_0.length c0_0) := (b8 BK322.out 0).trans rfl; have hcz45_1 : w44.cell? ⟨gb322, 1, none⟩ = some (.int .i64 a0_1) := (b8 BK322.out 1).trans rfl; have hcz45_2 : w44.cell? ⟨gb322, 2, none⟩ = some (.int .i64 a0_2) := (b8 BK322.out 2).trans rfl; have hfz45_0 := blk_frozen BK322.out 0; have hfz45_1 := blk_frozen BK322.out 1; have hfz45_2 := blk_frozen BK322.out 2) | (go_at_call 40; (with_reducible refine (impl_within.calls a0_1 0 100000 false _ A37.out).mono ?_); rintro e w' ⟨rfl, ⟨nd, rfl⟩⟩))
      go_ret
      exact ⟨by first | rfl | (simp [errW_none, errW_some] <;> rfl) | (simp [*, errW_none, errW_some] <;> rfl), jzG HB⟩
    ·rw [if_neg c36] at H
     have c36b0 : decide (t323 ≤ 20) = false := decide_eq_false c36
     clear c36
     obtain rfl := Option.some.inj H
     have hcz46_0 : wr.cell? ⟨gb322, 0, none⟩ = some (.slice A0_0 l0_0.length c0_0) := (b8 BK322.out 0).trans rfl
     have hcz46_1 : wr.cell? ⟨gb322, 1, none⟩ = some (.int .i64 a0_1) := (b8 BK322.out 1).trans rfl
     have hcz46_2 : wr.cell? ⟨gb322, 2, none⟩ = some (.int .i64 a0_2) := (b8 BK322.out 2).trans rfl
     have hfz46_0 := blk_frozen BK322.out 0
     have hfz46_1 := blk_frozen BK322.out 1
     have hfz46_2 := blk_frozen BK322.out 2
     go_wp2_with (first | ((with_reducible refine gate_callee (f := 17) rfl ?_); refine goesL_ (some 28) rfl rfl Try.func17 (by kernel_rfl) rfl #[.agg #[.slice A0_0 l0_0.length c0_0, .int .i64 a0_1, .int .i64 a0_2]] rfl jzA ?_; (with_reducible refine (impl_CacheSize.calls k1 _ _ l0_0 a0_1 a0_2 t323 _ ?side1 ?side2 A35.out).mono ?_); (case side1 => exact jzC HR0_0 HB); (case side2 => exact HC0_0.out); rintro e w47 ⟨rfl, hb⟩; refine ⟨_, rfl, ?_⟩; have n0_ := Am (blk_below (g := gb322) (o := .cells #[.slice A0_0 l0_0.length c0_0, .int .i64 a0_1, .int .i64 a0_2] 26 (0, 0)) (jzB BK322) hb); have n1_ := Am (below_step (jzG HB) hb); clear BK322; clear HB; have BK322 := n0_; have HB := n1_; clear n0_ n1_; (try clear hb); (try clear hb2); (try clear hk); (try clear hi)))
     go_ret
     exact ⟨by first | rfl | (simp [errW_none, errW_some] <;> rfl) | (simp [*, errW_none, errW_some] <;> rfl), jzG HB⟩

/-! ### slices_Clone_int_int: function 54 -/
def slices_Clone_int_int.f (l0 : List Int) : Option (List Int) := (some (([] : List Int) : List Int)).bind fun y334 => (if y334.length + l0.length < 17592186044416 then (some (y334 ++ l0)) else (none))
set_option maxHeartbeats 8000000 in
set_option maxRecDepth 100000 in
theorem slices_Clone_int_int.calls (A0 : Option Addr) (c0 : Nat) (l0 : List Int) (r : List Int) (w : World) (hr0 : Kd.C (Kd.int .i64) w A0 l0.length l0) (hc0 : l0.length ≤ c0) (h : slices_Clone_int_int.f l0 = some r) :
  Calls Try.prog 54 #[.slice A0 l0.length c0] w fun e w' => ∃ v0_ : Value, e = .returned (v0_) ∧ Kd.R (Kd.int .i64) 3 w' w.heap.size (fun _ => True) v0_ r ∧ Below w.heap.size w w' := by
 have HR0 := Am hr0
 have HC0 := Am hc0
 clear hr0 hc0
 have HB := Am (Below.refl w.heap.size w)
 have H : ((some (([] : List Int) : List Int)).bind fun y334 => (if y334.length + l0.length < 17592186044416 then (some (y334 ++ l0)) else (none))) = some r := h
 clear h
 obtain ⟨y334, hy334⟩ : ∃ y_ : List Int, y_ = (([] : List Int)) := ⟨_, rfl⟩
 replace H : (if y334.length + l0.length < 17592186044416 then (some (y334 ++ l0)) else (none)) = some r := by first | (rw [hy334]; with_reducible exact H) | (have H2_ := (Option.bind_some _ _).symm.trans H; rw [hy334]; with_reducible exact H2_) | (have H2_ := (Option.bind_some _ _).symm.trans H; with_reducible exact H2_) | with_reducible exact H | (rw [hy334]; exact H) | exact H
 have Ny334 := Am hy334
 clear hy334
 by_cases c2 : y334.length + l0.length < 17592186044416
 ·rw [if_pos c2] at H
  have LMc2 := Am c2
  clear c2
  obtain ⟨y337, hy337⟩ : ∃ y_ : List Int, y_ = (y334 ++ l0) := ⟨_, rfl⟩
  replace H : (some y337) = some r := by first | (rw [hy337]; with_reducible exact H) | (have H2_ := (Option.bind_some _ _).symm.trans H; rw [hy337]; with_reducible exact H2_) | (have H2_ := (Option.bind_some _ _).symm.trans H; with_reducible exact H2_) | with_reducible exact H | (rw [hy337]; exact H) | exact H
  have Ny337 := Am hy337
  clear hy337
  obtain rfl := Option.some.inj H
  have q_ : ∀ (w : World) (a : Option Addr) (n c n' c' : Nat), (binOp .eql 29 (.slice a n c) (.slice none n' c')).run Try.prog w = .ok (.bool a.isNone) w := fun w a n c n' c' => Lib.run_eql_slice_nil w _ _ a n c n' c' Try.underlying29
  cases A0 with
  | none =>
   have hl : l0 = [] := by
    rcases Nat.eq_zero_or_pos l0.length with h0 | h0
    ·exact List.length_eq_zero_iff.1 h0
    ·obtain ⟨ad, h1, _⟩ := HR0.out.2.2 h0
     cases h1
   go_enter Try.func54, Try.ntmps54
   go_wp2
   go_ret
   have e0 := Ny334.out
   have e1 := Ny337.out
   subst e0
   subst e1
   subst hl
   exact ⟨_, rfl, Kd.R_nil _ _ _ _ _, HB.out⟩
  | some ad =>
   go_enter Try.func54, Try.ntmps54
   go_wp2_with (first | ((with_reducible refine gate_dst (N := 5) rfl ?_); refine Kd.R_lit (Kd.int .i64) _ 3 ?hg (N := 5) ?hd (xs := ([] : List Int)) (inner := []) (ok := fun _ => True) (okp := fun _ => True) ?hr ?hp (fun _ hk => hk) trivial (Below.refl _ _) (Nat.le_refl _) (by simp) ?_; (case hd => rfl); (case hg => rfl); (case hr => first | (go_simp; done) | (go_simp; rfl)); (case hp => exact (Reps.none _ _)); intro v335 w3 ho4 hb hg_ hnew_; clear hg_ hnew_; (first | rw [← Ny334.out] at ho4 | (simp only [Int.reduceToNat] at ho4; rw [← Ny334.out] at ho4)); have n0_ := Am (Kd.R_lower ho4 (below_size (jzH HB))); have n1_ := Am (below_step (jzH HB) hb); clear HB; have HO336 := n0_; have HB := n1_; clear n0_ n1_; clear hb ho4) | ((with_reducible refine gate_builtin (b := .append) (xs := #[.tmp 5, .tmp 6]) rfl ?_); at_builtin; refine Kd.R_append_rows (Kd.int .i64) (w0 := w) w.heap.size rfl (.tmp 5) (.tmp 6) 29 3 (.int .i64 0) 8 rfl Try.underlying29 info3 rfl (by decide) (by omega) v335 y334 l0 _ _ _ (fun _ => True) (fun _ => False) rfl rfl ?aO ?aR (fun _ _ h => h) (fun _ h => h.elim) ?aF ?aB ?aS ?aL ?_; (case aR => exact jzC HR0 HB); (case aB => exact (jzH HB)); (case aF => exact (fun _ _ => trivial)); (case aO => exact (jzR HO336)); (case aS => exact (below_size (jzH HB))); (case aL => have := LMc2.out; omega); intro v338 w5 ho hb hg hat; rw [← Ny337.out] at ho; have n0_ := Am (hb); have n1_ := Am (ho); clear HB; clear HO336; have HB := n0_; have HO339 := n1_; clear n0_ n1_; clear ho hb hg hat))
   go_ret
   exact ⟨_, by first | rfl | (simp [errW_none, errW_some] <;> rfl) | (simp [*, errW_none, errW_some] <;> rfl), by (with_reducible repeat (first | apply Kd.R_alloc | apply Kd.R_drewN | apply Kd.R_drew)); exact HO339.out, jzH HB⟩
 ·rw [if_neg c2] at H
  exact absurd H (by simp)

/-! ### impl_copyGlyph: function 38 -/
def impl_copyGlyph.f (a0_0 : Int) (a0_1 : Int) (l0_2 : List Int) : Option (Int × Int × List Int) := (slices_Clone_int_int.f l0_2).bind fun t342 => (some (a0_0, a0_1, t342))
set_option maxHeartbeats 8000000 in
set_option maxRecDepth 100000 in
theorem impl_copyGlyph.calls (a0_0 : Int) (a0_1 : Int) (A0_2 : Option Addr) (c0_2 : Nat) (l0_2 : List Int) (r1 : Int) (r2 : Int) (r3 : List Int) (w : World) (hr0_2 : Kd.C (Kd.int .i64) w A0_2 l0_2.length l0_2) (hc0_2 : l0_2.length ≤ c0_2) (h : impl_copyGlyph.f a0_0 a0_1 l0_2 = some (r1, r2, r3)) :
  Calls Try.prog 38 #[.agg #[.int .i64 a0_0, .int .i64 a0_1, .slice A0_2 l0_2.length c0_2]] w fun e w' => ∃ v2_ : Value, e = .returned (.agg #[.int .i64 r1, .int .i64 r2, v2_]) ∧ Kd.R (Kd.int .i64) 3 w' w.heap.size (fun _ => True) v2_ r3 ∧ Below w.heap.size w w' := by
 have hu32 := Try.underlying32
 have HR0_2 := Am hr0_2
 have HC0_2 := Am hc0_2
 clear hr0_2 hc0_2
 have HB := Am (Below.refl w.heap.size w)
 have H : ((slices_Clone_int_int.f l0_2).bind fun t342 => (some (a0_0, a0_1, t342))) = some (r1, r2, r3) := h
 clear h
 replace H := Option.bind_eq_some_iff.mp H
 obtain ⟨t342, A20, H⟩ := H
 replace H : (some (a0_0, a0_1, t342)) = some (r1, r2, r3) := H
 have A2 := Am A20
 clear A20
 simp only [Option.some.injEq, Prod.mk.injEq] at H
 obtain ⟨rfl, rfl, rfl⟩ := H
 go_enter Try.func38, Try.ntmps38
 go_wp2_with (first | ((with_reducible refine gate_dst (N := 1) rfl ?_); refine box_event ?hg (N := 1) ?hd (cs := #[.int .i64 a0_0, .int .i64 a0_1, .slice A0_2 l0_2.length c0_2]) (t := 32) ?hr ?_; (case hd => rfl); (case hg => rfl); (case hr => first | (go_simp; done) | (go_simp; rfl)); intro gb340 hg w3 hbox hb; have n0_ := Am (below_step (jzH HB) hb); have n1_ := Am (hbox); have n2_ := Am ((by rw [hg]; exact (below_size (jzH HB)) : w.heap.size ≤ gb340)); have n3_ := Am ((by rw [hg]; exact (below_size (jzH HB)) : w.heap.size ≤ gb340)); clear HB; have HB := n0_; have BK340 := n1_; have GW340 := n2_; have GE340 := n3_; clear n0_ n1_ n2_ n3_; clear hb hbox hg) | ((with_reducible refine gate_dst (N := 2) rfl ?_); refine box_event ?hg (N := 2) ?hd (cs := #[.int .i64 0, .int .i64 0, .slice none 0 0]) (t := 32) ?hr ?_; (case hd => rfl); (case hg => rfl); (case hr => first | (go_simp; done) | (go_simp; rfl)); intro gb341 hg w4 hbox hb; have n0_ := Am (blk_below (g := gb340) (o := .cells #[.int .i64 a0_0, .int .i64 a0_1, .slice A0_2 l0_2.length c0_2] 32 (0, 0)) (jzB BK340) hb); have n1_ := Am (below_step (jzG HB) hb); have n2_ := Am (hbox); have n3_ := Am ((by rw [hg]; exact (below_size (jzG HB)) : w.heap.size ≤ gb341)); have n4_ := Am ((by rw [hg]; exact (below_size (jzG HB)) : w.heap.size ≤ gb341)); have n5_ := Am ((by rw [hg]; exact Nat.ne_of_lt (blk_lt (g := gb340) (o := .cells #[.int .i64 a0_0, .int .i64 a0_1, .slice A0_2 l0_2.length c0_2] 32 (0, 0)) (jzB BK340)) : gb340 ≠ gb341)); have n6_ := Am ((by rw [hg]; exact Nat.ne_of_gt (blk_lt (g := gb340) (o := .cells #[.int .i64 a0_0, .int .i64 a0_1, .slice A0_2 l0_2.length c0_2] 32 (0, 0)) (jzB BK340)) : gb341 ≠ gb340)); clear BK340; clear HB; have BK340 := n0_; have HB := n1_; have BK341 := n2_; have GW341 := n3_; have GE341 := n4_; have NB340_341 := n5_; have NB341_340 := n6_; clear n0_ n1_ n2_ n3_ n4_ n5_ n6_; clear hb hbox hg; have hnb5 := NB340_341.out; have hnc5 := NB341_340.out; have hcz6_0 : w4.cell? ⟨gb340, 0, none⟩ = some (.int .i64 a0_0) := (b8 BK340.out 0).trans rfl; have hcz6_1 : w4.cell? ⟨gb340, 1, none⟩ = some (.int .i64 a0_1) := (b8 BK340.out 1).trans rfl; have hcz6_2 : w4.cell? ⟨gb340, 2, none⟩ = some (.slice A0_2 l0_2.length c0_2) := (b8 BK340.out 2).trans rfl; have hfz6_0 := blk_frozen BK340.out 0; have hfz6_1 := blk_frozen BK340.out 1; have hfz6_2 := blk_frozen BK340.out 2) | ((with_reducible refine gate_callee (f := 54) rfl ?_); refine goesL_ (some 5) rfl rfl Try.func54 (by kernel_rfl) rfl #[.slice A0_2 l0_2.length c0_2] rfl jzA ?_; (with_reducible refine (slices_Clone_int_int.calls _ _ l0_2 t342 _ ?side1 ?side2 A2.out).mono ?_); (case side1 => exact jzC HR0_2 HB); (case side2 => exact HC0_2.out); rintro e w7 ⟨v343, rfl, ho0, hb⟩; refine ⟨_, rfl, ?_⟩; have n0_ := Am (Kd.R_lower ho0 (below_size (jzG HB))); have n1_ := Am (blk_below (g := gb340) (o := .cells #[.int .i64 a0_0, .int .i64 a0_1, .slice A0_2 l0_2.length c0_2] 32 (0, 0)) (jzB BK340) hb); have n2_ := Am (blk_below (g := gb341) (o := .cells #[.int .i64 0, .int .i64 0, .slice none 0 0] 32 (0, 0)) (jzB BK341) hb); have n3_ := Am (below_step (jzG HB) hb); clear BK340; clear BK341; clear HB; have HO344 := n0_; have BK340 := n1_; have BK341 := n2_; have HB := n3_; clear n0_ n1_ n2_ n3_; (try clear hb); (try clear hb2); (try clear hk); (try clear hi); (try clear ho0); obtain ⟨Ao8, co8, eo8⟩ := Kd.R_slice HO344.out; subst eo8; have hcz9_0 : w7.cell? ⟨gb340, 0, none⟩ = some (.int .i64 a0_0) := (b8 BK340.out 0).trans rfl; have hcz9_1 : w7.cell? ⟨gb340, 1, none⟩ = some (.int .i64 a0_1) := (b8 BK340.out 1).trans rfl; have hcz9_2 : w7.cell? ⟨gb340, 2, none⟩ = some (.slice A0_2 l0_2.length c0_2) := (b8 BK340.out 2).trans rfl; have hfz9_0 := blk_frozen BK340.out 0; have hfz9_1 := blk_frozen BK340.out 1; have hfz9_2 := blk_frozen BK340.out 2; have hcz10_0 : w7.cell? ⟨gb341, 0, none⟩ = some (.int .i64 0) := (b8 BK341.out 0).trans rfl; have hcz10_1 : w7.cell? ⟨gb341, 1, none⟩ = some (.int .i64 0) := (b8 BK341.out 1).trans rfl; have hcz10_2 : w7.cell? ⟨gb341, 2, none⟩ = some (.slice none 0 0) := (b8 BK341.out 2).trans rfl; have hfz10_0 := blk_frozen BK341.out 0; have hfz10_1 := blk_frozen BK341.out 1; have hfz10_2 := blk_frozen BK341.out 2))
 refine bodyPost_ret (results_cell_row rfl _ _ gb341 32 #[.int .i64 a0_0, .int .i64 a0_1, .slice Ao8 t342.length co8] (0, 0) _ rfl (by (with_reducible repeat (first | refine b1 ?_ _ | refine b2 ?_ | refine b3 ?_ _)); refine blk_put (cs := #[.int .i64 a0_0, .int .i64 a0_1, .slice none 0 0]) ?_ 2 _ rfl; (with_reducible repeat (first | refine b1 ?_ _ | refine b2 ?_ | refine b3 ?_ _)); refine blk_put (cs := #[.int .i64 a0_0, .int .i64 0, .slice none 0 0]) ?_ 1 _ rfl; (with_reducible repeat (first | refine b1 ?_ _ | refine b2 ?_ | refine b3 ?_ _)); refine blk_put (cs := #[.int .i64 0, .int .i64 0, .slice none 0 0]) ?_ 0 _ rfl; (with_reducible repeat (first | refine b1 ?_ _ | refine b2 ?_ | refine b3 ?_ _)); refine blk_far ?_ NB341_340.out _; (with_reducible repeat (first | refine b1 ?_ _ | refine b2 ?_ | refine b3 ?_ _)); exact BK341.out) Try.underlying32 rfl (by kernel_rfl)) rfl ?_
 exact ⟨_, by first | rfl | (simp [errW_none, errW_some] <;> rfl) | (simp [*, errW_none, errW_some] <;> rfl), by (with_reducible repeat (first | apply Kd.R_alloc | apply Kd.R_drewN | apply Kd.R_drew)); exact Kd.R_mono (Kd.R_far (p := ⟨gb341, 2, none⟩) (Kd.R_far (p := ⟨gb341, 1, none⟩) (Kd.R_far (p := ⟨gb341, 0, none⟩) (Kd.R_far (p := ⟨gb340, 2, none⟩) (Kd.R_types (Kd.R_types HO344.out BK340.out (by decide)) BK341.out (by decide)) (fun _ hk => hk.1.2) (.slice Ao8 t342.length co8)) (fun _ hk => hk.2) (.int .i64 a0_0)) (fun _ hk => hk.2) (.int .i64 a0_1)) (fun _ hk => hk.2) (.slice Ao8 t342.length co8)) (fun _ hk => trivial), jzG HB⟩

end Go.Proofs.Ytphjcllhlecpfaa.PFnCaches
