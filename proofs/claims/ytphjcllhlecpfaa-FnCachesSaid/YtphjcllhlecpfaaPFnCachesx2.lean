/- Written by a program of this session (a turned copy of the kit's printer): what each Go function answers, and that it does. -/
import Derived.Test.YtphjcllhlecpfaaPFnCachesx0
import Derived.Test.YtphjcllhlecpfaaPFnCachesx1
namespace Go.Proofs.Ytphjcllhlecpfaa.PFnCaches
open Go.RowKit Go.Proofs.YtphjcllhlecpfaaW.PrintWords Go.Proofs.YtphjcllhlecpfaaW.PrintLast Go.Proofs.YtphjcllhlecpfaaW.PrintMore
attribute [local go_sem] Go.Proofs.Ytphjcllhlecpfaa.Cells.cell_set_at max2_int min2_int max_two min_two max_three min_three max_four min_four   -- for this text's walks alone
set_option linter.unusedVariables false
set_option linter.unusedSimpArgs false

/-! ### spec_l25Glyph: function 46 -/
def spec_l25Glyph.f (a0_0 : Int) (a0_1 : Int) (l0_2 : List Int) : Option (Int × Int × List Int) := (spec_l05Copy.f l0_2).bind fun t159 => (some (a0_0, a0_1, t159))
def spec_l25Glyph.T1 : Bool × List (List Nat × List Nat) := (true, [([], []), ([0], [0]), ([], []), ([2], [2]), ([], []), ([4], [4]), ([5], [5]), ([1, 3, 6], [1, 3, 6]), ([7, 6, 0, 1, 2, 3, 4, 5, 6, 7], [7])])
def spec_l25Glyph.B1 : List Nat := [0, 1, 0, 4, 0, 16, 48, 127, 255]
theorem spec_l25Glyph.tab1 : rtab .any (opsOf Try.f46 1) = spec_l25Glyph.T1 := by kernel_rfl
theorem spec_l25Glyph.bits1 : waitsOk spec_l25Glyph.T1.2 spec_l25Glyph.B1 = true := by kernel_rfl
set_option maxHeartbeats 8000000 in
set_option maxRecDepth 100000 in
theorem spec_l25Glyph.calls (a0_0 : Int) (a0_1 : Int) (A0_2 : Option Addr) (c0_2 : Nat) (l0_2 : List Int) (r1 : Int) (r2 : Int) (r3 : List Int) (w : World) (hr0_2 : Kd.C (Kd.int .i64) w A0_2 l0_2.length l0_2) (hc0_2 : l0_2.length ≤ c0_2) (h : spec_l25Glyph.f a0_0 a0_1 l0_2 = some (r1, r2, r3)) :
  Calls Try.prog 46 #[.agg #[.int .i64 a0_0, .int .i64 a0_1, .slice A0_2 l0_2.length c0_2]] w fun e w' => ∃ v2_ : Value, e = .returned (.agg #[.int .i64 r1, .int .i64 r2, v2_]) ∧ Kd.R (Kd.int .i64) 3 w' w.heap.size (fun _ => True) v2_ r3 ∧ Below w.heap.size w w' := by
 have hu32 := Try.underlying32
 have HR0_2 := Am hr0_2
 have HC0_2 := Am hc0_2
 clear hr0_2 hc0_2
 have HB := Am (Below.refl w.heap.size w)
 have H : ((spec_l05Copy.f l0_2).bind fun t159 => (some (a0_0, a0_1, t159))) = some (r1, r2, r3) := h
 clear h
 replace H := Option.bind_eq_some_iff.mp H
 obtain ⟨t159, A20, H⟩ := H
 replace H : (some (a0_0, a0_1, t159)) = some (r1, r2, r3) := H
 have A2 := Am A20
 clear A20
 simp only [Option.some.injEq, Prod.mk.injEq] at H
 obtain ⟨rfl, rfl, rfl⟩ := H
 go_enter Try.func46, Try.ntmps46
 try go_wp2_with (first | ((with_reducible refine gate_dst (N := 1) rfl ?_); refine box_event ?hg (N := 1) ?hd (cs := #[.int .i64 a0_0, .int .i64 a0_1, .slice A0_2 l0_2.length c0_2]) (t := 32) ?hr ?_; (case hd => rfl); (case hg => rfl); (case hr => first | (go_simp; done) | (go_simp; rfl)); intro gb157 hg w3 hbox hb; have n0_ := Am (below_step (jzH HB) hb); have n1_ := Am (hbox); have n2_ := Am ((by rw [hg]; exact (below_size (jzH HB)) : w.heap.size ≤ gb157)); have n3_ := Am ((by rw [hg]; exact (below_size (jzH HB)) : w.heap.size ≤ gb157)); clear HB; have HB := n0_; have BK157 := n1_; have GW157 := n2_; have GE157 := n3_; clear n0_ n1_ n2_ n3_; clear hb hbox hg) | ((with_reducible refine gate_dst (N := 2) rfl ?_); refine box_event ?hg (N := 2) ?hd (cs := #[.int .i64 0, .int .i64 0, .slice none 0 0]) (t := 32) ?hr ?_; (case hd => rfl); (case hg => rfl); (case hr => first | (go_simp; done) | (go_simp; rfl)); intro gb158 hg w4 hbox hb; have n0_ := Am (blk_below (g := gb157) (o := .cells #[.int .i64 a0_0, .int .i64 a0_1, .slice A0_2 l0_2.length c0_2] 32 (0, 0)) (jzB BK157) hb); have n1_ := Am (below_step (jzG HB) hb); have n2_ := Am (hbox); have n3_ := Am ((by rw [hg]; exact (below_size (jzG HB)) : w.heap.size ≤ gb158)); have n4_ := Am ((by rw [hg]; exact (below_size (jzG HB)) : w.heap.size ≤ gb158)); have n5_ := Am ((by rw [hg]; exact Nat.ne_of_lt (blk_lt (g := gb157) (o := .cells #[.int .i64 a0_0, .int .i64 a0_1, .slice A0_2 l0_2.length c0_2] 32 (0, 0)) (jzB BK157)) : gb157 ≠ gb158)); have n6_ := Am ((by rw [hg]; exact Nat.ne_of_gt (blk_lt (g := gb157) (o := .cells #[.int .i64 a0_0, .int .i64 a0_1, .slice A0_2 l0_2.length c0_2] 32 (0, 0)) (jzB BK157)) : gb158 ≠ gb157)); clear BK157; clear HB; have BK157 := n0_; have HB := n1_; have BK158 := n2_; have GW158 := n3_; have GE158 := n4_; have NB157_158 := n5_; have NB158_157 := n6_; clear n0_ n1_ n2_ n3_ n4_ n5_ n6_; clear hb hbox hg))
 have n0_ := Am (b2 BK157.out)
 have n1_ := Am (b2 BK158.out)
 have n2_ := Am (b6 HB.out)
 clear BK157
 clear BK158
 clear HB
 have BK157 := n0_
 have BK158 := n1_
 have HB := n2_
 clear n0_ n1_ n2_
 refine start_ (n := 9) (S := fun w' => w'.cell? ⟨gb157, 0, none⟩ = some (.int .i64 a0_0) ∧ w'.cell? ⟨gb157, 1, none⟩ = some (.int .i64 a0_1) ∧ w'.cell? ⟨gb157, 2, none⟩ = some (.slice A0_2 l0_2.length c0_2)) (ds := []) #[F,F,F,F,F,F,F,F,F] (by kernel_rfl) rfl rfl ⟨(b8 BK157.out 0).trans rfl, (b8 BK157.out 1).trans rfl, (b8 BK157.out 2).trans rfl⟩ (fun hHeld => ?_); refine with_tabW spec_l25Glyph.tab1 spec_l25Glyph.bits1 (fun HT_ HW_ => ?_)
 generalize w4.drew = w5 at BK157 BK158 HB hHeld ⊢
 refine pure_ (i := 0) (N := some 3) (v := ?_) (a' := ?_) #[T,F,F,F,F,F,F,F,F] rfl rfl (any_of HT_.out (by kernel_rfl)) (fun _ _ _ h => h) (Or.inl ⟨by rfl, ?_⟩) ?_ ?_
 rotate_left; intro w'; go_simp; with_reducible rfl; rotate_left; simp only [Act.put, zA, zB, zC, i64_w, i32_w]; rfl
 refine pure_ (i := 2) (N := some 5) (v := ?_) (a' := ?_) #[T,F,T,F,F,F,F,F,F] rfl rfl (any_of HT_.out (by kernel_rfl)) (fun _ _ _ h => h) (Or.inl ⟨by rfl, ?_⟩) ?_ ?_
 rotate_left; intro w'; go_simp; with_reducible rfl; rotate_left; simp only [Act.put, zA, zB, zC, i64_w, i32_w]; rfl
 refine pure_ (i := 4) (N := some 7) (v := ?_) (a' := ?_) #[T,F,T,F,T,F,F,F,F] rfl rfl (any_of HT_.out (by kernel_rfl)) (fun _ _ _ h => h) (Or.inl ⟨by rfl, ?_⟩) ?_ ?_
 rotate_left; intro w'; go_simp; with_reducible rfl; rotate_left; simp only [Act.put, zA, zB, zC, i64_w, i32_w]; rfl
 refine take_ (i := 1) (N := some 4) (v := ?_) (a' := ?_) #[T,T,T,F,T,F,F,F,F] rfl rfl (take_ofW HT_.out HW_.out (by kernel_rfl)) (fun _ _ _ h => h) (Or.inl ⟨by rfl, ?_⟩) hHeld ?_ ?_
 rotate_left; rintro w' ⟨s0, s1, s2⟩; go_simp; with_reducible rfl; rotate_left; simp only [Act.put, zA, zB, zC, i64_w, i32_w]; rfl
 refine take_ (i := 3) (N := some 6) (v := ?_) (a' := ?_) #[T,T,T,T,T,F,F,F,F] rfl rfl (take_ofW HT_.out HW_.out (by kernel_rfl)) (fun _ _ _ h => h) (Or.inl ⟨by rfl, ?_⟩) hHeld ?_ ?_
 rotate_left; rintro w' ⟨s0, s1, s2⟩; go_simp; with_reducible rfl; rotate_left; simp only [Act.put, zA, zB, zC, i64_w, i32_w]; rfl
 refine take_ (i := 5) (N := some 8) (v := ?_) (a' := ?_) #[T,T,T,T,T,T,F,F,F] rfl rfl (take_ofW HT_.out HW_.out (by kernel_rfl)) (fun _ _ _ h => h) (Or.inl ⟨by rfl, ?_⟩) hHeld ?_ ?_
 rotate_left; rintro w' ⟨s0, s1, s2⟩; go_simp; with_reducible rfl; rotate_left; simp only [Act.put, zA, zB, zC, i64_w, i32_w]; rfl
 refine one_ (i := 6) (N := some 9) #[T,T,T,T,T,T,T,F,F] rfl rfl (one_of HT_.out (by kernel_rfl)) (by decide) (fun K hK => ?_)
 refine goes_ Try.func58 (by kernel_rfl) rfl #[.slice A0_2 l0_2.length c0_2] (by rfl) rfl rfl jzA ?_
 with_reducible refine (spec_l05Copy.calls _ _ l0_2 t159 _ ?side1 ?side2 A2.out).mono ?_
 (case side1 => exact jzC HR0_2 HB)
 (case side2 => exact HC0_2.out)
 rintro e w6 ⟨v160, rfl, ho0, hb⟩
 refine ⟨_, rfl, ?_⟩
 have n0_ := Am (Kd.R_lower ho0 (below_size (jzG HB)))
 have n1_ := Am (blk_below (g := gb157) (o := .cells #[.int .i64 a0_0, .int .i64 a0_1, .slice A0_2 l0_2.length c0_2] 32 (0, 0)) (jzB BK157) hb)
 have n2_ := Am (blk_below (g := gb158) (o := .cells #[.int .i64 0, .int .i64 0, .slice none 0 0] 32 (0, 0)) (jzB BK158) hb)
 have n3_ := Am (below_step (jzG HB) hb)
 clear BK157
 clear BK158
 clear HB
 have HO161 := n0_
 have BK157 := n1_
 have BK158 := n2_
 have HB := n3_
 clear n0_ n1_ n2_ n3_
 (try clear hb)
 (try clear hb2)
 (try clear hk)
 (try clear hi)
 (try clear ho0)
 obtain ⟨Ao7, co7, eo7⟩ := Kd.R_slice HO161.out
 (first | subst eo7 | (injection eo7 with f1_ f2_ f3_; have f4_ := f1_.symm; have f5_ := f3_.symm; clear f1_ f2_ f3_; subst f4_; subst f5_))
 refine hK.out _ _ ⟨(b8 BK157.out 0).trans rfl, (b8 BK157.out 1).trans rfl, (b8 BK157.out 2).trans rfl⟩ (fun hHeld => ?_)
 clear hK K
 refine norm_ (a' := ?_) ?_ ?_
 rotate_left
 ·show Act.put _ (some 9) _ = _
  simp only [Act.put, zA, zB, zC, i64_w, i32_w]
  rfl
 refine pure_ (i := 7) (N := some 10) (v := ?_) (a' := ?_) #[T,T,T,T,T,T,T,T,F] rfl rfl (any_of HT_.out (by kernel_rfl)) (fun _ _ _ h => h) (Or.inl ⟨by rfl, ?_⟩) ?_ ?_
 rotate_left; intro w'; go_simp; with_reducible rfl; rotate_left; simp only [Act.put, zA, zB, zC, i64_w, i32_w]; rfl
 refine one_ (i := 8) (N := none) #[T,T,T,T,T,T,T,T,T] rfl rfl (one_of HT_.out (by kernel_rfl)) (by decide) (fun K hK => ?_)
 have hs8 : w6.cell? ⟨gb158, 0, none⟩ = some (.int .i64 0) := (b8 BK158.out 0).trans rfl
 have hfs8 := blk_frozen BK158.out 0
 have hns8_0 := NB157_158.out
 have hms8_0 := NB158_157.out
 have hs9 : w6.cell? ⟨gb158, 1, none⟩ = some (.int .i64 0) := (b8 BK158.out 1).trans rfl
 have hfs9 := blk_frozen BK158.out 1
 have hns9_0 := NB157_158.out
 have hms9_0 := NB158_157.out
 have hs10 : w6.cell? ⟨gb158, 2, none⟩ = some (.slice none 0 0) := (b8 BK158.out 2).trans rfl
 have hfs10 := blk_frozen BK158.out 2
 have hns10_0 := NB157_158.out
 have hms10_0 := NB158_157.out
 refine skip_ (w1 := ?_) (by rfl) rfl ?_ ?_
 rotate_left
 ·go_simp
  rfl
 refine hK.out _ _ ⟨((cell_far (p := ⟨gb158, _, none⟩) NB157_158.out _).trans (((cell_far (p := ⟨gb158, _, none⟩) NB157_158.out _).trans (((cell_far (p := ⟨gb158, _, none⟩) NB157_158.out _).trans (hHeld.1)))))), ((cell_far (p := ⟨gb158, _, none⟩) NB157_158.out _).trans (((cell_far (p := ⟨gb158, _, none⟩) NB157_158.out _).trans (((cell_far (p := ⟨gb158, _, none⟩) NB157_158.out _).trans (hHeld.2.1)))))), ((cell_far (p := ⟨gb158, _, none⟩) NB157_158.out _).trans (((cell_far (p := ⟨gb158, _, none⟩) NB157_158.out _).trans (((cell_far (p := ⟨gb158, _, none⟩) NB157_158.out _).trans (hHeld.2.2))))))⟩ (fun hHeld => ?_)
 clear hK K
 refine done_ (done_of HT_.out (by kernel_rfl)) ?_
 try go_wp2
 refine bodyPost_ret (results_cell_row rfl _ _ gb158 32 #[.int .i64 a0_0, .int .i64 a0_1, .slice Ao7 t159.length co7] (0, 0) _ rfl (by (with_reducible repeat (first | refine b1 ?_ _ | refine b2 ?_ | refine b3 ?_ _)); refine blk_put (cs := #[.int .i64 a0_0, .int .i64 a0_1, .slice none 0 0]) ?_ 2 _ rfl; (with_reducible repeat (first | refine b1 ?_ _ | refine b2 ?_ | refine b3 ?_ _)); refine blk_put (cs := #[.int .i64 a0_0, .int .i64 0, .slice none 0 0]) ?_ 1 _ rfl; (with_reducible repeat (first | refine b1 ?_ _ | refine b2 ?_ | refine b3 ?_ _)); refine blk_put (cs := #[.int .i64 0, .int .i64 0, .slice none 0 0]) ?_ 0 _ rfl; (with_reducible repeat (first | refine b1 ?_ _ | refine b2 ?_ | refine b3 ?_ _)); exact BK158.out) Try.underlying32 rfl (by kernel_rfl)) rfl ?_
 exact ⟨_, by first | rfl | (simp [errW_none, errW_some] <;> rfl) | (simp [*, errW_none, errW_some] <;> rfl), by (with_reducible repeat (first | apply Kd.R_alloc | apply Kd.R_drewN | apply Kd.R_drew)); exact Kd.R_mono (Kd.R_far (p := ⟨gb158, 2, none⟩) (Kd.R_far (p := ⟨gb158, 1, none⟩) (Kd.R_far (p := ⟨gb158, 0, none⟩) (Kd.R_types HO161.out BK158.out (by decide)) (fun _ hk => hk.2) (.int .i64 a0_0)) (fun _ hk => hk.2) (.int .i64 a0_1)) (fun _ hk => hk.2) (.slice Ao7 t159.length co7)) (fun _ hk => trivial), jzG HB⟩

/-! ### spec_l25Copy: function 41 -/
def spec_l25Copy.l0 : Nat → Int → List (S32) → Int → Int → List (S32) → Int → Int → Option ((List (S32)) × Int × Int)
 | 0, _, _, _, _, _, _, _ => none
 | k + 1, x4, x163000, x163001, x163002, x165000, x165001, x165002 => if x4 < (x163000.length : Int) then (if 0 ≤ x4 then ((spec_l25Glyph.f ((rd_T32 x163000 x4).f0) ((rd_T32 x163000 x4).f1) ((rd_T32 x163000 x4).f2)).bind fun bt166 => (if x165000.length < 3518437208883 then (spec_l25Copy.l0 k (wrap64 (x4 + 1)) x163000 x163001 x163002 (x165000 ++ [(⟨bt166.1, bt166.2.1, bt166.2.2⟩ : S32)]) x165001 x165002) else (none))) else (none)) else (some (x165000, x165001, x165002))
def spec_l25Copy.f (k : Nat) (l0_0 : List (S32)) (a0_1 : Int) (a0_2 : Int) : Option ((List (S32)) × Int × Int) := spec_l25Copy.l0 k 0 l0_0 a0_1 a0_2 ([] : List (S32)) a0_1 a0_2
theorem spec_l25Copy.mono_l : ∀ k, (∀ y0 y1 y2 y3 y4 y5 y6, LeO (spec_l25Copy.l0 k y0 y1 y2 y3 y4 y5 y6) (spec_l25Copy.l0 (k + 1) y0 y1 y2 y3 y4 y5 y6))
 | 0 => fun _ _ _ _ _ _ _ r h => by simp [spec_l25Copy.l0] at h
 | k + 1 => by
  have ih0 := spec_l25Copy.mono_l k
  ·intro y0 y1 y2 y3 y4 y5 y6
   unfold spec_l25Copy.l0
   repeat' first
   | (with_reducible exact ih0 _ _ _ _ _ _ _)
   | (with_reducible exact LeO.refl _)
   | (with_reducible exact LeO.none _)
   | (with_reducible refine LeO.ite ?_ ?_)
   | (with_reducible refine LeO.bind ?_ (fun _ => ?_))
   | exact ih0 _ _ _ _ _ _ _
   | exact LeO.none _
   | refine LeO.ite ?_ ?_
   | refine LeO.bind ?_ (fun _ => ?_)
theorem spec_l25Copy.mono : ∀ a0 a1 a2 k, LeO (spec_l25Copy.f k a0 a1 a2) (spec_l25Copy.f (k + 1) a0 a1 a2) := by
 intro a0 a1 a2 k
 have ih0 := spec_l25Copy.mono_l k
 unfold spec_l25Copy.f
 repeat' first
   | (with_reducible exact ih0 _ _ _ _ _ _ _)
   | (with_reducible exact LeO.refl _)
   | (with_reducible exact LeO.none _)
   | (with_reducible refine LeO.ite ?_ ?_)
   | (with_reducible refine LeO.bind ?_ (fun _ => ?_))
   | exact ih0 _ _ _ _ _ _ _
   | exact LeO.none _
   | refine LeO.ite ?_ ?_
   | refine LeO.bind ?_ (fun _ => ?_)
def spec_l25Copy.T5 : Bool × List (List Nat × List Nat) := (true, [([], []), ([0], [0]), ([], []), ([2], [2]), ([], []), ([3, 4], [3, 4]), ([5], [5]), ([6], [6]), ([7], [7]), ([1, 8, 7], [1, 8]), ([0, 1, 2, 3, 4, 5, 6, 7, 8, 9], []), ([10, 9, 9, 0, 1, 2, 3, 4, 5, 6, 7, 8, 9], [9, 10])])
def spec_l25Copy.B5 : List Nat := [0, 1, 0, 4, 0, 28, 60, 124, 252, 511, 1023, 2047]
theorem spec_l25Copy.tab5 : rtab .any (opsOf Try.f41 5) = spec_l25Copy.T5 := by kernel_rfl
theorem spec_l25Copy.bits5 : waitsOk spec_l25Copy.T5.2 spec_l25Copy.B5 = true := by kernel_rfl
set_option maxHeartbeats 8000000 in
set_option maxRecDepth 100000 in
theorem spec_l25Copy.calls (k : Nat) (A0_0 : Option Addr) (c0_0 : Nat) (l0_0 : List (S32)) (a0_1 : Int) (a0_2 : Int) (r1 : List (S32)) (r2 : Int) (r3 : Int) (w : World) (hr0_0 : Kd.C k32 w A0_0 l0_0.length l0_0) (hc0_0 : l0_0.length ≤ c0_0) (h : spec_l25Copy.f k l0_0 a0_1 a0_2 = some (r1, r2, r3)) :
  Calls Try.prog 41 #[.agg #[.slice A0_0 l0_0.length c0_0, .int .i64 a0_1, .int .i64 a0_2]] w fun e w' => ∃ v0_ : Value, e = .returned (.agg #[v0_, .int .i64 r2, .int .i64 r3]) ∧ Kd.S k32 32 w' w.heap.size (fun _ => True) v0_ r1 ∧ Below w.heap.size w w' := by
 have hu26 := Try.underlying26
 have hu32 := Try.underlying32
 have HR0_0 := Am hr0_0
 have HC0_0 := Am hc0_0
 clear hr0_0 hc0_0
 have HB := Am (Below.refl w.heap.size w)
 have H : (spec_l25Copy.l0 k 0 l0_0 a0_1 a0_2 ([] : List (S32)) a0_1 a0_2) = some (r1, r2, r3) := h
 clear h
 have H' := Am H
 clear H
 go_enter Try.func41, Try.ntmps41
 go_wp2_with (first | ((with_reducible refine gate_dst (N := 1) rfl ?_); refine box_event ?hg (N := 1) ?hd (cs := #[.slice A0_0 l0_0.length c0_0, .int .i64 a0_1, .int .i64 a0_2]) (t := 26) ?hr ?_; (case hd => rfl); (case hg => rfl); (case hr => first | (go_simp; done) | (go_simp; rfl)); intro gb162 hg w2 hbox hb; have n0_ := Am (below_step (jzH HB) hb); have n1_ := Am (hbox); have n2_ := Am ((by rw [hg]; exact (below_size (jzH HB)) : w.heap.size ≤ gb162)); have n3_ := Am ((by rw [hg]; exact (below_size (jzH HB)) : w.heap.size ≤ gb162)); clear HB; have HB := n0_; have BK162 := n1_; have GW162 := n2_; have GE162 := n3_; clear n0_ n1_ n2_ n3_; clear hb hbox hg) | ((with_reducible refine gate_dst (N := 2) rfl ?_); refine box_event ?hg (N := 2) ?hd (cs := #[.slice none 0 0, .int .i64 0, .int .i64 0]) (t := 26) ?hr ?_; (case hd => rfl); (case hg => rfl); (case hr => first | (go_simp; done) | (go_simp; rfl)); intro gb163 hg w3 hbox hb; have n0_ := Am (blk_below (g := gb162) (o := .cells #[.slice A0_0 l0_0.length c0_0, .int .i64 a0_1, .int .i64 a0_2] 26 (0, 0)) (jzB BK162) hb); have n1_ := Am (below_step (jzG HB) hb); have n2_ := Am (hbox); have n3_ := Am ((by rw [hg]; exact (below_size (jzG HB)) : w.heap.size ≤ gb163)); have n4_ := Am ((by rw [hg]; exact (below_size (jzG HB)) : w.heap.size ≤ gb163)); have n5_ := Am ((by rw [hg]; exact Nat.ne_of_lt (blk_lt (g := gb162) (o := .cells #[.slice A0_0 l0_0.length c0_0, .int .i64 a0_1, .int .i64 a0_2] 26 (0, 0)) (jzB BK162)) : gb162 ≠ gb163)); have n6_ := Am ((by rw [hg]; exact Nat.ne_of_gt (blk_lt (g := gb162) (o := .cells #[.slice A0_0 l0_0.length c0_0, .int .i64 a0_1, .int .i64 a0_2] 26 (0, 0)) (jzB BK162)) : gb163 ≠ gb162)); clear BK162; clear HB; have BK162 := n0_; have HB := n1_; have BK163 := n2_; have GW163 := n3_; have GE163 := n4_; have NB162_163 := n5_; have NB163_162 := n6_; clear n0_ n1_ n2_ n3_ n4_ n5_ n6_; clear hb hbox hg; have hnb4 := NB162_163.out; have hnc4 := NB163_162.out; have hcz5_0 : w3.cell? ⟨gb162, 0, none⟩ = some (.slice A0_0 l0_0.length c0_0) := (b8 BK162.out 0).trans rfl; have hcz5_1 : w3.cell? ⟨gb162, 1, none⟩ = some (.int .i64 a0_1) := (b8 BK162.out 1).trans rfl; have hcz5_2 : w3.cell? ⟨gb162, 2, none⟩ = some (.int .i64 a0_2) := (b8 BK162.out 2).trans rfl; have hfz5_0 := blk_frozen BK162.out 0; have hfz5_1 := blk_frozen BK162.out 1; have hfz5_2 := blk_frozen BK162.out 2) | ((with_reducible refine gate_dst (N := 3) rfl ?_); refine box_event ?hg (N := 3) ?hd (cs := #[.slice none 0 0, .int .i64 0, .int .i64 0]) (t := 26) ?hr ?_; (case hd => rfl); (case hg => rfl); (case hr => first | (go_simp; done) | (go_simp; rfl)); intro gb164 hg w6 hbox hb; have n0_ := Am (blk_below (g := gb162) (o := .cells #[.slice A0_0 l0_0.length c0_0, .int .i64 a0_1, .int .i64 a0_2] 26 (0, 0)) (jzB BK162) hb); have n1_ := Am (blk_below (g := gb163) (o := .cells #[.slice none 0 0, .int .i64 0, .int .i64 0] 26 (0, 0)) (jzB BK163) hb); have n2_ := Am (below_step (jzG HB) hb); have n3_ := Am (hbox); have n4_ := Am ((by rw [hg]; exact (below_size (jzG HB)) : w.heap.size ≤ gb164)); have n5_ := Am ((by rw [hg]; exact (below_size (jzG HB)) : w.heap.size ≤ gb164)); have n6_ := Am ((by rw [hg]; exact Nat.ne_of_lt (blk_lt (g := gb162) (o := .cells #[.slice A0_0 l0_0.length c0_0, .int .i64 a0_1, .int .i64 a0_2] 26 (0, 0)) (jzB BK162)) : gb162 ≠ gb164)); have n7_ := Am ((by rw [hg]; exact Nat.ne_of_gt (blk_lt (g := gb162) (o := .cells #[.slice A0_0 l0_0.length c0_0, .int .i64 a0_1, .int .i64 a0_2] 26 (0, 0)) (jzB BK162)) : gb164 ≠ gb162)); have n8_ := Am ((by rw [hg]; exact Nat.ne_of_lt (blk_lt (g := gb163) (o := .cells #[.slice none 0 0, .int .i64 0, .int .i64 0] 26 (0, 0)) (jzB BK163)) : gb163 ≠ gb164)); have n9_ := Am ((by rw [hg]; exact Nat.ne_of_gt (blk_lt (g := gb163) (o := .cells #[.slice none 0 0, .int .i64 0, .int .i64 0] 26 (0, 0)) (jzB BK163)) : gb164 ≠ gb163)); clear BK162; clear BK163; clear HB; have BK162 := n0_; have BK163 := n1_; have HB := n2_; have BK164 := n3_; have GW164 := n4_; have GE164 := n5_; have NB162_164 := n6_; have NB164_162 := n7_; have NB163_164 := n8_; have NB164_163 := n9_; clear n0_ n1_ n2_ n3_ n4_ n5_ n6_ n7_ n8_ n9_; clear hb hbox hg; have hnb7 := NB164_162.out; have hnc7 := NB162_164.out; have hnb8 := NB164_163.out; have hnc8 := NB163_164.out; have hcz9_0 : w6.cell? ⟨gb164, 0, none⟩ = some (.slice none 0 0) := (b8 BK164.out 0).trans rfl; have hcz9_1 : w6.cell? ⟨gb164, 1, none⟩ = some (.int .i64 0) := (b8 BK164.out 1).trans rfl; have hcz9_2 : w6.cell? ⟨gb164, 2, none⟩ = some (.int .i64 0) := (b8 BK164.out 2).trans rfl; have hfz9_0 := blk_frozen BK164.out 0; have hfz9_1 := blk_frozen BK164.out 1; have hfz9_2 := blk_frozen BK164.out 2))
 go_loopg [4] k (fun kq v4 w' => ∃ (x4_1 : Int) (x165000_1 : List (S32)) (u165000 : Value), v4 = .int .i64 x4_1 ∧ Aside0 (spec_l25Copy.l0 kq x4_1 l0_0 a0_1 a0_2 x165000_1 a0_1 a0_2 = some (r1, r2, r3)) ∧ Aside0 (kq ≤ k) ∧ Aside0 (Kd.S k32 32 w' w.heap.size (fun _ => True) u165000 x165000_1) ∧ Aside0 (w'.heap[gb162]? = some (.cells #[(.slice A0_0 l0_0.length c0_0), .int .i64 a0_1, .int .i64 a0_2] 26 (0, 0))) ∧ Aside0 (w'.heap[gb163]? = some (.cells #[(.slice none 0 0), .int .i64 0, .int .i64 0] 26 (0, 0))) ∧ Aside0 (w'.heap[gb164]? = some (.cells #[u165000, .int .i64 a0_1, .int .i64 a0_2] 26 (0, 0))) ∧ Aside0 (Below w.heap.size w w'))
 case atStart => exact ⟨(0), (([] : List (S32))), (.slice none 0 0), (by first | rfl | (simp; done) | (simp [*]; done)), H', ⟨Nat.le_refl _⟩, ⟨by first | exact Kd.S_nil _ _ _ _ _ | exact Kd.N_nil _ _ _ _ _ | exact Kd.V_nil _ _ _ _ _ | exact Kd.Q_nil _ _ _ _ _ | exact Kd.R_nil _ _ _ _ _⟩, ⟨by (with_reducible repeat (first | refine b1 ?_ _ | refine b2 ?_ | refine b3 ?_ _)); refine blk_far ?_ NB162_164.out _; (with_reducible repeat (first | refine b1 ?_ _ | refine b2 ?_ | refine b3 ?_ _)); refine blk_far ?_ NB162_164.out _; (with_reducible repeat (first | refine b1 ?_ _ | refine b2 ?_ | refine b3 ?_ _)); refine blk_far ?_ NB162_164.out _; (with_reducible repeat (first | refine b1 ?_ _ | refine b2 ?_ | refine b3 ?_ _)); exact BK162.out⟩, ⟨by (with_reducible repeat (first | refine b1 ?_ _ | refine b2 ?_ | refine b3 ?_ _)); refine blk_far ?_ NB163_164.out _; (with_reducible repeat (first | refine b1 ?_ _ | refine b2 ?_ | refine b3 ?_ _)); refine blk_far ?_ NB163_164.out _; (with_reducible repeat (first | refine b1 ?_ _ | refine b2 ?_ | refine b3 ?_ _)); refine blk_far ?_ NB163_164.out _; (with_reducible repeat (first | refine b1 ?_ _ | refine b2 ?_ | refine b3 ?_ _)); exact BK163.out⟩, ⟨by (with_reducible repeat (first | refine b1 ?_ _ | refine b2 ?_ | refine b3 ?_ _)); refine blk_put (cs := #[.slice none 0 0, .int .i64 a0_1, .int .i64 0]) ?_ 2 _ rfl; (with_reducible repeat (first | refine b1 ?_ _ | refine b2 ?_ | refine b3 ?_ _)); refine blk_put (cs := #[.slice none 0 0, .int .i64 0, .int .i64 0]) ?_ 1 _ rfl; (with_reducible repeat (first | refine b1 ?_ _ | refine b2 ?_ | refine b3 ?_ _)); refine blk_put (cs := #[.slice none 0 0, .int .i64 0, .int .i64 0]) ?_ 0 _ rfl; (with_reducible repeat (first | refine b1 ?_ _ | refine b2 ?_ | refine b3 ?_ _)); exact BK164.out⟩, ⟨jzG HB⟩⟩
 case round =>
  clear H'
  try clear p2
  try clear c4
  try clear c7
  try clear c8
  try clear hcz5_0
  try clear hcz5_1
  try clear hcz5_2
  try clear hcz9_0
  try clear hcz9_1
  try clear hcz9_2
  try clear hfz5_0
  try clear hfz5_1
  try clear hfz5_2
  try clear hfz9_0
  try clear hfz9_1
  try clear hfz9_2
  obtain ⟨x4_1, x165000_1, u165000, rfl, HA, HK1, HO_165000, BK162, BK163, BK164, HB⟩ := hrel
  cases gk with
  | zero => exact absurd HA.out (by simp [spec_l25Copy.l0])
  | succ k1 =>
   have H := HA.out
   clear HA
   simp only [spec_l25Copy.l0] at H
   by_cases c10 : x4_1 < (l0_0.length : Int)
   ·rw [if_pos c10] at H
    have c10b0 : decide (x4_1 < (l0_0.length : Int)) = true := decide_eq_true c10
    clear c10
    by_cases c11 : 0 ≤ x4_1
    ·rw [if_pos c11] at H
     have c11b0 : decide (0 ≤ x4_1) = true := decide_eq_true c11
     clear c11
     replace H := Option.bind_eq_some_iff.mp H
     obtain ⟨⟨t166, t167, t168⟩, A120, H⟩ := H
     replace H : (if x165000_1.length < 3518437208883 then (spec_l25Copy.l0 k1 (wrap64 (x4_1 + 1)) l0_0 a0_1 a0_2 (x165000_1 ++ [(⟨t166, t167, t168⟩ : S32)]) a0_1 a0_2) else (none)) = some (r1, r2, r3) := H
     have A12 := Am A120
     clear A120
     by_cases c13 : x165000_1.length < 3518437208883
     ·rw [if_pos c13] at H
      have LMc13 := Am c13
      clear c13
      obtain ⟨y171, hy171⟩ : ∃ y_ : List (S32), y_ = (x165000_1 ++ [(⟨t166, t167, t168⟩ : S32)]) := ⟨_, rfl⟩
      replace H : (spec_l25Copy.l0 k1 (wrap64 (x4_1 + 1)) l0_0 a0_1 a0_2 y171 a0_1 a0_2) = some (r1, r2, r3) := by first | (rw [hy171]; with_reducible exact H) | (have H2_ := (Option.bind_some _ _).symm.trans H; rw [hy171]; with_reducible exact H2_) | (have H2_ := (Option.bind_some _ _).symm.trans H; with_reducible exact H2_) | with_reducible exact H | (rw [hy171]; exact H) | exact H
      have Ny171 := Am hy171
      clear hy171
      have H' := Am H
      clear H
      have hnb14 := NB162_163.out
      have hnc14 := NB163_162.out
      have hnb15 := NB162_164.out
      have hnc15 := NB164_162.out
      have hcz16_0 : wr.cell? ⟨gb162, 0, none⟩ = some (.slice A0_0 l0_0.length c0_0) := (b8 BK162.out 0).trans rfl
      have hcz16_1 : wr.cell? ⟨gb162, 1, none⟩ = some (.int .i64 a0_1) := (b8 BK162.out 1).trans rfl
      have hcz16_2 : wr.cell? ⟨gb162, 2, none⟩ = some (.int .i64 a0_2) := (b8 BK162.out 2).trans rfl
      have hfz16_0 := blk_frozen BK162.out 0
      have hfz16_1 := blk_frozen BK162.out 1
      have hfz16_2 := blk_frozen BK162.out 2
      try go_wp2
      have n0_ := Am (Kd.S_drew HO_165000.out)
      have n1_ := Am (b2 BK162.out)
      have n2_ := Am (b2 BK163.out)
      have n3_ := Am (b2 BK164.out)
      have n4_ := Am (b6 HB.out)
      clear HO_165000
      clear BK162
      clear BK163
      clear BK164
      clear HB
      have HO_165000 := n0_
      have BK162 := n1_
      have BK163 := n2_
      have BK164 := n3_
      have HB := n4_
      clear n0_ n1_ n2_ n3_ n4_
      have p165 : 0 ≤ (x4_1 : Int) := of_decide_eq_true jzS
      have q165 : x4_1 < (l0_0.length : Int) := of_decide_eq_true jzS
      obtain ⟨ad165, A165_2, c165_2, e165, hx165_0, hx165_1, hx165_2, hl165_2, hi165_2⟩ := at_T32 HR0_0.out x4_1 p165 q165
      have hw165_2 := hx165_2
      have hw165_1 := hx165_1
      have hw165_0 := hx165_0
      cases e165
      replace hx165_0 := (HB.out.cell (World.block_lt_of_cell? w _ hx165_0)).trans hx165_0
      replace hx165_1 := (HB.out.cell (World.block_lt_of_cell? w _ hx165_1)).trans hx165_1
      replace hx165_2 := (HB.out.cell (World.block_lt_of_cell? w _ hx165_2)).trans hx165_2
      have HR165_2 := Am hi165_2
      have HC165_2 := Am hl165_2
      clear hi165_2 hl165_2
      replace p165 := eq_true p165
      replace q165 := eq_true q165
      refine start_ (n := 12) (S := fun w' => w'.cell? ⟨gb164, 0, none⟩ = some (u165000) ∧ w'.cell? ⟨gb164, 1, none⟩ = some (.int .i64 a0_1) ∧ w'.cell? ⟨gb164, 2, none⟩ = some (.int .i64 a0_2) ∧ w'.cell? ⟨gb162, 0, none⟩ = some (.slice (some ad165) l0_0.length c0_0) ∧ w'.cell? ⟨gb162, 1, none⟩ = some (.int .i64 a0_1) ∧ w'.cell? ⟨gb162, 2, none⟩ = some (.int .i64 a0_2) ∧ w'.cell? (ad165.add ((x4_1).toNat * 3)) = some (.int .i64 ((rd_T32 l0_0 x4_1).f0)) ∧ w'.cell? ⟨(ad165.add ((x4_1).toNat * 3)).block, (ad165.add ((x4_1).toNat * 3)).off + 1, none⟩ = some (.int .i64 ((rd_T32 l0_0 x4_1).f1)) ∧ w'.cell? ⟨(ad165.add ((x4_1).toNat * 3)).block, (ad165.add ((x4_1).toNat * 3)).off + 2, none⟩ = some (.slice A165_2 ((rd_T32 l0_0 x4_1).f2).length c165_2)) (ds := [11]) #[F,F,F,F,F,F,F,F,F,F,F,F] (by kernel_rfl) rfl rfl ⟨(b8 BK164.out 0).trans rfl, (b8 BK164.out 1).trans rfl, (b8 BK164.out 2).trans rfl, (b8 BK162.out 0).trans rfl, (b8 BK162.out 1).trans rfl, (b8 BK162.out 2).trans rfl, ((HB.out.cell (World.block_lt_of_cell? w _ hw165_0)).trans hw165_0), ((HB.out.cell (World.block_lt_of_cell? w _ hw165_1)).trans hw165_1), ((HB.out.cell (World.block_lt_of_cell? w _ hw165_2)).trans hw165_2)⟩ (fun hHeld => ?_); refine with_tabW spec_l25Copy.tab5 spec_l25Copy.bits5 (fun HT_ HW_ => ?_)
      generalize wr.drew = w17 at HO_165000 BK162 BK163 BK164 HB HR165_2 hx165_0 hx165_1 hx165_2 hHeld ⊢
      refine pure_ (i := 0) (N := some 17) (v := ?_) (a' := ?_) #[T,F,F,F,F,F,F,F,F,F,F,F] rfl rfl (any_of HT_.out (by kernel_rfl)) (fun _ _ _ h => h) (Or.inl ⟨by rfl, ?_⟩) ?_ ?_
      rotate_left; intro w'; go_simp; with_reducible rfl; rotate_left; simp only [Act.put, zA, zB, zC, i64_w, i32_w]; rfl
      refine pure_ (i := 2) (N := some 19) (v := ?_) (a' := ?_) #[T,F,T,F,F,F,F,F,F,F,F,F] rfl rfl (any_of HT_.out (by kernel_rfl)) (fun _ _ _ h => h) (Or.inl ⟨by rfl, ?_⟩) ?_ ?_
      rotate_left; intro w'; go_simp; with_reducible rfl; rotate_left; simp only [Act.put, zA, zB, zC, i64_w, i32_w]; rfl
      refine pure_ (i := 4) (N := some 21) (v := ?_) (a' := ?_) #[T,F,T,F,T,F,F,F,F,F,F,F] rfl rfl (any_of HT_.out (by kernel_rfl)) (fun _ _ _ h => h) (Or.inl ⟨by rfl, ?_⟩) ?_ ?_
      rotate_left; intro w'; go_simp; with_reducible rfl; rotate_left; simp only [Act.put, zA, zB, zC, i64_w, i32_w]; rfl
      refine take_ (i := 1) (N := some 18) (v := ?_) (a' := ?_) #[T,T,T,F,T,F,F,F,F,F,F,F] rfl rfl (take_ofW HT_.out HW_.out (by kernel_rfl)) (fun _ _ _ h => h) (Or.inl ⟨by rfl, ?_⟩) hHeld ?_ ?_
      rotate_left; rintro w' ⟨s0, s1, s2, s3, s4, s5, s6, s7, s8⟩; go_simp; with_reducible rfl; rotate_left; simp only [Act.put, zA, zB, zC, i64_w, i32_w]; rfl
      refine take_ (i := 3) (N := some 20) (v := ?_) (a' := ?_) #[T,T,T,T,T,F,F,F,F,F,F,F] rfl rfl (take_ofW HT_.out HW_.out (by kernel_rfl)) (fun _ _ _ h => h) (Or.inl ⟨by rfl, ?_⟩) hHeld ?_ ?_
      rotate_left; rintro w' ⟨s0, s1, s2, s3, s4, s5, s6, s7, s8⟩; go_simp; with_reducible rfl; rotate_left; simp only [Act.put, zA, zB, zC, i64_w, i32_w]; rfl
      refine pure_ (i := 5) (N := some 22) (v := ?_) (a' := ?_) #[T,T,T,T,T,T,F,F,F,F,F,F] rfl rfl (any_of HT_.out (by kernel_rfl)) (fun _ _ _ h => h) (Or.inl ⟨by rfl, ?_⟩) ?_ ?_
      rotate_left; intro w'; go_simp; with_reducible rfl; rotate_left; simp only [Act.put, zA, zB, zC, i64_w, i32_w]; rfl
      refine take_ (i := 6) (N := some 23) (v := ?_) (a' := ?_) #[T,T,T,T,T,T,T,F,F,F,F,F] rfl rfl (take_ofW HT_.out HW_.out (by kernel_rfl)) (fun _ _ _ h => h) (Or.inl ⟨by rfl, ?_⟩) hHeld ?_ ?_
      rotate_left; rintro w' ⟨s0, s1, s2, s3, s4, s5, s6, s7, s8⟩; go_simp; with_reducible rfl; rotate_left; simp only [Act.put, zA, zB, zC, i64_w, i32_w]; rfl
      refine one_ (i := 7) (N := some 24) #[T,T,T,T,T,T,T,T,F,F,F,F] rfl rfl (one_of HT_.out (by kernel_rfl)) (by decide) (fun K hK => ?_)
      refine goes_ Try.func46 (by kernel_rfl) rfl #[.agg #[.int .i64 ((rd_T32 l0_0 x4_1).f0), .int .i64 ((rd_T32 l0_0 x4_1).f1), .slice A165_2 ((rd_T32 l0_0 x4_1).f2).length c165_2]] (by rfl) rfl rfl jzA ?_
      with_reducible refine (spec_l25Glyph.calls ((rd_T32 l0_0 x4_1).f0) ((rd_T32 l0_0 x4_1).f1) _ _ ((rd_T32 l0_0 x4_1).f2) t166 t167 t168 _ ?side1 ?side2 A12.out).mono ?_
      (case side1 => exact jzC HR165_2 HB)
      (case side2 => exact HC165_2.out)
      rintro e w18 ⟨v169, rfl, ho0, hb⟩
      refine ⟨_, rfl, ?_⟩
      have n0_ := Am (Kd.S_elder' (jzO HO_165000) (Kd.R_base ho0) hb)
      have n1_ := Am (Kd.R_lower ho0 (below_size (jzG HB)))
      have n2_ := Am (blk_below (g := gb162) (o := .cells #[.slice (some ad165) l0_0.length c0_0, .int .i64 a0_1, .int .i64 a0_2] 26 (0, 0)) (jzB BK162) hb)
      have n3_ := Am (blk_below (g := gb163) (o := .cells #[.slice none 0 0, .int .i64 0, .int .i64 0] 26 (0, 0)) (jzB BK163) hb)
      have n4_ := Am (blk_below (g := gb164) (o := .cells #[u165000, .int .i64 a0_1, .int .i64 a0_2] 26 (0, 0)) (jzB BK164) hb)
      have n5_ := Am (below_step (jzG HB) hb)
      clear HO_165000
      clear BK162
      clear BK163
      clear BK164
      clear HB
      have HO_165000 := n0_
      have HO170 := n1_
      have BK162 := n2_
      have BK163 := n3_
      have BK164 := n4_
      have HB := n5_
      clear n0_ n1_ n2_ n3_ n4_ n5_
      (try clear hb)
      (try clear hb2)
      (try clear hk)
      (try clear hi)
      (try clear ho0)
      obtain ⟨Ao20, co20, eo20⟩ := Kd.R_slice HO170.out
      (first | subst eo20 | (injection eo20 with f1_ f2_ f3_; have f4_ := f1_.symm; have f5_ := f3_.symm; clear f1_ f2_ f3_; subst f4_; subst f5_))
      refine hK.out _ _ ⟨(b8 BK164.out 0).trans rfl, (b8 BK164.out 1).trans rfl, (b8 BK164.out 2).trans rfl, (b8 BK162.out 0).trans rfl, (b8 BK162.out 1).trans rfl, (b8 BK162.out 2).trans rfl, ((HB.out.cell (World.block_lt_of_cell? w _ hw165_0)).trans hw165_0), ((HB.out.cell (World.block_lt_of_cell? w _ hw165_1)).trans hw165_1), ((HB.out.cell (World.block_lt_of_cell? w _ hw165_2)).trans hw165_2)⟩ (fun hHeld => ?_)
      clear hK K
      refine norm_ (a' := ?_) ?_ ?_
      rotate_left
      ·show Act.put _ (some 24) _ = _
       simp only [Act.put, zA, zB, zC, i64_w, i32_w]
       rfl
      refine one_ (i := 8) (N := some 25) #[T,T,T,T,T,T,T,T,T,F,F,F] rfl rfl (one_of HT_.out (by kernel_rfl)) (by decide) (fun K hK => ?_)
      refine value_ (w1 := ?_) (v := ?_) (by rfl) rfl ?_ ?_
      rotate_left 2
      ·go_simp
       constructor
       ·rfl
       ·rfl
      refine hK.out _ _ ⟨(b8 (b3 BK164.out _) 0).trans rfl, (b8 (b3 BK164.out _) 1).trans rfl, (b8 (b3 BK164.out _) 2).trans rfl, (b8 (b3 BK162.out _) 0).trans rfl, (b8 (b3 BK162.out _) 1).trans rfl, (b8 (b3 BK162.out _) 2).trans rfl, (World.cell?_alloc_lt _ _ _ (World.block_lt_of_cell? _ _ (((HB.out.cell (World.block_lt_of_cell? w _ hw165_0)).trans hw165_0)))).trans (((HB.out.cell (World.block_lt_of_cell? w _ hw165_0)).trans hw165_0)), (World.cell?_alloc_lt _ _ _ (World.block_lt_of_cell? _ _ (((HB.out.cell (World.block_lt_of_cell? w _ hw165_1)).trans hw165_1)))).trans (((HB.out.cell (World.block_lt_of_cell? w _ hw165_1)).trans hw165_1)), (World.cell?_alloc_lt _ _ _ (World.block_lt_of_cell? _ _ (((HB.out.cell (World.block_lt_of_cell? w _ hw165_2)).trans hw165_2)))).trans (((HB.out.cell (World.block_lt_of_cell? w _ hw165_2)).trans hw165_2))⟩ (fun hHeld => ?_)
      clear hK K
      refine norm_ (a' := ?_) ?_ ?_
      rotate_left
      ·show Act.put _ (some 25) _ = _
       simp only [Act.put, zA, zB, zC, i64_w, i32_w]
       rfl
      refine one_ (i := 9) (N := some 26) #[T,T,T,T,T,T,T,T,T,T,F,F] rfl rfl (one_of HT_.out (by kernel_rfl)) (by decide) (fun K hK => ?_)
      refine Kd.S_append_step k32 (w0 := w) w.heap.size (by rfl) (.tmp 18) (.tmp 25) 24 32 (.agg #[(.int .i64 0), (.int .i64 0), (.slice none 0 0)]) 40 rfl Try.underlying24 info32 rfl (by decide) (by omega) u165000 x165000_1 (⟨t166, t167, t168⟩ : S32) [.int .i64 t166, .int .i64 t167, .slice Ao20 t168.length co20] (fun _ => True) (fun k_ => some k_ = (.slice Ao20 t168.length co20 : Value).ownBlock) rfl rfl ?aP (fun k_ hk_ => ((Kd.R_mono (ok' := fun k_ => ((fun _ => True)) k_ ∧ some k_ ≠ (u165000 : Value).ownBlock) (Kd.R_apart' (HO170.out) (Kd.S_typed HO_165000.out) (by decide)) (fun k_ hk => ⟨trivial, hk.2⟩))).1 k_ hk_.symm) ?aF ?aO ?aB ?aS ?aL ?_
      (case aP => exact k32_mkM _ _ _ (⟨t166, t167, t168⟩ : S32) (Kd.R_mono (Kd.R_tight rfl (Kd.R_mono (ok' := fun k_ => ((fun _ => True)) k_ ∧ some k_ ≠ (u165000 : Value).ownBlock) (Kd.R_apart' (HO170.out) (Kd.S_typed HO_165000.out) (by decide)) (fun k_ hk => ⟨trivial, hk.2⟩))) (fun _ h_ => h_)))
      (case aB => exact (jzG HB))
      (case aF => exact (fun _ _ => trivial))
      (case aO => exact (by (with_reducible repeat (first | apply Kd.S_alloc | apply Kd.S_drewN | apply Kd.S_drew)); exact Kd.S_mono HO_165000.out (fun k_ hk => ⟨trivial, fun e_ => hk.2 e_⟩)))
      (case aS => exact (below_size (jzG HB)))
      (case aL => have := LMc13.out; omega)
      intro v172 w19 ho hb hg hat
      rw [← Ny171.out] at ho
      have n0_ := Am (blk_grown (g := gb162) (o := .cells #[.slice (some ad165) l0_0.length c0_0, .int .i64 a0_1, .int .i64 a0_2] 26 (0, 0)) (jzB BK162) hg (Kd.S_ne HO_165000.out BK162.out (by decide)))
      have n1_ := Am (blk_grown (g := gb163) (o := .cells #[.slice none 0 0, .int .i64 0, .int .i64 0] 26 (0, 0)) (jzB BK163) hg (Kd.S_ne HO_165000.out BK163.out (by decide)))
      have n2_ := Am (blk_grown (g := gb164) (o := .cells #[u165000, .int .i64 a0_1, .int .i64 a0_2] 26 (0, 0)) (jzB BK164) hg (Kd.S_ne HO_165000.out BK164.out (by decide)))
      have n3_ := Am (hb)
      have n4_ := Am (ho)
      clear BK162
      clear BK163
      clear BK164
      clear HB
      clear HO_165000
      clear HO170
      have BK162 := n0_
      have BK163 := n1_
      have BK164 := n2_
      have HB := n3_
      have HO173 := n4_
      clear n0_ n1_ n2_ n3_ n4_
      clear ho hb hg hat
      obtain ⟨Ao21, co21, eo21⟩ := Kd.S_slice HO173.out
      (first | subst eo21 | (injection eo21 with f1_ f2_ f3_; have f4_ := f1_.symm; have f5_ := f3_.symm; clear f1_ f2_ f3_; subst f4_; subst f5_))
      refine hK.out _ _ ⟨(b8 BK164.out 0).trans rfl, (b8 BK164.out 1).trans rfl, (b8 BK164.out 2).trans rfl, (b8 BK162.out 0).trans rfl, (b8 BK162.out 1).trans rfl, (b8 BK162.out 2).trans rfl, ((HB.out.cell (World.block_lt_of_cell? w _ hw165_0)).trans hw165_0), ((HB.out.cell (World.block_lt_of_cell? w _ hw165_1)).trans hw165_1), ((HB.out.cell (World.block_lt_of_cell? w _ hw165_2)).trans hw165_2)⟩ (fun hHeld => ?_)
      clear hK K
      refine norm_ (a' := ?_) ?_ ?_
      rotate_left
      ·show Act.put _ (some 26) _ = _
       simp only [Act.put, zA, zB, zC, i64_w, i32_w]
       rfl
      refine pure_ (i := 10) (N := some 27) (v := ?_) (a' := ?_) #[T,T,T,T,T,T,T,T,T,T,T,F] rfl rfl (any_of HT_.out (by kernel_rfl)) (fun _ _ _ h => h) (Or.inl ⟨by rfl, ?_⟩) ?_ ?_
      rotate_left; intro w'; go_simp; with_reducible rfl; rotate_left; simp only [Act.put, zA, zB, zC, i64_w, i32_w]; rfl
      refine last_ (i := 11) (N := none) #[T,T,T,T,T,T,T,T,T,T,T,T] rfl rfl (one_of HT_.out (by kernel_rfl)) (by decide) (fun K hK => ?_)
      have hs22 : w19.cell? ⟨gb164, 0, none⟩ = some (u165000) := (b8 BK164.out 0).trans rfl
      have hfs22 := blk_frozen BK164.out 0
      have hns22_0 := NB162_164.out
      have hns22_1 := NB163_164.out
      have hms22_0 := NB164_162.out
      have hms22_1 := NB164_163.out
      refine skip_ (w1 := ?_) (by rfl) rfl ?_ ?_
      rotate_left
      ·go_simp
       rfl
      refine hK.out _ _ ?_
      clear hK K
      refine done_ (done_of HT_.out (by kernel_rfl)) ?_
      try go_wp2
      go_roundg k1
      case measure => have := HK1.out; omega
      case rel => exact ⟨(wrap64 (x4_1 + 1)), (y171), (.slice Ao21 y171.length co21), (by first | rfl | (simp; done) | (simp [*]; done)), H', ⟨by have := HK1.out; omega⟩, ⟨by (with_reducible repeat (first | apply Kd.S_alloc | apply Kd.S_drewN | apply Kd.S_drew)); exact Kd.S_mono (Kd.S_far (p := ⟨gb164, 0, none⟩) (Kd.S_types HO173.out BK164.out (by decide)) (fun _ hk => hk.2) (.slice Ao21 y171.length co21)) (fun _ hk => trivial)⟩, ⟨by (with_reducible repeat (first | refine b1 ?_ _ | refine b2 ?_ | refine b3 ?_ _)); refine blk_far ?_ NB162_164.out _; (with_reducible repeat (first | refine b1 ?_ _ | refine b2 ?_ | refine b3 ?_ _)); exact BK162.out⟩, ⟨by (with_reducible repeat (first | refine b1 ?_ _ | refine b2 ?_ | refine b3 ?_ _)); refine blk_far ?_ NB163_164.out _; (with_reducible repeat (first | refine b1 ?_ _ | refine b2 ?_ | refine b3 ?_ _)); exact BK163.out⟩, ⟨by (with_reducible repeat (first | refine b1 ?_ _ | refine b2 ?_ | refine b3 ?_ _)); refine blk_put (cs := #[u165000, .int .i64 a0_1, .int .i64 a0_2]) ?_ 0 _ rfl; (with_reducible repeat (first | refine b1 ?_ _ | refine b2 ?_ | refine b3 ?_ _)); exact BK164.out⟩, ⟨jzG HB⟩⟩
     ·rw [if_neg c13] at H
      exact absurd H (by simp)
    ·rw [if_neg c11] at H
     exact absurd H (by simp)
   ·rw [if_neg c10] at H
    have c10b0 : decide (x4_1 < (l0_0.length : Int)) = false := decide_eq_false c10
    clear c10
    simp only [Option.some.injEq, Prod.mk.injEq] at H
    obtain ⟨rfl, rfl, rfl⟩ := H
    have hnb23 := NB162_163.out
    have hnc23 := NB163_162.out
    have hnb24 := NB162_164.out
    have hnc24 := NB164_162.out
    have hcz25_0 : wr.cell? ⟨gb162, 0, none⟩ = some (.slice A0_0 l0_0.length c0_0) := (b8 BK162.out 0).trans rfl
    have hcz25_1 : wr.cell? ⟨gb162, 1, none⟩ = some (.int .i64 a0_1) := (b8 BK162.out 1).trans rfl
    have hcz25_2 : wr.cell? ⟨gb162, 2, none⟩ = some (.int .i64 a0_2) := (b8 BK162.out 2).trans rfl
    have hfz25_0 := blk_frozen BK162.out 0
    have hfz25_1 := blk_frozen BK162.out 1
    have hfz25_2 := blk_frozen BK162.out 2
    have hnb26 := NB164_163.out
    have hnc26 := NB163_164.out
    have hcz27_0 : wr.cell? ⟨gb164, 0, none⟩ = some (u165000) := (b8 BK164.out 0).trans rfl
    have hcz27_1 : wr.cell? ⟨gb164, 1, none⟩ = some (.int .i64 a0_1) := (b8 BK164.out 1).trans rfl
    have hcz27_2 : wr.cell? ⟨gb164, 2, none⟩ = some (.int .i64 a0_2) := (b8 BK164.out 2).trans rfl
    have hfz27_0 := blk_frozen BK164.out 0
    have hfz27_1 := blk_frozen BK164.out 1
    have hfz27_2 := blk_frozen BK164.out 2
    obtain ⟨Ao28, co28, eo28⟩ := Kd.S_slice HO_165000.out
    subst eo28
    have hcz29_0 : wr.cell? ⟨gb163, 0, none⟩ = some (.slice none 0 0) := (b8 BK163.out 0).trans rfl
    have hcz29_1 : wr.cell? ⟨gb163, 1, none⟩ = some (.int .i64 0) := (b8 BK163.out 1).trans rfl
    have hcz29_2 : wr.cell? ⟨gb163, 2, none⟩ = some (.int .i64 0) := (b8 BK163.out 2).trans rfl
    have hfz29_0 := blk_frozen BK163.out 0
    have hfz29_1 := blk_frozen BK163.out 1
    have hfz29_2 := blk_frozen BK163.out 2
    go_wp2
    refine bodyPost_ret (results_cell_row rfl _ _ gb163 26 #[.slice Ao28 x165000_1.length co28, .int .i64 a0_1, .int .i64 a0_2] (0, 0) _ rfl (by (with_reducible repeat (first | refine b1 ?_ _ | refine b2 ?_ | refine b3 ?_ _)); refine blk_put (cs := #[.slice Ao28 x165000_1.length co28, .int .i64 a0_1, .int .i64 0]) ?_ 2 _ rfl; (with_reducible repeat (first | refine b1 ?_ _ | refine b2 ?_ | refine b3 ?_ _)); refine blk_put (cs := #[.slice Ao28 x165000_1.length co28, .int .i64 0, .int .i64 0]) ?_ 1 _ rfl; (with_reducible repeat (first | refine b1 ?_ _ | refine b2 ?_ | refine b3 ?_ _)); refine blk_put (cs := #[.slice none 0 0, .int .i64 0, .int .i64 0]) ?_ 0 _ rfl; (with_reducible repeat (first | refine b1 ?_ _ | refine b2 ?_ | refine b3 ?_ _)); exact BK163.out) Try.underlying26 rfl (by kernel_rfl)) rfl ?_
    exact ⟨_, by first | rfl | (simp [errW_none, errW_some] <;> rfl) | (simp [*, errW_none, errW_some] <;> rfl), by (with_reducible repeat (first | apply Kd.S_alloc | apply Kd.S_drewN | apply Kd.S_drew)); exact Kd.S_mono (Kd.S_far (p := ⟨gb163, 2, none⟩) (Kd.S_far (p := ⟨gb163, 1, none⟩) (Kd.S_far (p := ⟨gb163, 0, none⟩) (Kd.S_types HO_165000.out BK163.out (by decide)) (fun _ hk => hk.2) (.slice Ao28 x165000_1.length co28)) (fun _ hk => hk.2) (.int .i64 a0_1)) (fun _ hk => hk.2) (.int .i64 a0_2)) (fun _ hk => trivial), jzG HB⟩

/-! ### spec_l01In: function 56 -/
def spec_l01In.f (a0 : Int) (a1 : Int) (a2 : Int) : Option (Bool) := if a0 ≥ a1 then (some (decide (a0 ≤ a2))) else (some false)
set_option maxHeartbeats 8000000 in
set_option maxRecDepth 100000 in
theorem spec_l01In.calls (a0 : Int) (a1 : Int) (a2 : Int) (r : Bool) (w : World) (h : spec_l01In.f a0 a1 a2 = some r) :
  Calls Try.prog 56 #[.int .i64 a0, .int .i64 a1, .int .i64 a2] w fun e w' => e = .returned (.bool r) ∧ Drawn0 w w' := by
 have H : (if a0 ≥ a1 then (some (decide (a0 ≤ a2))) else (some false)) = some r := h
 clear h
 by_cases c4 : a0 ≥ a1
 ·rw [if_pos c4] at H
  have c4b0 : decide (a1 ≤ a0) = true := decide_eq_true c4
  clear c4
  obtain rfl := Option.some.inj H
  go_enter Try.func56, Try.ntmps56
  go_wp2
  go_ret
  exact ⟨by first | rfl | (simp; done) | (simp [*]; done), by repeat (first | exact Drawn0.refl _ | apply Drawn0.step)⟩
 ·rw [if_neg c4] at H
  have c4b0 : decide (a1 ≤ a0) = false := decide_eq_false c4
  clear c4
  obtain rfl := Option.some.inj H
  go_enter Try.func56, Try.ntmps56
  go_wp2
  go_ret
  exact ⟨by first | rfl | (simp; done) | (simp [*]; done), by repeat (first | exact Drawn0.refl _ | apply Drawn0.step)⟩

/-! ### spec_GlyphOk: function 55 -/
mutual
def spec_GlyphOk.j0 : Nat → Bool → Int → Int → List Int → Option (Bool)
 | 0, _, _, _, _ => none
 | k + 1, x20, x175000, x175001, x175002 => if x20 = true then (some false) else (spec_GlyphOk.l0 k 0 x175000 x175001 x175002)
def spec_GlyphOk.l0 : Nat → Int → Int → Int → List Int → Option (Bool)
 | 0, _, _, _, _ => none
 | k + 1, x3, x175000, x175001, x175002 => if x3 < (x175002.length : Int) then (if 0 ≤ x3 then (if 0 ≤ x175001 then ((spec_l01In.f (rd x175002 x3) 0 (wrap64 ((shl .i64 1 x175001) - 1))).bind fun t179 => (if t179 = true then (spec_GlyphOk.l0 k (wrap64 (x3 + 1)) x175000 x175001 x175002) else (some false))) else (none)) else (none)) else (some true)
end
def spec_GlyphOk.f (k : Nat) (a0_0 : Int) (a0_1 : Int) (l0_2 : List Int) : Option (Bool) := (spec_l01In.f a0_0 0 999).bind fun t175 => (if t175 = true then ((spec_l01In.f a0_1 1 8).bind fun t176 => (if t176 = true then ((spec_l01In.f (l0_2.length : Int) 1 8).bind fun t177 => (spec_GlyphOk.j0 k (!t177) a0_0 a0_1 l0_2)) else (spec_GlyphOk.j0 k true a0_0 a0_1 l0_2))) else (spec_GlyphOk.j0 k true a0_0 a0_1 l0_2))
theorem spec_GlyphOk.mono_l : ∀ k, (∀ y0 y1 y2 y3, LeO (spec_GlyphOk.j0 k y0 y1 y2 y3) (spec_GlyphOk.j0 (k + 1) y0 y1 y2 y3)) ∧ (∀ y0 y1 y2 y3, LeO (spec_GlyphOk.l0 k y0 y1 y2 y3) (spec_GlyphOk.l0 (k + 1) y0 y1 y2 y3))
 | 0 => ⟨fun _ _ _ _ r h => by simp [spec_GlyphOk.j0] at h, fun _ _ _ _ r h => by simp [spec_GlyphOk.l0] at h⟩
 | k + 1 => by
  obtain ⟨ih0, ih1⟩ := spec_GlyphOk.mono_l k
  refine ⟨?_, ?_⟩
  ·intro y0 y1 y2 y3
   unfold spec_GlyphOk.j0
   repeat' first
   | (with_reducible exact ih0 _ _ _ _)
   | (with_reducible exact ih1 _ _ _ _)
   | (with_reducible exact LeO.refl _)
   | (with_reducible exact LeO.none _)
   | (with_reducible refine LeO.ite ?_ ?_)
   | (with_reducible refine LeO.bind ?_ (fun _ => ?_))
   | exact ih0 _ _ _ _
   | exact ih1 _ _ _ _
   | exact LeO.none _
   | refine LeO.ite ?_ ?_
   | refine LeO.bind ?_ (fun _ => ?_)
  ·intro y0 y1 y2 y3
   unfold spec_GlyphOk.l0
   repeat' first
   | (with_reducible exact ih0 _ _ _ _)
   | (with_reducible exact ih1 _ _ _ _)
   | (with_reducible exact LeO.refl _)
   | (with_reducible exact LeO.none _)
   | (with_reducible refine LeO.ite ?_ ?_)
   | (with_reducible refine LeO.bind ?_ (fun _ => ?_))
   | exact ih0 _ _ _ _
   | exact ih1 _ _ _ _
   | exact LeO.none _
   | refine LeO.ite ?_ ?_
   | refine LeO.bind ?_ (fun _ => ?_)
theorem spec_GlyphOk.mono : ∀ a0 a1 a2 k, LeO (spec_GlyphOk.f k a0 a1 a2) (spec_GlyphOk.f (k + 1) a0 a1 a2) := by
 intro a0 a1 a2 k
 obtain ⟨ih0, ih1⟩ := spec_GlyphOk.mono_l k
 unfold spec_GlyphOk.f
 repeat' first
   | (with_reducible exact ih0 _ _ _ _)
   | (with_reducible exact ih1 _ _ _ _)
   | (with_reducible exact LeO.refl _)
   | (with_reducible exact LeO.none _)
   | (with_reducible refine LeO.ite ?_ ?_)
   | (with_reducible refine LeO.bind ?_ (fun _ => ?_))
   | exact ih0 _ _ _ _
   | exact ih1 _ _ _ _
   | exact LeO.none _
   | refine LeO.ite ?_ ?_
   | refine LeO.bind ?_ (fun _ => ?_)
set_option maxHeartbeats 8000000 in
set_option maxRecDepth 100000 in
theorem spec_GlyphOk.calls (k : Nat) (a0_0 : Int) (a0_1 : Int) (A0_2 : Option Addr) (c0_2 : Nat) (l0_2 : List Int) (r : Bool) (w : World) (hr0_2 : Kd.C (Kd.int .i64) w A0_2 l0_2.length l0_2) (hc0_2 : l0_2.length ≤ c0_2) (h : spec_GlyphOk.f k a0_0 a0_1 l0_2 = some r) :
  Calls Try.prog 55 #[.agg #[.int .i64 a0_0, .int .i64 a0_1, .slice A0_2 l0_2.length c0_2]] w fun e w' => e = .returned (.bool r) ∧ Below w.heap.size w w' := by
 have hu32 := Try.underlying32
 have HR0_2 := Am hr0_2
 have HC0_2 := Am hc0_2
 clear hr0_2 hc0_2
 have HB := Am (Below.refl w.heap.size w)
 have H : ((spec_l01In.f a0_0 0 999).bind fun t175 => (if t175 = true then ((spec_l01In.f a0_1 1 8).bind fun t176 => (if t176 = true then ((spec_l01In.f (l0_2.length : Int) 1 8).bind fun t177 => (spec_GlyphOk.j0 k (!t177) a0_0 a0_1 l0_2)) else (spec_GlyphOk.j0 k true a0_0 a0_1 l0_2))) else (spec_GlyphOk.j0 k true a0_0 a0_1 l0_2))) = some r := h
 clear h
 have HC2 := Am H
 clear H
 go_enter Try.func55, Try.ntmps55
 go_upto_region 1 with (first | ((with_reducible refine gate_dst (N := 1) rfl ?_); (try (refine gate_guard (by rfl) ?_; dsimp only)); refine box_event ?hg (N := 1) ?hd (cs := #[.int .i64 a0_0, .int .i64 a0_1, .slice A0_2 l0_2.length c0_2]) (t := 32) ?hr ?_; (case hd => rfl); (case hg => rfl); (case hr => first | (go_simp; done) | (go_simp; rfl)); intro gb174 hg w3 hbox hb; have n0_ := Am (below_step (jzH HB) hb); have n1_ := Am (hbox); have n2_ := Am ((by rw [hg]; exact (below_size (jzH HB)) : w.heap.size ≤ gb174)); have n3_ := Am ((by rw [hg]; exact (below_size (jzH HB)) : w.heap.size ≤ gb174)); clear HB; have HB := n0_; have BK174 := n1_; have GW174 := n2_; have GE174 := n3_; clear n0_ n1_ n2_ n3_; clear hb hbox hg))
 repeat (go_quiet (first | ((with_reducible refine gate_dst (N := 1) rfl ?_); (try (refine gate_guard (by rfl) ?_; dsimp only)); refine box_event ?hg (N := 1) ?hd (cs := #[.int .i64 a0_0, .int .i64 a0_1, .slice A0_2 l0_2.length c0_2]) (t := 32) ?hr ?_; (case hd => rfl); (case hg => rfl); (case hr => first | (go_simp; done) | (go_simp; rfl)); intro gb174 hg w3 hbox hb; have n0_ := Am (below_step (jzH HB) hb); have n1_ := Am (hbox); have n2_ := Am ((by rw [hg]; exact (below_size (jzH HB)) : w.heap.size ≤ gb174)); have n3_ := Am ((by rw [hg]; exact (below_size (jzH HB)) : w.heap.size ≤ gb174)); clear HB; have HB := n0_; have BK174 := n1_; have GW174 := n2_; have GE174 := n3_; clear n0_ n1_ n2_ n3_; clear hb hbox hg)); go_upto_region 1 with (first | ((with_reducible refine gate_dst (N := 1) rfl ?_); (try (refine gate_guard (by rfl) ?_; dsimp only)); refine box_event ?hg (N := 1) ?hd (cs := #[.int .i64 a0_0, .int .i64 a0_1, .slice A0_2 l0_2.length c0_2]) (t := 32) ?hr ?_; (case hd => rfl); (case hg => rfl); (case hr => first | (go_simp; done) | (go_simp; rfl)); intro gb174 hg w3 hbox hb; have n0_ := Am (below_step (jzH HB) hb); have n1_ := Am (hbox); have n2_ := Am ((by rw [hg]; exact (below_size (jzH HB)) : w.heap.size ≤ gb174)); have n3_ := Am ((by rw [hg]; exact (below_size (jzH HB)) : w.heap.size ≤ gb174)); clear HB; have HB := n0_; have BK174 := n1_; have GW174 := n2_; have GE174 := n3_; clear n0_ n1_ n2_ n3_; clear hb hbox hg)))
 (try simp only [Act.put, zA, zB, zC])
 go_cut [20] (fun v20 wc => ∃ (kq : Nat) (x20_1 : Bool), v20 = .bool x20_1 ∧ Aside0 (spec_GlyphOk.j0 kq x20_1 a0_0 a0_1 l0_2 = some r) ∧ Aside0 (kq ≤ k) ∧ Aside0 (wc.heap[gb174]? = some (.cells #[.int .i64 a0_0, .int .i64 a0_1, (.slice A0_2 l0_2.length c0_2)] 32 (0, 0))) ∧ Aside0 (Below w.heap.size w wc))
 case first =>
  have H := HC2.out
  clear HC2
  replace H := Option.bind_eq_some_iff.mp H
  obtain ⟨t175, A40, H⟩ := H
  replace H : (if t175 = true then ((spec_l01In.f a0_1 1 8).bind fun t176 => (if t176 = true then ((spec_l01In.f (l0_2.length : Int) 1 8).bind fun t177 => (spec_GlyphOk.j0 k (!t177) a0_0 a0_1 l0_2)) else (spec_GlyphOk.j0 k true a0_0 a0_1 l0_2))) else (spec_GlyphOk.j0 k true a0_0 a0_1 l0_2)) = some r := H
  have A4 := Am A40
  clear A40
  by_cases c5 : t175 = true
  ·subst c5
   have H1 : ((spec_l01In.f a0_1 1 8).bind fun t176 => (if t176 = true then ((spec_l01In.f (l0_2.length : Int) 1 8).bind fun t177 => (spec_GlyphOk.j0 k (!t177) a0_0 a0_1 l0_2)) else (spec_GlyphOk.j0 k true a0_0 a0_1 l0_2))) = some r := by rw [if_pos rfl] at H; exact H
   clear H
   have H := H1
   clear H1
   replace H := Option.bind_eq_some_iff.mp H
   obtain ⟨t176, A60, H⟩ := H
   replace H : (if t176 = true then ((spec_l01In.f (l0_2.length : Int) 1 8).bind fun t177 => (spec_GlyphOk.j0 k (!t177) a0_0 a0_1 l0_2)) else (spec_GlyphOk.j0 k true a0_0 a0_1 l0_2)) = some r := H
   have A6 := Am A60
   clear A60
   by_cases c7 : t176 = true
   ·subst c7
    have H1 : ((spec_l01In.f (l0_2.length : Int) 1 8).bind fun t177 => (spec_GlyphOk.j0 k (!t177) a0_0 a0_1 l0_2)) = some r := by rw [if_pos rfl] at H; exact H
    clear H
    have H := H1
    clear H1
    replace H := Option.bind_eq_some_iff.mp H
    obtain ⟨t177, A80, H⟩ := H
    replace H : (spec_GlyphOk.j0 k (!t177) a0_0 a0_1 l0_2) = some r := H
    have A8 := Am A80
    clear A80
    have H' := Am H
    clear H
    have hcz9_0 : w3.cell? ⟨gb174, 0, none⟩ = some (.int .i64 a0_0) := (b8 BK174.out 0).trans rfl
    have hcz9_1 : w3.cell? ⟨gb174, 1, none⟩ = some (.int .i64 a0_1) := (b8 BK174.out 1).trans rfl
    have hcz9_2 : w3.cell? ⟨gb174, 2, none⟩ = some (.slice A0_2 l0_2.length c0_2) := (b8 BK174.out 2).trans rfl
    have hfz9_0 := blk_frozen BK174.out 0
    have hfz9_1 := blk_frozen BK174.out 1
    have hfz9_2 := blk_frozen BK174.out 2
    go_wp2_with (first | (go_at_call 56; (with_reducible refine (spec_l01In.calls a0_0 0 999 true _ A4.out).mono ?_); rintro e w' ⟨rfl, ⟨nd, rfl⟩⟩; (try first | exact ⟨rfl, _, World.drewN_drewN _ _ _⟩ | exact ⟨rfl, _, Eq.trans (World.drewN_drewN _ _ _) (congrArg (World.drewN _) (Nat.add_assoc _ _ _))⟩)) | (go_at_call 56; (with_reducible refine (spec_l01In.calls a0_1 1 8 true _ A6.out).mono ?_); rintro e w' ⟨rfl, ⟨nd, rfl⟩⟩; (try first | exact ⟨rfl, _, World.drewN_drewN _ _ _⟩ | exact ⟨rfl, _, Eq.trans (World.drewN_drewN _ _ _) (congrArg (World.drewN _) (Nat.add_assoc _ _ _))⟩)) | (go_at_call 56; (with_reducible refine (spec_l01In.calls (l0_2.length : Int) 1 8 t177 _ A8.out).mono ?_); rintro e w' ⟨rfl, ⟨nd, rfl⟩⟩; (try first | exact ⟨rfl, _, World.drewN_drewN _ _ _⟩ | exact ⟨rfl, _, Eq.trans (World.drewN_drewN _ _ _) (congrArg (World.drewN _) (Nat.add_assoc _ _ _))⟩)))
    repeat (go_quiet (first | (go_at_call 56; (with_reducible refine (spec_l01In.calls a0_0 0 999 true _ A4.out).mono ?_); rintro e w' ⟨rfl, ⟨nd, rfl⟩⟩; (try first | exact ⟨rfl, _, World.drewN_drewN _ _ _⟩ | exact ⟨rfl, _, Eq.trans (World.drewN_drewN _ _ _) (congrArg (World.drewN _) (Nat.add_assoc _ _ _))⟩)) | (go_at_call 56; (with_reducible refine (spec_l01In.calls a0_1 1 8 true _ A6.out).mono ?_); rintro e w' ⟨rfl, ⟨nd, rfl⟩⟩; (try first | exact ⟨rfl, _, World.drewN_drewN _ _ _⟩ | exact ⟨rfl, _, Eq.trans (World.drewN_drewN _ _ _) (congrArg (World.drewN _) (Nat.add_assoc _ _ _))⟩)) | (go_at_call 56; (with_reducible refine (spec_l01In.calls (l0_2.length : Int) 1 8 t177 _ A8.out).mono ?_); rintro e w' ⟨rfl, ⟨nd, rfl⟩⟩; (try first | exact ⟨rfl, _, World.drewN_drewN _ _ _⟩ | exact ⟨rfl, _, Eq.trans (World.drewN_drewN _ _ _) (congrArg (World.drewN _) (Nat.add_assoc _ _ _))⟩))); try go_wp2_with (first | (go_at_call 56; (with_reducible refine (spec_l01In.calls a0_0 0 999 true _ A4.out).mono ?_); rintro e w' ⟨rfl, ⟨nd, rfl⟩⟩; (try first | exact ⟨rfl, _, World.drewN_drewN _ _ _⟩ | exact ⟨rfl, _, Eq.trans (World.drewN_drewN _ _ _) (congrArg (World.drewN _) (Nat.add_assoc _ _ _))⟩)) | (go_at_call 56; (with_reducible refine (spec_l01In.calls a0_1 1 8 true _ A6.out).mono ?_); rintro e w' ⟨rfl, ⟨nd, rfl⟩⟩; (try first | exact ⟨rfl, _, World.drewN_drewN _ _ _⟩ | exact ⟨rfl, _, Eq.trans (World.drewN_drewN _ _ _) (congrArg (World.drewN _) (Nat.add_assoc _ _ _))⟩)) | (go_at_call 56; (with_reducible refine (spec_l01In.calls (l0_2.length : Int) 1 8 t177 _ A8.out).mono ?_); rintro e w' ⟨rfl, ⟨nd, rfl⟩⟩; (try first | exact ⟨rfl, _, World.drewN_drewN _ _ _⟩ | exact ⟨rfl, _, Eq.trans (World.drewN_drewN _ _ _) (congrArg (World.drewN _) (Nat.add_assoc _ _ _))⟩))))
    go_meet
    case rel => exact ⟨_, (!t177), (by first | rfl | (simp; done) | (simp [*]; done)), H', ⟨by first | omega | exact Nat.le_refl _⟩, ⟨by (with_reducible repeat (first | refine b1 ?_ _ | refine b2 ?_ | refine b3 ?_ _)); exact BK174.out⟩, ⟨jzG HB⟩⟩
   ·replace c7 := Bool.eq_false_iff.mpr c7
    subst c7
    have H1 : (spec_GlyphOk.j0 k true a0_0 a0_1 l0_2) = some r := by rw [if_neg (show ¬ (false = true) by decide)] at H; exact H
    clear H
    have H := H1
    clear H1
    have H' := Am H
    clear H
    have hcz10_0 : w3.cell? ⟨gb174, 0, none⟩ = some (.int .i64 a0_0) := (b8 BK174.out 0).trans rfl
    have hcz10_1 : w3.cell? ⟨gb174, 1, none⟩ = some (.int .i64 a0_1) := (b8 BK174.out 1).trans rfl
    have hcz10_2 : w3.cell? ⟨gb174, 2, none⟩ = some (.slice A0_2 l0_2.length c0_2) := (b8 BK174.out 2).trans rfl
    have hfz10_0 := blk_frozen BK174.out 0
    have hfz10_1 := blk_frozen BK174.out 1
    have hfz10_2 := blk_frozen BK174.out 2
    go_wp2_with (first | (go_at_call 56; (with_reducible refine (spec_l01In.calls a0_0 0 999 true _ A4.out).mono ?_); rintro e w' ⟨rfl, ⟨nd, rfl⟩⟩; (try first | exact ⟨rfl, _, World.drewN_drewN _ _ _⟩ | exact ⟨rfl, _, Eq.trans (World.drewN_drewN _ _ _) (congrArg (World.drewN _) (Nat.add_assoc _ _ _))⟩)) | (go_at_call 56; (with_reducible refine (spec_l01In.calls a0_1 1 8 false _ A6.out).mono ?_); rintro e w' ⟨rfl, ⟨nd, rfl⟩⟩; (try first | exact ⟨rfl, _, World.drewN_drewN _ _ _⟩ | exact ⟨rfl, _, Eq.trans (World.drewN_drewN _ _ _) (congrArg (World.drewN _) (Nat.add_assoc _ _ _))⟩)))
    repeat (go_quiet (first | (go_at_call 56; (with_reducible refine (spec_l01In.calls a0_0 0 999 true _ A4.out).mono ?_); rintro e w' ⟨rfl, ⟨nd, rfl⟩⟩; (try first | exact ⟨rfl, _, World.drewN_drewN _ _ _⟩ | exact ⟨rfl, _, Eq.trans (World.drewN_drewN _ _ _) (congrArg (World.drewN _) (Nat.add_assoc _ _ _))⟩)) | (go_at_call 56; (with_reducible refine (spec_l01In.calls a0_1 1 8 false _ A6.out).mono ?_); rintro e w' ⟨rfl, ⟨nd, rfl⟩⟩; (try first | exact ⟨rfl, _, World.drewN_drewN _ _ _⟩ | exact ⟨rfl, _, Eq.trans (World.drewN_drewN _ _ _) (congrArg (World.drewN _) (Nat.add_assoc _ _ _))⟩))); try go_wp2_with (first | (go_at_call 56; (with_reducible refine (spec_l01In.calls a0_0 0 999 true _ A4.out).mono ?_); rintro e w' ⟨rfl, ⟨nd, rfl⟩⟩; (try first | exact ⟨rfl, _, World.drewN_drewN _ _ _⟩ | exact ⟨rfl, _, Eq.trans (World.drewN_drewN _ _ _) (congrArg (World.drewN _) (Nat.add_assoc _ _ _))⟩)) | (go_at_call 56; (with_reducible refine (spec_l01In.calls a0_1 1 8 false _ A6.out).mono ?_); rintro e w' ⟨rfl, ⟨nd, rfl⟩⟩; (try first | exact ⟨rfl, _, World.drewN_drewN _ _ _⟩ | exact ⟨rfl, _, Eq.trans (World.drewN_drewN _ _ _) (congrArg (World.drewN _) (Nat.add_assoc _ _ _))⟩))))
    go_meet
    case rel => exact ⟨_, (true), (by first | rfl | (simp; done) | (simp [*]; done)), H', ⟨by first | omega | exact Nat.le_refl _⟩, ⟨by (with_reducible repeat (first | refine b1 ?_ _ | refine b2 ?_ | refine b3 ?_ _)); exact BK174.out⟩, ⟨jzG HB⟩⟩
  ·replace c5 := Bool.eq_false_iff.mpr c5
   subst c5
   have H1 : (spec_GlyphOk.j0 k true a0_0 a0_1 l0_2) = some r := by rw [if_neg (show ¬ (false = true) by decide)] at H; exact H
   clear H
   have H := H1
   clear H1
   have H' := Am H
   clear H
   have hcz11_0 : w3.cell? ⟨gb174, 0, none⟩ = some (.int .i64 a0_0) := (b8 BK174.out 0).trans rfl
   have hcz11_1 : w3.cell? ⟨gb174, 1, none⟩ = some (.int .i64 a0_1) := (b8 BK174.out 1).trans rfl
   have hcz11_2 : w3.cell? ⟨gb174, 2, none⟩ = some (.slice A0_2 l0_2.length c0_2) := (b8 BK174.out 2).trans rfl
   have hfz11_0 := blk_frozen BK174.out 0
   have hfz11_1 := blk_frozen BK174.out 1
   have hfz11_2 := blk_frozen BK174.out 2
   go_wp2_with (first | (go_at_call 56; (with_reducible refine (spec_l01In.calls a0_0 0 999 false _ A4.out).mono ?_); rintro e w' ⟨rfl, ⟨nd, rfl⟩⟩; (try first | exact ⟨rfl, _, World.drewN_drewN _ _ _⟩ | exact ⟨rfl, _, Eq.trans (World.drewN_drewN _ _ _) (congrArg (World.drewN _) (Nat.add_assoc _ _ _))⟩)))
   repeat (go_quiet (first | (go_at_call 56; (with_reducible refine (spec_l01In.calls a0_0 0 999 false _ A4.out).mono ?_); rintro e w' ⟨rfl, ⟨nd, rfl⟩⟩; (try first | exact ⟨rfl, _, World.drewN_drewN _ _ _⟩ | exact ⟨rfl, _, Eq.trans (World.drewN_drewN _ _ _) (congrArg (World.drewN _) (Nat.add_assoc _ _ _))⟩))); try go_wp2_with (first | (go_at_call 56; (with_reducible refine (spec_l01In.calls a0_0 0 999 false _ A4.out).mono ?_); rintro e w' ⟨rfl, ⟨nd, rfl⟩⟩; (try first | exact ⟨rfl, _, World.drewN_drewN _ _ _⟩ | exact ⟨rfl, _, Eq.trans (World.drewN_drewN _ _ _) (congrArg (World.drewN _) (Nat.add_assoc _ _ _))⟩))))
   go_meet
   case rel => exact ⟨_, (true), (by first | rfl | (simp; done) | (simp [*]; done)), H', ⟨by first | omega | exact Nat.le_refl _⟩, ⟨by (with_reducible repeat (first | refine b1 ?_ _ | refine b2 ?_ | refine b3 ?_ _)); exact BK174.out⟩, ⟨jzG HB⟩⟩
 case rest =>
  clear HC2
  try clear p2
  try clear c5
  try clear c7
  try clear hcz10_0
  try clear hcz10_1
  try clear hcz10_2
  try clear hcz11_0
  try clear hcz11_1
  try clear hcz11_2
  try clear hcz9_0
  try clear hcz9_1
  try clear hcz9_2
  try clear hfz10_0
  try clear hfz10_1
  try clear hfz10_2
  try clear hfz11_0
  try clear hfz11_1
  try clear hfz11_2
  try clear hfz9_0
  try clear hfz9_1
  try clear hfz9_2
  obtain ⟨kq, x20_1, rfl, HA, HJ1, BK174, HB⟩ := hcut
  cases kq with
  | zero => exact absurd HA.out (by simp [spec_GlyphOk.j0])
  | succ kj1 =>
   have H := HA.out
   clear HA
   simp only [spec_GlyphOk.j0] at H
   by_cases c12 : x20_1 = true
   ·subst c12
    have H1 : (some false) = some r := by rw [if_pos rfl] at H; exact H
    clear H
    have H := H1
    clear H1
    obtain rfl := Option.some.inj H
    go_wp2
    repeat (go_quiet (fail); try go_wp2)
    go_ret
    exact ⟨by first | rfl | (simp [errW_none, errW_some] <;> rfl) | (simp [*, errW_none, errW_some] <;> rfl), jzG HB⟩
   ·replace c12 := Bool.eq_false_iff.mpr c12
    subst c12
    have H1 : (spec_GlyphOk.l0 kj1 0 a0_0 a0_1 l0_2) = some r := by rw [if_neg (show ¬ (false = true) by decide)] at H; exact H
    clear H
    have H := H1
    clear H1
    have H' := Am H
    clear H
    go_wp2
    repeat (go_quiet (fail); try go_wp2)
    go_loopg [3] kj1 (fun kq v3 w' => ∃ (x3_2 : Int), v3 = .int .i64 x3_2 ∧ Aside0 (spec_GlyphOk.l0 kq x3_2 a0_0 a0_1 l0_2 = some r) ∧ Aside0 (kq ≤ kj1) ∧ Aside0 (w'.heap[gb174]? = some (.cells #[.int .i64 a0_0, .int .i64 a0_1, (.slice A0_2 l0_2.length c0_2)] 32 (0, 0))) ∧ Aside0 (Below w.heap.size w w'))
    case atStart => exact ⟨(0), (by first | rfl | (simp; done) | (simp [*]; done)), H', ⟨Nat.le_refl _⟩, ⟨by (with_reducible repeat (first | refine b1 ?_ _ | refine b2 ?_ | refine b3 ?_ _)); exact BK174.out⟩, ⟨jzG HB⟩⟩
    case round =>
     clear H'
     try clear c1
     try clear p2
     try clear c5
     try clear c7
     try clear c12
     try clear hcz10_0
     try clear hcz10_1
     try clear hcz10_2
     try clear hcz11_0
     try clear hcz11_1
     try clear hcz11_2
     try clear hcz9_0
     try clear hcz9_1
     try clear hcz9_2
     try clear hfz10_0
     try clear hfz10_1
     try clear hfz10_2
     try clear hfz11_0
     try clear hfz11_1
     try clear hfz11_2
     try clear hfz9_0
     try clear hfz9_1
     try clear hfz9_2
     try clear p2
     obtain ⟨x3_2, rfl, HA, HK2, BK174, HB⟩ := hrel
     cases gk with
     | zero => exact absurd HA.out (by simp [spec_GlyphOk.l0])
     | succ k2 =>
      have H := HA.out
      clear HA
      simp only [spec_GlyphOk.l0] at H
      by_cases c13 : x3_2 < (l0_2.length : Int)
      ·rw [if_pos c13] at H
       have c13b0 : decide (x3_2 < (l0_2.length : Int)) = true := decide_eq_true c13
       clear c13
       by_cases c14 : 0 ≤ x3_2
       ·rw [if_pos c14] at H
        have c14b0 : decide (0 ≤ x3_2) = true := decide_eq_true c14
        clear c14
        by_cases c15 : 0 ≤ a0_1
        ·rw [if_pos c15] at H
         have c15b0 := eq_true c15
         have c15b1 : decide (0 ≤ a0_1) = true := decide_eq_true c15
         clear c15
         obtain ⟨ji16, hji16⟩ : ∃ j_ : Int, (shl .i64 1 a0_1) = j_ := ⟨_, rfl⟩
         replace H : ((spec_l01In.f (rd l0_2 x3_2) 0 (wrap64 ((ji16) - 1))).bind fun t179 => (if t179 = true then (spec_GlyphOk.l0 k2 (wrap64 (x3_2 + 1)) a0_0 a0_1 l0_2) else (some false))) = some r := by first | (rw [hji16] at H; exact H) | (simp only [hji16] at H ⊢; exact H)
         have hji16_ : (IntKind.i64.wrap (1 * 2 ^ min a0_1.toNat 64)) = ji16 := hji16
         have hji16z : a0_1 ≤ 64 → (IntKind.i64.wrap (1 * 2 ^ a0_1.toNat)) = ji16 := shl_small hji16
         have hji16u : (IntKind.i64.wrap (2 ^ min a0_1.toNat 64)) = ji16 := by have h_ := hji16_; rw [Int.one_mul] at h_; exact h_
         have hji16v : a0_1 ≤ 64 → (IntKind.i64.wrap (2 ^ a0_1.toNat)) = ji16 := fun hle_ => by have h_ := hji16z hle_; rw [Int.one_mul] at h_; exact h_
         have hji16y : (wrap64 (1 * 2 ^ min a0_1.toNat 64)) = ji16 := (i64_w _).symm.trans hji16_
         have hji16x : a0_1 ≤ 64 → (wrap64 (1 * 2 ^ a0_1.toNat)) = ji16 := fun h_ => (i64_w _).symm.trans (hji16z h_)
         replace H := Option.bind_eq_some_iff.mp H
         obtain ⟨t179, A170, H⟩ := H
         replace H : (if t179 = true then (spec_GlyphOk.l0 k2 (wrap64 (x3_2 + 1)) a0_0 a0_1 l0_2) else (some false)) = some r := H
         have A17 := Am A170
         clear A170
         by_cases c18 : t179 = true
         ·subst c18
          have H1 : (spec_GlyphOk.l0 k2 (wrap64 (x3_2 + 1)) a0_0 a0_1 l0_2) = some r := by rw [if_pos rfl] at H; exact H
          clear H
          have H := H1
          clear H1
          have H' := Am H
          clear H
          have hcz19_0 : wr.cell? ⟨gb174, 0, none⟩ = some (.int .i64 a0_0) := (b8 BK174.out 0).trans rfl
          have hcz19_1 : wr.cell? ⟨gb174, 1, none⟩ = some (.int .i64 a0_1) := (b8 BK174.out 1).trans rfl
          have hcz19_2 : wr.cell? ⟨gb174, 2, none⟩ = some (.slice A0_2 l0_2.length c0_2) := (b8 BK174.out 2).trans rfl
          have hfz19_0 := blk_frozen BK174.out 0
          have hfz19_1 := blk_frozen BK174.out 1
          have hfz19_2 := blk_frozen BK174.out 2
          have p178 : 0 ≤ (x3_2 : Int) := of_decide_eq_true jzS
          have q178 : x3_2 < (l0_2.length : Int) := of_decide_eq_true jzS
          obtain ⟨ad178, e178, hx178_0⟩ := Kd.at_int HR0_2.out x3_2 p178 q178
          cases e178
          replace hx178_0 := (HB.out.cell (World.block_lt_of_cell? w _ hx178_0)).trans hx178_0
          replace p178 := eq_true p178
          replace q178 := eq_true q178
          go_wp2_with (first | (go_at_call 56; (with_reducible refine (spec_l01In.calls (rd l0_2 x3_2) 0 (wrap64 ((ji16) - 1)) true _ A17.out).mono ?_); rintro e w' ⟨rfl, ⟨nd, rfl⟩⟩; (try first | exact ⟨rfl, _, World.drewN_drewN _ _ _⟩ | exact ⟨rfl, _, Eq.trans (World.drewN_drewN _ _ _) (congrArg (World.drewN _) (Nat.add_assoc _ _ _))⟩)))
          repeat (go_quiet (first | (go_at_call 56; (with_reducible refine (spec_l01In.calls (rd l0_2 x3_2) 0 (wrap64 ((ji16) - 1)) true _ A17.out).mono ?_); rintro e w' ⟨rfl, ⟨nd, rfl⟩⟩; (try first | exact ⟨rfl, _, World.drewN_drewN _ _ _⟩ | exact ⟨rfl, _, Eq.trans (World.drewN_drewN _ _ _) (congrArg (World.drewN _) (Nat.add_assoc _ _ _))⟩))); try go_wp2_with (first | (go_at_call 56; (with_reducible refine (spec_l01In.calls (rd l0_2 x3_2) 0 (wrap64 ((ji16) - 1)) true _ A17.out).mono ?_); rintro e w' ⟨rfl, ⟨nd, rfl⟩⟩; (try first | exact ⟨rfl, _, World.drewN_drewN _ _ _⟩ | exact ⟨rfl, _, Eq.trans (World.drewN_drewN _ _ _) (congrArg (World.drewN _) (Nat.add_assoc _ _ _))⟩))))
          go_roundg k2
          case measure => have := HJ1.out; have := HK2.out; omega
          case rel => exact ⟨(wrap64 (x3_2 + 1)), (by first | rfl | (simp; done) | (simp [*]; done)), H', ⟨by have := HJ1.out; have := HK2.out; omega⟩, ⟨by (with_reducible repeat (first | refine b1 ?_ _ | refine b2 ?_ | refine b3 ?_ _)); exact BK174.out⟩, ⟨jzG HB⟩⟩
         ·replace c18 := Bool.eq_false_iff.mpr c18
          subst c18
          have H1 : (some false) = some r := by rw [if_neg (show ¬ (false = true) by decide)] at H; exact H
          clear H
          have H := H1
          clear H1
          obtain rfl := Option.some.inj H
          have hcz20_0 : wr.cell? ⟨gb174, 0, none⟩ = some (.int .i64 a0_0) := (b8 BK174.out 0).trans rfl
          have hcz20_1 : wr.cell? ⟨gb174, 1, none⟩ = some (.int .i64 a0_1) := (b8 BK174.out 1).trans rfl
          have hcz20_2 : wr.cell? ⟨gb174, 2, none⟩ = some (.slice A0_2 l0_2.length c0_2) := (b8 BK174.out 2).trans rfl
          have hfz20_0 := blk_frozen BK174.out 0
          have hfz20_1 := blk_frozen BK174.out 1
          have hfz20_2 := blk_frozen BK174.out 2
          have p178 : 0 ≤ (x3_2 : Int) := of_decide_eq_true jzS
          have q178 : x3_2 < (l0_2.length : Int) := of_decide_eq_true jzS
          obtain ⟨ad178, e178, hx178_0⟩ := Kd.at_int HR0_2.out x3_2 p178 q178
          cases e178
          replace hx178_0 := (HB.out.cell (World.block_lt_of_cell? w _ hx178_0)).trans hx178_0
          replace p178 := eq_true p178
          replace q178 := eq_true q178
          go_wp2_with (first | (go_at_call 56; (with_reducible refine (spec_l01In.calls (rd l0_2 x3_2) 0 (wrap64 ((ji16) - 1)) false _ A17.out).mono ?_); rintro e w' ⟨rfl, ⟨nd, rfl⟩⟩; (try first | exact ⟨rfl, _, World.drewN_drewN _ _ _⟩ | exact ⟨rfl, _, Eq.trans (World.drewN_drewN _ _ _) (congrArg (World.drewN _) (Nat.add_assoc _ _ _))⟩)))
          repeat (go_quiet (first | (go_at_call 56; (with_reducible refine (spec_l01In.calls (rd l0_2 x3_2) 0 (wrap64 ((ji16) - 1)) false _ A17.out).mono ?_); rintro e w' ⟨rfl, ⟨nd, rfl⟩⟩; (try first | exact ⟨rfl, _, World.drewN_drewN _ _ _⟩ | exact ⟨rfl, _, Eq.trans (World.drewN_drewN _ _ _) (congrArg (World.drewN _) (Nat.add_assoc _ _ _))⟩))); try go_wp2_with (first | (go_at_call 56; (with_reducible refine (spec_l01In.calls (rd l0_2 x3_2) 0 (wrap64 ((ji16) - 1)) false _ A17.out).mono ?_); rintro e w' ⟨rfl, ⟨nd, rfl⟩⟩; (try first | exact ⟨rfl, _, World.drewN_drewN _ _ _⟩ | exact ⟨rfl, _, Eq.trans (World.drewN_drewN _ _ _) (congrArg (World.drewN _) (Nat.add_assoc _ _ _))⟩))))
          go_ret
          exact ⟨by first | rfl | (simp [errW_none, errW_some] <;> rfl) | (simp only [← hji16]; first | rfl | (simp [errW_none, errW_some] <;> rfl)) | (simp [*, errW_none, errW_some] <;> rfl), jzG HB⟩
        ·rw [if_neg c15] at H
         exact absurd H (by simp)
       ·rw [if_neg c14] at H
        exact absurd H (by simp)
      ·rw [if_neg c13] at H
       have c13b0 : decide (x3_2 < (l0_2.length : Int)) = false := decide_eq_false c13
       clear c13
       obtain rfl := Option.some.inj H
       have hcz21_0 : wr.cell? ⟨gb174, 0, none⟩ = some (.int .i64 a0_0) := (b8 BK174.out 0).trans rfl
       have hcz21_1 : wr.cell? ⟨gb174, 1, none⟩ = some (.int .i64 a0_1) := (b8 BK174.out 1).trans rfl
       have hcz21_2 : wr.cell? ⟨gb174, 2, none⟩ = some (.slice A0_2 l0_2.length c0_2) := (b8 BK174.out 2).trans rfl
       have hfz21_0 := blk_frozen BK174.out 0
       have hfz21_1 := blk_frozen BK174.out 1
       have hfz21_2 := blk_frozen BK174.out 2
       go_wp2
       repeat (go_quiet (fail); try go_wp2)
       go_ret
       exact ⟨by first | rfl | (simp [errW_none, errW_some] <;> rfl) | (simp [*, errW_none, errW_some] <;> rfl), jzG HB⟩

end Go.Proofs.Ytphjcllhlecpfaa.PFnCaches
