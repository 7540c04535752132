/- Written by a program of this session (a turned copy of the kit's printer): what each Go function answers, and that it does. -/
import Derived.Test.YtphjcllhlecpfaaPFnCachesx0
import Derived.Test.YtphjcllhlecpfaaPFnCachesx1
import Derived.Test.YtphjcllhlecpfaaPFnCachesx5
import Derived.Test.YtphjcllhlecpfaaPFnCachesx6
import Derived.Test.YtphjcllhlecpfaaPFnCachesx7
import Derived.Test.YtphjcllhlecpfaaPFnCachesx9
import Derived.Test.YtphjcllhlecpfaaPFnCachesx10
namespace Go.Proofs.Ytphjcllhlecpfaa.PFnCaches
open Go.RowKit Go.Proofs.YtphjcllhlecpfaaW.PrintWords Go.Proofs.YtphjcllhlecpfaaW.PrintLast Go.Proofs.YtphjcllhlecpfaaW.PrintMore
attribute [local go_sem] Go.Proofs.Ytphjcllhlecpfaa.Cells.cell_set_at max2_int min2_int max_two min_two max_three min_three max_four min_four   -- for this text's walks alone
set_option linter.unusedVariables false
set_option linter.unusedSimpArgs false

/-! ### laws_FnCaches: function 4 (a contract of this session's own) -/
mutual
def laws_FnCaches.j0 : Nat → List (S32) → List Int → Bool → List (S32) → Int → Int → Option (Bool)
 | 0, _, _, _, _, _, _ => none
 | k + 1, x3, x5, x28, x371000, x371001, x371002 => if x28 = true then (none) else (laws_FnCaches.l0 k x3 x5 0 x371000 x371001 x371002)
def laws_FnCaches.l0 : Nat → List (S32) → List Int → Int → List (S32) → Int → Int → Option (Bool)
 | 0, _, _, _, _, _, _ => none
 | k + 1, x3, x5, x6, x371000, x371001, x371002 => if x6 < 10 then (if 0 ≤ x6 then (if x6 < (x5.length : Int) then ((impl_HoldsGlyph.f k x371000 x371001 x371002 (Int.tmod (rd x5 x6) 8)).bind fun t382 => ((impl_FetchGlyph.f k x371000 x371001 x371002 (Int.tmod (rd x5 x6) 8) x3).bind fun bt383 => (if bt383.2.2.2.2.2.2 = true then (if bt383.2.2.2.1 = (Int.tmod (rd x5 x6) 8) then (if 0 ≤ (Int.tmod (rd x5 x6) 8) then (if (Int.tmod (rd x5 x6) 8) < (x3.length : Int) then ((laws_sameInts.f k bt383.2.2.2.2.2.1 ((rd_T32 x3 (Int.tmod (rd x5 x6) 8)).f2)).bind fun t397 => (if t397 = true then (if bt383.2.2.2.2.1 = ((rd_T32 x3 (Int.tmod (rd x5 x6) 8)).f1) then ((impl_CacheOk.f k bt383.1 bt383.2.1 bt383.2.2.1).bind fun t399 => (if t399 = true then (if (bt383.1.length : Int) = 0 then (none) else (if 0 < (bt383.1.length : Int) then (if ((rd_T32 bt383.1 0).f0) = (Int.tmod (rd x5 x6) 8) then ((laws_btoi.f t382).bind fun t401 => (if bt383.2.1 = (wrap64 (x371001 + t401)) then ((laws_btoi.f (!t382)).bind fun t402 => (if bt383.2.2.1 = (wrap64 (x371002 + t402)) then ((impl_CacheSize.f k bt383.1 bt383.2.1 bt383.2.2.1).bind fun t403 => (if t403 > 20 then (none) else (laws_FnCaches.l0 k x3 x5 (wrap64 (x6 + 1)) bt383.1 bt383.2.1 bt383.2.2.1))) else (none))) else (none))) else (none)) else (none))) else (none))) else (none)) else (none))) else (none)) else (none)) else (none)) else (none)))) else (none)) else (none)) else (some true)
end
def laws_FnCaches.f (k : Nat) (l0 : List Int) : Option (Bool) := (laws_big.f l0).bind fun t361 => (if t361 = true then (some true) else ((spec_DrawFont.f k l0).bind fun bt362 => ((spec_DrawPlaces.f k l0).bind fun t371 => ((impl_CacheOk.f k bt362.2.1 bt362.2.2.1 bt362.2.2.2).bind fun t374 => (if t374 = true then ((impl_NewCache.f).bind fun bt375 => ((impl_CacheOk.f k bt375.1 bt375.2.1 bt375.2.2).bind fun t380 => (laws_FnCaches.j0 k bt362.1 t371 (!t380) bt362.2.1 bt362.2.2.1 bt362.2.2.2))) else (laws_FnCaches.j0 k bt362.1 t371 true bt362.2.1 bt362.2.2.1 bt362.2.2.2))))))
def laws_FnCaches.T13 : Bool × List (List Nat × List Nat) := (true, [([], []), ([0], [0]), ([1], [1]), ([2], [2]), ([3, 2], [2, 3]), ([2], [2]), ([4, 5, 2], [2, 4, 5]), ([2, 6], [2, 6]), ([7, 2], [7]), ([8], [8]), ([9, 8], [8, 9]), ([8], [8]), ([8], [8]), ([11, 12, 8], [8, 11, 12]), ([13, 8], [8, 13]), ([14, 8], [8, 14]), ([10, 15, 8, 8], [8, 10, 15]), ([16, 8], [8, 16]), ([8, 17], [8, 17]), ([18, 16], [18]), ([19], [19]), ([20, 19], [19, 20]), ([19], [19]), ([19], [19]), ([22, 23, 19], [19, 22, 23]), ([24, 19], [19, 24]), ([25, 19], [19, 25]), ([21, 26, 19], [19, 21, 26]), ([19, 27], [19, 27]), ([28, 19], [28]), ([29], [29]), ([30, 29, 29], [29, 30]), ([31, 29], [29, 31]), ([29, 32], [29, 32]), ([33, 31], [33]), ([34], [34]), ([35, 34], [34, 35]), ([36, 34], [34, 36]), ([37, 34], [34, 37]), ([34, 38], [34, 38]), ([39, 34], [39]), ([40], [40]), ([41, 40], [40, 41]), ([42, 40], [40, 42]), ([43, 40], [40, 43]), ([44, 40], [40, 44]), ([40], [40]), ([45, 46, 40], [40, 45, 46]), ([40, 47], [40, 47]), ([48, 40], [48]), ([49], [49]), ([50, 49], [49, 50]), ([49], [49]), ([52, 49], [49, 52]), ([49], [49]), ([54, 49, 49], [49, 54]), ([53, 55, 49], [49, 53, 55]), ([51, 56, 49], [49, 51, 56]), ([49, 57], [49, 57]), ([58, 55], [58]), ([59], [59]), ([60, 59], [59, 60]), ([59], [59]), ([62, 59], [59, 62]), ([59], [59]), ([64, 59], [59, 64]), ([65, 59, 59], [59, 65]), ([63, 66, 59], [59, 63, 66]), ([61, 67, 59], [59, 61, 67]), ([59, 68], [59, 68]), ([69, 66], [69]), ([70], [70]), ([71, 70, 70], [70, 71]), ([72, 70], [70, 72]), ([70, 73], [70, 73])])
def laws_FnCaches.B13 : List Nat := [0, 1, 3, 7, 15, 7, 63, 127, 255, 511, 1023, 511, 511, 6655, 14847, 31231, 65535, 131071, 262143, 524287, 1048575, 2097151, 1048575, 1048575, 13631487, 30408703, 63963135, 134217727, 268435455, 536870911, 1073741823, 2147483647, 4294967295, 8589934591, 17179869183, 34359738367, 68719476735, 137438953471, 274877906943, 549755813887, 1099511627775, 2199023255551, 4398046511103, 8796093022207, 17592186044415, 35184372088831, 2199023255551, 140737488355327, 281474976710655, 562949953421311, 1125899906842623, 2251799813685247, 1125899906842623, 5629499534213119, 1125899906842623, 19140298416324607, 68679894317400063, 144115188075855871, 288230376151711743, 576460752303423487, 1152921504606846975, 2305843009213693951, 1152921504606846975, 5764607523034234879, 1152921504606846975, 19599665578316398591, 56493153725735501823, 144115188075855871999, 295147905179352825855, 590295810358705651711, 1180591620717411303423, 2361183241434822606847, 4722366482869645213695, 9444732965739290427391, 18889465931478580854783]
theorem laws_FnCaches.tab13 : rtab .any (opsOf Try.f4 13) = laws_FnCaches.T13 := by kernel_rfl
theorem laws_FnCaches.bits13 : waitsOk laws_FnCaches.T13.2 laws_FnCaches.B13 = true := by kernel_rfl
set_option maxHeartbeats 8000000 in
set_option maxRecDepth 100000 in
theorem laws_FnCaches.calls (k : Nat) (A0 : Option Addr) (c0 : Nat) (l0 : List Int) (r : Bool) (w : World) (hr0 : Kd.C (Kd.int .u8) w A0 l0.length l0) (hc0 : l0.length ≤ c0) (h : laws_FnCaches.f k l0 = some r) :
  Calls Try.prog 4 #[.slice A0 l0.length c0] w fun e w' => e = .returned (.bool r) ∧ Below w.heap.size w w' := by
 have hu26 := Try.underlying26
 have hu32 := Try.underlying32
 have HR0 := Am hr0
 have HC0 := Am hc0
 clear hr0 hc0
 have HB := Am (Below.refl w.heap.size w)
 have H : ((laws_big.f l0).bind fun t361 => (if t361 = true then (some true) else ((spec_DrawFont.f k l0).bind fun bt362 => ((spec_DrawPlaces.f k l0).bind fun t371 => ((impl_CacheOk.f k bt362.2.1 bt362.2.2.1 bt362.2.2.2).bind fun t374 => (if t374 = true then ((impl_NewCache.f).bind fun bt375 => ((impl_CacheOk.f k bt375.1 bt375.2.1 bt375.2.2).bind fun t380 => (laws_FnCaches.j0 k bt362.1 t371 (!t380) bt362.2.1 bt362.2.2.1 bt362.2.2.2))) else (laws_FnCaches.j0 k bt362.1 t371 true bt362.2.1 bt362.2.2.1 bt362.2.2.2))))))) = some r := h
 clear h
 replace H := Option.bind_eq_some_iff.mp H
 obtain ⟨t361, A20, H⟩ := H
 replace H : (if t361 = true then (some true) else ((spec_DrawFont.f k l0).bind fun bt362 => ((spec_DrawPlaces.f k l0).bind fun t371 => ((impl_CacheOk.f k bt362.2.1 bt362.2.2.1 bt362.2.2.2).bind fun t374 => (if t374 = true then ((impl_NewCache.f).bind fun bt375 => ((impl_CacheOk.f k bt375.1 bt375.2.1 bt375.2.2).bind fun t380 => (laws_FnCaches.j0 k bt362.1 t371 (!t380) bt362.2.1 bt362.2.2.1 bt362.2.2.2))) else (laws_FnCaches.j0 k bt362.1 t371 true bt362.2.1 bt362.2.2.1 bt362.2.2.2)))))) = some r := H
 have A2 := Am A20
 clear A20
 by_cases c3 : t361 = true
 ·subst c3
  have H1 : (some true) = some r := by rw [if_pos rfl] at H; exact H
  clear H
  have H := H1
  clear H1
  obtain rfl := Option.some.inj H
  go_enter Try.func4, Try.ntmps4
  go_wp2_with (first | ((with_reducible refine gate_callee (f := 7) rfl ?_); refine goesL_ (some 13) rfl rfl Try.func7 (by kernel_rfl) rfl #[.slice A0 l0.length c0] rfl jzA ?_; (with_reducible refine (laws_big.calls _ _ l0 true _ ?side1 ?side2 A2.out).mono ?_); (case side1 => exact jzD (HR0.out)); (case side2 => exact HC0.out); rintro e w' ⟨rfl, ⟨nd, rfl⟩⟩; refine ⟨_, rfl, ?_⟩))
  go_ret
  exact ⟨by first | rfl | (simp [errW_none, errW_some] <;> rfl) | (simp [*, errW_none, errW_some] <;> rfl), jzH HB⟩
 ·replace c3 := Bool.eq_false_iff.mpr c3
  subst c3
  have H1 : ((spec_DrawFont.f k l0).bind fun bt362 => ((spec_DrawPlaces.f k l0).bind fun t371 => ((impl_CacheOk.f k bt362.2.1 bt362.2.2.1 bt362.2.2.2).bind fun t374 => (if t374 = true then ((impl_NewCache.f).bind fun bt375 => ((impl_CacheOk.f k bt375.1 bt375.2.1 bt375.2.2).bind fun t380 => (laws_FnCaches.j0 k bt362.1 t371 (!t380) bt362.2.1 bt362.2.2.1 bt362.2.2.2))) else (laws_FnCaches.j0 k bt362.1 t371 true bt362.2.1 bt362.2.2.1 bt362.2.2.2))))) = some r := by rw [if_neg (show ¬ (false = true) by decide)] at H; exact H
  clear H
  have H := H1
  clear H1
  replace H := Option.bind_eq_some_iff.mp H
  obtain ⟨⟨t362, t365, t368, t369⟩, A40, H⟩ := H
  replace H : ((spec_DrawPlaces.f k l0).bind fun t371 => ((impl_CacheOk.f k t365 t368 t369).bind fun t374 => (if t374 = true then ((impl_NewCache.f).bind fun bt375 => ((impl_CacheOk.f k bt375.1 bt375.2.1 bt375.2.2).bind fun t380 => (laws_FnCaches.j0 k t362 t371 (!t380) t365 t368 t369))) else (laws_FnCaches.j0 k t362 t371 true t365 t368 t369)))) = some r := H
  have A4 := Am A40
  clear A40
  replace H := Option.bind_eq_some_iff.mp H
  obtain ⟨t371, A50, H⟩ := H
  replace H : ((impl_CacheOk.f k t365 t368 t369).bind fun t374 => (if t374 = true then ((impl_NewCache.f).bind fun bt375 => ((impl_CacheOk.f k bt375.1 bt375.2.1 bt375.2.2).bind fun t380 => (laws_FnCaches.j0 k t362 t371 (!t380) t365 t368 t369))) else (laws_FnCaches.j0 k t362 t371 true t365 t368 t369))) = some r := H
  have A5 := Am A50
  clear A50
  have HC6 := Am H
  clear H
  go_enter Try.func4, Try.ntmps4
  go_upto_region 5 with (first | ((with_reducible refine gate_callee (f := 7) rfl ?_); refine goesL_ (some 13) rfl rfl Try.func7 (by kernel_rfl) rfl #[.slice A0 l0.length c0] rfl jzA ?_; (with_reducible refine (laws_big.calls _ _ l0 false _ ?side1 ?side2 A2.out).mono ?_); (case side1 => exact jzD (HR0.out)); (case side2 => exact HC0.out); rintro e w' ⟨rfl, ⟨nd, rfl⟩⟩; refine ⟨_, rfl, ?_⟩) | ((with_reducible refine gate_callee (f := 8) rfl ?_); refine goesL_ (some 16) rfl rfl Try.func8 (by kernel_rfl) rfl #[.slice A0 l0.length c0] rfl jzA ?_; (with_reducible refine (spec_DrawFont.calls k _ _ l0 t362 t365 t368 t369 _ ?side1 ?side2 A4.out).mono ?_); (case side1 => exact jzD (HR0.out)); (case side2 => exact HC0.out); rintro e w7 ⟨v363, v366, rfl, ho0, ho1, hb⟩; refine ⟨_, rfl, ?_⟩; have n0_ := Am (Kd.N_lower (Kd.N_mono (ok' := fun k_ => some k_ ≠ (v366 : Value).ownBlock) ho0 (fun k_ hk_ => hk_.2)) (below_size (jzH HB))); have n1_ := Am (Kd.N_lower (Kd.N_mono (ok' := fun k_ => some k_ ≠ (v363 : Value).ownBlock) ho1 (fun k_ hk_ => hk_.2)) (below_size (jzH HB))); have n2_ := Am (below_step (jzH HB) hb); clear HB; have HO364 := n0_; have HO367 := n1_; have HB := n2_; clear n0_ n1_ n2_; (try clear hb); (try clear hb2); (try clear hk); (try clear hi); (try clear ho0); (try clear ho1)) | ((with_reducible refine gate_dst (N := 4) rfl ?_); (try (refine gate_guard (by rfl) ?_; dsimp only)); refine box_event ?hg (N := 4) ?hd (cs := #[.slice none 0 0, .int .i64 0, .int .i64 0]) (t := 26) ?hr ?_; (case hd => rfl); (case hg => rfl); (case hr => first | (go_simp; done) | (go_simp; rfl)); intro gb370 hg w8 hbox hb; have n0_ := Am (Kd.N_below (Kd.N_elderB (jzN HO364) gb370 (Nat.le_of_eq hg.symm)) hb); have n1_ := Am (Kd.N_below (Kd.N_elderB (jzN HO367) gb370 (Nat.le_of_eq hg.symm)) hb); have n2_ := Am (below_step (jzH HB) hb); have n3_ := Am (hbox); have n4_ := Am ((by rw [hg]; exact (below_size (jzH HB)) : w.heap.size ≤ gb370)); have n5_ := Am ((by rw [hg]; exact (below_size (jzH HB)) : w.heap.size ≤ gb370)); clear HO364; clear HO367; clear HB; have HO364 := n0_; have HO367 := n1_; have HB := n2_; have BK370 := n3_; have GW370 := n4_; have GE370 := n5_; clear n0_ n1_ n2_ n3_ n4_ n5_; clear hb hbox hg; obtain ⟨Ao9, co9, eo9⟩ := Kd.N_slice HO367.out; subst eo9; have hcz10_0 : w8.cell? ⟨gb370, 0, none⟩ = some (.slice none 0 0) := (b8 BK370.out 0).trans rfl; have hcz10_1 : w8.cell? ⟨gb370, 1, none⟩ = some (.int .i64 0) := (b8 BK370.out 1).trans rfl; have hcz10_2 : w8.cell? ⟨gb370, 2, none⟩ = some (.int .i64 0) := (b8 BK370.out 2).trans rfl; have hfz10_0 := blk_frozen BK370.out 0; have hfz10_1 := blk_frozen BK370.out 1; have hfz10_2 := blk_frozen BK370.out 2) | ((with_reducible refine gate_callee (f := 9) rfl ?_); refine goesL_ (some 20) rfl rfl Try.func9 (by kernel_rfl) rfl #[.slice A0 l0.length c0] rfl jzA ?_; (with_reducible refine (spec_DrawPlaces.calls k _ _ l0 t371 _ ?side1 ?side2 A5.out).mono ?_); (case side1 => exact Kd.C_below HR0.out (jzG HB)); (case side2 => exact HC0.out); rintro e w11 ⟨v372, rfl, ho0, hb⟩; refine ⟨_, rfl, ?_⟩; have n0_ := Am (Kd.N_elder' (by (with_reducible repeat (first | apply Kd.N_alloc | apply Kd.N_drewN | apply Kd.N_drew)); exact (Kd.N_mono (Kd.N_far (p := ⟨gb370, 2, none⟩) (Kd.N_far (p := ⟨gb370, 1, none⟩) (Kd.N_far (p := ⟨gb370, 0, none⟩) (Kd.N_mono HO364.out (fun k_ hk => (⟨hk, hk.2⟩ : _ ∧ k_ ≠ gb370))) (fun _ hk => hk.2) (.slice Ao9 t365.length co9)) (fun _ hk => hk.2) (.int .i64 t368)) (fun _ hk => hk.2) (.int .i64 t369)) (fun _ h_ => h_.1))) (Kd.R_base ho0) hb); have n1_ := Am (Kd.N_elder' (by (with_reducible repeat (first | apply Kd.N_alloc | apply Kd.N_drewN | apply Kd.N_drew)); exact (Kd.N_mono (Kd.N_far (p := ⟨gb370, 2, none⟩) (Kd.N_far (p := ⟨gb370, 1, none⟩) (Kd.N_far (p := ⟨gb370, 0, none⟩) (Kd.N_mono HO367.out (fun k_ hk => (⟨hk, hk.2⟩ : _ ∧ k_ ≠ gb370))) (fun _ hk => hk.2) (.slice Ao9 t365.length co9)) (fun _ hk => hk.2) (.int .i64 t368)) (fun _ hk => hk.2) (.int .i64 t369)) (fun _ h_ => h_.1))) (Kd.R_base ho0) hb); have n2_ := Am (Kd.R_lower ho0 (below_size (jzG HB))); have n3_ := Am (blk_below (g := gb370) (o := .cells #[.slice Ao9 t365.length co9, .int .i64 t368, .int .i64 t369] 26 (0, 0)) (by (with_reducible repeat (first | refine b1 ?_ _ | refine b2 ?_ | refine b3 ?_ _)); refine blk_put (cs := #[.slice Ao9 t365.length co9, .int .i64 t368, .int .i64 0]) ?_ 2 _ rfl; (with_reducible repeat (first | refine b1 ?_ _ | refine b2 ?_ | refine b3 ?_ _)); refine blk_put (cs := #[.slice Ao9 t365.length co9, .int .i64 0, .int .i64 0]) ?_ 1 _ rfl; (with_reducible repeat (first | refine b1 ?_ _ | refine b2 ?_ | refine b3 ?_ _)); refine blk_put (cs := #[.slice none 0 0, .int .i64 0, .int .i64 0]) ?_ 0 _ rfl; (with_reducible repeat (first | refine b1 ?_ _ | refine b2 ?_ | refine b3 ?_ _)); exact BK370.out) hb); have n4_ := Am (below_step (jzG HB) hb); clear HO364; clear HO367; clear BK370; clear HB; have HO364 := n0_; have HO367 := n1_; have HO373 := n2_; have BK370 := n3_; have HB := n4_; clear n0_ n1_ n2_ n3_ n4_; (try clear hb); (try clear hb2); (try clear hk); (try clear hi); (try clear ho0)))
  (try simp only [Act.put, zA, zB, zC])
  go_cut [28] (fun v28 wc => ∃ (kq : Nat) (x28_5 : Bool), v28 = .bool x28_5 ∧ Aside0 (laws_FnCaches.j0 kq t362 t371 x28_5 t365 t368 t369 = some r) ∧ Aside0 (kq ≤ k) ∧ Aside0 (Kd.N k32 32 wc w.heap.size (fun k_ => some k_ ≠ (v372 : Value).ownBlock ∧ some k_ ≠ ((.slice Ao9 t365.length co9) : Value).ownBlock ∧ k_ ≠ gb370) v363 t362) ∧ Aside0 (Kd.R (Kd.int .i64) 3 wc w.heap.size (fun _ => True) v372 t371) ∧ Aside0 (Kd.N k32 32 wc w.heap.size (fun k_ => some k_ ≠ (v363 : Value).ownBlock ∧ some k_ ≠ (v372 : Value).ownBlock ∧ k_ ≠ gb370) (.slice Ao9 t365.length co9) t365) ∧ Aside0 (wc.heap[gb370]? = some (.cells #[(.slice Ao9 t365.length co9), .int .i64 t368, .int .i64 t369] 26 (0, 0))) ∧ Aside0 (Below w.heap.size w wc))
  case first =>
   have H := HC6.out
   clear HC6
   replace H := Option.bind_eq_some_iff.mp H
   obtain ⟨t374, A120, H⟩ := H
   replace H : (if t374 = true then ((impl_NewCache.f).bind fun bt375 => ((impl_CacheOk.f k bt375.1 bt375.2.1 bt375.2.2).bind fun t380 => (laws_FnCaches.j0 k t362 t371 (!t380) t365 t368 t369))) else (laws_FnCaches.j0 k t362 t371 true t365 t368 t369)) = some r := H
   have A12 := Am A120
   clear A120
   by_cases c13 : t374 = true
   ·subst c13
    have H1 : ((impl_NewCache.f).bind fun bt375 => ((impl_CacheOk.f k bt375.1 bt375.2.1 bt375.2.2).bind fun t380 => (laws_FnCaches.j0 k t362 t371 (!t380) t365 t368 t369))) = some r := by rw [if_pos rfl] at H; exact H
    clear H
    have H := H1
    clear H1
    replace H := Option.bind_eq_some_iff.mp H
    obtain ⟨⟨t375, t378, t379⟩, A140, H⟩ := H
    replace H : ((impl_CacheOk.f k t375 t378 t379).bind fun t380 => (laws_FnCaches.j0 k t362 t371 (!t380) t365 t368 t369)) = some r := H
    have A14 := Am A140
    clear A140
    replace H := Option.bind_eq_some_iff.mp H
    obtain ⟨t380, A150, H⟩ := H
    replace H : (laws_FnCaches.j0 k t362 t371 (!t380) t365 t368 t369) = some r := H
    have A15 := Am A150
    clear A150
    have H' := Am H
    clear H
    have hcz16_0 : w11.cell? ⟨gb370, 0, none⟩ = some (.slice Ao9 t365.length co9) := (b8 BK370.out 0).trans rfl
    have hcz16_1 : w11.cell? ⟨gb370, 1, none⟩ = some (.int .i64 t368) := (b8 BK370.out 1).trans rfl
    have hcz16_2 : w11.cell? ⟨gb370, 2, none⟩ = some (.int .i64 t369) := (b8 BK370.out 2).trans rfl
    have hfz16_0 := blk_frozen BK370.out 0
    have hfz16_1 := blk_frozen BK370.out 1
    have hfz16_2 := blk_frozen BK370.out 2
    go_wp2_with (first | ((with_reducible refine gate_callee (f := 13) rfl ?_); refine goesL_ (some 22) rfl rfl Try.func13 (by kernel_rfl) rfl #[.agg #[.slice Ao9 t365.length co9, .int .i64 t368, .int .i64 t369]] rfl jzA ?_; (with_reducible refine (impl_CacheOk.calls k _ _ t365 t368 t369 true _ ?side1 ?side2 A12.out).mono ?_); (case side1 => exact jzD ((Kd.N_reads' HO367.out).2.2)); (case side2 => exact (Kd.N_reads' HO367.out).2.1); rintro e w17 ⟨rfl, hb⟩; refine ⟨_, rfl, ?_⟩; have n0_ := Am (Kd.N_below (jzN HO364) hb); have n1_ := Am (Kd.N_below (jzN HO367) hb); have n2_ := Am (Kd.R_below (jzR HO373) hb); have n3_ := Am (blk_below (g := gb370) (o := .cells #[.slice Ao9 t365.length co9, .int .i64 t368, .int .i64 t369] 26 (0, 0)) (jzB BK370) hb); have n4_ := Am (below_step (jzG HB) hb); clear HO364; clear HO367; clear HO373; clear BK370; clear HB; have HO364 := n0_; have HO367 := n1_; have HO373 := n2_; have BK370 := n3_; have HB := n4_; clear n0_ n1_ n2_ n3_ n4_; (try clear hb); (try clear hb2); (try clear hk); (try clear hi)) | (go_at_call 14; (with_reducible refine (impl_NewCache.calls  t375 t378 t379 _ A14.out).mono ?_); rintro e w18 ⟨v376, rfl, ho0, hb⟩; have n0_ := Am (Kd.N_elder' (jzN HO364) (Kd.S_base ho0) hb); have n1_ := Am (Kd.N_elder' (jzN HO367) (Kd.S_base ho0) hb); have n2_ := Am (Kd.R_below (jzR HO373) hb); have n3_ := Am (Kd.N_lower (Kd.N_mono (ok' := fun k_ => some k_ ≠ (v363 : Value).ownBlock ∧ some k_ ≠ (.slice Ao9 t365.length co9 : Value).ownBlock ∧ some k_ ≠ (v372 : Value).ownBlock ∧ k_ ≠ gb370) (Kd.S_N (Kd.S_bound ho0)) (fun k_ hk_ => ⟨(Kd.fresh' (Kd.N_lt (jzN HO364)) k_ hk_.2.1), (Kd.fresh' (Kd.N_lt (jzN HO367)) k_ hk_.2.1), (Kd.fresh' (Kd.R_lt (jzR HO373)) k_ hk_.2.1), (Kd.freshB (g := gb370) (o := .cells #[.slice Ao9 t365.length co9, .int .i64 t368, .int .i64 t369] 26 (0, 0)) (jzB BK370) k_ hk_.2.1)⟩)) (below_size (jzG HB))); have n4_ := Am (blk_below (g := gb370) (o := .cells #[.slice Ao9 t365.length co9, .int .i64 t368, .int .i64 t369] 26 (0, 0)) (jzB BK370) hb); have n5_ := Am (below_step (jzG HB) hb); clear HO364; clear HO367; clear HO373; clear BK370; clear HB; have HO364 := n0_; have HO367 := n1_; have HO373 := n2_; have HO377 := n3_; have BK370 := n4_; have HB := n5_; clear n0_ n1_ n2_ n3_ n4_ n5_; (try clear hb); (try clear hb2); (try clear hk); (try clear hi); (try clear ho0); obtain ⟨Ao19, co19, eo19⟩ := Kd.N_slice HO377.out; subst eo19) | (go_at_call 13; (with_reducible refine (impl_CacheOk.calls k _ _ t375 t378 t379 t380 _ ?side1 ?side2 A15.out).mono ?_); (case side1 => exact jzD ((Kd.N_reads' HO377.out).2.2)); (case side2 => exact (Kd.N_reads' HO377.out).2.1); rintro e w20 ⟨rfl, hb⟩; have n0_ := Am (Kd.N_below (jzN HO364) hb); have n1_ := Am (Kd.N_below (jzN HO367) hb); have n2_ := Am (Kd.R_below (jzR HO373) hb); have n3_ := Am (Kd.N_below (jzN HO377) hb); have n4_ := Am (blk_below (g := gb370) (o := .cells #[.slice Ao9 t365.length co9, .int .i64 t368, .int .i64 t369] 26 (0, 0)) (jzB BK370) hb); have n5_ := Am (below_step (jzG HB) hb); clear HO364; clear HO367; clear HO373; clear HO377; clear BK370; clear HB; have HO364 := n0_; have HO367 := n1_; have HO373 := n2_; have HO377 := n3_; have BK370 := n4_; have HB := n5_; clear n0_ n1_ n2_ n3_ n4_ n5_; (try clear hb); (try clear hb2); (try clear hk); (try clear hi)))
    go_meet
    case rel => exact ⟨_, (!t380), (by first | rfl | (simp; done) | (simp [*]; done)), H', ⟨by first | omega | exact Nat.le_refl _⟩, ⟨by (with_reducible repeat (first | apply Kd.N_alloc | apply Kd.N_drewN | apply Kd.N_drew)); exact Kd.N_mono HO364.out (fun _ hk => ⟨hk.1.2, ⟨hk.1.1.1, hk.1.1.2⟩⟩)⟩, ⟨by (with_reducible repeat (first | apply Kd.R_alloc | apply Kd.R_drewN | apply Kd.R_drew)); exact HO373.out⟩, ⟨by (with_reducible repeat (first | apply Kd.N_alloc | apply Kd.N_drewN | apply Kd.N_drew)); exact Kd.N_mono HO367.out (fun _ hk => ⟨hk.1.1.1, ⟨hk.1.2, hk.1.1.2⟩⟩)⟩, ⟨by (with_reducible repeat (first | refine b1 ?_ _ | refine b2 ?_ | refine b3 ?_ _)); exact BK370.out⟩, ⟨jzG HB⟩⟩
   ·replace c13 := Bool.eq_false_iff.mpr c13
    subst c13
    have H1 : (laws_FnCaches.j0 k t362 t371 true t365 t368 t369) = some r := by rw [if_neg (show ¬ (false = true) by decide)] at H; exact H
    clear H
    have H := H1
    clear H1
    have H' := Am H
    clear H
    have hcz21_0 : w11.cell? ⟨gb370, 0, none⟩ = some (.slice Ao9 t365.length co9) := (b8 BK370.out 0).trans rfl
    have hcz21_1 : w11.cell? ⟨gb370, 1, none⟩ = some (.int .i64 t368) := (b8 BK370.out 1).trans rfl
    have hcz21_2 : w11.cell? ⟨gb370, 2, none⟩ = some (.int .i64 t369) := (b8 BK370.out 2).trans rfl
    have hfz21_0 := blk_frozen BK370.out 0
    have hfz21_1 := blk_frozen BK370.out 1
    have hfz21_2 := blk_frozen BK370.out 2
    go_wp2_with (first | ((with_reducible refine gate_callee (f := 13) rfl ?_); refine goesL_ (some 22) rfl rfl Try.func13 (by kernel_rfl) rfl #[.agg #[.slice Ao9 t365.length co9, .int .i64 t368, .int .i64 t369]] rfl jzA ?_; (with_reducible refine (impl_CacheOk.calls k _ _ t365 t368 t369 false _ ?side1 ?side2 A12.out).mono ?_); (case side1 => exact jzD ((Kd.N_reads' HO367.out).2.2)); (case side2 => exact (Kd.N_reads' HO367.out).2.1); rintro e w22 ⟨rfl, hb⟩; refine ⟨_, rfl, ?_⟩; have n0_ := Am (Kd.N_below (jzN HO364) hb); have n1_ := Am (Kd.N_below (jzN HO367) hb); have n2_ := Am (Kd.R_below (jzR HO373) hb); have n3_ := Am (blk_below (g := gb370) (o := .cells #[.slice Ao9 t365.length co9, .int .i64 t368, .int .i64 t369] 26 (0, 0)) (jzB BK370) hb); have n4_ := Am (below_step (jzG HB) hb); clear HO364; clear HO367; clear HO373; clear BK370; clear HB; have HO364 := n0_; have HO367 := n1_; have HO373 := n2_; have BK370 := n3_; have HB := n4_; clear n0_ n1_ n2_ n3_ n4_; (try clear hb); (try clear hb2); (try clear hk); (try clear hi)))
    go_meet
    case rel => exact ⟨_, (true), (by first | rfl | (simp; done) | (simp [*]; done)), H', ⟨by first | omega | exact Nat.le_refl _⟩, ⟨by (with_reducible repeat (first | apply Kd.N_alloc | apply Kd.N_drewN | apply Kd.N_drew)); exact Kd.N_mono HO364.out (fun _ hk => ⟨hk.2, ⟨hk.1.1, hk.1.2⟩⟩)⟩, ⟨by (with_reducible repeat (first | apply Kd.R_alloc | apply Kd.R_drewN | apply Kd.R_drew)); exact HO373.out⟩, ⟨by (with_reducible repeat (first | apply Kd.N_alloc | apply Kd.N_drewN | apply Kd.N_drew)); exact Kd.N_mono HO367.out (fun _ hk => ⟨hk.1.1, ⟨hk.2, hk.1.2⟩⟩)⟩, ⟨by (with_reducible repeat (first | refine b1 ?_ _ | refine b2 ?_ | refine b3 ?_ _)); exact BK370.out⟩, ⟨jzG HB⟩⟩
  case rest =>
   clear HC6
   try clear c1
   try clear p2
   try clear c3
   try clear c4
   try clear c7
   try clear c8
   try clear c9
   try clear c13
   try clear hcz10_0
   try clear hcz10_1
   try clear hcz10_2
   try clear hcz16_0
   try clear hcz16_1
   try clear hcz16_2
   try clear hcz21_0
   try clear hcz21_1
   try clear hcz21_2
   try clear hfz10_0
   try clear hfz10_1
   try clear hfz10_2
   try clear hfz16_0
   try clear hfz16_1
   try clear hfz16_2
   try clear hfz21_0
   try clear hfz21_1
   try clear hfz21_2
   obtain ⟨kq, x28_5, rfl, HA, HJ5, HO_3, HO_5, HO_371000, BK370, HB⟩ := hcut
   cases kq with
   | zero => exact absurd HA.out (by simp [laws_FnCaches.j0])
   | succ kj5 =>
    have H := HA.out
    clear HA
    simp only [laws_FnCaches.j0] at H
    by_cases c23 : x28_5 = true
    ·subst c23
     have H1 : (none) = some r := by rw [if_pos rfl] at H; exact H
     exact absurd H1 (by simp)
    ·replace c23 := Bool.eq_false_iff.mpr c23
     subst c23
     have H1 : (laws_FnCaches.l0 kj5 t362 t371 0 t365 t368 t369) = some r := by rw [if_neg (show ¬ (false = true) by decide)] at H; exact H
     clear H
     have H := H1
     clear H1
     have H' := Am H
     clear H
     go_wp2
     go_loopg [6] kj5 (fun kq v6 w' => ∃ (x6_2 : Int) (x371000_2 : List (S32)) (x371001_2 : Int) (x371002_2 : Int) (u371000 : Value), v6 = .int .i64 x6_2 ∧ Aside0 (laws_FnCaches.l0 kq t362 t371 x6_2 x371000_2 x371001_2 x371002_2 = some r) ∧ Aside0 (kq ≤ kj5) ∧ Aside0 (Kd.N k32 32 w' w.heap.size (fun k_ => some k_ ≠ (v372 : Value).ownBlock ∧ some k_ ≠ (u371000 : Value).ownBlock ∧ k_ ≠ gb370) v363 t362) ∧ Aside0 (Kd.R (Kd.int .i64) 3 w' w.heap.size (fun _ => True) v372 t371) ∧ Aside0 (Kd.N k32 32 w' w.heap.size (fun k_ => some k_ ≠ (v363 : Value).ownBlock ∧ some k_ ≠ (v372 : Value).ownBlock ∧ k_ ≠ gb370) u371000 x371000_2) ∧ Aside0 (w'.heap[gb370]? = some (.cells #[u371000, .int .i64 x371001_2, .int .i64 x371002_2] 26 (0, 0))) ∧ Aside0 (Below w.heap.size w w'))
     case atStart => exact ⟨(0), (t365), (t368), (t369), (.slice Ao9 t365.length co9), (by first | rfl | (simp; done) | (simp [*]; done)), H', ⟨Nat.le_refl _⟩, ⟨by (with_reducible repeat (first | apply Kd.N_alloc | apply Kd.N_drewN | apply Kd.N_drew)); exact HO_3.out⟩, ⟨by (with_reducible repeat (first | apply Kd.R_alloc | apply Kd.R_drewN | apply Kd.R_drew)); exact HO_5.out⟩, ⟨by (with_reducible repeat (first | apply Kd.N_alloc | apply Kd.N_drewN | apply Kd.N_drew)); exact HO_371000.out⟩, ⟨by (with_reducible repeat (first | refine b1 ?_ _ | refine b2 ?_ | refine b3 ?_ _)); exact BK370.out⟩, ⟨jzG HB⟩⟩
     case round =>
      clear H'
      try clear c1
      try clear c2
      try clear p2
      try clear c3
      try clear c4
      try clear c7
      try clear c8
      try clear c9
      try clear c13
      try clear c23
      try clear hcz10_0
      try clear hcz10_1
      try clear hcz10_2
      try clear hcz16_0
      try clear hcz16_1
      try clear hcz16_2
      try clear hcz21_0
      try clear hcz21_1
      try clear hcz21_2
      try clear hfz10_0
      try clear hfz10_1
      try clear hfz10_2
      try clear hfz16_0
      try clear hfz16_1
      try clear hfz16_2
      try clear hfz21_0
      try clear hfz21_1
      try clear hfz21_2
      try clear p2
      obtain ⟨x6_2, x371000_2, x371001_2, x371002_2, u371000, rfl, HA, HK2, HO_3, HO_5, HO_371000, BK370, HB⟩ := hrel
      cases gk with
      | zero => exact absurd HA.out (by simp [laws_FnCaches.l0])
      | succ k2 =>
       have H := HA.out
       clear HA
       simp only [laws_FnCaches.l0] at H
       by_cases c24 : x6_2 < 10
       ·rw [if_pos c24] at H
        have c24b0 : decide (x6_2 < 10) = true := decide_eq_true c24
        clear c24
        by_cases c25 : 0 ≤ x6_2
        ·rw [if_pos c25] at H
         have c25b0 : decide (0 ≤ x6_2) = true := decide_eq_true c25
         clear c25
         by_cases c26 : x6_2 < (t371.length : Int)
         ·rw [if_pos c26] at H
          have c26b0 : decide (x6_2 < (t371.length : Int)) = true := decide_eq_true c26
          clear c26
          replace H := Option.bind_eq_some_iff.mp H
          obtain ⟨t382, A270, H⟩ := H
          replace H : ((impl_FetchGlyph.f k2 x371000_2 x371001_2 x371002_2 (Int.tmod (rd t371 x6_2) 8) t362).bind fun bt383 => (if bt383.2.2.2.2.2.2 = true then (if bt383.2.2.2.1 = (Int.tmod (rd t371 x6_2) 8) then (if 0 ≤ (Int.tmod (rd t371 x6_2) 8) then (if (Int.tmod (rd t371 x6_2) 8) < (t362.length : Int) then ((laws_sameInts.f k2 bt383.2.2.2.2.2.1 ((rd_T32 t362 (Int.tmod (rd t371 x6_2) 8)).f2)).bind fun t397 => (if t397 = true then (if bt383.2.2.2.2.1 = ((rd_T32 t362 (Int.tmod (rd t371 x6_2) 8)).f1) then ((impl_CacheOk.f k2 bt383.1 bt383.2.1 bt383.2.2.1).bind fun t399 => (if t399 = true then (if (bt383.1.length : Int) = 0 then (none) else (if 0 < (bt383.1.length : Int) then (if ((rd_T32 bt383.1 0).f0) = (Int.tmod (rd t371 x6_2) 8) then ((laws_btoi.f t382).bind fun t401 => (if bt383.2.1 = (wrap64 (x371001_2 + t401)) then ((laws_btoi.f (!t382)).bind fun t402 => (if bt383.2.2.1 = (wrap64 (x371002_2 + t402)) then ((impl_CacheSize.f k2 bt383.1 bt383.2.1 bt383.2.2.1).bind fun t403 => (if t403 > 20 then (none) else (laws_FnCaches.l0 k2 t362 t371 (wrap64 (x6_2 + 1)) bt383.1 bt383.2.1 bt383.2.2.1))) else (none))) else (none))) else (none)) else (none))) else (none))) else (none)) else (none))) else (none)) else (none)) else (none)) else (none))) = some r := H
          have A27 := Am A270
          clear A270
          replace H := Option.bind_eq_some_iff.mp H
          obtain ⟨⟨t383, t386, t387, t388, t389, t390, t393⟩, A280, H⟩ := H
          replace H : (if t393 = true then (if t388 = (Int.tmod (rd t371 x6_2) 8) then (if 0 ≤ (Int.tmod (rd t371 x6_2) 8) then (if (Int.tmod (rd t371 x6_2) 8) < (t362.length : Int) then ((laws_sameInts.f k2 t390 ((rd_T32 t362 (Int.tmod (rd t371 x6_2) 8)).f2)).bind fun t397 => (if t397 = true then (if t389 = ((rd_T32 t362 (Int.tmod (rd t371 x6_2) 8)).f1) then ((impl_CacheOk.f k2 t383 t386 t387).bind fun t399 => (if t399 = true then (if (t383.length : Int) = 0 then (none) else (if 0 < (t383.length : Int) then (if ((rd_T32 t383 0).f0) = (Int.tmod (rd t371 x6_2) 8) then ((laws_btoi.f t382).bind fun t401 => (if t386 = (wrap64 (x371001_2 + t401)) then ((laws_btoi.f (!t382)).bind fun t402 => (if t387 = (wrap64 (x371002_2 + t402)) then ((impl_CacheSize.f k2 t383 t386 t387).bind fun t403 => (if t403 > 20 then (none) else (laws_FnCaches.l0 k2 t362 t371 (wrap64 (x6_2 + 1)) t383 t386 t387))) else (none))) else (none))) else (none)) else (none))) else (none))) else (none)) else (none))) else (none)) else (none)) else (none)) else (none)) = some r := H
          have A28 := Am A280
          clear A280
          by_cases c29 : t393 = true
          ·subst c29
           have H1 : (if t388 = (Int.tmod (rd t371 x6_2) 8) then (if 0 ≤ (Int.tmod (rd t371 x6_2) 8) then (if (Int.tmod (rd t371 x6_2) 8) < (t362.length : Int) then ((laws_sameInts.f k2 t390 ((rd_T32 t362 (Int.tmod (rd t371 x6_2) 8)).f2)).bind fun t397 => (if t397 = true then (if t389 = ((rd_T32 t362 (Int.tmod (rd t371 x6_2) 8)).f1) then ((impl_CacheOk.f k2 t383 t386 t387).bind fun t399 => (if t399 = true then (if (t383.length : Int) = 0 then (none) else (if 0 < (t383.length : Int) then (if ((rd_T32 t383 0).f0) = (Int.tmod (rd t371 x6_2) 8) then ((laws_btoi.f t382).bind fun t401 => (if t386 = (wrap64 (x371001_2 + t401)) then ((laws_btoi.f (!t382)).bind fun t402 => (if t387 = (wrap64 (x371002_2 + t402)) then ((impl_CacheSize.f k2 t383 t386 t387).bind fun t403 => (if t403 > 20 then (none) else (laws_FnCaches.l0 k2 t362 t371 (wrap64 (x6_2 + 1)) t383 t386 t387))) else (none))) else (none))) else (none)) else (none))) else (none))) else (none)) else (none))) else (none)) else (none)) else (none)) = some r := by rw [if_pos rfl] at H; exact H
           clear H
           have H := H1
           clear H1
           by_cases c30 : t388 = (Int.tmod (rd t371 x6_2) 8)
           ·rw [if_pos c30] at H
            have c30b0 : (t388 == (Int.tmod (rd t371 x6_2) 8)) = true := beq_iff_eq.mpr c30
            have c30b1 : (t388 != (Int.tmod (rd t371 x6_2) 8)) = false := bne_eq_false_iff_eq.mpr c30
            clear c30
            obtain ⟨ji31, hji31⟩ : ∃ j_ : Int, (Int.tmod (rd t371 x6_2) 8) = j_ := ⟨_, rfl⟩
            replace H : (if 0 ≤ (ji31) then (if (ji31) < (t362.length : Int) then ((laws_sameInts.f k2 t390 ((rd_T32 t362 (ji31)).f2)).bind fun t397 => (if t397 = true then (if t389 = ((rd_T32 t362 (ji31)).f1) then ((impl_CacheOk.f k2 t383 t386 t387).bind fun t399 => (if t399 = true then (if (t383.length : Int) = 0 then (none) else (if 0 < (t383.length : Int) then (if ((rd_T32 t383 0).f0) = (ji31) then ((laws_btoi.f t382).bind fun t401 => (if t386 = (wrap64 (x371001_2 + t401)) then ((laws_btoi.f (!t382)).bind fun t402 => (if t387 = (wrap64 (x371002_2 + t402)) then ((impl_CacheSize.f k2 t383 t386 t387).bind fun t403 => (if t403 > 20 then (none) else (laws_FnCaches.l0 k2 t362 t371 (wrap64 (x6_2 + 1)) t383 t386 t387))) else (none))) else (none))) else (none)) else (none))) else (none))) else (none)) else (none))) else (none)) else (none)) = some r := by first | (rw [hji31] at H; exact H) | (simp only [hji31] at H ⊢; exact H)
            (try rw [hji31] at c30b0)
            (try rw [hji31] at c30b1)
            (try rw [hji31] at A27)
            (try rw [hji31] at A28)
            by_cases c32 : 0 ≤ (ji31)
            ·rw [if_pos c32] at H
             have c32b0 : decide (0 ≤ (ji31)) = true := decide_eq_true c32
             clear c32
             by_cases c33 : (ji31) < (t362.length : Int)
             ·rw [if_pos c33] at H
              have c33b0 : decide ((ji31) < (t362.length : Int)) = true := decide_eq_true c33
              clear c33
              replace H := Option.bind_eq_some_iff.mp H
              obtain ⟨t397, A340, H⟩ := H
              replace H : (if t397 = true then (if t389 = ((rd_T32 t362 (ji31)).f1) then ((impl_CacheOk.f k2 t383 t386 t387).bind fun t399 => (if t399 = true then (if (t383.length : Int) = 0 then (none) else (if 0 < (t383.length : Int) then (if ((rd_T32 t383 0).f0) = (ji31) then ((laws_btoi.f t382).bind fun t401 => (if t386 = (wrap64 (x371001_2 + t401)) then ((laws_btoi.f (!t382)).bind fun t402 => (if t387 = (wrap64 (x371002_2 + t402)) then ((impl_CacheSize.f k2 t383 t386 t387).bind fun t403 => (if t403 > 20 then (none) else (laws_FnCaches.l0 k2 t362 t371 (wrap64 (x6_2 + 1)) t383 t386 t387))) else (none))) else (none))) else (none)) else (none))) else (none))) else (none)) else (none)) = some r := H
              have A34 := Am A340
              clear A340
              by_cases c35 : t397 = true
              ·subst c35
               have H1 : (if t389 = ((rd_T32 t362 (ji31)).f1) then ((impl_CacheOk.f k2 t383 t386 t387).bind fun t399 => (if t399 = true then (if (t383.length : Int) = 0 then (none) else (if 0 < (t383.length : Int) then (if ((rd_T32 t383 0).f0) = (ji31) then ((laws_btoi.f t382).bind fun t401 => (if t386 = (wrap64 (x371001_2 + t401)) then ((laws_btoi.f (!t382)).bind fun t402 => (if t387 = (wrap64 (x371002_2 + t402)) then ((impl_CacheSize.f k2 t383 t386 t387).bind fun t403 => (if t403 > 20 then (none) else (laws_FnCaches.l0 k2 t362 t371 (wrap64 (x6_2 + 1)) t383 t386 t387))) else (none))) else (none))) else (none)) else (none))) else (none))) else (none)) = some r := by rw [if_pos rfl] at H; exact H
               clear H
               have H := H1
               clear H1
               by_cases c36 : t389 = ((rd_T32 t362 (ji31)).f1)
               ·rw [if_pos c36] at H
                have c36b0 : (t389 == ((rd_T32 t362 (ji31)).f1)) = true := beq_iff_eq.mpr c36
                have c36b1 : (t389 != ((rd_T32 t362 (ji31)).f1)) = false := bne_eq_false_iff_eq.mpr c36
                clear c36
                replace H := Option.bind_eq_some_iff.mp H
                obtain ⟨t399, A370, H⟩ := H
                replace H : (if t399 = true then (if (t383.length : Int) = 0 then (none) else (if 0 < (t383.length : Int) then (if ((rd_T32 t383 0).f0) = (ji31) then ((laws_btoi.f t382).bind fun t401 => (if t386 = (wrap64 (x371001_2 + t401)) then ((laws_btoi.f (!t382)).bind fun t402 => (if t387 = (wrap64 (x371002_2 + t402)) then ((impl_CacheSize.f k2 t383 t386 t387).bind fun t403 => (if t403 > 20 then (none) else (laws_FnCaches.l0 k2 t362 t371 (wrap64 (x6_2 + 1)) t383 t386 t387))) else (none))) else (none))) else (none)) else (none))) else (none)) = some r := H
                have A37 := Am A370
                clear A370
                by_cases c38 : t399 = true
                ·subst c38
                 have H1 : (if (t383.length : Int) = 0 then (none) else (if 0 < (t383.length : Int) then (if ((rd_T32 t383 0).f0) = (ji31) then ((laws_btoi.f t382).bind fun t401 => (if t386 = (wrap64 (x371001_2 + t401)) then ((laws_btoi.f (!t382)).bind fun t402 => (if t387 = (wrap64 (x371002_2 + t402)) then ((impl_CacheSize.f k2 t383 t386 t387).bind fun t403 => (if t403 > 20 then (none) else (laws_FnCaches.l0 k2 t362 t371 (wrap64 (x6_2 + 1)) t383 t386 t387))) else (none))) else (none))) else (none)) else (none))) = some r := by rw [if_pos rfl] at H; exact H
                 clear H
                 have H := H1
                 clear H1
                 by_cases c39 : (t383.length : Int) = 0
                 ·rw [if_pos c39] at H
                  have c39b0 : ((t383.length : Int) == 0) = true := beq_iff_eq.mpr c39
                  have c39b1 : ((t383.length : Int) != 0) = false := bne_eq_false_iff_eq.mpr c39
                  clear c39
                  exact absurd H (by simp)
                 ·rw [if_neg c39] at H
                  have c39b0 : ((t383.length : Int) == 0) = false := beq_eq_false_iff_ne.mpr c39
                  have c39b1 : ((t383.length : Int) != 0) = true := bne_iff_ne.mpr c39
                  have c39b2 : ¬ (t383 = []) := fun h_ => c39 (by rw [h_]; rfl)
                  by_cases c59 : 0 < (t383.length : Int)
                  ·rw [if_pos c59] at H
                   have c59b0 : decide (0 < (t383.length : Int)) = true := decide_eq_true c59
                   have c59b1 : decide (0 < t383.length) = true := decide_eq_true (by omega)
                   clear c59
                   by_cases c60 : ((rd_T32 t383 0).f0) = (ji31)
                   ·rw [if_pos c60] at H
                    have c60b0 : (((rd_T32 t383 0).f0) == (ji31)) = true := beq_iff_eq.mpr c60
                    have c60b1 : (((rd_T32 t383 0).f0) != (ji31)) = false := bne_eq_false_iff_eq.mpr c60
                    clear c60
                    replace H := Option.bind_eq_some_iff.mp H
                    obtain ⟨t401, A610, H⟩ := H
                    replace H : (if t386 = (wrap64 (x371001_2 + t401)) then ((laws_btoi.f (!t382)).bind fun t402 => (if t387 = (wrap64 (x371002_2 + t402)) then ((impl_CacheSize.f k2 t383 t386 t387).bind fun t403 => (if t403 > 20 then (none) else (laws_FnCaches.l0 k2 t362 t371 (wrap64 (x6_2 + 1)) t383 t386 t387))) else (none))) else (none)) = some r := H
                    have A61 := Am A610
                    clear A610
                    by_cases c62 : t386 = (wrap64 (x371001_2 + t401))
                    ·rw [if_pos c62] at H
                     have c62b0 : (t386 == (wrap64 (x371001_2 + t401))) = true := beq_iff_eq.mpr c62
                     have c62b1 : (t386 != (wrap64 (x371001_2 + t401))) = false := bne_eq_false_iff_eq.mpr c62
                     clear c62
                     replace H := Option.bind_eq_some_iff.mp H
                     obtain ⟨t402, A630, H⟩ := H
                     replace H : (if t387 = (wrap64 (x371002_2 + t402)) then ((impl_CacheSize.f k2 t383 t386 t387).bind fun t403 => (if t403 > 20 then (none) else (laws_FnCaches.l0 k2 t362 t371 (wrap64 (x6_2 + 1)) t383 t386 t387))) else (none)) = some r := H
                     have A63 := Am A630
                     clear A630
                     by_cases c64 : t387 = (wrap64 (x371002_2 + t402))
                     ·rw [if_pos c64] at H
                      have c64b0 : (t387 == (wrap64 (x371002_2 + t402))) = true := beq_iff_eq.mpr c64
                      have c64b1 : (t387 != (wrap64 (x371002_2 + t402))) = false := bne_eq_false_iff_eq.mpr c64
                      clear c64
                      replace H := Option.bind_eq_some_iff.mp H
                      obtain ⟨t403, A650, H⟩ := H
                      replace H : (if t403 > 20 then (none) else (laws_FnCaches.l0 k2 t362 t371 (wrap64 (x6_2 + 1)) t383 t386 t387)) = some r := H
                      have A65 := Am A650
                      clear A650
                      by_cases c66 : t403 > 20
                      ·rw [if_pos c66] at H
                       have c66b0 : decide (20 < t403) = true := decide_eq_true c66
                       clear c66
                       exact absurd H (by simp)
                      ·rw [if_neg c66] at H
                       have c66b0 : decide (20 < t403) = false := decide_eq_false c66
                       clear c66
                       have H' := Am H
                       clear H
                       obtain ⟨Ao87, co87, eo87⟩ := Kd.R_slice HO_5.out
                       subst eo87
                       have p381 : 0 ≤ (x6_2 : Int) := of_decide_eq_true jzS
                       have q381 : x6_2 < (t371.length : Int) := of_decide_eq_true jzS
                       obtain ⟨ad381, e381, hx381_0⟩ := Kd.at_int (Kd.R_reads' HO_5.out).2.2 x6_2 p381 q381
                       cases e381
                       replace p381 := eq_true p381
                       replace q381 := eq_true q381
                       have hcz88_0 : wr.cell? ⟨gb370, 0, none⟩ = some (u371000) := (b8 BK370.out 0).trans rfl
                       have hcz88_1 : wr.cell? ⟨gb370, 1, none⟩ = some (.int .i64 x371001_2) := (b8 BK370.out 1).trans rfl
                       have hcz88_2 : wr.cell? ⟨gb370, 2, none⟩ = some (.int .i64 x371002_2) := (b8 BK370.out 2).trans rfl
                       have hfz88_0 := blk_frozen BK370.out 0
                       have hfz88_1 := blk_frozen BK370.out 1
                       have hfz88_2 := blk_frozen BK370.out 2
                       obtain ⟨Ao89, co89, eo89⟩ := Kd.N_slice HO_371000.out
                       subst eo89
                       try go_wp2_with (first | ((with_reducible refine gate_callee (f := 12) rfl ?_); refine goesL_ (some 40) rfl rfl Try.func12 (by kernel_rfl) rfl #[.agg #[.slice Ao89 x371000_2.length co89, .int .i64 x371001_2, .int .i64 x371002_2], .int .i64 ji31] rfl (by (try simp only [List.map_toArray, List.map_cons, List.map_nil]); first | done | (simp only [hji31]; rfl) | rfl | (simp only [List.length_drop, List.length_take]; rfl)) ?_; (with_reducible refine (impl_HoldsGlyph.calls k2 _ _ x371000_2 x371001_2 x371002_2 ji31 t382 _ ?side1 ?side2 A27.out).mono ?_); (case side1 => exact jzD ((Kd.N_reads' HO_371000.out).2.2)); (case side2 => exact (Kd.N_reads' HO_371000.out).2.1); rintro e w90 ⟨rfl, hb⟩; refine ⟨_, rfl, ?_⟩; have n0_ := Am (Kd.N_below (jzN HO_3) hb); have n1_ := Am (Kd.R_below (jzR HO_5) hb); have n2_ := Am (Kd.N_below (jzN HO_371000) hb); have n3_ := Am (blk_below (g := gb370) (o := .cells #[.slice Ao89 x371000_2.length co89, .int .i64 x371001_2, .int .i64 x371002_2] 26 (0, 0)) (jzB BK370) hb); have n4_ := Am (below_step (jzG HB) hb); clear HO_3; clear HO_5; clear HO_371000; clear BK370; clear HB; have HO_3 := n0_; have HO_5 := n1_; have HO_371000 := n2_; have BK370 := n3_; have HB := n4_; clear n0_ n1_ n2_ n3_ n4_; (try clear hb); (try clear hb2); (try clear hk); (try clear hi); have hcz91_0 : w90.cell? ⟨gb370, 0, none⟩ = some (.slice Ao89 x371000_2.length co89) := (b8 BK370.out 0).trans rfl; have hcz91_1 : w90.cell? ⟨gb370, 1, none⟩ = some (.int .i64 x371001_2) := (b8 BK370.out 1).trans rfl; have hcz91_2 : w90.cell? ⟨gb370, 2, none⟩ = some (.int .i64 x371002_2) := (b8 BK370.out 2).trans rfl; have hfz91_0 := blk_frozen BK370.out 0; have hfz91_1 := blk_frozen BK370.out 1; have hfz91_2 := blk_frozen BK370.out 2; obtain ⟨Ao92, co92, eo92⟩ := Kd.N_slice HO_3.out; subst eo92) | ((with_reducible refine gate_callee (f := 10) rfl ?_); refine goesL_ (some 45) rfl rfl Try.func10 (by kernel_rfl) rfl #[.agg #[.slice Ao89 x371000_2.length co89, .int .i64 x371001_2, .int .i64 x371002_2], .int .i64 ji31, .slice Ao92 t362.length co92] rfl (by (try simp only [List.map_toArray, List.map_cons, List.map_nil]); first | done | (simp only [hji31]; rfl) | rfl | (simp only [List.length_drop, List.length_take]; rfl)) ?_; (with_reducible refine (impl_FetchGlyph.calls k2 _ _ x371000_2 x371001_2 x371002_2 ji31 _ _ t362 t383 t386 t387 t388 t389 t390 true _ ?side1 ?side2 ?side3 ?side4 A28.out).mono ?_); (case side1 => exact jzD ((Kd.N_reads' HO_371000.out).2.2)); (case side2 => exact (Kd.N_reads' HO_371000.out).2.1); (case side3 => exact jzD ((Kd.N_reads' HO_3.out).2.2)); (case side4 => exact (Kd.N_reads' HO_3.out).2.1); rintro e w93 ⟨v384, v391, rfl, ho0, ho1, hb⟩; refine ⟨_, rfl, ?_⟩; have n0_ := Am (Kd.N_mono (Kd.N_told (Kd.N_told (Kd.N_old (jzN HO_3) hb) (Kd.N_base ho0)) (Kd.R_base ho1)) (fun _ h_ => h_.1)); have n1_ := Am (Kd.R_elder' (jzR HO_5) (Kd.R_base ho1) hb); have n2_ := Am (Kd.N_mono (Kd.N_told (Kd.N_told (Kd.N_old (jzN HO_371000) hb) (Kd.N_base ho0)) (Kd.R_base ho1)) (fun _ h_ => h_.1)); have n3_ := Am (Kd.N_lower (Kd.N_mono (ok' := fun k_ => some k_ ≠ (v391 : Value).ownBlock ∧ some k_ ≠ (.slice Ao92 t362.length co92 : Value).ownBlock ∧ some k_ ≠ (.slice (some ad381) t371.length co87 : Value).ownBlock ∧ some k_ ≠ (.slice Ao89 x371000_2.length co89 : Value).ownBlock ∧ k_ ≠ gb370) ho0 (fun k_ hk_ => ⟨hk_.2, (Kd.fresh' (Kd.N_lt (jzN HO_3)) k_ hk_.1), (Kd.fresh' (Kd.R_lt (jzR HO_5)) k_ hk_.1), (Kd.fresh' (Kd.N_lt (jzN HO_371000)) k_ hk_.1), (Kd.freshB (g := gb370) (o := .cells #[.slice Ao89 x371000_2.length co89, .int .i64 x371001_2, .int .i64 x371002_2] 26 (0, 0)) (jzB BK370) k_ hk_.1)⟩)) (below_size (jzG HB))); have n4_ := Am (Kd.R_lower (Kd.R_new' (Kd.R_mono (ok' := fun k_ => True) ho1 (fun _ hk_ => trivial)) (Kd.R_lt (jzR HO_5))) (below_size (jzG HB))); have n5_ := Am (blk_below (g := gb370) (o := .cells #[.slice Ao89 x371000_2.length co89, .int .i64 x371001_2, .int .i64 x371002_2] 26 (0, 0)) (jzB BK370) hb); have n6_ := Am (below_step (jzG HB) hb); clear HO_3; clear HO_5; clear HO_371000; clear BK370; clear HB; have HO_3 := n0_; have HO_5 := n1_; have HO_371000 := n2_; have HO385 := n3_; have HO392 := n4_; have BK370 := n5_; have HB := n6_; clear n0_ n1_ n2_ n3_ n4_ n5_ n6_; (try clear hb); (try clear hb2); (try clear hk); (try clear hi); (try clear ho0); (try clear ho1)) | ((with_reducible refine gate_dst (N := 9) rfl ?_); (try (refine gate_guard (by rfl) ?_; dsimp only)); refine box_event ?hg (N := 9) ?hd (cs := #[.slice none 0 0, .int .i64 0, .int .i64 0]) (t := 26) ?hr ?_; (case hd => rfl); (case hg => rfl); (case hr => first | (go_simp; done) | (go_simp; rfl)); intro gb394 hg w94 hbox hb; have n0_ := Am (Kd.N_below (Kd.N_elderB (jzN HO_3) gb394 (Nat.le_of_eq hg.symm)) hb); have n1_ := Am (Kd.R_below (jzR HO_5) hb); have n2_ := Am (Kd.N_below (Kd.N_elderB (jzN HO_371000) gb394 (Nat.le_of_eq hg.symm)) hb); have n3_ := Am (Kd.N_below (Kd.N_elderB (jzN HO385) gb394 (Nat.le_of_eq hg.symm)) hb); have n4_ := Am (Kd.R_below (jzR HO392) hb); have n5_ := Am (blk_below (g := gb370) (o := .cells #[.slice Ao89 x371000_2.length co89, .int .i64 x371001_2, .int .i64 x371002_2] 26 (0, 0)) (jzB BK370) hb); have n6_ := Am (below_step (jzG HB) hb); have n7_ := Am (hbox); have n8_ := Am ((by rw [hg]; exact (below_size (jzG HB)) : w.heap.size ≤ gb394)); have n9_ := Am ((by rw [hg]; exact (below_size (jzG HB)) : w.heap.size ≤ gb394)); have n10_ := Am ((by rw [hg]; exact Nat.ne_of_lt (blk_lt (g := gb370) (o := .cells #[.slice Ao89 x371000_2.length co89, .int .i64 x371001_2, .int .i64 x371002_2] 26 (0, 0)) (jzB BK370)) : gb370 ≠ gb394)); have n11_ := Am ((by rw [hg]; exact Nat.ne_of_gt (blk_lt (g := gb370) (o := .cells #[.slice Ao89 x371000_2.length co89, .int .i64 x371001_2, .int .i64 x371002_2] 26 (0, 0)) (jzB BK370)) : gb394 ≠ gb370)); clear HO_3; clear HO_5; clear HO_371000; clear HO385; clear HO392; clear BK370; clear HB; have HO_3 := n0_; have HO_5 := n1_; have HO_371000 := n2_; have HO385 := n3_; have HO392 := n4_; have BK370 := n5_; have HB := n6_; have BK394 := n7_; have GW394 := n8_; have GE394 := n9_; have NB370_394 := n10_; have NB394_370 := n11_; clear n0_ n1_ n2_ n3_ n4_ n5_ n6_ n7_ n8_ n9_ n10_ n11_; clear hb hbox hg) | ((with_reducible refine gate_dst (N := 10) rfl ?_); (try (refine gate_guard (by rfl) ?_; dsimp only)); refine box_event ?hg (N := 10) ?hd (cs := #[.int .i64 0, .int .i64 0, .slice none 0 0]) (t := 32) ?hr ?_; (case hd => rfl); (case hg => rfl); (case hr => first | (go_simp; done) | (go_simp; rfl)); intro gb395 hg w95 hbox hb; have n0_ := Am (Kd.N_below (Kd.N_elderB (jzN HO_3) gb395 (Nat.le_of_eq hg.symm)) hb); have n1_ := Am (Kd.R_below (jzR HO_5) hb); have n2_ := Am (Kd.N_below (Kd.N_elderB (jzN HO_371000) gb395 (Nat.le_of_eq hg.symm)) hb); have n3_ := Am (Kd.N_below (Kd.N_elderB (jzN HO385) gb395 (Nat.le_of_eq hg.symm)) hb); have n4_ := Am (Kd.R_below (jzR HO392) hb); have n5_ := Am (blk_below (g := gb370) (o := .cells #[.slice Ao89 x371000_2.length co89, .int .i64 x371001_2, .int .i64 x371002_2] 26 (0, 0)) (jzB BK370) hb); have n6_ := Am (blk_below (g := gb394) (o := .cells #[.slice none 0 0, .int .i64 0, .int .i64 0] 26 (0, 0)) (jzB BK394) hb); have n7_ := Am (below_step (jzG HB) hb); have n8_ := Am (hbox); have n9_ := Am ((by rw [hg]; exact (below_size (jzG HB)) : w.heap.size ≤ gb395)); have n10_ := Am ((by rw [hg]; exact (below_size (jzG HB)) : w.heap.size ≤ gb395)); have n11_ := Am ((by rw [hg]; exact Nat.ne_of_lt (blk_lt (g := gb370) (o := .cells #[.slice Ao89 x371000_2.length co89, .int .i64 x371001_2, .int .i64 x371002_2] 26 (0, 0)) (jzB BK370)) : gb370 ≠ gb395)); have n12_ := Am ((by rw [hg]; exact Nat.ne_of_gt (blk_lt (g := gb370) (o := .cells #[.slice Ao89 x371000_2.length co89, .int .i64 x371001_2, .int .i64 x371002_2] 26 (0, 0)) (jzB BK370)) : gb395 ≠ gb370)); have n13_ := Am ((by rw [hg]; exact Nat.ne_of_lt (blk_lt (g := gb394) (o := .cells #[.slice none 0 0, .int .i64 0, .int .i64 0] 26 (0, 0)) (jzB BK394)) : gb394 ≠ gb395)); have n14_ := Am ((by rw [hg]; exact Nat.ne_of_gt (blk_lt (g := gb394) (o := .cells #[.slice none 0 0, .int .i64 0, .int .i64 0] 26 (0, 0)) (jzB BK394)) : gb395 ≠ gb394)); clear HO_3; clear HO_5; clear HO_371000; clear HO385; clear HO392; clear BK370; clear BK394; clear HB; have HO_3 := n0_; have HO_5 := n1_; have HO_371000 := n2_; have HO385 := n3_; have HO392 := n4_; have BK370 := n5_; have BK394 := n6_; have HB := n7_; have BK395 := n8_; have GW395 := n9_; have GE395 := n10_; have NB370_395 := n11_; have NB395_370 := n12_; have NB394_395 := n13_; have NB395_394 := n14_; clear n0_ n1_ n2_ n3_ n4_ n5_ n6_ n7_ n8_ n9_ n10_ n11_ n12_ n13_ n14_; clear hb hbox hg; obtain ⟨Ao96, co96, eo96⟩ := Kd.N_slice HO385.out; subst eo96; have hnb97 := NB394_370.out; have hnc97 := NB370_394.out; have hnb98 := NB394_395.out; have hnc98 := NB395_394.out; have hcz99_0 : w95.cell? ⟨gb394, 0, none⟩ = some (.slice none 0 0) := (b8 BK394.out 0).trans rfl; have hcz99_1 : w95.cell? ⟨gb394, 1, none⟩ = some (.int .i64 0) := (b8 BK394.out 1).trans rfl; have hcz99_2 : w95.cell? ⟨gb394, 2, none⟩ = some (.int .i64 0) := (b8 BK394.out 2).trans rfl; have hfz99_0 := blk_frozen BK394.out 0; have hfz99_1 := blk_frozen BK394.out 1; have hfz99_2 := blk_frozen BK394.out 2; have hnb100 := NB395_370.out; have hnc100 := NB370_395.out; have hcz101_0 : w95.cell? ⟨gb395, 0, none⟩ = some (.int .i64 0) := (b8 BK395.out 0).trans rfl; have hcz101_1 : w95.cell? ⟨gb395, 1, none⟩ = some (.int .i64 0) := (b8 BK395.out 1).trans rfl; have hcz101_2 : w95.cell? ⟨gb395, 2, none⟩ = some (.slice none 0 0) := (b8 BK395.out 2).trans rfl; have hfz101_0 := blk_frozen BK395.out 0; have hfz101_1 := blk_frozen BK395.out 1; have hfz101_2 := blk_frozen BK395.out 2; obtain ⟨Ao102, co102, eo102⟩ := Kd.R_slice HO392.out; subst eo102))
                       have n0_ : Aside0 (Kd.N k32 32 ((((((w95.setCell ⟨gb394, 0, none⟩ (.slice Ao96 t383.length co96)).setCell ⟨gb394, 1, none⟩ (.int .i64 t386)).setCell ⟨gb394, 2, none⟩ (.int .i64 t387)).setCell ⟨gb395, 0, none⟩ (.int .i64 t388)).setCell ⟨gb395, 1, none⟩ (.int .i64 t389)).setCell ⟨gb395, 2, none⟩ (.slice Ao102 t390.length co102)) w.heap.size (fun k_ => some k_ ≠ (.slice (some ad381) t371.length co87 : Value).ownBlock ∧ some k_ ≠ (.slice Ao89 x371000_2.length co89 : Value).ownBlock ∧ some k_ ≠ (.slice Ao96 t383.length co96 : Value).ownBlock ∧ some k_ ≠ (.slice Ao102 t390.length co102 : Value).ownBlock ∧ k_ ≠ gb370 ∧ k_ ≠ gb394 ∧ k_ ≠ gb395) (.slice Ao92 t362.length co92) t362) := ⟨by (with_reducible repeat (first | apply Kd.N_alloc | apply Kd.N_drewN | apply Kd.N_drew)); exact Kd.N_mono (Kd.N_far (p := ⟨gb395, 2, none⟩) (Kd.N_far (p := ⟨gb395, 1, none⟩) (Kd.N_far (p := ⟨gb395, 0, none⟩) (Kd.N_far (p := ⟨gb394, 2, none⟩) (Kd.N_far (p := ⟨gb394, 1, none⟩) (Kd.N_far (p := ⟨gb394, 0, none⟩) (Kd.N_mono (Kd.N_mono HO_3.out (fun k_ hk => (⟨hk, hk.1.2⟩ : _ ∧ k_ ≠ gb394))) (fun k_ hk => (⟨hk, hk.1.2⟩ : _ ∧ k_ ≠ gb395))) (fun _ hk => hk.1.2) (.slice Ao96 t383.length co96)) (fun _ hk => hk.1.2) (.int .i64 t386)) (fun _ hk => hk.1.2) (.int .i64 t387)) (fun _ hk => hk.2) (.int .i64 t388)) (fun _ hk => hk.2) (.int .i64 t389)) (fun _ hk => hk.2) (.slice Ao102 t390.length co102)) (fun _ hk => ⟨hk.1.1.1.1.1.1.1, ⟨hk.1.1.1.1.1.1.2.1, ⟨hk.1.1.1.1.1.2, ⟨hk.1.1.1.1.2, ⟨hk.1.1.1.1.1.1.2.2, ⟨hk.1.1.1.2, hk.1.1.2⟩⟩⟩⟩⟩⟩)⟩
                       have n1_ : Aside0 (Kd.R (Kd.int .i64) 3 ((((((w95.setCell ⟨gb394, 0, none⟩ (.slice Ao96 t383.length co96)).setCell ⟨gb394, 1, none⟩ (.int .i64 t386)).setCell ⟨gb394, 2, none⟩ (.int .i64 t387)).setCell ⟨gb395, 0, none⟩ (.int .i64 t388)).setCell ⟨gb395, 1, none⟩ (.int .i64 t389)).setCell ⟨gb395, 2, none⟩ (.slice Ao102 t390.length co102)) w.heap.size (fun k_ => some k_ ≠ (.slice Ao102 t390.length co102 : Value).ownBlock) (.slice (some ad381) t371.length co87) t371) := ⟨by (with_reducible repeat (first | apply Kd.R_alloc | apply Kd.R_drewN | apply Kd.R_drew)); exact Kd.R_mono (Kd.R_far (p := ⟨gb395, 2, none⟩) (Kd.R_far (p := ⟨gb395, 1, none⟩) (Kd.R_far (p := ⟨gb395, 0, none⟩) (Kd.R_far (p := ⟨gb394, 2, none⟩) (Kd.R_far (p := ⟨gb394, 1, none⟩) (Kd.R_far (p := ⟨gb394, 0, none⟩) (Kd.R_types (Kd.R_types HO_5.out BK394.out (by decide)) BK395.out (by decide)) (fun _ hk => hk.1.2) (.slice Ao96 t383.length co96)) (fun _ hk => hk.1.2) (.int .i64 t386)) (fun _ hk => hk.1.2) (.int .i64 t387)) (fun _ hk => hk.2) (.int .i64 t388)) (fun _ hk => hk.2) (.int .i64 t389)) (fun _ hk => hk.2) (.slice Ao102 t390.length co102)) (fun _ hk => hk.1.1.2)⟩
                       have n2_ : Aside0 (Kd.N k32 32 ((((((w95.setCell ⟨gb394, 0, none⟩ (.slice Ao96 t383.length co96)).setCell ⟨gb394, 1, none⟩ (.int .i64 t386)).setCell ⟨gb394, 2, none⟩ (.int .i64 t387)).setCell ⟨gb395, 0, none⟩ (.int .i64 t388)).setCell ⟨gb395, 1, none⟩ (.int .i64 t389)).setCell ⟨gb395, 2, none⟩ (.slice Ao102 t390.length co102)) w.heap.size (fun k_ => some k_ ≠ (.slice Ao92 t362.length co92 : Value).ownBlock ∧ some k_ ≠ (.slice (some ad381) t371.length co87 : Value).ownBlock ∧ some k_ ≠ (.slice Ao96 t383.length co96 : Value).ownBlock ∧ some k_ ≠ (.slice Ao102 t390.length co102 : Value).ownBlock ∧ k_ ≠ gb370 ∧ k_ ≠ gb394 ∧ k_ ≠ gb395) (.slice Ao89 x371000_2.length co89) x371000_2) := ⟨by (with_reducible repeat (first | apply Kd.N_alloc | apply Kd.N_drewN | apply Kd.N_drew)); exact Kd.N_mono (Kd.N_far (p := ⟨gb395, 2, none⟩) (Kd.N_far (p := ⟨gb395, 1, none⟩) (Kd.N_far (p := ⟨gb395, 0, none⟩) (Kd.N_far (p := ⟨gb394, 2, none⟩) (Kd.N_far (p := ⟨gb394, 1, none⟩) (Kd.N_far (p := ⟨gb394, 0, none⟩) (Kd.N_mono (Kd.N_mono HO_371000.out (fun k_ hk => (⟨hk, hk.1.2⟩ : _ ∧ k_ ≠ gb394))) (fun k_ hk => (⟨hk, hk.1.2⟩ : _ ∧ k_ ≠ gb395))) (fun _ hk => hk.1.2) (.slice Ao96 t383.length co96)) (fun _ hk => hk.1.2) (.int .i64 t386)) (fun _ hk => hk.1.2) (.int .i64 t387)) (fun _ hk => hk.2) (.int .i64 t388)) (fun _ hk => hk.2) (.int .i64 t389)) (fun _ hk => hk.2) (.slice Ao102 t390.length co102)) (fun _ hk => ⟨hk.1.1.1.1.1.1.1, ⟨hk.1.1.1.1.1.1.2.1, ⟨hk.1.1.1.1.1.2, ⟨hk.1.1.1.1.2, ⟨hk.1.1.1.1.1.1.2.2, ⟨hk.1.1.1.2, hk.1.1.2⟩⟩⟩⟩⟩⟩)⟩
                       have n3_ : Aside0 (Kd.N k32 32 ((((((w95.setCell ⟨gb394, 0, none⟩ (.slice Ao96 t383.length co96)).setCell ⟨gb394, 1, none⟩ (.int .i64 t386)).setCell ⟨gb394, 2, none⟩ (.int .i64 t387)).setCell ⟨gb395, 0, none⟩ (.int .i64 t388)).setCell ⟨gb395, 1, none⟩ (.int .i64 t389)).setCell ⟨gb395, 2, none⟩ (.slice Ao102 t390.length co102)) w.heap.size (fun k_ => some k_ ≠ (.slice Ao92 t362.length co92 : Value).ownBlock ∧ some k_ ≠ (.slice (some ad381) t371.length co87 : Value).ownBlock ∧ some k_ ≠ (.slice Ao89 x371000_2.length co89 : Value).ownBlock ∧ some k_ ≠ (.slice Ao102 t390.length co102 : Value).ownBlock ∧ k_ ≠ gb370 ∧ k_ ≠ gb394 ∧ k_ ≠ gb395) (.slice Ao96 t383.length co96) t383) := ⟨by (with_reducible repeat (first | apply Kd.N_alloc | apply Kd.N_drewN | apply Kd.N_drew)); exact Kd.N_mono (Kd.N_far (p := ⟨gb395, 2, none⟩) (Kd.N_far (p := ⟨gb395, 1, none⟩) (Kd.N_far (p := ⟨gb395, 0, none⟩) (Kd.N_far (p := ⟨gb394, 2, none⟩) (Kd.N_far (p := ⟨gb394, 1, none⟩) (Kd.N_far (p := ⟨gb394, 0, none⟩) (Kd.N_mono (Kd.N_mono HO385.out (fun k_ hk => (⟨hk, hk.1.2⟩ : _ ∧ k_ ≠ gb394))) (fun k_ hk => (⟨hk, hk.1.2⟩ : _ ∧ k_ ≠ gb395))) (fun _ hk => hk.1.2) (.slice Ao96 t383.length co96)) (fun _ hk => hk.1.2) (.int .i64 t386)) (fun _ hk => hk.1.2) (.int .i64 t387)) (fun _ hk => hk.2) (.int .i64 t388)) (fun _ hk => hk.2) (.int .i64 t389)) (fun _ hk => hk.2) (.slice Ao102 t390.length co102)) (fun _ hk => ⟨hk.1.1.1.1.2.1, ⟨hk.1.1.1.1.2.2.1, ⟨hk.1.1.1.1.2.2.2.1, ⟨hk.1.1.1.1.1, ⟨hk.1.1.1.1.2.2.2.2, ⟨hk.1.1.1.2, hk.1.1.2⟩⟩⟩⟩⟩⟩)⟩
                       have n4_ : Aside0 (Kd.R (Kd.int .i64) 3 ((((((w95.setCell ⟨gb394, 0, none⟩ (.slice Ao96 t383.length co96)).setCell ⟨gb394, 1, none⟩ (.int .i64 t386)).setCell ⟨gb394, 2, none⟩ (.int .i64 t387)).setCell ⟨gb395, 0, none⟩ (.int .i64 t388)).setCell ⟨gb395, 1, none⟩ (.int .i64 t389)).setCell ⟨gb395, 2, none⟩ (.slice Ao102 t390.length co102)) w.heap.size (fun k_ => some k_ ≠ (.slice (some ad381) t371.length co87 : Value).ownBlock) (.slice Ao102 t390.length co102) t390) := ⟨by (with_reducible repeat (first | apply Kd.R_alloc | apply Kd.R_drewN | apply Kd.R_drew)); exact Kd.R_mono (Kd.R_far (p := ⟨gb395, 2, none⟩) (Kd.R_far (p := ⟨gb395, 1, none⟩) (Kd.R_far (p := ⟨gb395, 0, none⟩) (Kd.R_far (p := ⟨gb394, 2, none⟩) (Kd.R_far (p := ⟨gb394, 1, none⟩) (Kd.R_far (p := ⟨gb394, 0, none⟩) (Kd.R_types (Kd.R_types HO392.out BK394.out (by decide)) BK395.out (by decide)) (fun _ hk => hk.1.2) (.slice Ao96 t383.length co96)) (fun _ hk => hk.1.2) (.int .i64 t386)) (fun _ hk => hk.1.2) (.int .i64 t387)) (fun _ hk => hk.2) (.int .i64 t388)) (fun _ hk => hk.2) (.int .i64 t389)) (fun _ hk => hk.2) (.slice Ao102 t390.length co102)) (fun _ hk => hk.1.1.2)⟩
                       have n5_ : Aside0 (((((((w95.setCell ⟨gb394, 0, none⟩ (.slice Ao96 t383.length co96)).setCell ⟨gb394, 1, none⟩ (.int .i64 t386)).setCell ⟨gb394, 2, none⟩ (.int .i64 t387)).setCell ⟨gb395, 0, none⟩ (.int .i64 t388)).setCell ⟨gb395, 1, none⟩ (.int .i64 t389)).setCell ⟨gb395, 2, none⟩ (.slice Ao102 t390.length co102)).heap[gb370]? = some (.cells #[.slice Ao89 x371000_2.length co89, .int .i64 x371001_2, .int .i64 x371002_2] 26 (0, 0))) := ⟨by (with_reducible repeat (first | refine b1 ?_ _ | refine b2 ?_ | refine b3 ?_ _)); refine blk_far ?_ NB370_395.out _; (with_reducible repeat (first | refine b1 ?_ _ | refine b2 ?_ | refine b3 ?_ _)); refine blk_far ?_ NB370_395.out _; (with_reducible repeat (first | refine b1 ?_ _ | refine b2 ?_ | refine b3 ?_ _)); refine blk_far ?_ NB370_395.out _; (with_reducible repeat (first | refine b1 ?_ _ | refine b2 ?_ | refine b3 ?_ _)); refine blk_far ?_ NB370_394.out _; (with_reducible repeat (first | refine b1 ?_ _ | refine b2 ?_ | refine b3 ?_ _)); refine blk_far ?_ NB370_394.out _; (with_reducible repeat (first | refine b1 ?_ _ | refine b2 ?_ | refine b3 ?_ _)); refine blk_far ?_ NB370_394.out _; (with_reducible repeat (first | refine b1 ?_ _ | refine b2 ?_ | refine b3 ?_ _)); exact BK370.out⟩
                       have n6_ : Aside0 (((((((w95.setCell ⟨gb394, 0, none⟩ (.slice Ao96 t383.length co96)).setCell ⟨gb394, 1, none⟩ (.int .i64 t386)).setCell ⟨gb394, 2, none⟩ (.int .i64 t387)).setCell ⟨gb395, 0, none⟩ (.int .i64 t388)).setCell ⟨gb395, 1, none⟩ (.int .i64 t389)).setCell ⟨gb395, 2, none⟩ (.slice Ao102 t390.length co102)).heap[gb394]? = some (.cells #[.slice Ao96 t383.length co96, .int .i64 t386, .int .i64 t387] 26 (0, 0))) := ⟨by (with_reducible repeat (first | refine b1 ?_ _ | refine b2 ?_ | refine b3 ?_ _)); refine blk_far ?_ NB394_395.out _; (with_reducible repeat (first | refine b1 ?_ _ | refine b2 ?_ | refine b3 ?_ _)); refine blk_far ?_ NB394_395.out _; (with_reducible repeat (first | refine b1 ?_ _ | refine b2 ?_ | refine b3 ?_ _)); refine blk_far ?_ NB394_395.out _; (with_reducible repeat (first | refine b1 ?_ _ | refine b2 ?_ | refine b3 ?_ _)); refine blk_put (cs := #[.slice Ao96 t383.length co96, .int .i64 t386, .int .i64 0]) ?_ 2 _ rfl; (with_reducible repeat (first | refine b1 ?_ _ | refine b2 ?_ | refine b3 ?_ _)); refine blk_put (cs := #[.slice Ao96 t383.length co96, .int .i64 0, .int .i64 0]) ?_ 1 _ rfl; (with_reducible repeat (first | refine b1 ?_ _ | refine b2 ?_ | refine b3 ?_ _)); refine blk_put (cs := #[.slice none 0 0, .int .i64 0, .int .i64 0]) ?_ 0 _ rfl; (with_reducible repeat (first | refine b1 ?_ _ | refine b2 ?_ | refine b3 ?_ _)); exact BK394.out⟩
                       have n7_ : Aside0 (((((((w95.setCell ⟨gb394, 0, none⟩ (.slice Ao96 t383.length co96)).setCell ⟨gb394, 1, none⟩ (.int .i64 t386)).setCell ⟨gb394, 2, none⟩ (.int .i64 t387)).setCell ⟨gb395, 0, none⟩ (.int .i64 t388)).setCell ⟨gb395, 1, none⟩ (.int .i64 t389)).setCell ⟨gb395, 2, none⟩ (.slice Ao102 t390.length co102)).heap[gb395]? = some (.cells #[.int .i64 t388, .int .i64 t389, .slice Ao102 t390.length co102] 32 (0, 0))) := ⟨by (with_reducible repeat (first | refine b1 ?_ _ | refine b2 ?_ | refine b3 ?_ _)); refine blk_put (cs := #[.int .i64 t388, .int .i64 t389, .slice none 0 0]) ?_ 2 _ rfl; (with_reducible repeat (first | refine b1 ?_ _ | refine b2 ?_ | refine b3 ?_ _)); refine blk_put (cs := #[.int .i64 t388, .int .i64 0, .slice none 0 0]) ?_ 1 _ rfl; (with_reducible repeat (first | refine b1 ?_ _ | refine b2 ?_ | refine b3 ?_ _)); refine blk_put (cs := #[.int .i64 0, .int .i64 0, .slice none 0 0]) ?_ 0 _ rfl; (with_reducible repeat (first | refine b1 ?_ _ | refine b2 ?_ | refine b3 ?_ _)); refine blk_far ?_ NB395_394.out _; (with_reducible repeat (first | refine b1 ?_ _ | refine b2 ?_ | refine b3 ?_ _)); refine blk_far ?_ NB395_394.out _; (with_reducible repeat (first | refine b1 ?_ _ | refine b2 ?_ | refine b3 ?_ _)); refine blk_far ?_ NB395_394.out _; (with_reducible repeat (first | refine b1 ?_ _ | refine b2 ?_ | refine b3 ?_ _)); exact BK395.out⟩
                       have n8_ : Aside0 (Below w.heap.size w ((((((w95.setCell ⟨gb394, 0, none⟩ (.slice Ao96 t383.length co96)).setCell ⟨gb394, 1, none⟩ (.int .i64 t386)).setCell ⟨gb394, 2, none⟩ (.int .i64 t387)).setCell ⟨gb395, 0, none⟩ (.int .i64 t388)).setCell ⟨gb395, 1, none⟩ (.int .i64 t389)).setCell ⟨gb395, 2, none⟩ (.slice Ao102 t390.length co102))) := ⟨jzG HB⟩
                       (try clear HO_3)
                       (try clear HO_5)
                       (try clear HO_371000)
                       (try clear HO385)
                       (try clear HO392)
                       (try clear BK370)
                       (try clear BK394)
                       (try clear BK395)
                       (try clear HB)
                       generalize ((((((w95.setCell ⟨gb394, 0, none⟩ (.slice Ao96 t383.length co96)).setCell ⟨gb394, 1, none⟩ (.int .i64 t386)).setCell ⟨gb394, 2, none⟩ (.int .i64 t387)).setCell ⟨gb395, 0, none⟩ (.int .i64 t388)).setCell ⟨gb395, 1, none⟩ (.int .i64 t389)).setCell ⟨gb395, 2, none⟩ (.slice Ao102 t390.length co102)) = w103 at n0_ n1_ n2_ n3_ n4_ n5_ n6_ n7_ n8_ ⊢
                       have HO_3 := n0_
                       have HO_5 := n1_
                       have HO_371000 := n2_
                       have HO385 := n3_
                       have HO392 := n4_
                       have BK370 := n5_
                       have BK394 := n6_
                       have BK395 := n7_
                       have HB := n8_
                       clear n0_ n1_ n2_ n3_ n4_ n5_ n6_ n7_ n8_
                       have n0_ := Am (Kd.N_drew HO_3.out)
                       have n1_ := Am (Kd.R_drew HO_5.out)
                       have n2_ := Am (Kd.N_drew HO_371000.out)
                       have n3_ := Am (Kd.N_drew HO385.out)
                       have n4_ := Am (Kd.R_drew HO392.out)
                       have n5_ := Am (b2 BK370.out)
                       have n6_ := Am (b2 BK394.out)
                       have n7_ := Am (b2 BK395.out)
                       have n8_ := Am (b6 HB.out)
                       clear HO_3
                       clear HO_5
                       clear HO_371000
                       clear HO385
                       clear HO392
                       clear BK370
                       clear BK394
                       clear BK395
                       clear HB
                       have HO_3 := n0_
                       have HO_5 := n1_
                       have HO_371000 := n2_
                       have HO385 := n3_
                       have HO392 := n4_
                       have BK370 := n5_
                       have BK394 := n6_
                       have BK395 := n7_
                       have HB := n8_
                       clear n0_ n1_ n2_ n3_ n4_ n5_ n6_ n7_ n8_
                       have p396 : 0 ≤ ((ji31) : Int) := of_decide_eq_true jzS
                       have q396 : (ji31) < (t362.length : Int) := of_decide_eq_true jzS
                       obtain ⟨ad396, A396_2, c396_2, e396, hx396_0, hx396_1, hx396_2, hl396_2, hi396_2⟩ := at_T32 (Kd.N_reads' HO_3.out).2.2 (ji31) p396 q396
                       cases e396
                       obtain ⟨ce396, hce396, hMe396, hcc396⟩ := Kd.N_get HO_3.out z32 (ji31) p396 (by first | exact q396 | exact of_decide_eq_true jzS | (have e_ := (Kd.N_reads' HO_3.out).1; omega))
                       obtain ⟨ua396_2, uc396_2, rfl, ul396_2, ge396_2⟩ := k32_openF hMe396
                       have hv396_2 := hcc396 2 _ rfl
                       rw [add_field _ _ 2 (by omega)] at hv396_2
                       replace hv396_2 := Option.some.inj (hv396_2.symm.trans hx396_2)
                       injection hv396_2 with hva_ hvn_ hvc_
                       rw [hva_] at ge396_2
                       rw [hvc_] at ul396_2
                       have HL396_2 := Am (show Kd.V (Kd.int .i64) 3 _ w.heap.size _ _ ((rd_T32 t362 (ji31)).f2) from Kd.V_mk ul396_2 ge396_2)
                       clear hva_ hvn_ hvc_ ge396_2 ul396_2
                       clear hcc396 hce396
                       have HR396_2 := Am hi396_2
                       have HC396_2 := Am hl396_2
                       clear hi396_2 hl396_2
                       replace p396 := eq_true p396
                       replace q396 := eq_true q396
                       have p398 : 0 ≤ ((ji31) : Int) := of_decide_eq_true jzS
                       have q398 : (ji31) < (t362.length : Int) := of_decide_eq_true jzS
                       obtain ⟨ad398, A398_2, c398_2, e398, hx398_0, hx398_1, hx398_2, hl398_2, hi398_2⟩ := at_T32 (Kd.N_reads' HO_3.out).2.2 (ji31) p398 q398
                       obtain rfl : ad396 = ad398 := (by injection e398)
                       obtain ⟨ce398, hce398, hMe398, hcc398⟩ := Kd.N_get HO_3.out z32 (ji31) p398 (by first | exact q398 | exact of_decide_eq_true jzS | (have e_ := (Kd.N_reads' HO_3.out).1; omega))
                       obtain ⟨ua398_2, uc398_2, rfl, ul398_2, ge398_2⟩ := k32_openF hMe398
                       have hv398_2 := hcc398 2 _ rfl
                       rw [add_field _ _ 2 (by omega)] at hv398_2
                       replace hv398_2 := Option.some.inj (hv398_2.symm.trans hx398_2)
                       injection hv398_2 with hva_ hvn_ hvc_
                       rw [hva_] at ge398_2
                       rw [hvc_] at ul398_2
                       have HL398_2 := Am (show Kd.V (Kd.int .i64) 3 _ w.heap.size _ _ ((rd_T32 t362 (ji31)).f2) from Kd.V_mk ul398_2 ge398_2)
                       clear hva_ hvn_ hvc_ ge398_2 ul398_2
                       clear hcc398 hce398
                       have HR398_2 := Am hi398_2
                       have HC398_2 := Am hl398_2
                       clear hi398_2 hl398_2
                       replace p398 := eq_true p398
                       replace q398 := eq_true q398
                       have ea_ := Option.some.inj (hx396_2.symm.trans hx398_2)
                       injection ea_ with ea_ en_ ec_
                       subst ea_
                       subst ec_
                       clear en_
                       have p400 : 0 ≤ (0 : Int) := (by omega)
                       have q400 : 0 < (t383.length : Int) := of_decide_eq_true jzS
                       obtain ⟨ad400, A400_2, c400_2, e400, hx400_0, hx400_1, hx400_2, hl400_2, hi400_2⟩ := at_T32 (Kd.N_reads' HO385.out).2.2 0 p400 q400
                       cases e400
                       obtain ⟨ce400, hce400, hMe400, hcc400⟩ := Kd.N_get HO385.out z32 0 p400 (by first | exact q400 | exact of_decide_eq_true jzS | (have e_ := (Kd.N_reads' HO385.out).1; omega))
                       obtain ⟨ua400_2, uc400_2, rfl, ul400_2, ge400_2⟩ := k32_openF hMe400
                       have hv400_2 := hcc400 2 _ rfl
                       rw [add_field _ _ 2 (by omega)] at hv400_2
                       replace hv400_2 := Option.some.inj (hv400_2.symm.trans hx400_2)
                       injection hv400_2 with hva_ hvn_ hvc_
                       rw [hva_] at ge400_2
                       rw [hvc_] at ul400_2
                       have HL400_2 := Am (show Kd.V (Kd.int .i64) 3 _ w.heap.size _ _ ((rd_T32 t383 0).f2) from Kd.V_mk ul400_2 ge400_2)
                       clear hva_ hvn_ hvc_ ge400_2 ul400_2
                       clear hcc400 hce400
                       have qi400 : (0 < t383.length) = True := eq_true (by omega)
                       (try rw [show ((0 : Int)).toNat = 0 from rfl] at hx400_0)
                       (try rw [show 0 * 3 = 0 from rfl] at hx400_0)
                       (try rw [Addr.add_zero'] at hx400_0)
                       (try rw [show ((0 : Int)).toNat = 0 from rfl] at hx400_1)
                       (try rw [show 0 * 3 = 0 from rfl] at hx400_1)
                       (try rw [Addr.add_zero'] at hx400_1)
                       (try rw [show ((0 : Int)).toNat = 0 from rfl] at hx400_2)
                       (try rw [show 0 * 3 = 0 from rfl] at hx400_2)
                       (try rw [Addr.add_zero'] at hx400_2)
                       have HR400_2 := Am hi400_2
                       have HC400_2 := Am hl400_2
                       clear hi400_2 hl400_2
                       replace p400 := eq_true p400
                       replace q400 := eq_true q400
                       refine start_ (n := 75) (S := fun w' => w'.cell? ⟨gb395, 0, none⟩ = some (.int .i64 t388) ∧ w'.cell? ⟨gb395, 1, none⟩ = some (.int .i64 t389) ∧ w'.cell? ⟨gb395, 2, none⟩ = some (.slice Ao102 t390.length co102) ∧ w'.cell? ⟨gb394, 0, none⟩ = some (.slice (some ad400) t383.length co96) ∧ w'.cell? ⟨gb394, 1, none⟩ = some (.int .i64 t386) ∧ w'.cell? ⟨gb394, 2, none⟩ = some (.int .i64 t387) ∧ w'.cell? ⟨gb370, 0, none⟩ = some (.slice Ao89 x371000_2.length co89) ∧ w'.cell? ⟨gb370, 1, none⟩ = some (.int .i64 x371001_2) ∧ w'.cell? ⟨gb370, 2, none⟩ = some (.int .i64 x371002_2) ∧ w'.cell? (ad396.add (((ji31)).toNat * 3)) = some (.int .i64 ((rd_T32 t362 (ji31)).f0)) ∧ w'.cell? ⟨(ad396.add (((ji31)).toNat * 3)).block, (ad396.add (((ji31)).toNat * 3)).off + 1, none⟩ = some (.int .i64 ((rd_T32 t362 (ji31)).f1)) ∧ w'.cell? ⟨(ad396.add (((ji31)).toNat * 3)).block, (ad396.add (((ji31)).toNat * 3)).off + 2, none⟩ = some (.slice A396_2 ((rd_T32 t362 (ji31)).f2).length c396_2) ∧ w'.cell? (ad396.add (((ji31)).toNat * 3)) = some (.int .i64 ((rd_T32 t362 (ji31)).f0)) ∧ w'.cell? ⟨(ad396.add (((ji31)).toNat * 3)).block, (ad396.add (((ji31)).toNat * 3)).off + 1, none⟩ = some (.int .i64 ((rd_T32 t362 (ji31)).f1)) ∧ w'.cell? ⟨(ad396.add (((ji31)).toNat * 3)).block, (ad396.add (((ji31)).toNat * 3)).off + 2, none⟩ = some (.slice A396_2 ((rd_T32 t362 (ji31)).f2).length c396_2) ∧ w'.cell? ad400 = some (.int .i64 ((rd_T32 t383 0).f0)) ∧ w'.cell? ⟨ad400.block, ad400.off + 1, none⟩ = some (.int .i64 ((rd_T32 t383 0).f1)) ∧ w'.cell? ⟨ad400.block, ad400.off + 2, none⟩ = some (.slice A400_2 ((rd_T32 t383 0).f2).length c400_2)) (ds := []) #[F,F,F,F,F,F,F,F,F,F,F,F,F,F,F,F,F,F,F,F,F,F,F,F,F,F,F,F,F,F,F,F,F,F,F,F,F,F,F,F,F,F,F,F,F,F,F,F,F,F,F,F,F,F,F,F,F,F,F,F,F,F,F,F,F,F,F,F,F,F,F,F,F,F,F] (by kernel_rfl) rfl rfl ⟨(b8 BK395.out 0).trans rfl, (b8 BK395.out 1).trans rfl, (b8 BK395.out 2).trans rfl, (b8 BK394.out 0).trans rfl, (b8 BK394.out 1).trans rfl, (b8 BK394.out 2).trans rfl, (b8 BK370.out 0).trans rfl, (b8 BK370.out 1).trans rfl, (b8 BK370.out 2).trans rfl, hx396_0, hx396_1, hx396_2, hx398_0, hx398_1, hx398_2, hx400_0, hx400_1, hx400_2⟩ (fun hHeld => ?_); refine with_tabW laws_FnCaches.tab13 laws_FnCaches.bits13 (fun HT_ HW_ => ?_)
                       generalize w103.drew = w104 at HO_3 HO_5 HO_371000 HO385 HO392 BK370 BK394 BK395 HB HL396_2 HL398_2 HL400_2 HR396_2 HR398_2 HR400_2 hx396_0 hx396_1 hx396_2 hx398_0 hx398_1 hx398_2 hx400_0 hx400_1 hx400_2 hHeld ⊢
                       refine pure_ (i := 0) (N := some 49) (v := ?_) (a' := ?_) #[T,F,F,F,F,F,F,F,F,F,F,F,F,F,F,F,F,F,F,F,F,F,F,F,F,F,F,F,F,F,F,F,F,F,F,F,F,F,F,F,F,F,F,F,F,F,F,F,F,F,F,F,F,F,F,F,F,F,F,F,F,F,F,F,F,F,F,F,F,F,F,F,F,F,F] rfl rfl (any_of HT_.out (by kernel_rfl)) (fun _ _ _ h => h) (Or.inl ⟨by rfl, ?_⟩) ?_ ?_
                       rotate_left; intro w'; go_simp; with_reducible rfl; rotate_left; simp only [Act.put, zA, zB, zC, i64_w, i32_w]; rfl
                       refine pure_ (i := 1) (N := some 50) (v := ?_) (a' := ?_) #[T,T,F,F,F,F,F,F,F,F,F,F,F,F,F,F,F,F,F,F,F,F,F,F,F,F,F,F,F,F,F,F,F,F,F,F,F,F,F,F,F,F,F,F,F,F,F,F,F,F,F,F,F,F,F,F,F,F,F,F,F,F,F,F,F,F,F,F,F,F,F,F,F,F,F] rfl rfl (any_of HT_.out (by kernel_rfl)) (fun _ _ _ h => h) (Or.inl ⟨by rfl, ?_⟩) ?_ ?_
                       rotate_left; intro w'; go_simp; with_reducible rfl; rotate_left; simp only [Act.put, zA, zB, zC, i64_w, i32_w]; rfl
                       refine pure_ (i := 2) (N := some 51) (v := ?_) (a' := ?_) #[T,T,T,F,F,F,F,F,F,F,F,F,F,F,F,F,F,F,F,F,F,F,F,F,F,F,F,F,F,F,F,F,F,F,F,F,F,F,F,F,F,F,F,F,F,F,F,F,F,F,F,F,F,F,F,F,F,F,F,F,F,F,F,F,F,F,F,F,F,F,F,F,F,F,F] rfl rfl (any_of HT_.out (by kernel_rfl)) (fun _ _ _ h => h) (Or.inl ⟨by rfl, ?_⟩) ?_ ?_
                       rotate_left; intro w'; go_simp; with_reducible rfl; rotate_left; simp only [Act.put, zA, zB, zC, i64_w, i32_w]; rfl
                       refine pure_ (i := 3) (N := some 52) (v := ?_) (a' := ?_) #[T,T,T,T,F,F,F,F,F,F,F,F,F,F,F,F,F,F,F,F,F,F,F,F,F,F,F,F,F,F,F,F,F,F,F,F,F,F,F,F,F,F,F,F,F,F,F,F,F,F,F,F,F,F,F,F,F,F,F,F,F,F,F,F,F,F,F,F,F,F,F,F,F,F,F] rfl rfl (any_of HT_.out (by kernel_rfl)) (fun _ _ _ h => h) (Or.inl ⟨by rfl, ?_⟩) ?_ ?_
                       rotate_left; intro w'; go_simp; with_reducible rfl; rotate_left; simp only [Act.put, zA, zB, zC, i64_w, i32_w]; rfl
                       refine pure_ (i := 5) (N := some 54) (v := ?_) (a' := ?_) #[T,T,T,T,F,T,F,F,F,F,F,F,F,F,F,F,F,F,F,F,F,F,F,F,F,F,F,F,F,F,F,F,F,F,F,F,F,F,F,F,F,F,F,F,F,F,F,F,F,F,F,F,F,F,F,F,F,F,F,F,F,F,F,F,F,F,F,F,F,F,F,F,F,F,F] rfl rfl (any_of HT_.out (by kernel_rfl)) (fun _ _ _ h => h) (Or.inl ⟨by rfl, ?_⟩) ?_ ?_
                       rotate_left; intro w'; go_simp; with_reducible rfl; rotate_left; simp only [Act.put, zA, zB, zC, i64_w, i32_w]; rfl
                       refine take_ (i := 4) (N := some 53) (v := ?_) (a' := ?_) #[T,T,T,T,T,T,F,F,F,F,F,F,F,F,F,F,F,F,F,F,F,F,F,F,F,F,F,F,F,F,F,F,F,F,F,F,F,F,F,F,F,F,F,F,F,F,F,F,F,F,F,F,F,F,F,F,F,F,F,F,F,F,F,F,F,F,F,F,F,F,F,F,F,F,F] rfl rfl (take_ofW HT_.out HW_.out (by kernel_rfl)) (fun _ _ _ h => h) (Or.inl ⟨by rfl, ?_⟩) hHeld ?_ ?_
                       rotate_left; rintro w' ⟨s0, s1, s2, s3, s4, s5, s6, s7, s8, s9, s10, s11, s12, s13, s14, s15, s16, s17⟩; go_simp; with_reducible rfl; rotate_left; simp only [Act.put, zA, zB, zC, i64_w, i32_w]; rfl
                       refine pure_ (i := 6) (N := some 55) (v := ?_) (a' := ?_) #[T,T,T,T,T,T,T,F,F,F,F,F,F,F,F,F,F,F,F,F,F,F,F,F,F,F,F,F,F,F,F,F,F,F,F,F,F,F,F,F,F,F,F,F,F,F,F,F,F,F,F,F,F,F,F,F,F,F,F,F,F,F,F,F,F,F,F,F,F,F,F,F,F,F,F] rfl rfl (any_of HT_.out (by kernel_rfl)) (fun _ _ _ h => h) (Or.inl ⟨by rfl, ?_⟩) ?_ ?_
                       rotate_left; intro w'; go_simp; with_reducible rfl; rotate_left; simp only [Act.put, zA, zB, zC, i64_w, i32_w]; rfl
                       refine pure_ (i := 7) (N := some 56) (v := ?_) (a' := ?_) #[T,T,T,T,T,T,T,T,F,F,F,F,F,F,F,F,F,F,F,F,F,F,F,F,F,F,F,F,F,F,F,F,F,F,F,F,F,F,F,F,F,F,F,F,F,F,F,F,F,F,F,F,F,F,F,F,F,F,F,F,F,F,F,F,F,F,F,F,F,F,F,F,F,F,F] rfl rfl (any_of HT_.out (by kernel_rfl)) (fun _ _ _ h => h) (Or.inl ⟨by rfl, ?_⟩) ?_ ?_
                       rotate_left; intro w'; go_simp; with_reducible rfl; rotate_left; simp only [Act.put, zA, zB, zC, i64_w, i32_w]; rfl
                       refine pure_ (i := 8) (N := some 57) (v := ?_) (a' := ?_) #[T,T,T,T,T,T,T,T,T,F,F,F,F,F,F,F,F,F,F,F,F,F,F,F,F,F,F,F,F,F,F,F,F,F,F,F,F,F,F,F,F,F,F,F,F,F,F,F,F,F,F,F,F,F,F,F,F,F,F,F,F,F,F,F,F,F,F,F,F,F,F,F,F,F,F] rfl rfl (any_of HT_.out (by kernel_rfl)) (fun _ _ _ h => h) (Or.inl ⟨by rfl, ?_⟩) ?_ ?_
                       rotate_left; intro w'; go_simp; with_reducible rfl; rotate_left; simp only [Act.put, zA, zB, zC, i64_w, i32_w]; rfl
                       refine pure_ (i := 9) (N := some 58) (v := ?_) (a' := ?_) #[T,T,T,T,T,T,T,T,T,T,F,F,F,F,F,F,F,F,F,F,F,F,F,F,F,F,F,F,F,F,F,F,F,F,F,F,F,F,F,F,F,F,F,F,F,F,F,F,F,F,F,F,F,F,F,F,F,F,F,F,F,F,F,F,F,F,F,F,F,F,F,F,F,F,F] rfl rfl (any_of HT_.out (by kernel_rfl)) (fun _ _ _ h => h) (Or.inl ⟨by rfl, ?_⟩) ?_ ?_
                       rotate_left; intro w'; go_simp; with_reducible rfl; rotate_left; simp only [Act.put, zA, zB, zC, i64_w, i32_w]; rfl
                       refine pure_ (i := 11) (N := some 60) (v := ?_) (a' := ?_) #[T,T,T,T,T,T,T,T,T,T,F,T,F,F,F,F,F,F,F,F,F,F,F,F,F,F,F,F,F,F,F,F,F,F,F,F,F,F,F,F,F,F,F,F,F,F,F,F,F,F,F,F,F,F,F,F,F,F,F,F,F,F,F,F,F,F,F,F,F,F,F,F,F,F,F] rfl rfl (any_of HT_.out (by kernel_rfl)) (fun _ _ _ h => h) (Or.inl ⟨by rfl, ?_⟩) ?_ ?_
                       rotate_left; intro w'; go_simp; with_reducible rfl; rotate_left; simp only [Act.put, zA, zB, zC, i64_w, i32_w]; rfl
                       refine pure_ (i := 12) (N := some 61) (v := ?_) (a' := ?_) #[T,T,T,T,T,T,T,T,T,T,F,T,T,F,F,F,F,F,F,F,F,F,F,F,F,F,F,F,F,F,F,F,F,F,F,F,F,F,F,F,F,F,F,F,F,F,F,F,F,F,F,F,F,F,F,F,F,F,F,F,F,F,F,F,F,F,F,F,F,F,F,F,F,F,F] rfl rfl (any_of HT_.out (by kernel_rfl)) (fun _ _ _ h => h) (Or.inl ⟨by rfl, ?_⟩) ?_ ?_
                       rotate_left; intro w'; go_simp; with_reducible rfl; rotate_left; simp only [Act.put, zA, zB, zC, i64_w, i32_w]; rfl
                       refine pure_ (i := 13) (N := some 62) (v := ?_) (a' := ?_) #[T,T,T,T,T,T,T,T,T,T,F,T,T,T,F,F,F,F,F,F,F,F,F,F,F,F,F,F,F,F,F,F,F,F,F,F,F,F,F,F,F,F,F,F,F,F,F,F,F,F,F,F,F,F,F,F,F,F,F,F,F,F,F,F,F,F,F,F,F,F,F,F,F,F,F] rfl rfl (any_of HT_.out (by kernel_rfl)) (fun _ _ _ h => h) (Or.inl ⟨by rfl, ?_⟩) ?_ ?_
                       rotate_left; intro w'; go_simp; with_reducible rfl; rotate_left; simp only [Act.put, zA, zB, zC, i64_w, i32_w]; rfl
                       refine pure_ (i := 14) (N := some 63) (v := ?_) (a' := ?_) #[T,T,T,T,T,T,T,T,T,T,F,T,T,T,T,F,F,F,F,F,F,F,F,F,F,F,F,F,F,F,F,F,F,F,F,F,F,F,F,F,F,F,F,F,F,F,F,F,F,F,F,F,F,F,F,F,F,F,F,F,F,F,F,F,F,F,F,F,F,F,F,F,F,F,F] rfl rfl (any_of HT_.out (by kernel_rfl)) (fun _ _ _ h => h) (Or.inl ⟨by rfl, ?_⟩) ?_ ?_
                       rotate_left; intro w'; go_simp; with_reducible rfl; rotate_left; simp only [Act.put, zA, zB, zC, i64_w, i32_w]; rfl
                       refine take_ (i := 10) (N := some 59) (v := ?_) (a' := ?_) #[T,T,T,T,T,T,T,T,T,T,T,T,T,T,T,F,F,F,F,F,F,F,F,F,F,F,F,F,F,F,F,F,F,F,F,F,F,F,F,F,F,F,F,F,F,F,F,F,F,F,F,F,F,F,F,F,F,F,F,F,F,F,F,F,F,F,F,F,F,F,F,F,F,F,F] rfl rfl (take_ofW HT_.out HW_.out (by kernel_rfl)) (fun _ _ _ h => h) (Or.inl ⟨by rfl, ?_⟩) hHeld ?_ ?_
                       rotate_left; rintro w' ⟨s0, s1, s2, s3, s4, s5, s6, s7, s8, s9, s10, s11, s12, s13, s14, s15, s16, s17⟩; go_simp; with_reducible rfl; rotate_left; simp only [Act.put, zA, zB, zC, i64_w, i32_w]; rfl
                       refine take_ (i := 15) (N := some 64) (v := ?_) (a' := ?_) #[T,T,T,T,T,T,T,T,T,T,T,T,T,T,T,T,F,F,F,F,F,F,F,F,F,F,F,F,F,F,F,F,F,F,F,F,F,F,F,F,F,F,F,F,F,F,F,F,F,F,F,F,F,F,F,F,F,F,F,F,F,F,F,F,F,F,F,F,F,F,F,F,F,F,F] rfl rfl (take_ofW HT_.out HW_.out (by kernel_rfl)) (fun _ _ _ h => h) (Or.inl ⟨by rfl, ?_⟩) hHeld ?_ ?_
                       rotate_left; rintro w' ⟨s0, s1, s2, s3, s4, s5, s6, s7, s8, s9, s10, s11, s12, s13, s14, s15, s16, s17⟩; go_simp; with_reducible rfl; rotate_left; simp only [Act.put, zA, zB, zC, i64_w, i32_w]; rfl
                       refine one_ (i := 16) (N := some 65) #[T,T,T,T,T,T,T,T,T,T,T,T,T,T,T,T,T,F,F,F,F,F,F,F,F,F,F,F,F,F,F,F,F,F,F,F,F,F,F,F,F,F,F,F,F,F,F,F,F,F,F,F,F,F,F,F,F,F,F,F,F,F,F,F,F,F,F,F,F,F,F,F,F,F,F] rfl rfl (one_of HT_.out (by kernel_rfl)) (by decide) (fun K hK => ?_)
                       refine goes_ Try.func15 (by kernel_rfl) rfl #[.slice Ao102 t390.length co102, .slice A396_2 ((rd_T32 t362 (ji31)).f2).length c396_2] (by rfl) rfl rfl (by (try simp only [List.map_toArray, List.map_cons, List.map_nil]); first | done | (simp only [hji31]; rfl) | rfl | (simp only [List.length_drop, List.length_take]; rfl)) ?_
                       with_reducible refine (laws_sameInts.calls k2 _ _ t390 _ _ ((rd_T32 t362 (ji31)).f2) true _ ?side1 ?side2 ?side3 ?side4 A34.out).mono ?_
                       (case side1 => exact jzD ((Kd.R_reads' HO392.out).2.2))
                       (case side2 => exact (Kd.R_reads' HO392.out).2.1)
                       (case side3 => repeat (first | exact (by repeat (first | (with_reducible exact HR396_2.out) | (with_reducible refine Kd.C_alloc ?_ _) | (with_reducible refine Kd.C_drewN ?_ _) | (with_reducible refine Kd.C_drew ?_) | exact HR396_2.out)) | (with_reducible refine Kd.C_alloc ?_ _) | (with_reducible refine Kd.C_drewN ?_ _) | (with_reducible refine Kd.C_drew ?_)))
                       (case side4 => exact HC396_2.out)
                       rintro e w' ⟨rfl, ⟨nd, rfl⟩⟩
                       refine ⟨_, rfl, ?_⟩
                       refine hK.out _ _ ⟨(b8 BK395.out 0).trans rfl, (b8 BK395.out 1).trans rfl, (b8 BK395.out 2).trans rfl, (b8 BK394.out 0).trans rfl, (b8 BK394.out 1).trans rfl, (b8 BK394.out 2).trans rfl, (b8 BK370.out 0).trans rfl, (b8 BK370.out 1).trans rfl, (b8 BK370.out 2).trans rfl, hHeld.2.2.2.2.2.2.2.2.2.1, hHeld.2.2.2.2.2.2.2.2.2.2.1, hHeld.2.2.2.2.2.2.2.2.2.2.2.1, hHeld.2.2.2.2.2.2.2.2.2.2.2.2.1, hHeld.2.2.2.2.2.2.2.2.2.2.2.2.2.1, hHeld.2.2.2.2.2.2.2.2.2.2.2.2.2.2.1, hHeld.2.2.2.2.2.2.2.2.2.2.2.2.2.2.2.1, hHeld.2.2.2.2.2.2.2.2.2.2.2.2.2.2.2.2.1, hHeld.2.2.2.2.2.2.2.2.2.2.2.2.2.2.2.2.2⟩ (fun hHeld => ?_)
                       clear hK K
                       refine norm_ (a' := ?_) ?_ ?_
                       rotate_left
                       ·show Act.put _ (some 65) _ = _
                        simp only [Act.put, zA, zB, zC, i64_w, i32_w]
                        rfl
                       refine pure_ (i := 17) (N := some 66) (v := ?_) (a' := ?_) #[T,T,T,T,T,T,T,T,T,T,T,T,T,T,T,T,T,T,F,F,F,F,F,F,F,F,F,F,F,F,F,F,F,F,F,F,F,F,F,F,F,F,F,F,F,F,F,F,F,F,F,F,F,F,F,F,F,F,F,F,F,F,F,F,F,F,F,F,F,F,F,F,F,F,F] rfl rfl (any_of HT_.out (by kernel_rfl)) (fun _ _ _ h => h) (Or.inl ⟨by rfl, ?_⟩) ?_ ?_
                       rotate_left; intro w'; go_simp; with_reducible rfl; rotate_left; simp only [Act.put, zA, zB, zC, i64_w, i32_w]; rfl
                       refine pure_ (i := 18) (N := some 67) (v := ?_) (a' := ?_) #[T,T,T,T,T,T,T,T,T,T,T,T,T,T,T,T,T,T,T,F,F,F,F,F,F,F,F,F,F,F,F,F,F,F,F,F,F,F,F,F,F,F,F,F,F,F,F,F,F,F,F,F,F,F,F,F,F,F,F,F,F,F,F,F,F,F,F,F,F,F,F,F,F,F,F] rfl rfl (any_of HT_.out (by kernel_rfl)) (fun _ _ _ h => h) (Or.inl ⟨by rfl, ?_⟩) ?_ ?_
                       rotate_left; intro w'; go_simp; with_reducible rfl; rotate_left; simp only [Act.put, zA, zB, zC, i64_w, i32_w]; rfl
                       refine pure_ (i := 19) (N := some 68) (v := ?_) (a' := ?_) #[T,T,T,T,T,T,T,T,T,T,T,T,T,T,T,T,T,T,T,T,F,F,F,F,F,F,F,F,F,F,F,F,F,F,F,F,F,F,F,F,F,F,F,F,F,F,F,F,F,F,F,F,F,F,F,F,F,F,F,F,F,F,F,F,F,F,F,F,F,F,F,F,F,F,F] rfl rfl (any_of HT_.out (by kernel_rfl)) (fun _ _ _ h => h) (Or.inl ⟨by rfl, ?_⟩) ?_ ?_
                       rotate_left; intro w'; go_simp; with_reducible rfl; rotate_left; simp only [Act.put, zA, zB, zC, i64_w, i32_w]; rfl
                       refine pure_ (i := 20) (N := some 69) (v := ?_) (a' := ?_) #[T,T,T,T,T,T,T,T,T,T,T,T,T,T,T,T,T,T,T,T,T,F,F,F,F,F,F,F,F,F,F,F,F,F,F,F,F,F,F,F,F,F,F,F,F,F,F,F,F,F,F,F,F,F,F,F,F,F,F,F,F,F,F,F,F,F,F,F,F,F,F,F,F,F,F] rfl rfl (any_of HT_.out (by kernel_rfl)) (fun _ _ _ h => h) (Or.inl ⟨by rfl, ?_⟩) ?_ ?_
                       rotate_left; intro w'; go_simp; with_reducible rfl; rotate_left; simp only [Act.put, zA, zB, zC, i64_w, i32_w]; rfl
                       refine pure_ (i := 22) (N := some 71) (v := ?_) (a' := ?_) #[T,T,T,T,T,T,T,T,T,T,T,T,T,T,T,T,T,T,T,T,T,F,T,F,F,F,F,F,F,F,F,F,F,F,F,F,F,F,F,F,F,F,F,F,F,F,F,F,F,F,F,F,F,F,F,F,F,F,F,F,F,F,F,F,F,F,F,F,F,F,F,F,F,F,F] rfl rfl (any_of HT_.out (by kernel_rfl)) (fun _ _ _ h => h) (Or.inl ⟨by rfl, ?_⟩) ?_ ?_
                       rotate_left; intro w'; go_simp; with_reducible rfl; rotate_left; simp only [Act.put, zA, zB, zC, i64_w, i32_w]; rfl
                       refine pure_ (i := 23) (N := some 72) (v := ?_) (a' := ?_) #[T,T,T,T,T,T,T,T,T,T,T,T,T,T,T,T,T,T,T,T,T,F,T,T,F,F,F,F,F,F,F,F,F,F,F,F,F,F,F,F,F,F,F,F,F,F,F,F,F,F,F,F,F,F,F,F,F,F,F,F,F,F,F,F,F,F,F,F,F,F,F,F,F,F,F] rfl rfl (any_of HT_.out (by kernel_rfl)) (fun _ _ _ h => h) (Or.inl ⟨by rfl, ?_⟩) ?_ ?_
                       rotate_left; intro w'; go_simp; with_reducible rfl; rotate_left; simp only [Act.put, zA, zB, zC, i64_w, i32_w]; rfl
                       refine pure_ (i := 24) (N := some 73) (v := ?_) (a' := ?_) #[T,T,T,T,T,T,T,T,T,T,T,T,T,T,T,T,T,T,T,T,T,F,T,T,T,F,F,F,F,F,F,F,F,F,F,F,F,F,F,F,F,F,F,F,F,F,F,F,F,F,F,F,F,F,F,F,F,F,F,F,F,F,F,F,F,F,F,F,F,F,F,F,F,F,F] rfl rfl (any_of HT_.out (by kernel_rfl)) (fun _ _ _ h => h) (Or.inl ⟨by rfl, ?_⟩) ?_ ?_
                       rotate_left; intro w'; go_simp; with_reducible rfl; rotate_left; simp only [Act.put, zA, zB, zC, i64_w, i32_w]; rfl
                       refine pure_ (i := 25) (N := some 74) (v := ?_) (a' := ?_) #[T,T,T,T,T,T,T,T,T,T,T,T,T,T,T,T,T,T,T,T,T,F,T,T,T,T,F,F,F,F,F,F,F,F,F,F,F,F,F,F,F,F,F,F,F,F,F,F,F,F,F,F,F,F,F,F,F,F,F,F,F,F,F,F,F,F,F,F,F,F,F,F,F,F,F] rfl rfl (any_of HT_.out (by kernel_rfl)) (fun _ _ _ h => h) (Or.inl ⟨by rfl, ?_⟩) ?_ ?_
                       rotate_left; intro w'; go_simp; with_reducible rfl; rotate_left; simp only [Act.put, zA, zB, zC, i64_w, i32_w]; rfl
                       refine take_ (i := 21) (N := some 70) (v := ?_) (a' := ?_) #[T,T,T,T,T,T,T,T,T,T,T,T,T,T,T,T,T,T,T,T,T,T,T,T,T,T,F,F,F,F,F,F,F,F,F,F,F,F,F,F,F,F,F,F,F,F,F,F,F,F,F,F,F,F,F,F,F,F,F,F,F,F,F,F,F,F,F,F,F,F,F,F,F,F,F] rfl rfl (take_ofW HT_.out HW_.out (by kernel_rfl)) (fun _ _ _ h => h) (Or.inl ⟨by rfl, ?_⟩) hHeld ?_ ?_
                       rotate_left; rintro w' ⟨s0, s1, s2, s3, s4, s5, s6, s7, s8, s9, s10, s11, s12, s13, s14, s15, s16, s17⟩; go_simp; with_reducible rfl; rotate_left; simp only [Act.put, zA, zB, zC, i64_w, i32_w]; rfl
                       refine take_ (i := 26) (N := some 75) (v := ?_) (a' := ?_) #[T,T,T,T,T,T,T,T,T,T,T,T,T,T,T,T,T,T,T,T,T,T,T,T,T,T,T,F,F,F,F,F,F,F,F,F,F,F,F,F,F,F,F,F,F,F,F,F,F,F,F,F,F,F,F,F,F,F,F,F,F,F,F,F,F,F,F,F,F,F,F,F,F,F,F] rfl rfl (take_ofW HT_.out HW_.out (by kernel_rfl)) (fun _ _ _ h => h) (Or.inl ⟨by rfl, ?_⟩) hHeld ?_ ?_
                       rotate_left; rintro w' ⟨s0, s1, s2, s3, s4, s5, s6, s7, s8, s9, s10, s11, s12, s13, s14, s15, s16, s17⟩; go_simp; with_reducible rfl; rotate_left; simp only [Act.put, zA, zB, zC, i64_w, i32_w]; rfl
                       refine pure_ (i := 27) (N := some 76) (v := ?_) (a' := ?_) #[T,T,T,T,T,T,T,T,T,T,T,T,T,T,T,T,T,T,T,T,T,T,T,T,T,T,T,T,F,F,F,F,F,F,F,F,F,F,F,F,F,F,F,F,F,F,F,F,F,F,F,F,F,F,F,F,F,F,F,F,F,F,F,F,F,F,F,F,F,F,F,F,F,F,F] rfl rfl (any_of HT_.out (by kernel_rfl)) (fun _ _ _ h => h) (Or.inl ⟨by rfl, ?_⟩) ?_ ?_
                       rotate_left; intro w'; go_simp; with_reducible rfl; rotate_left; simp only [Act.put, zA, zB, zC, i64_w, i32_w]; rfl
                       refine pure_ (i := 28) (N := some 77) (v := ?_) (a' := ?_) #[T,T,T,T,T,T,T,T,T,T,T,T,T,T,T,T,T,T,T,T,T,T,T,T,T,T,T,T,T,F,F,F,F,F,F,F,F,F,F,F,F,F,F,F,F,F,F,F,F,F,F,F,F,F,F,F,F,F,F,F,F,F,F,F,F,F,F,F,F,F,F,F,F,F,F] rfl rfl (any_of HT_.out (by kernel_rfl)) (fun _ _ _ h => h) (Or.inl ⟨by rfl, ?_⟩) ?_ ?_
                       rotate_left; intro w'; go_simp; with_reducible rfl; rotate_left; simp only [Act.put, zA, zB, zC, i64_w, i32_w]; rfl
                       refine pure_ (i := 29) (N := some 78) (v := ?_) (a' := ?_) #[T,T,T,T,T,T,T,T,T,T,T,T,T,T,T,T,T,T,T,T,T,T,T,T,T,T,T,T,T,T,F,F,F,F,F,F,F,F,F,F,F,F,F,F,F,F,F,F,F,F,F,F,F,F,F,F,F,F,F,F,F,F,F,F,F,F,F,F,F,F,F,F,F,F,F] rfl rfl (any_of HT_.out (by kernel_rfl)) (fun _ _ _ h => h) (Or.inl ⟨by rfl, ?_⟩) ?_ ?_
                       rotate_left; intro w'; go_simp; with_reducible rfl; rotate_left; simp only [Act.put, zA, zB, zC, i64_w, i32_w]; rfl
                       refine take_ (i := 30) (N := some 79) (v := ?_) (a' := ?_) #[T,T,T,T,T,T,T,T,T,T,T,T,T,T,T,T,T,T,T,T,T,T,T,T,T,T,T,T,T,T,T,F,F,F,F,F,F,F,F,F,F,F,F,F,F,F,F,F,F,F,F,F,F,F,F,F,F,F,F,F,F,F,F,F,F,F,F,F,F,F,F,F,F,F,F] rfl rfl (take_ofW HT_.out HW_.out (by kernel_rfl)) (fun _ _ _ h => h) (Or.inl ⟨by rfl, ?_⟩) hHeld ?_ ?_
                       rotate_left; rintro w' ⟨s0, s1, s2, s3, s4, s5, s6, s7, s8, s9, s10, s11, s12, s13, s14, s15, s16, s17⟩; go_simp; with_reducible rfl; rotate_left; simp only [Act.put, zA, zB, zC, i64_w, i32_w]; rfl
                       refine one_ (i := 31) (N := some 80) #[T,T,T,T,T,T,T,T,T,T,T,T,T,T,T,T,T,T,T,T,T,T,T,T,T,T,T,T,T,T,T,T,F,F,F,F,F,F,F,F,F,F,F,F,F,F,F,F,F,F,F,F,F,F,F,F,F,F,F,F,F,F,F,F,F,F,F,F,F,F,F,F,F,F,F] rfl rfl (one_of HT_.out (by kernel_rfl)) (by decide) (fun K hK => ?_)
                       refine goes_ Try.func13 (by kernel_rfl) rfl #[.agg #[.slice (some ad400) t383.length co96, .int .i64 t386, .int .i64 t387]] (by rfl) rfl rfl jzA ?_
                       with_reducible refine (impl_CacheOk.calls k2 _ _ t383 t386 t387 true _ ?side1 ?side2 A37.out).mono ?_
                       (case side1 => exact jzD ((Kd.N_reads' HO385.out).2.2))
                       (case side2 => exact (Kd.N_reads' HO385.out).2.1)
                       rintro e w105 ⟨rfl, hb⟩
                       have HS9_ := hs_ hb hHeld.2.2.2.2.2.2.2.2.2.1
                       have HS10_ := hs_ hb hHeld.2.2.2.2.2.2.2.2.2.2.1
                       have HS11_ := hs_ hb hHeld.2.2.2.2.2.2.2.2.2.2.2.1
                       have HS12_ := hs_ hb hHeld.2.2.2.2.2.2.2.2.2.2.2.2.1
                       have HS13_ := hs_ hb hHeld.2.2.2.2.2.2.2.2.2.2.2.2.2.1
                       have HS14_ := hs_ hb hHeld.2.2.2.2.2.2.2.2.2.2.2.2.2.2.1
                       have HS15_ := hs_ hb hHeld.2.2.2.2.2.2.2.2.2.2.2.2.2.2.2.1
                       have HS16_ := hs_ hb hHeld.2.2.2.2.2.2.2.2.2.2.2.2.2.2.2.2.1
                       have HS17_ := hs_ hb hHeld.2.2.2.2.2.2.2.2.2.2.2.2.2.2.2.2.2
                       refine ⟨_, rfl, ?_⟩
                       have n0_ := Am (Kd.N_below (jzN HO_3) hb)
                       have n1_ := Am (Kd.R_below (jzR HO_5) hb)
                       have n2_ := Am (Kd.N_below (jzN HO_371000) hb)
                       have n3_ := Am (Kd.N_below (jzN HO385) hb)
                       have n4_ := Am (Kd.R_below (jzR HO392) hb)
                       have n7_ := Am (blk_below (g := gb370) (o := .cells #[.slice Ao89 x371000_2.length co89, .int .i64 x371001_2, .int .i64 x371002_2] 26 (0, 0)) (jzB BK370) hb)
                       have n8_ := Am (blk_below (g := gb394) (o := .cells #[.slice (some ad400) t383.length co96, .int .i64 t386, .int .i64 t387] 26 (0, 0)) (jzB BK394) hb)
                       have n9_ := Am (blk_below (g := gb395) (o := .cells #[.int .i64 t388, .int .i64 t389, .slice Ao102 t390.length co102] 32 (0, 0)) (jzB BK395) hb)
                       have n12_ := Am (below_step (jzG HB) hb)
                       clear HO_3
                       clear HO_5
                       clear HO_371000
                       clear HO385
                       clear HO392
                       clear BK370
                       clear BK394
                       clear BK395
                       clear HB
                       have HO_3 := n0_
                       have HO_5 := n1_
                       have HO_371000 := n2_
                       have HO385 := n3_
                       have HO392 := n4_
                       have BK370 := n7_
                       have BK394 := n8_
                       have BK395 := n9_
                       have HB := n12_
                       clear n0_ n1_ n2_ n3_ n4_ n7_ n8_ n9_ n12_
                       (try clear hb)
                       (try clear hb2)
                       (try clear hk)
                       (try clear hi)
                       refine hK.out _ _ ⟨(b8 BK395.out 0).trans rfl, (b8 BK395.out 1).trans rfl, (b8 BK395.out 2).trans rfl, (b8 BK394.out 0).trans rfl, (b8 BK394.out 1).trans rfl, (b8 BK394.out 2).trans rfl, (b8 BK370.out 0).trans rfl, (b8 BK370.out 1).trans rfl, (b8 BK370.out 2).trans rfl, HS9_, HS10_, HS11_, HS12_, HS13_, HS14_, HS15_, HS16_, HS17_⟩ (fun hHeld => ?_)
                       clear hK K
                       refine norm_ (a' := ?_) ?_ ?_
                       rotate_left
                       ·show Act.put _ (some 80) _ = _
                        simp only [Act.put, zA, zB, zC, i64_w, i32_w]
                        rfl
                       refine pure_ (i := 32) (N := some 81) (v := ?_) (a' := ?_) #[T,T,T,T,T,T,T,T,T,T,T,T,T,T,T,T,T,T,T,T,T,T,T,T,T,T,T,T,T,T,T,T,T,F,F,F,F,F,F,F,F,F,F,F,F,F,F,F,F,F,F,F,F,F,F,F,F,F,F,F,F,F,F,F,F,F,F,F,F,F,F,F,F,F,F] rfl rfl (any_of HT_.out (by kernel_rfl)) (fun _ _ _ h => h) (Or.inl ⟨by rfl, ?_⟩) ?_ ?_
                       rotate_left; intro w'; go_simp; with_reducible rfl; rotate_left; simp only [Act.put, zA, zB, zC, i64_w, i32_w]; rfl
                       refine pure_ (i := 33) (N := some 82) (v := ?_) (a' := ?_) #[T,T,T,T,T,T,T,T,T,T,T,T,T,T,T,T,T,T,T,T,T,T,T,T,T,T,T,T,T,T,T,T,T,T,F,F,F,F,F,F,F,F,F,F,F,F,F,F,F,F,F,F,F,F,F,F,F,F,F,F,F,F,F,F,F,F,F,F,F,F,F,F,F,F,F] rfl rfl (any_of HT_.out (by kernel_rfl)) (fun _ _ _ h => h) (Or.inl ⟨by rfl, ?_⟩) ?_ ?_
                       rotate_left; intro w'; go_simp; with_reducible rfl; rotate_left; simp only [Act.put, zA, zB, zC, i64_w, i32_w]; rfl
                       refine pure_ (i := 34) (N := some 83) (v := ?_) (a' := ?_) #[T,T,T,T,T,T,T,T,T,T,T,T,T,T,T,T,T,T,T,T,T,T,T,T,T,T,T,T,T,T,T,T,T,T,T,F,F,F,F,F,F,F,F,F,F,F,F,F,F,F,F,F,F,F,F,F,F,F,F,F,F,F,F,F,F,F,F,F,F,F,F,F,F,F,F] rfl rfl (any_of HT_.out (by kernel_rfl)) (fun _ _ _ h => h) (Or.inl ⟨by rfl, ?_⟩) ?_ ?_
                       rotate_left; intro w'; go_simp; with_reducible rfl; rotate_left; simp only [Act.put, zA, zB, zC, i64_w, i32_w]; rfl
                       refine pure_ (i := 35) (N := some 84) (v := ?_) (a' := ?_) #[T,T,T,T,T,T,T,T,T,T,T,T,T,T,T,T,T,T,T,T,T,T,T,T,T,T,T,T,T,T,T,T,T,T,T,T,F,F,F,F,F,F,F,F,F,F,F,F,F,F,F,F,F,F,F,F,F,F,F,F,F,F,F,F,F,F,F,F,F,F,F,F,F,F,F] rfl rfl (any_of HT_.out (by kernel_rfl)) (fun _ _ _ h => h) (Or.inl ⟨by rfl, ?_⟩) ?_ ?_
                       rotate_left; intro w'; go_simp; with_reducible rfl; rotate_left; simp only [Act.put, zA, zB, zC, i64_w, i32_w]; rfl
                       refine take_ (i := 36) (N := some 85) (v := ?_) (a' := ?_) #[T,T,T,T,T,T,T,T,T,T,T,T,T,T,T,T,T,T,T,T,T,T,T,T,T,T,T,T,T,T,T,T,T,T,T,T,T,F,F,F,F,F,F,F,F,F,F,F,F,F,F,F,F,F,F,F,F,F,F,F,F,F,F,F,F,F,F,F,F,F,F,F,F,F,F] rfl rfl (take_ofW HT_.out HW_.out (by kernel_rfl)) (fun _ _ _ h => h) (Or.inl ⟨by rfl, ?_⟩) hHeld ?_ ?_
                       rotate_left; rintro w' ⟨s0, s1, s2, s3, s4, s5, s6, s7, s8, s9, s10, s11, s12, s13, s14, s15, s16, s17⟩; go_simp; with_reducible rfl; rotate_left; simp only [Act.put, zA, zB, zC, i64_w, i32_w]; rfl
                       refine pure_ (i := 37) (N := some 86) (v := ?_) (a' := ?_) #[T,T,T,T,T,T,T,T,T,T,T,T,T,T,T,T,T,T,T,T,T,T,T,T,T,T,T,T,T,T,T,T,T,T,T,T,T,T,F,F,F,F,F,F,F,F,F,F,F,F,F,F,F,F,F,F,F,F,F,F,F,F,F,F,F,F,F,F,F,F,F,F,F,F,F] rfl rfl (any_of HT_.out (by kernel_rfl)) (fun _ _ _ h => h) (Or.inl ⟨by rfl, ?_⟩) ?_ ?_
                       rotate_left; intro w'; go_simp; with_reducible rfl; rotate_left; simp only [Act.put, zA, zB, zC, i64_w, i32_w]; rfl
                       refine pure_ (i := 38) (N := some 87) (v := ?_) (a' := ?_) #[T,T,T,T,T,T,T,T,T,T,T,T,T,T,T,T,T,T,T,T,T,T,T,T,T,T,T,T,T,T,T,T,T,T,T,T,T,T,T,F,F,F,F,F,F,F,F,F,F,F,F,F,F,F,F,F,F,F,F,F,F,F,F,F,F,F,F,F,F,F,F,F,F,F,F] rfl rfl (any_of HT_.out (by kernel_rfl)) (fun _ _ _ h => h) (Or.inl ⟨by rfl, ?_⟩) ?_ ?_
                       rotate_left; intro w'; go_simp; with_reducible rfl; rotate_left; simp only [Act.put, zA, zB, zC, i64_w, i32_w]; rfl
                       refine pure_ (i := 39) (N := some 88) (v := ?_) (a' := ?_) #[T,T,T,T,T,T,T,T,T,T,T,T,T,T,T,T,T,T,T,T,T,T,T,T,T,T,T,T,T,T,T,T,T,T,T,T,T,T,T,T,F,F,F,F,F,F,F,F,F,F,F,F,F,F,F,F,F,F,F,F,F,F,F,F,F,F,F,F,F,F,F,F,F,F,F] rfl rfl (any_of HT_.out (by kernel_rfl)) (fun _ _ _ h => h) (Or.inl ⟨by rfl, ?_⟩) ?_ ?_
                       rotate_left; intro w'; go_simp; with_reducible rfl; rotate_left; simp only [Act.put, zA, zB, zC, i64_w, i32_w]; rfl
                       refine pure_ (i := 40) (N := some 89) (v := ?_) (a' := ?_) #[T,T,T,T,T,T,T,T,T,T,T,T,T,T,T,T,T,T,T,T,T,T,T,T,T,T,T,T,T,T,T,T,T,T,T,T,T,T,T,T,T,F,F,F,F,F,F,F,F,F,F,F,F,F,F,F,F,F,F,F,F,F,F,F,F,F,F,F,F,F,F,F,F,F,F] rfl rfl (any_of HT_.out (by kernel_rfl)) (fun _ _ _ h => h) (Or.inl ⟨by rfl, ?_⟩) ?_ ?_
                       rotate_left; intro w'; go_simp; with_reducible rfl; rotate_left; simp only [Act.put, zA, zB, zC, i64_w, i32_w]; rfl
                       refine pure_ (i := 41) (N := some 90) (v := ?_) (a' := ?_) #[T,T,T,T,T,T,T,T,T,T,T,T,T,T,T,T,T,T,T,T,T,T,T,T,T,T,T,T,T,T,T,T,T,T,T,T,T,T,T,T,T,T,F,F,F,F,F,F,F,F,F,F,F,F,F,F,F,F,F,F,F,F,F,F,F,F,F,F,F,F,F,F,F,F,F] rfl rfl (any_of HT_.out (by kernel_rfl)) (fun _ _ _ h => h) (Or.inl ⟨by rfl, ?_⟩) ?_ ?_
                       rotate_left; intro w'; go_simp; with_reducible rfl; rotate_left; simp only [Act.put, zA, zB, zC, i64_w, i32_w]; rfl
                       refine pure_ (i := 46) (N := some 95) (v := ?_) (a' := ?_) #[T,T,T,T,T,T,T,T,T,T,T,T,T,T,T,T,T,T,T,T,T,T,T,T,T,T,T,T,T,T,T,T,T,T,T,T,T,T,T,T,T,T,F,F,F,F,T,F,F,F,F,F,F,F,F,F,F,F,F,F,F,F,F,F,F,F,F,F,F,F,F,F,F,F,F] rfl rfl (any_of HT_.out (by kernel_rfl)) (fun _ _ _ h => h) (Or.inl ⟨by rfl, ?_⟩) ?_ ?_
                       rotate_left; intro w'; go_simp; with_reducible rfl; rotate_left; simp only [Act.put, zA, zB, zC, i64_w, i32_w]; rfl
                       refine take_ (i := 42) (N := some 91) (v := ?_) (a' := ?_) #[T,T,T,T,T,T,T,T,T,T,T,T,T,T,T,T,T,T,T,T,T,T,T,T,T,T,T,T,T,T,T,T,T,T,T,T,T,T,T,T,T,T,T,F,F,F,T,F,F,F,F,F,F,F,F,F,F,F,F,F,F,F,F,F,F,F,F,F,F,F,F,F,F,F,F] rfl rfl (take_ofW HT_.out HW_.out (by kernel_rfl)) (fun _ _ _ h => h) (Or.inl ⟨by rfl, ?_⟩) hHeld ?_ ?_
                       rotate_left; rintro w' ⟨s0, s1, s2, s3, s4, s5, s6, s7, s8, s9, s10, s11, s12, s13, s14, s15, s16, s17⟩; go_simp; with_reducible rfl; rotate_left; simp only [Act.put, zA, zB, zC, i64_w, i32_w]; rfl
                       refine pure_ (i := 43) (N := some 92) (v := ?_) (a' := ?_) #[T,T,T,T,T,T,T,T,T,T,T,T,T,T,T,T,T,T,T,T,T,T,T,T,T,T,T,T,T,T,T,T,T,T,T,T,T,T,T,T,T,T,T,T,F,F,T,F,F,F,F,F,F,F,F,F,F,F,F,F,F,F,F,F,F,F,F,F,F,F,F,F,F,F,F] rfl rfl (any_of HT_.out (by kernel_rfl)) (fun _ _ _ h => h) (Or.inl ⟨by rfl, ?_⟩) ?_ ?_
                       rotate_left; intro w'; go_simp; with_reducible rfl; rotate_left; simp only [Act.put, zA, zB, zC, i64_w, i32_w]; rfl
                       refine pure_ (i := 44) (N := some 93) (v := ?_) (a' := ?_) #[T,T,T,T,T,T,T,T,T,T,T,T,T,T,T,T,T,T,T,T,T,T,T,T,T,T,T,T,T,T,T,T,T,T,T,T,T,T,T,T,T,T,T,T,T,F,T,F,F,F,F,F,F,F,F,F,F,F,F,F,F,F,F,F,F,F,F,F,F,F,F,F,F,F,F] rfl rfl (any_of HT_.out (by kernel_rfl)) (fun _ _ _ h => h) (Or.inl ⟨by rfl, ?_⟩) ?_ ?_
                       rotate_left; intro w'; go_simp; with_reducible rfl; rotate_left; simp only [Act.put, zA, zB, zC, i64_w, i32_w]; rfl
                       refine take_ (i := 45) (N := some 94) (v := ?_) (a' := ?_) #[T,T,T,T,T,T,T,T,T,T,T,T,T,T,T,T,T,T,T,T,T,T,T,T,T,T,T,T,T,T,T,T,T,T,T,T,T,T,T,T,T,T,T,T,T,T,T,F,F,F,F,F,F,F,F,F,F,F,F,F,F,F,F,F,F,F,F,F,F,F,F,F,F,F,F] rfl rfl (take_ofW HT_.out HW_.out (by kernel_rfl)) (fun _ _ _ h => h) (Or.inl ⟨by rfl, ?_⟩) hHeld ?_ ?_
                       rotate_left; rintro w' ⟨s0, s1, s2, s3, s4, s5, s6, s7, s8, s9, s10, s11, s12, s13, s14, s15, s16, s17⟩; go_simp; with_reducible rfl; rotate_left; simp only [Act.put, zA, zB, zC, i64_w, i32_w]; rfl
                       refine pure_ (i := 47) (N := some 96) (v := ?_) (a' := ?_) #[T,T,T,T,T,T,T,T,T,T,T,T,T,T,T,T,T,T,T,T,T,T,T,T,T,T,T,T,T,T,T,T,T,T,T,T,T,T,T,T,T,T,T,T,T,T,T,T,F,F,F,F,F,F,F,F,F,F,F,F,F,F,F,F,F,F,F,F,F,F,F,F,F,F,F] rfl rfl (any_of HT_.out (by kernel_rfl)) (fun _ _ _ h => h) (Or.inl ⟨by rfl, ?_⟩) ?_ ?_
                       rotate_left; intro w'; go_simp; with_reducible rfl; rotate_left; simp only [Act.put, zA, zB, zC, i64_w, i32_w]; rfl
                       refine pure_ (i := 48) (N := some 97) (v := ?_) (a' := ?_) #[T,T,T,T,T,T,T,T,T,T,T,T,T,T,T,T,T,T,T,T,T,T,T,T,T,T,T,T,T,T,T,T,T,T,T,T,T,T,T,T,T,T,T,T,T,T,T,T,T,F,F,F,F,F,F,F,F,F,F,F,F,F,F,F,F,F,F,F,F,F,F,F,F,F,F] rfl rfl (any_of HT_.out (by kernel_rfl)) (fun _ _ _ h => h) (Or.inl ⟨by rfl, ?_⟩) ?_ ?_
                       rotate_left; intro w'; go_simp; with_reducible rfl; rotate_left; simp only [Act.put, zA, zB, zC, i64_w, i32_w]; rfl
                       refine pure_ (i := 49) (N := some 98) (v := ?_) (a' := ?_) #[T,T,T,T,T,T,T,T,T,T,T,T,T,T,T,T,T,T,T,T,T,T,T,T,T,T,T,T,T,T,T,T,T,T,T,T,T,T,T,T,T,T,T,T,T,T,T,T,T,T,F,F,F,F,F,F,F,F,F,F,F,F,F,F,F,F,F,F,F,F,F,F,F,F,F] rfl rfl (any_of HT_.out (by kernel_rfl)) (fun _ _ _ h => h) (Or.inl ⟨by rfl, ?_⟩) ?_ ?_
                       rotate_left; intro w'; go_simp; with_reducible rfl; rotate_left; simp only [Act.put, zA, zB, zC, i64_w, i32_w]; rfl
                       refine pure_ (i := 50) (N := some 99) (v := ?_) (a' := ?_) #[T,T,T,T,T,T,T,T,T,T,T,T,T,T,T,T,T,T,T,T,T,T,T,T,T,T,T,T,T,T,T,T,T,T,T,T,T,T,T,T,T,T,T,T,T,T,T,T,T,T,T,F,F,F,F,F,F,F,F,F,F,F,F,F,F,F,F,F,F,F,F,F,F,F,F] rfl rfl (any_of HT_.out (by kernel_rfl)) (fun _ _ _ h => h) (Or.inl ⟨by rfl, ?_⟩) ?_ ?_
                       rotate_left; intro w'; go_simp; with_reducible rfl; rotate_left; simp only [Act.put, zA, zB, zC, i64_w, i32_w]; rfl
                       refine pure_ (i := 52) (N := some 101) (v := ?_) (a' := ?_) #[T,T,T,T,T,T,T,T,T,T,T,T,T,T,T,T,T,T,T,T,T,T,T,T,T,T,T,T,T,T,T,T,T,T,T,T,T,T,T,T,T,T,T,T,T,T,T,T,T,T,T,F,T,F,F,F,F,F,F,F,F,F,F,F,F,F,F,F,F,F,F,F,F,F,F] rfl rfl (any_of HT_.out (by kernel_rfl)) (fun _ _ _ h => h) (Or.inl ⟨by rfl, ?_⟩) ?_ ?_
                       rotate_left; intro w'; go_simp; with_reducible rfl; rotate_left; simp only [Act.put, zA, zB, zC, i64_w, i32_w]; rfl
                       refine pure_ (i := 54) (N := some 103) (v := ?_) (a' := ?_) #[T,T,T,T,T,T,T,T,T,T,T,T,T,T,T,T,T,T,T,T,T,T,T,T,T,T,T,T,T,T,T,T,T,T,T,T,T,T,T,T,T,T,T,T,T,T,T,T,T,T,T,F,T,F,T,F,F,F,F,F,F,F,F,F,F,F,F,F,F,F,F,F,F,F,F] rfl rfl (any_of HT_.out (by kernel_rfl)) (fun _ _ _ h => h) (Or.inl ⟨by rfl, ?_⟩) ?_ ?_
                       rotate_left; intro w'; go_simp; with_reducible rfl; rotate_left; simp only [Act.put, zA, zB, zC, i64_w, i32_w]; rfl
                       refine take_ (i := 51) (N := some 100) (v := ?_) (a' := ?_) #[T,T,T,T,T,T,T,T,T,T,T,T,T,T,T,T,T,T,T,T,T,T,T,T,T,T,T,T,T,T,T,T,T,T,T,T,T,T,T,T,T,T,T,T,T,T,T,T,T,T,T,T,T,F,T,F,F,F,F,F,F,F,F,F,F,F,F,F,F,F,F,F,F,F,F] rfl rfl (take_ofW HT_.out HW_.out (by kernel_rfl)) (fun _ _ _ h => h) (Or.inl ⟨by rfl, ?_⟩) hHeld ?_ ?_
                       rotate_left; rintro w' ⟨s0, s1, s2, s3, s4, s5, s6, s7, s8, s9, s10, s11, s12, s13, s14, s15, s16, s17⟩; go_simp; with_reducible rfl; rotate_left; simp only [Act.put, zA, zB, zC, i64_w, i32_w]; rfl
                       refine take_ (i := 53) (N := some 102) (v := ?_) (a' := ?_) #[T,T,T,T,T,T,T,T,T,T,T,T,T,T,T,T,T,T,T,T,T,T,T,T,T,T,T,T,T,T,T,T,T,T,T,T,T,T,T,T,T,T,T,T,T,T,T,T,T,T,T,T,T,T,T,F,F,F,F,F,F,F,F,F,F,F,F,F,F,F,F,F,F,F,F] rfl rfl (take_ofW HT_.out HW_.out (by kernel_rfl)) (fun _ _ _ h => h) (Or.inl ⟨by rfl, ?_⟩) hHeld ?_ ?_
                       rotate_left; rintro w' ⟨s0, s1, s2, s3, s4, s5, s6, s7, s8, s9, s10, s11, s12, s13, s14, s15, s16, s17⟩; go_simp; with_reducible rfl; rotate_left; simp only [Act.put, zA, zB, zC, i64_w, i32_w]; rfl
                       refine one_ (i := 55) (N := some 104) #[T,T,T,T,T,T,T,T,T,T,T,T,T,T,T,T,T,T,T,T,T,T,T,T,T,T,T,T,T,T,T,T,T,T,T,T,T,T,T,T,T,T,T,T,T,T,T,T,T,T,T,T,T,T,T,T,F,F,F,F,F,F,F,F,F,F,F,F,F,F,F,F,F,F,F] rfl rfl (one_of HT_.out (by kernel_rfl)) (by decide) (fun K hK => ?_)
                       refine goes_ Try.func16 (by kernel_rfl) rfl #[.bool t382] (by rfl) rfl rfl jzA ?_
                       with_reducible refine (laws_btoi.calls t382 t401 _ A61.out).mono ?_
                       rintro e w' ⟨rfl, ⟨nd, rfl⟩⟩
                       refine ⟨_, rfl, ?_⟩
                       refine hK.out _ _ ⟨(b8 BK395.out 0).trans rfl, (b8 BK395.out 1).trans rfl, (b8 BK395.out 2).trans rfl, (b8 BK394.out 0).trans rfl, (b8 BK394.out 1).trans rfl, (b8 BK394.out 2).trans rfl, (b8 BK370.out 0).trans rfl, (b8 BK370.out 1).trans rfl, (b8 BK370.out 2).trans rfl, hHeld.2.2.2.2.2.2.2.2.2.1, hHeld.2.2.2.2.2.2.2.2.2.2.1, hHeld.2.2.2.2.2.2.2.2.2.2.2.1, hHeld.2.2.2.2.2.2.2.2.2.2.2.2.1, hHeld.2.2.2.2.2.2.2.2.2.2.2.2.2.1, hHeld.2.2.2.2.2.2.2.2.2.2.2.2.2.2.1, hHeld.2.2.2.2.2.2.2.2.2.2.2.2.2.2.2.1, hHeld.2.2.2.2.2.2.2.2.2.2.2.2.2.2.2.2.1, hHeld.2.2.2.2.2.2.2.2.2.2.2.2.2.2.2.2.2⟩ (fun hHeld => ?_)
                       clear hK K
                       refine norm_ (a' := ?_) ?_ ?_
                       rotate_left
                       ·show Act.put _ (some 104) _ = _
                        simp only [Act.put, zA, zB, zC, i64_w, i32_w]
                        rfl
                       refine pure_ (i := 56) (N := some 105) (v := ?_) (a' := ?_) #[T,T,T,T,T,T,T,T,T,T,T,T,T,T,T,T,T,T,T,T,T,T,T,T,T,T,T,T,T,T,T,T,T,T,T,T,T,T,T,T,T,T,T,T,T,T,T,T,T,T,T,T,T,T,T,T,T,F,F,F,F,F,F,F,F,F,F,F,F,F,F,F,F,F,F] rfl rfl (any_of HT_.out (by kernel_rfl)) (fun _ _ _ h => h) (Or.inl ⟨by rfl, ?_⟩) ?_ ?_
                       rotate_left; intro w'; go_simp; with_reducible rfl; rotate_left; simp only [Act.put, zA, zB, zC, i64_w, i32_w]; rfl
                       refine pure_ (i := 57) (N := some 106) (v := ?_) (a' := ?_) #[T,T,T,T,T,T,T,T,T,T,T,T,T,T,T,T,T,T,T,T,T,T,T,T,T,T,T,T,T,T,T,T,T,T,T,T,T,T,T,T,T,T,T,T,T,T,T,T,T,T,T,T,T,T,T,T,T,T,F,F,F,F,F,F,F,F,F,F,F,F,F,F,F,F,F] rfl rfl (any_of HT_.out (by kernel_rfl)) (fun _ _ _ h => h) (Or.inl ⟨by rfl, ?_⟩) ?_ ?_
                       rotate_left; intro w'; go_simp; with_reducible rfl; rotate_left; simp only [Act.put, zA, zB, zC, i64_w, i32_w]; rfl
                       refine pure_ (i := 58) (N := some 107) (v := ?_) (a' := ?_) #[T,T,T,T,T,T,T,T,T,T,T,T,T,T,T,T,T,T,T,T,T,T,T,T,T,T,T,T,T,T,T,T,T,T,T,T,T,T,T,T,T,T,T,T,T,T,T,T,T,T,T,T,T,T,T,T,T,T,T,F,F,F,F,F,F,F,F,F,F,F,F,F,F,F,F] rfl rfl (any_of HT_.out (by kernel_rfl)) (fun _ _ _ h => h) (Or.inl ⟨by rfl, ?_⟩) ?_ ?_
                       rotate_left; intro w'; go_simp; with_reducible rfl; rotate_left; simp only [Act.put, zA, zB, zC, i64_w, i32_w]; rfl
                       refine pure_ (i := 59) (N := some 108) (v := ?_) (a' := ?_) #[T,T,T,T,T,T,T,T,T,T,T,T,T,T,T,T,T,T,T,T,T,T,T,T,T,T,T,T,T,T,T,T,T,T,T,T,T,T,T,T,T,T,T,T,T,T,T,T,T,T,T,T,T,T,T,T,T,T,T,T,F,F,F,F,F,F,F,F,F,F,F,F,F,F,F] rfl rfl (any_of HT_.out (by kernel_rfl)) (fun _ _ _ h => h) (Or.inl ⟨by rfl, ?_⟩) ?_ ?_
                       rotate_left; intro w'; go_simp; with_reducible rfl; rotate_left; simp only [Act.put, zA, zB, zC, i64_w, i32_w]; rfl
                       refine pure_ (i := 60) (N := some 109) (v := ?_) (a' := ?_) #[T,T,T,T,T,T,T,T,T,T,T,T,T,T,T,T,T,T,T,T,T,T,T,T,T,T,T,T,T,T,T,T,T,T,T,T,T,T,T,T,T,T,T,T,T,T,T,T,T,T,T,T,T,T,T,T,T,T,T,T,T,F,F,F,F,F,F,F,F,F,F,F,F,F,F] rfl rfl (any_of HT_.out (by kernel_rfl)) (fun _ _ _ h => h) (Or.inl ⟨by rfl, ?_⟩) ?_ ?_
                       rotate_left; intro w'; go_simp; with_reducible rfl; rotate_left; simp only [Act.put, zA, zB, zC, i64_w, i32_w]; rfl
                       refine pure_ (i := 62) (N := some 111) (v := ?_) (a' := ?_) #[T,T,T,T,T,T,T,T,T,T,T,T,T,T,T,T,T,T,T,T,T,T,T,T,T,T,T,T,T,T,T,T,T,T,T,T,T,T,T,T,T,T,T,T,T,T,T,T,T,T,T,T,T,T,T,T,T,T,T,T,T,F,T,F,F,F,F,F,F,F,F,F,F,F,F] rfl rfl (any_of HT_.out (by kernel_rfl)) (fun _ _ _ h => h) (Or.inl ⟨by rfl, ?_⟩) ?_ ?_
                       rotate_left; intro w'; go_simp; with_reducible rfl; rotate_left; simp only [Act.put, zA, zB, zC, i64_w, i32_w]; rfl
                       refine pure_ (i := 64) (N := some 113) (v := ?_) (a' := ?_) #[T,T,T,T,T,T,T,T,T,T,T,T,T,T,T,T,T,T,T,T,T,T,T,T,T,T,T,T,T,T,T,T,T,T,T,T,T,T,T,T,T,T,T,T,T,T,T,T,T,T,T,T,T,T,T,T,T,T,T,T,T,F,T,F,T,F,F,F,F,F,F,F,F,F,F] rfl rfl (any_of HT_.out (by kernel_rfl)) (fun _ _ _ h => h) (Or.inl ⟨by rfl, ?_⟩) ?_ ?_
                       rotate_left; intro w'; go_simp; with_reducible rfl; rotate_left; simp only [Act.put, zA, zB, zC, i64_w, i32_w]; rfl
                       refine pure_ (i := 65) (N := some 114) (v := ?_) (a' := ?_) #[T,T,T,T,T,T,T,T,T,T,T,T,T,T,T,T,T,T,T,T,T,T,T,T,T,T,T,T,T,T,T,T,T,T,T,T,T,T,T,T,T,T,T,T,T,T,T,T,T,T,T,T,T,T,T,T,T,T,T,T,T,F,T,F,T,T,F,F,F,F,F,F,F,F,F] rfl rfl (any_of HT_.out (by kernel_rfl)) (fun _ _ _ h => h) (Or.inl ⟨by rfl, ?_⟩) ?_ ?_
                       rotate_left; intro w'; go_simp; with_reducible rfl; rotate_left; simp only [Act.put, zA, zB, zC, i64_w, i32_w]; rfl
                       refine take_ (i := 61) (N := some 110) (v := ?_) (a' := ?_) #[T,T,T,T,T,T,T,T,T,T,T,T,T,T,T,T,T,T,T,T,T,T,T,T,T,T,T,T,T,T,T,T,T,T,T,T,T,T,T,T,T,T,T,T,T,T,T,T,T,T,T,T,T,T,T,T,T,T,T,T,T,T,T,F,T,T,F,F,F,F,F,F,F,F,F] rfl rfl (take_ofW HT_.out HW_.out (by kernel_rfl)) (fun _ _ _ h => h) (Or.inl ⟨by rfl, ?_⟩) hHeld ?_ ?_
                       rotate_left; rintro w' ⟨s0, s1, s2, s3, s4, s5, s6, s7, s8, s9, s10, s11, s12, s13, s14, s15, s16, s17⟩; go_simp; with_reducible rfl; rotate_left; simp only [Act.put, zA, zB, zC, i64_w, i32_w]; rfl
                       refine take_ (i := 63) (N := some 112) (v := ?_) (a' := ?_) #[T,T,T,T,T,T,T,T,T,T,T,T,T,T,T,T,T,T,T,T,T,T,T,T,T,T,T,T,T,T,T,T,T,T,T,T,T,T,T,T,T,T,T,T,T,T,T,T,T,T,T,T,T,T,T,T,T,T,T,T,T,T,T,T,T,T,F,F,F,F,F,F,F,F,F] rfl rfl (take_ofW HT_.out HW_.out (by kernel_rfl)) (fun _ _ _ h => h) (Or.inl ⟨by rfl, ?_⟩) hHeld ?_ ?_
                       rotate_left; rintro w' ⟨s0, s1, s2, s3, s4, s5, s6, s7, s8, s9, s10, s11, s12, s13, s14, s15, s16, s17⟩; go_simp; with_reducible rfl; rotate_left; simp only [Act.put, zA, zB, zC, i64_w, i32_w]; rfl
                       refine one_ (i := 66) (N := some 115) #[T,T,T,T,T,T,T,T,T,T,T,T,T,T,T,T,T,T,T,T,T,T,T,T,T,T,T,T,T,T,T,T,T,T,T,T,T,T,T,T,T,T,T,T,T,T,T,T,T,T,T,T,T,T,T,T,T,T,T,T,T,T,T,T,T,T,T,F,F,F,F,F,F,F,F] rfl rfl (one_of HT_.out (by kernel_rfl)) (by decide) (fun K hK => ?_)
                       refine goes_ Try.func16 (by kernel_rfl) rfl #[.bool (!t382)] (by rfl) rfl rfl jzA ?_
                       with_reducible refine (laws_btoi.calls (!t382) t402 _ A63.out).mono ?_
                       rintro e w' ⟨rfl, ⟨nd, rfl⟩⟩
                       refine ⟨_, rfl, ?_⟩
                       refine hK.out _ _ ⟨(b8 BK395.out 0).trans rfl, (b8 BK395.out 1).trans rfl, (b8 BK395.out 2).trans rfl, (b8 BK394.out 0).trans rfl, (b8 BK394.out 1).trans rfl, (b8 BK394.out 2).trans rfl, (b8 BK370.out 0).trans rfl, (b8 BK370.out 1).trans rfl, (b8 BK370.out 2).trans rfl, hHeld.2.2.2.2.2.2.2.2.2.1, hHeld.2.2.2.2.2.2.2.2.2.2.1, hHeld.2.2.2.2.2.2.2.2.2.2.2.1, hHeld.2.2.2.2.2.2.2.2.2.2.2.2.1, hHeld.2.2.2.2.2.2.2.2.2.2.2.2.2.1, hHeld.2.2.2.2.2.2.2.2.2.2.2.2.2.2.1, hHeld.2.2.2.2.2.2.2.2.2.2.2.2.2.2.2.1, hHeld.2.2.2.2.2.2.2.2.2.2.2.2.2.2.2.2.1, hHeld.2.2.2.2.2.2.2.2.2.2.2.2.2.2.2.2.2⟩ (fun hHeld => ?_)
                       clear hK K
                       refine norm_ (a' := ?_) ?_ ?_
                       rotate_left
                       ·show Act.put _ (some 115) _ = _
                        simp only [Act.put, zA, zB, zC, i64_w, i32_w]
                        rfl
                       refine pure_ (i := 67) (N := some 116) (v := ?_) (a' := ?_) #[T,T,T,T,T,T,T,T,T,T,T,T,T,T,T,T,T,T,T,T,T,T,T,T,T,T,T,T,T,T,T,T,T,T,T,T,T,T,T,T,T,T,T,T,T,T,T,T,T,T,T,T,T,T,T,T,T,T,T,T,T,T,T,T,T,T,T,T,F,F,F,F,F,F,F] rfl rfl (any_of HT_.out (by kernel_rfl)) (fun _ _ _ h => h) (Or.inl ⟨by rfl, ?_⟩) ?_ ?_
                       rotate_left; intro w'; go_simp; with_reducible rfl; rotate_left; simp only [Act.put, zA, zB, zC, i64_w, i32_w]; rfl
                       refine pure_ (i := 68) (N := some 117) (v := ?_) (a' := ?_) #[T,T,T,T,T,T,T,T,T,T,T,T,T,T,T,T,T,T,T,T,T,T,T,T,T,T,T,T,T,T,T,T,T,T,T,T,T,T,T,T,T,T,T,T,T,T,T,T,T,T,T,T,T,T,T,T,T,T,T,T,T,T,T,T,T,T,T,T,T,F,F,F,F,F,F] rfl rfl (any_of HT_.out (by kernel_rfl)) (fun _ _ _ h => h) (Or.inl ⟨by rfl, ?_⟩) ?_ ?_
                       rotate_left; intro w'; go_simp; with_reducible rfl; rotate_left; simp only [Act.put, zA, zB, zC, i64_w, i32_w]; rfl
                       refine pure_ (i := 69) (N := some 118) (v := ?_) (a' := ?_) #[T,T,T,T,T,T,T,T,T,T,T,T,T,T,T,T,T,T,T,T,T,T,T,T,T,T,T,T,T,T,T,T,T,T,T,T,T,T,T,T,T,T,T,T,T,T,T,T,T,T,T,T,T,T,T,T,T,T,T,T,T,T,T,T,T,T,T,T,T,T,F,F,F,F,F] rfl rfl (any_of HT_.out (by kernel_rfl)) (fun _ _ _ h => h) (Or.inl ⟨by rfl, ?_⟩) ?_ ?_
                       rotate_left; intro w'; go_simp; with_reducible rfl; rotate_left; simp only [Act.put, zA, zB, zC, i64_w, i32_w]; rfl
                       refine pure_ (i := 70) (N := some 119) (v := ?_) (a' := ?_) #[T,T,T,T,T,T,T,T,T,T,T,T,T,T,T,T,T,T,T,T,T,T,T,T,T,T,T,T,T,T,T,T,T,T,T,T,T,T,T,T,T,T,T,T,T,T,T,T,T,T,T,T,T,T,T,T,T,T,T,T,T,T,T,T,T,T,T,T,T,T,T,F,F,F,F] rfl rfl (any_of HT_.out (by kernel_rfl)) (fun _ _ _ h => h) (Or.inl ⟨by rfl, ?_⟩) ?_ ?_
                       rotate_left; intro w'; go_simp; with_reducible rfl; rotate_left; simp only [Act.put, zA, zB, zC, i64_w, i32_w]; rfl
                       refine take_ (i := 71) (N := some 120) (v := ?_) (a' := ?_) #[T,T,T,T,T,T,T,T,T,T,T,T,T,T,T,T,T,T,T,T,T,T,T,T,T,T,T,T,T,T,T,T,T,T,T,T,T,T,T,T,T,T,T,T,T,T,T,T,T,T,T,T,T,T,T,T,T,T,T,T,T,T,T,T,T,T,T,T,T,T,T,T,F,F,F] rfl rfl (take_ofW HT_.out HW_.out (by kernel_rfl)) (fun _ _ _ h => h) (Or.inl ⟨by rfl, ?_⟩) hHeld ?_ ?_
                       rotate_left; rintro w' ⟨s0, s1, s2, s3, s4, s5, s6, s7, s8, s9, s10, s11, s12, s13, s14, s15, s16, s17⟩; go_simp; with_reducible rfl; rotate_left; simp only [Act.put, zA, zB, zC, i64_w, i32_w]; rfl
                       refine one_ (i := 72) (N := some 121) #[T,T,T,T,T,T,T,T,T,T,T,T,T,T,T,T,T,T,T,T,T,T,T,T,T,T,T,T,T,T,T,T,T,T,T,T,T,T,T,T,T,T,T,T,T,T,T,T,T,T,T,T,T,T,T,T,T,T,T,T,T,T,T,T,T,T,T,T,T,T,T,T,T,F,F] rfl rfl (one_of HT_.out (by kernel_rfl)) (by decide) (fun K hK => ?_)
                       refine goes_ Try.func17 (by kernel_rfl) rfl #[.agg #[.slice (some ad400) t383.length co96, .int .i64 t386, .int .i64 t387]] (by rfl) rfl rfl jzA ?_
                       with_reducible refine (impl_CacheSize.calls k2 _ _ t383 t386 t387 t403 _ ?side1 ?side2 A65.out).mono ?_
                       (case side1 => exact jzD ((Kd.N_reads' HO385.out).2.2))
                       (case side2 => exact (Kd.N_reads' HO385.out).2.1)
                       rintro e w106 ⟨rfl, hb⟩
                       have HS9_ := hs_ hb hHeld.2.2.2.2.2.2.2.2.2.1
                       have HS10_ := hs_ hb hHeld.2.2.2.2.2.2.2.2.2.2.1
                       have HS11_ := hs_ hb hHeld.2.2.2.2.2.2.2.2.2.2.2.1
                       have HS12_ := hs_ hb hHeld.2.2.2.2.2.2.2.2.2.2.2.2.1
                       have HS13_ := hs_ hb hHeld.2.2.2.2.2.2.2.2.2.2.2.2.2.1
                       have HS14_ := hs_ hb hHeld.2.2.2.2.2.2.2.2.2.2.2.2.2.2.1
                       have HS15_ := hs_ hb hHeld.2.2.2.2.2.2.2.2.2.2.2.2.2.2.2.1
                       have HS16_ := hs_ hb hHeld.2.2.2.2.2.2.2.2.2.2.2.2.2.2.2.2.1
                       have HS17_ := hs_ hb hHeld.2.2.2.2.2.2.2.2.2.2.2.2.2.2.2.2.2
                       refine ⟨_, rfl, ?_⟩
                       have n0_ := Am (Kd.N_below (jzN HO_3) hb)
                       have n1_ := Am (Kd.R_below (jzR HO_5) hb)
                       have n2_ := Am (Kd.N_below (jzN HO_371000) hb)
                       have n3_ := Am (Kd.N_below (jzN HO385) hb)
                       have n4_ := Am (Kd.R_below (jzR HO392) hb)
                       have n8_ := Am (blk_below (g := gb370) (o := .cells #[.slice Ao89 x371000_2.length co89, .int .i64 x371001_2, .int .i64 x371002_2] 26 (0, 0)) (jzB BK370) hb)
                       have n9_ := Am (blk_below (g := gb394) (o := .cells #[.slice (some ad400) t383.length co96, .int .i64 t386, .int .i64 t387] 26 (0, 0)) (jzB BK394) hb)
                       have n10_ := Am (blk_below (g := gb395) (o := .cells #[.int .i64 t388, .int .i64 t389, .slice Ao102 t390.length co102] 32 (0, 0)) (jzB BK395) hb)
                       have n14_ := Am (below_step (jzG HB) hb)
                       clear HO_3
                       clear HO_5
                       clear HO_371000
                       clear HO385
                       clear HO392
                       clear BK370
                       clear BK394
                       clear BK395
                       clear HB
                       have HO_3 := n0_
                       have HO_5 := n1_
                       have HO_371000 := n2_
                       have HO385 := n3_
                       have HO392 := n4_
                       have BK370 := n8_
                       have BK394 := n9_
                       have BK395 := n10_
                       have HB := n14_
                       clear n0_ n1_ n2_ n3_ n4_ n8_ n9_ n10_ n14_
                       (try clear hb)
                       (try clear hb2)
                       (try clear hk)
                       (try clear hi)
                       refine hK.out _ _ ⟨(b8 BK395.out 0).trans rfl, (b8 BK395.out 1).trans rfl, (b8 BK395.out 2).trans rfl, (b8 BK394.out 0).trans rfl, (b8 BK394.out 1).trans rfl, (b8 BK394.out 2).trans rfl, (b8 BK370.out 0).trans rfl, (b8 BK370.out 1).trans rfl, (b8 BK370.out 2).trans rfl, HS9_, HS10_, HS11_, HS12_, HS13_, HS14_, HS15_, HS16_, HS17_⟩ (fun hHeld => ?_)
                       clear hK K
                       refine norm_ (a' := ?_) ?_ ?_
                       rotate_left
                       ·show Act.put _ (some 121) _ = _
                        simp only [Act.put, zA, zB, zC, i64_w, i32_w]
                        rfl
                       refine pure_ (i := 73) (N := some 122) (v := ?_) (a' := ?_) #[T,T,T,T,T,T,T,T,T,T,T,T,T,T,T,T,T,T,T,T,T,T,T,T,T,T,T,T,T,T,T,T,T,T,T,T,T,T,T,T,T,T,T,T,T,T,T,T,T,T,T,T,T,T,T,T,T,T,T,T,T,T,T,T,T,T,T,T,T,T,T,T,T,T,F] rfl rfl (any_of HT_.out (by kernel_rfl)) (fun _ _ _ h => h) (Or.inl ⟨by rfl, ?_⟩) ?_ ?_
                       rotate_left; intro w'; go_simp; with_reducible rfl; rotate_left; simp only [Act.put, zA, zB, zC, i64_w, i32_w]; rfl
                       refine pure_ (i := 74) (N := some 123) (v := ?_) (a' := ?_) #[T,T,T,T,T,T,T,T,T,T,T,T,T,T,T,T,T,T,T,T,T,T,T,T,T,T,T,T,T,T,T,T,T,T,T,T,T,T,T,T,T,T,T,T,T,T,T,T,T,T,T,T,T,T,T,T,T,T,T,T,T,T,T,T,T,T,T,T,T,T,T,T,T,T,T] rfl rfl (any_of HT_.out (by kernel_rfl)) (fun _ _ _ h => h) (Or.inl ⟨by rfl, ?_⟩) ?_ ?_
                       rotate_left; intro w'; go_simp; with_reducible rfl; rotate_left; simp only [Act.put, zA, zB, zC, i64_w, i32_w]; rfl
                       refine done_ (done_of HT_.out (by kernel_rfl)) ?_
                       have hcz107_0 : w106.cell? ⟨gb394, 0, none⟩ = some (.slice (some ad400) t383.length co96) := (b8 BK394.out 0).trans rfl
                       have hcz107_1 : w106.cell? ⟨gb394, 1, none⟩ = some (.int .i64 t386) := (b8 BK394.out 1).trans rfl
                       have hcz107_2 : w106.cell? ⟨gb394, 2, none⟩ = some (.int .i64 t387) := (b8 BK394.out 2).trans rfl
                       have hfz107_0 := blk_frozen BK394.out 0
                       have hfz107_1 := blk_frozen BK394.out 1
                       have hfz107_2 := blk_frozen BK394.out 2
                       have hcz108_0 : w106.cell? ⟨gb370, 0, none⟩ = some (.slice Ao89 x371000_2.length co89) := (b8 BK370.out 0).trans rfl
                       have hcz108_1 : w106.cell? ⟨gb370, 1, none⟩ = some (.int .i64 x371001_2) := (b8 BK370.out 1).trans rfl
                       have hcz108_2 : w106.cell? ⟨gb370, 2, none⟩ = some (.int .i64 x371002_2) := (b8 BK370.out 2).trans rfl
                       have hfz108_0 := blk_frozen BK370.out 0
                       have hfz108_1 := blk_frozen BK370.out 1
                       have hfz108_2 := blk_frozen BK370.out 2
                       try go_wp2
                       go_roundg k2
                       case measure => have := HJ5.out; have := HK2.out; omega
                       case rel => exact ⟨(wrap64 (x6_2 + 1)), (t383), (t386), (t387), (.slice (some ad400) t383.length co96), (by first | rfl | (simp; done) | (simp [*]; done)), H', ⟨by have := HJ5.out; have := HK2.out; omega⟩, ⟨by (with_reducible repeat (first | apply Kd.N_alloc | apply Kd.N_drewN | apply Kd.N_drew)); exact Kd.N_mono (Kd.N_far (p := ⟨gb370, 2, none⟩) (Kd.N_far (p := ⟨gb370, 1, none⟩) (Kd.N_far (p := ⟨gb370, 0, none⟩) (Kd.N_mono HO_3.out (fun k_ hk => (⟨hk, hk.2.2.2.2.1⟩ : _ ∧ k_ ≠ gb370))) (fun _ hk => hk.2) (.slice (some ad400) t383.length co96)) (fun _ hk => hk.2) (.int .i64 t386)) (fun _ hk => hk.2) (.int .i64 t387)) (fun _ hk => ⟨hk.1.1, ⟨hk.1.2.2.1, hk.1.2.2.2.2.1⟩⟩)⟩, ⟨by (with_reducible repeat (first | apply Kd.R_alloc | apply Kd.R_drewN | apply Kd.R_drew)); exact Kd.R_mono (Kd.R_far (p := ⟨gb370, 2, none⟩) (Kd.R_far (p := ⟨gb370, 1, none⟩) (Kd.R_far (p := ⟨gb370, 0, none⟩) (Kd.R_types HO_5.out BK370.out (by decide)) (fun _ hk => hk.2) (.slice (some ad400) t383.length co96)) (fun _ hk => hk.2) (.int .i64 t386)) (fun _ hk => hk.2) (.int .i64 t387)) (fun _ hk => trivial)⟩, ⟨by (with_reducible repeat (first | apply Kd.N_alloc | apply Kd.N_drewN | apply Kd.N_drew)); exact Kd.N_mono (Kd.N_far (p := ⟨gb370, 2, none⟩) (Kd.N_far (p := ⟨gb370, 1, none⟩) (Kd.N_far (p := ⟨gb370, 0, none⟩) (Kd.N_mono HO385.out (fun k_ hk => (⟨hk, hk.2.2.2.2.1⟩ : _ ∧ k_ ≠ gb370))) (fun _ hk => hk.2) (.slice (some ad400) t383.length co96)) (fun _ hk => hk.2) (.int .i64 t386)) (fun _ hk => hk.2) (.int .i64 t387)) (fun _ hk => ⟨hk.1.1, ⟨hk.1.2.1, hk.1.2.2.2.2.1⟩⟩)⟩, ⟨by (with_reducible repeat (first | refine b1 ?_ _ | refine b2 ?_ | refine b3 ?_ _)); refine blk_put (cs := #[.slice (some ad400) t383.length co96, .int .i64 t386, .int .i64 x371002_2]) ?_ 2 _ rfl; (with_reducible repeat (first | refine b1 ?_ _ | refine b2 ?_ | refine b3 ?_ _)); refine blk_put (cs := #[.slice (some ad400) t383.length co96, .int .i64 x371001_2, .int .i64 x371002_2]) ?_ 1 _ rfl; (with_reducible repeat (first | refine b1 ?_ _ | refine b2 ?_ | refine b3 ?_ _)); refine blk_put (cs := #[.slice Ao89 x371000_2.length co89, .int .i64 x371001_2, .int .i64 x371002_2]) ?_ 0 _ rfl; (with_reducible repeat (first | refine b1 ?_ _ | refine b2 ?_ | refine b3 ?_ _)); exact BK370.out⟩, ⟨jzG HB⟩⟩
                     ·rw [if_neg c64] at H
                      have c64b0 : (t387 == (wrap64 (x371002_2 + t402))) = false := beq_eq_false_iff_ne.mpr c64
                      have c64b1 : (t387 != (wrap64 (x371002_2 + t402))) = true := bne_iff_ne.mpr c64
                      exact absurd H (by simp)
                    ·rw [if_neg c62] at H
                     have c62b0 : (t386 == (wrap64 (x371001_2 + t401))) = false := beq_eq_false_iff_ne.mpr c62
                     have c62b1 : (t386 != (wrap64 (x371001_2 + t401))) = true := bne_iff_ne.mpr c62
                     exact absurd H (by simp)
                   ·rw [if_neg c60] at H
                    have c60b0 : (((rd_T32 t383 0).f0) == (ji31)) = false := beq_eq_false_iff_ne.mpr c60
                    have c60b1 : (((rd_T32 t383 0).f0) != (ji31)) = true := bne_iff_ne.mpr c60
                    exact absurd H (by simp)
                  ·rw [if_neg c59] at H
                   exact absurd H (by simp)
                ·replace c38 := Bool.eq_false_iff.mpr c38
                 subst c38
                 have H1 : (none) = some r := by rw [if_neg (show ¬ (false = true) by decide)] at H; exact H
                 exact absurd H1 (by simp)
               ·rw [if_neg c36] at H
                have c36b0 : (t389 == ((rd_T32 t362 (ji31)).f1)) = false := beq_eq_false_iff_ne.mpr c36
                have c36b1 : (t389 != ((rd_T32 t362 (ji31)).f1)) = true := bne_iff_ne.mpr c36
                exact absurd H (by simp)
              ·replace c35 := Bool.eq_false_iff.mpr c35
               subst c35
               have H1 : (none) = some r := by rw [if_neg (show ¬ (false = true) by decide)] at H; exact H
               exact absurd H1 (by simp)
             ·rw [if_neg c33] at H
              exact absurd H (by simp)
            ·rw [if_neg c32] at H
             exact absurd H (by simp)
           ·rw [if_neg c30] at H
            have c30b0 : (t388 == (Int.tmod (rd t371 x6_2) 8)) = false := beq_eq_false_iff_ne.mpr c30
            have c30b1 : (t388 != (Int.tmod (rd t371 x6_2) 8)) = true := bne_iff_ne.mpr c30
            exact absurd H (by simp)
          ·replace c29 := Bool.eq_false_iff.mpr c29
           subst c29
           have H1 : (none) = some r := by rw [if_neg (show ¬ (false = true) by decide)] at H; exact H
           exact absurd H1 (by simp)
         ·rw [if_neg c26] at H
          exact absurd H (by simp)
        ·rw [if_neg c25] at H
         exact absurd H (by simp)
       ·rw [if_neg c24] at H
        have c24b0 : decide (x6_2 < 10) = false := decide_eq_false c24
        clear c24
        obtain rfl := Option.some.inj H
        go_wp2
        go_ret
        exact ⟨by first | rfl | (simp [errW_none, errW_some] <;> rfl) | (simp [*, errW_none, errW_some] <;> rfl), jzG HB⟩

end Go.Proofs.Ytphjcllhlecpfaa.PFnCaches
