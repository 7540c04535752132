/- Of a drawn account and drawn jobs: what is charged is what the jobs that are not left over need, whatever is drawn: no condition. -/
import Derived.Test.YtifaojbmdahoiaaOpsFnCharges
import Derived.Test.YtifaojbmdahoiaaPlain
namespace Go.Proofs.Ytifaojbmdahoiaa.PureFnCharges
open Go.RowKit Go.Proofs.Ytifaojbmdahoiaa.PFnCharges Go.Proofs.Ytifaojbmdahoiaa.Opened Go.Proofs.Ytifaojbmdahoiaa.Plain Go.Proofs.YtifaojbmdahoiaaW.PrintWords Go.Proofs.YtifaojbmdahoiaaW.PrintLast Go.Proofs.YtifaojbmdahoiaaW.PrintMore
set_option linter.unusedVariables false
set_option linter.unusedSimpArgs false
theorem new_l0 (x : List Int) (hx : x.length ≤ 1048576) (d : Nat) : ∀ (k : Nat) (h : Int) (i : Nat), i + d = x.length → d < k → ∃ h', spec_l01New.l0 k x h i = some (x, 0, h') := by
  induction d with
  | zero =>
    intro k h i hi hk
    obtain ⟨k, rfl⟩ : ∃ m, k = m + 1 := ⟨k - 1, by omega⟩
    rw [spec_l01New.l0, if_neg (by omega)]
    exact ⟨_, rfl⟩
  | succ d ih =>
    intro k h i hi hk
    obtain ⟨k, rfl⟩ : ∃ m, k = m + 1 := ⟨k - 1, by omega⟩
    rw [spec_l01New.l0, if_pos (by omega)]
    by_cases h4 : (i : Int) < 4000
    · rw [if_pos h4, if_pos (by omega), wrap_cast i (by omega)]
      exact ih k _ (i + 1) (by omega) (by omega)
    · rw [if_neg h4]
      exact ⟨_, rfl⟩
theorem new_some (x : List Int) (hx : x.length ≤ 1048576) (k : Nat) (hk : x.length < k) : ∃ h, spec_l01New.f k x = some (x, 0, h) := new_l0 x hx x.length k _ 0 (by omega) hk
theorem byte_some (s : List Int) (hs : s.length ≤ 1048576) (i h : Int) (hi : 0 ≤ i) : ∃ v i' h', spec_l01Byte.f s i h = some (v, i', h') ∧ 0 ≤ v ∧ v ≤ 255 ∧ 0 ≤ i' := by
  unfold spec_l01Byte.f
  simp only [i64_and255]
  by_cases h1 : i < (s.length : Int)
  · rw [if_pos h1, if_pos hi]
    exact ⟨_, _, _, rfl, by omega, by omega, by rw [wrap_id (by omega) (by omega)]; omega⟩
  · rw [if_neg h1]
    exact ⟨_, _, _, rfl, by omega, by omega, hi⟩
theorem below_some (s : List Int) (hs : s.length ≤ 1048576) (i h n : Int) (hi : 0 ≤ i) (hn : 0 < n) : ∃ v i' h', spec_l01Below.f s i h n = some (v, i', h') ∧ 0 ≤ v ∧ v < n ∧ 0 ≤ i' := by
  unfold spec_l01Below.f
  rw [if_neg (by omega)]
  obtain ⟨v1, i1, h1, e1, a1, b1, c1⟩ := byte_some s hs i h hi
  by_cases h2 : n ≤ 256
  · rw [if_pos h2, e1]
    simp only [Option.bind_some]
    rw [if_neg (by omega)]
    have := tmod_range a1 hn
    exact ⟨_, _, _, rfl, this.1, this.2, c1⟩
  · rw [if_neg h2, e1]
    simp only [Option.bind_some]
    obtain ⟨v2, i2, h2, e2, a2, b2, c2⟩ := byte_some s hs i1 h1 c1
    rw [e2]
    simp only [Option.bind_some]
    obtain ⟨v3, i3, h3, e3, a3, b3, c3⟩ := byte_some s hs i2 h2 c2
    rw [e3]
    simp only [Option.bind_some]
    obtain ⟨v4, i4, h4, e4, a4, b4, c4⟩ := byte_some s hs i3 h3 c3
    rw [e4]
    simp only [Option.bind_some]
    rw [if_neg (by omega)]
    have w1 : wrap64 (v1 * 16777216) = v1 * 16777216 := wrap_id (by omega) (by omega)
    have w2 : wrap64 (v2 * 65536) = v2 * 65536 := wrap_id (by omega) (by omega)
    have w3 : wrap64 (v3 * 256) = v3 * 256 := wrap_id (by omega) (by omega)
    rw [w1, w2, w3, wrap_id (x := v1 * 16777216 + v2 * 65536) (by omega) (by omega), wrap_id (x := v1 * 16777216 + v2 * 65536 + v3 * 256) (by omega) (by omega), wrap_id (x := v1 * 16777216 + v2 * 65536 + v3 * 256 + v4) (by omega) (by omega)]
    have := tmod_range (a := v1 * 16777216 + v2 * 65536 + v3 * 256 + v4) (by omega) hn
    exact ⟨_, _, _, rfl, this.1, this.2, c4⟩
theorem pickInt_some (s : List Int) (hs : s.length ≤ 1048576) (i h : Int) (l : List Int) (hi : 0 ≤ i) (hl : 0 < l.length) : ∃ v i' h', spec_l01PickInt.f s i h l = some (v, i', h') ∧ v ∈ l ∧ 0 ≤ i' := by
  obtain ⟨v, i', h', e, a, b, c⟩ := below_some s hs i h (l.length : Int) hi (by omega)
  refine ⟨rd l v, i', h', ?_, ?_, c⟩
  · unfold spec_l01PickInt.f
    rw [e]
    simp only [Option.bind_some]
    rw [if_pos a, if_pos b]
  · have := rd_mem l v.toNat (by omega)
    rwa [show ((v.toNat : Nat) : Int) = v by omega] at this
theorem once_some (s : List Int) (hs : s.length ≤ 1048576) (i h n : Int) (hi : 0 ≤ i) (hn : 0 < n) : ∃ v i' h', spec_l01Once.f s i h n = some (v, i', h') ∧ 0 ≤ i' := by
  obtain ⟨v, i', h', e, a, b, c⟩ := below_some s hs i h n hi hn
  refine ⟨v == 0, i', h', ?_, c⟩
  unfold spec_l01Once.f
  rw [e]; rfl
def inB (a b c : Int) : Bool := if a ≥ b then decide (a ≤ c) else false
theorem in_eq (a b c : Int) : spec_l01In.f a b c = some (inB a b c) := by unfold spec_l01In.f inB; split <;> rfl
theorem within_eq (a b c : Int) : impl_within.f a b c = some (inB a b c) := in_eq a b c
theorem inB_iff (a b c : Int) : inB a b c = true ↔ b ≤ a ∧ a ≤ c := by unfold inB; split <;> simp <;> omega
def okB (a b c e : Int) : Bool := inB a 1 9999 && (inB b 1 64 && (inB c 1 20 && inB e 0 9))
theorem ok_eq (a b c : Int) (d : Bool) (e : Int) (f : Bool) : spec_JobOk.f a b c d e f = some (okB a b c e) := by
  unfold spec_JobOk.f okB
  simp only [in_eq, Option.bind_some]
  cases inB a 1 9999 <;> cases inB b 1 64 <;> cases inB c 1 20 <;> cases inB e 0 9 <;> rfl
theorem iok_eq (a b c : Int) (d : Bool) (e : Int) (f : Bool) : impl_JobOk.f a b c d e f = some (okB a b c e) := ok_eq a b c d e f
theorem okB_iff (a b c e : Int) : okB a b c e = true ↔ (1 ≤ a ∧ a ≤ 9999) ∧ (1 ≤ b ∧ b ≤ 64) ∧ (1 ≤ c ∧ c ≤ 20) ∧ (0 ≤ e ∧ e ≤ 9) := by
  simp [okB, inB_iff]
/-- How many sheets a job of b pages has, a page a side. -/
def sheetsN (b : Int) (d : Bool) : Int := if d = true then (b + 1) / 2 else b
theorem sheetsN_range (b : Int) (d : Bool) (h0 : 1 ≤ b) (h1 : b ≤ 64) : 1 ≤ sheetsN b d ∧ sheetsN b d ≤ 64 := by unfold sheetsN; split <;> omega
theorem small : ∀ i : Fin 64, ∀ d : Bool, impl_SheetsFor.f 70 ((i.val : Int) + 1) 1 d = some (sheetsN ((i.val : Int) + 1) d) := by decide +kernel
theorem small' (b : Int) (d : Bool) (h0 : 1 ≤ b) (h1 : b ≤ 64) : impl_SheetsFor.f 70 b 1 d = some (sheetsN b d) := by
  have := small ⟨(b - 1).toNat, by omega⟩ d
  rw [show (((b - 1).toNat : Nat) : Int) + 1 = b by omega] at this
  exact this
theorem implSheets_eq (b : Int) (d : Bool) (h0 : 1 ≤ b) (h1 : b ≤ 64) : impl_SheetsFor.f 70 b 1 d = some (sheetsN b d) := small' b d h0 h1
theorem implSheets_eq71 (b : Int) (d : Bool) (h0 : 1 ≤ b) (h1 : b ≤ 64) : impl_SheetsFor.f 71 b 1 d = some (sheetsN b d) := impl_SheetsFor.mono b 1 d 70 _ (small' b d h0 h1)
def acB (a b c : Int) : Bool := inB a 0 1000000 && (inB b 0 1000000 && (inB c 0 1000000 && decide (wrap64 (b + c) ≤ a)))
theorem iac_eq (a b c : Int) : impl_AccountOk.f a b c = some (acB a b c) := by
  unfold impl_AccountOk.f acB
  simp only [within_eq, Option.bind_some]
  cases inB a 0 1000000 <;> cases inB b 0 1000000 <;> cases inB c 0 1000000 <;> simp
theorem acB_iff (a b c : Int) : acB a b c = true ↔ (0 ≤ a ∧ a ≤ 1000000) ∧ (0 ≤ b ∧ b ≤ 1000000) ∧ (0 ≤ c ∧ c ≤ 1000000) ∧ b + c ≤ a := by
  simp only [acB, Bool.and_eq_true, inB_iff, decide_eq_true_eq]
  constructor
  · rintro ⟨h1, h2, h3, h4⟩
    rw [wrap_id (by omega) (by omega)] at h4
    exact ⟨h1, h2, h3, h4⟩
  · rintro ⟨h1, h2, h3, h4⟩
    refine ⟨h1, h2, h3, ?_⟩
    rw [wrap_id (by omega) (by omega)]; exact h4
theorem implReserve_eq (a b c d : Int) (h : acB a b c = true) (hd : 0 ≤ d ∧ d ≤ 1000000) (k : Nat) : impl_Reserve.f (k + 1) a b c d = some (if b + c + d > a then (a, b, c, false) else (a, b + d, c, true)) := by
  have h' := (acB_iff a b c).1 h
  have e1 : wrap64 (b + d) = b + d := wrap_id (by omega) (by omega)
  have hi : inB d 0 1000000 = true := (inB_iff _ _ _).2 hd
  unfold impl_Reserve.f
  rw [iac_eq, h]
  simp only [Option.bind_some, if_true, within_eq, hi, e1, impl_Reserve.j0, Bool.not_true, Bool.false_eq_true, if_false, iac_eq]
  by_cases hh : b + c + d > a
  · rw [if_pos hh, show acB a (b + d) c = false by rw [← Bool.not_eq_true, acB_iff]; omega]; rfl
  · rw [if_neg hh, show acB a (b + d) c = true by rw [acB_iff]; omega]; rfl
theorem implReserve_eq' (a b c d : Int) (h : acB a b c = true) (hd : 0 ≤ d ∧ d ≤ 1000000) (k : Nat) (hk : 0 < k) : impl_Reserve.f k a b c d = some (if b + c + d > a then (a, b, c, false) else (a, b + d, c, true)) := by
  cases k with
  | zero => omega
  | succ k => exact implReserve_eq a b c d h hd k
theorem implSettle_eq (a b c d e : Int) (h : acB a b c = true) (hd : 0 ≤ d ∧ d ≤ b) (he : 0 ≤ e ∧ e ≤ d) : impl_Settle.f a b c d e = some (a, b - d, c + e, true) := by
  have h' := (acB_iff a b c).1 h
  have e1 : wrap64 (b - d) = b - d := wrap_id (by omega) (by omega)
  have e2 : wrap64 (c + e) = c + e := wrap_id (by omega) (by omega)
  unfold impl_Settle.f
  rw [iac_eq, h]
  simp only [Option.bind_some, if_true, within_eq, (inB_iff _ _ _).2 hd, (inB_iff _ _ _).2 he, e1, e2]
theorem implSheetsK (b : Int) (d : Bool) (h0 : 1 ≤ b) (h1 : b ≤ 64) (k : Nat) (hk : 70 ≤ k) : impl_SheetsFor.f k b 1 d = some (sheetsN b d) := by
  obtain ⟨q, rfl⟩ : ∃ q, k = 70 + q := ⟨k - 70, by omega⟩
  clear hk
  induction q with
  | zero => exact small' b d h0 h1
  | succ q ih => exact impl_SheetsFor.mono b 1 d (70 + q) _ ih
def tN (b c : Int) (d : Bool) : Int := c * sheetsN b d
theorem tN_range (b c : Int) (d : Bool) (hb : 1 ≤ b ∧ b ≤ 64) (hc : 1 ≤ c ∧ c ≤ 20) : 1 ≤ tN b c d ∧ tN b c d ≤ 1280 := by
  have h := sheetsN_range b d hb.1 hb.2
  unfold tN
  generalize sheetsN b d = s at h
  have h1 : c * 1 ≤ c * s := Int.mul_le_mul_of_nonneg_left h.1 (by omega)
  have h2 : c * s ≤ c * 64 := Int.mul_le_mul_of_nonneg_left h.2 (by omega)
  omega
theorem implJobSheets_eq (a b c : Int) (d : Bool) (e : Int) (f : Bool) (h : okB a b c e = true) (k : Nat) (hk : 70 ≤ k) : impl_JobSheets.f k a b c d e f = some (tN b c d) := by
  have h' := (okB_iff a b c e).1 h
  have ht := tN_range b c d h'.2.1 h'.2.2.1
  unfold impl_JobSheets.f
  rw [iok_eq, h]
  simp only [Option.bind_some, if_true]
  rw [implSheetsK b d h'.2.1.1 h'.2.1.2 k hk]
  simp only [Option.bind_some]
  unfold tN at ht ⊢
  rw [wrap_id (by omega) (by omega)]
def chL : List S89 → List Int → Int → Int → Int → Int × Int × Int × List Int
  | [], q, a, b, c => (a, b, c, q)
  | j :: r, q, a, b, c => if okB j.f0 j.f1 j.f2 j.f4 = true then (if b + c + tN j.f1 j.f2 j.f3 > a then chL r (q ++ [j.f0]) a b c else chL r q a b (c + tN j.f1 j.f2 j.f3)) else chL r q a b c
theorem implCharge_l0 (x : List S89) (hx : x.length ≤ 1048576) (d : Nat) : ∀ (k : Nat) (i : Nat) (q : List Int) (a b c : Int), i + d = x.length → d + 72 < k → q.length ≤ i → acB a b c = true → impl_ChargeJobs.l0 k q x x.length i a b c = some (chL (x.drop i) q a b c) := by
  induction d with
  | zero =>
    intro k i q a b c hi hk hq h
    obtain ⟨k, rfl⟩ : ∃ m, k = m + 1 := ⟨k - 1, by omega⟩
    rw [impl_ChargeJobs.l0, if_neg (by omega), List.drop_of_length_le (by omega), chL]
  | succ d ih =>
    intro k i q a b c hi hk hq h
    obtain ⟨k, rfl⟩ : ∃ m, k = m + 1 := ⟨k - 1, by omega⟩
    have e : rd_T89 x i = x.getD i z89 := by simp [rd_T89]
    rw [impl_ChargeJobs.l0, if_pos (by omega), if_pos (by omega), if_pos (by omega), e, getD_drop x z89 i (by omega), chL]
    generalize x.getD i z89 = j
    simp only [iok_eq, Option.bind_some]
    by_cases ho : okB j.f0 j.f1 j.f2 j.f4 = true
    · have h' := (okB_iff _ _ _ _).1 ho
      have ha := (acB_iff _ _ _).1 h
      have ht := tN_range j.f1 j.f2 j.f3 h'.2.1 h'.2.2.1
      rw [if_pos ho, if_pos ho, implJobSheets_eq _ _ _ _ _ _ ho k (by omega)]
      simp only [Option.bind_some]
      rw [implReserve_eq' _ _ _ _ h (by omega) k (by omega)]
      simp only [Option.bind_some]
      by_cases hc : b + c + tN j.f1 j.f2 j.f3 > a
      · rw [if_pos hc, if_pos hc]
        simp only [Bool.false_eq_true, if_false]
        rw [if_pos (by omega), wrap_cast i (by omega)]
        exact ih k (i + 1) _ a b c (by omega) (by omega) (by simp; omega) h
      · rw [if_neg hc, if_neg hc]
        simp only [if_true]
        rw [implSettle_eq _ _ _ _ _ ((acB_iff _ _ _).2 (by omega)) (by omega) (by omega)]
        simp only [Option.bind_some]
        rw [wrap_cast i (by omega), show b + tN j.f1 j.f2 j.f3 - tN j.f1 j.f2 j.f3 = b by omega]
        exact ih k (i + 1) _ a b _ (by omega) (by omega) (by omega) ((acB_iff _ _ _).2 (by omega))
    · rw [if_neg ho, if_neg ho, wrap_cast i (by omega)]
      exact ih k (i + 1) _ a b c (by omega) (by omega) (by omega) h
def chT (x : List S89) (a b c : Int) : Int × Int × Int × List Int := if acB a b c = true then chL x [] a b c else (a, b, c, [])
theorem implCharge_eq (x : List S89) (hx : x.length ≤ 1048576) (a b c : Int) (k : Nat) (hk : x.length + 72 < k) : impl_ChargeJobs.f k a b c x = some (chT x a b c) := by
  rw [impl_ChargeJobs.f, chT]
  simp only [Option.bind_some, iac_eq]
  by_cases h : acB a b c = true
  · rw [if_pos h, if_pos h, show (0 : Int) = ((0 : Nat) : Int) from rfl, implCharge_l0 x hx x.length k 0 [] a b c (by omega) hk (by simp) h, List.drop_zero]
  · rw [if_neg h, if_neg h]
theorem chL_len (x : List S89) : ∀ (q : List Int) (a b c : Int), (chL x q a b c).2.2.2.length ≤ q.length + x.length := by
  induction x with
  | nil => intro q a b c; simp [chL]
  | cons j r ih =>
    intro q a b c
    rw [chL, List.length_cons]
    split
    · split
      · have := ih (q ++ [j.f0]) a b c
        simp only [List.length_append, List.length_cons, List.length_nil] at this
        omega
      · have := ih q a b (c + tN j.f1 j.f2 j.f3); omega
    · have := ih q a b c; omega
theorem chT_len (x : List S89) (a b c : Int) : (chT x a b c).2.2.2.length ≤ x.length := by
  unfold chT; split
  · simpa using chL_len x [] a b c
  · simp
theorem acct_some (s : List Int) (hs : s.length ≤ 1048576) (i h : Int) (hi : 0 ≤ i) : ∃ a b c i' h', spec_l30Account.f s i h = some (a, b, c, i', h') ∧ acB a b c = true ∧ 0 ≤ i' := by
  obtain ⟨a, i1, h1, e1, m1, c1⟩ := pickInt_some s hs i h [0, 50, 300, 1000000] hi (by simp)
  have ha : 0 ≤ a ∧ a ≤ 1000000 := by
    simp only [List.mem_cons, List.not_mem_nil, or_false] at m1
    omega
  have hm : mn a 100 = min a 100 := by unfold mn; split <;> omega
  obtain ⟨b, i2, h2, e2, a2, b2, c2⟩ := below_some s hs i1 h1 (wrap64 (mn a 100 + 1)) c1 (by rw [hm, wrap_id (by omega) (by omega)]; omega)
  rw [hm, wrap_id (by omega) (by omega)] at b2
  have hm2 : mn (wrap64 (a - b)) 100 = min (a - b) 100 := by rw [wrap_id (by omega) (by omega)]; unfold mn; split <;> omega
  obtain ⟨c, i3, h3, e3, a3, b3, c3⟩ := below_some s hs i2 h2 (wrap64 (mn (wrap64 (a - b)) 100 + 1)) c2 (by rw [hm2, wrap_id (by omega) (by omega)]; omega)
  rw [hm2, wrap_id (by omega) (by omega)] at b3
  refine ⟨a, b, c, i3, h3, ?_, (acB_iff _ _ _).2 (by omega), c3⟩
  unfold spec_l30Account.f
  rw [e1]
  simp only [Option.bind_some]
  rw [e2]
  simp only [Option.bind_some]
  rw [e3]
  rfl
theorem drawAcct_some (x : List Int) (hx : x.length ≤ 1048576) (k : Nat) (hk : x.length < k) : ∃ a b c, spec_DrawAccount.f k x = some (a, b, c) ∧ acB a b c = true := by
  obtain ⟨h, e⟩ := new_some x hx k hk
  obtain ⟨a, b, c, i', h', e2, g, _⟩ := acct_some x hx 0 h (by omega)
  refine ⟨a, b, c, ?_, g⟩
  unfold spec_DrawAccount.f
  rw [e]
  simp only [Option.bind_some]
  rw [e2]
  rfl
def okJ (j : S89) : Prop := okB j.f0 j.f1 j.f2 j.f4 = true
def goodJ (x : List S89) : Prop := (∀ j ∈ x, okJ j) ∧ (x.map S89.f0).Nodup ∧ x.length ≤ 12
theorem jobsOk_l0 (x : List S89) (hx : x.length ≤ 20) (d : Nat) : ∀ (k : Nat) (i : Nat), i + d = x.length → 25 * d + 25 < k → ∃ r, spec_JobsOk.l0 k x i = some r ∧ (r = true → x.length ≤ 12 ∧ ∀ p, i ≤ p → p < x.length → okJ (x.getD p z89) ∧ ∀ q, q < p → (x.getD q z89).f0 ≠ (x.getD p z89).f0) := by
  induction d with
  | zero =>
    intro k i hi hk
    obtain ⟨k, rfl⟩ : ∃ m, k = m + 1 := ⟨k - 1, by omega⟩
    rw [spec_JobsOk.l0, if_neg (by omega)]
    refine ⟨_, rfl, fun h => ⟨?_, fun p h1 h2 => by omega⟩⟩
    have := of_decide_eq_true h
    omega
  | succ d ih =>
    intro k i hi hk
    obtain ⟨k, rfl⟩ : ∃ m, k = m + 1 := ⟨k - 1, by omega⟩
    have e : rd_T89 x i = x.getD i z89 := by simp [rd_T89]
    have inner : ∀ (w k' j : Nat), j + w = i → w + (25 * d + 25) + 1 < k' → ∃ r, spec_JobsOk.l1 k' x i j = some r ∧ (r = true → x.length ≤ 12 ∧ (∀ q, j ≤ q → q < i → (x.getD q z89).f0 ≠ (x.getD i z89).f0) ∧ ∀ p, i + 1 ≤ p → p < x.length → okJ (x.getD p z89) ∧ ∀ q, q < p → (x.getD q z89).f0 ≠ (x.getD p z89).f0) := by
      intro w
      induction w with
      | zero =>
        intro k' j hj hk2
        obtain ⟨k', rfl⟩ : ∃ m, k' = m + 1 := ⟨k' - 1, by omega⟩
        rw [spec_JobsOk.l1, if_neg (by omega), wrap_cast i (by omega)]
        obtain ⟨r, e1, e2⟩ := ih k' (i + 1) (by omega) (by omega)
        exact ⟨r, e1, fun h => ⟨(e2 h).1, fun q h1 h2 => by omega, (e2 h).2⟩⟩
      | succ w ihw =>
        intro k' j hj hk2
        obtain ⟨k', rfl⟩ : ∃ m, k' = m + 1 := ⟨k' - 1, by omega⟩
        have ej : rd_T89 x j = x.getD j z89 := by simp [rd_T89]
        rw [spec_JobsOk.l1, if_pos (by omega), if_pos (by omega), if_pos (by omega), if_pos (by omega), if_pos (by omega), e, ej]
        by_cases h : (x.getD j z89).f0 = (x.getD i z89).f0
        · rw [if_pos h]; exact ⟨false, rfl, fun h => by cases h⟩
        · rw [if_neg h, wrap_cast j (by omega)]
          obtain ⟨r, e1, e2⟩ := ihw k' (j + 1) (by omega) (by omega)
          refine ⟨r, e1, fun hr => ⟨(e2 hr).1, fun q h1 h2 => ?_, (e2 hr).2.2⟩⟩
          by_cases hq : q = j
          · rw [hq]; exact h
          · exact (e2 hr).2.1 q (by omega) h2
    rw [spec_JobsOk.l0, if_pos (by omega), if_pos (by omega), e]
    simp only [ok_eq, Option.bind_some]
    by_cases h : okB (x.getD i z89).f0 (x.getD i z89).f1 (x.getD i z89).f2 (x.getD i z89).f4 = true
    · rw [if_pos h]
      obtain ⟨r, e1, e2⟩ := inner i k 0 (by omega) (by omega)
      refine ⟨r, e1, fun hr => ⟨(e2 hr).1, fun p h1 h2 => ?_⟩⟩
      by_cases hp : p = i
      · rw [hp]; exact ⟨h, fun q hq => (e2 hr).2.1 q (by omega) hq⟩
      · exact (e2 hr).2.2 p (by omega) h2
    · rw [if_neg h]; exact ⟨false, rfl, fun h => by cases h⟩
theorem jobsOk_some (x : List S89) (hx : x.length ≤ 20) (k : Nat) (hk : 600 ≤ k) : ∃ r, spec_JobsOk.f k x = some r ∧ (r = true → goodJ x) := by
  obtain ⟨r, e1, e2⟩ := jobsOk_l0 x hx x.length k 0 (by omega) (by omega)
  refine ⟨r, e1, fun hr => ?_⟩
  obtain ⟨h1, h2⟩ := e2 hr
  have gd : ∀ p (hp : p < x.length), x.getD p z89 = x[p] := fun p hp => by rw [List.getD_eq_getElem?_getD, List.getElem?_eq_getElem hp]; rfl
  refine ⟨fun j hj => ?_, ?_, h1⟩
  · obtain ⟨p, hp, rfl⟩ := List.getElem_of_mem hj
    have := (h2 p (by omega) hp).1
    rwa [gd p hp] at this
  · rw [List.nodup_iff_pairwise_ne, List.pairwise_map, List.pairwise_iff_getElem]
    intro p q hp hq hpq
    have := (h2 q (by omega) hq).2 p hpq
    rwa [gd p hp, gd q hq] at this
theorem addJob_some (x : List S89) (hx : x.length ≤ 12) (hg : goodJ x) (j : S89) (k : Nat) (hk : 600 ≤ k) : ∃ y b, spec_AddJob.f k x j.f0 j.f1 j.f2 j.f3 j.f4 j.f5 = some (y, b) ∧ goodJ y := by
  have ec : spec_l29Copy.f x = some x := by
    unfold spec_l29Copy.f
    simp only [Option.bind_some, List.nil_append, List.length_nil]
    rw [if_pos (by omega)]
  obtain ⟨r, e1, g1⟩ := jobsOk_some x (by omega) k hk
  obtain ⟨r2, e2, g2⟩ := jobsOk_some (x ++ [j]) (by simp; omega) k hk
  unfold spec_AddJob.f
  rw [ec]
  simp only [Option.bind_some]
  rw [if_pos (by simp; omega), e1]
  simp only [Option.bind_some]
  cases r with
  | false => exact ⟨x, false, by simp, hg⟩
  | true =>
    rw [if_pos rfl, e2]
    simp only [Option.bind_some]
    cases r2 with
    | false => exact ⟨x, false, by simp, hg⟩
    | true => exact ⟨x ++ [j], true, by simp, g2 rfl⟩
theorem drawJob_some (s : List Int) (hs : s.length ≤ 1048576) (i h : Int) (hi : 0 ≤ i) : ∃ (j : S89) (i' h' : Int), spec_l28Job.f s i h = some (j.f0, j.f1, j.f2, j.f3, j.f4, j.f5, i', h') ∧ 0 ≤ i' := by
  obtain ⟨v1, i1, h1, e1, _, _, c1⟩ := below_some s hs i h 20 hi (by omega)
  obtain ⟨v2, i2, h2, e2, _, _, c2⟩ := below_some s hs i1 h1 10 c1 (by omega)
  obtain ⟨v3, i3, h3, e3, _, c3⟩ := pickInt_some s hs i2 h2 [1, 2, 3, 64, wrap64 (1 + v2)] c2 (by simp)
  obtain ⟨v4, i4, h4, e4, _, c4⟩ := pickInt_some s hs i3 h3 [1, 1, 2, 20] c3 (by simp)
  obtain ⟨v5, i5, h5, e5, c5⟩ := once_some s hs i4 h4 2 c4 (by omega)
  obtain ⟨v6, i6, h6, e6, _, _, c6⟩ := below_some s hs i5 h5 10 c5 (by omega)
  obtain ⟨v7, i7, h7, e7, c7⟩ := once_some s hs i6 h6 4 c6 (by omega)
  refine ⟨⟨wrap64 (1 + v1), v3, v4, v5, v6, v7⟩, i7, h7, ?_, c7⟩
  unfold spec_l28Job.f
  rw [e1]
  simp only [Option.bind_some]
  rw [e2]
  simp only [Option.bind_some]
  rw [e3]
  simp only [Option.bind_some]
  rw [e4]
  simp only [Option.bind_some]
  rw [e5]
  simp only [Option.bind_some]
  rw [e6]
  simp only [Option.bind_some]
  rw [e7]
  rfl
theorem jobs_l0 (s : List Int) (hs : s.length ≤ 1048576) (n : Nat) (hn : n ≤ 8) (d : Nat) : ∀ (k : Nat) (x : List S89) (i : Nat) (c h : Int), i + d = n → d + 600 < k → 0 ≤ c → goodJ x → ∃ x' c' h', spec_l29Jobs.l0 k x n i s c h = some (x', c', h') ∧ goodJ x' ∧ 0 ≤ c' := by
  induction d with
  | zero =>
    intro k x i c h hi hk hc hg
    obtain ⟨k, rfl⟩ : ∃ m, k = m + 1 := ⟨k - 1, by omega⟩
    rw [spec_l29Jobs.l0, if_neg (by omega)]
    exact ⟨x, c, h, rfl, hg, hc⟩
  | succ d ih =>
    intro k x i c h hi hk hc hg
    obtain ⟨k, rfl⟩ : ∃ m, k = m + 1 := ⟨k - 1, by omega⟩
    obtain ⟨j, c1, h1, e1, hc1⟩ := drawJob_some s hs c h hc
    obtain ⟨y, b, e2, hy⟩ := addJob_some x hg.2.2 hg j k (by omega)
    rw [spec_l29Jobs.l0, if_pos (by omega), e1]
    simp only [Option.bind_some]
    rw [e2]
    simp only [Option.bind_some]
    rw [wrap_cast i (by omega)]
    exact ih k y (i + 1) c1 h1 (by omega) (by omega) hc1 hy
theorem drawJobs_some (x : List Int) (hx : x.length ≤ 1048576) (k : Nat) (hk : x.length + 610 < k) : ∃ y, spec_DrawJobs.f k x = some y ∧ goodJ y := by
  obtain ⟨h, e⟩ := new_some x hx k (by omega)
  obtain ⟨v, c1, h1, e1, a1, b1, hc1⟩ := below_some x hx 0 h 8 (by omega) (by omega)
  have g0 : goodJ ([] : List S89) := ⟨by simp, by simp, by simp⟩
  obtain ⟨y, c2, h2, e2, hy, _⟩ := jobs_l0 x hx v.toNat (by omega) v.toNat k [] 0 c1 h1 (by omega) (by omega) hc1 g0
  refine ⟨y, ?_, hy⟩
  unfold spec_DrawJobs.f spec_l29Jobs.f
  rw [e]
  simp only [Option.bind_some]
  rw [e1]
  simp only [Option.bind_some]
  rw [show ((v.toNat : Nat) : Int) = v by omega] at e2
  have e2' : spec_l29Jobs.l0 k [] v 0 x c1 h1 = some (y, c2, h2) := e2
  rw [e2']
  rfl
theorem has_l0 (q : List Int) (v : Int) (hx : q.length ≤ 1048576) (d : Nat) : ∀ (k : Nat) (i : Nat), i + d = q.length → d < k → laws_has.l0 k q v i = some ((q.drop i).any (fun w => decide (w = v))) := by
  induction d with
  | zero =>
    intro k i hi hk
    obtain ⟨k, rfl⟩ : ∃ m, k = m + 1 := ⟨k - 1, by omega⟩
    rw [laws_has.l0, if_neg (by omega), List.drop_of_length_le (by omega)]; rfl
  | succ d ih =>
    intro k i hi hk
    obtain ⟨k, rfl⟩ : ∃ m, k = m + 1 := ⟨k - 1, by omega⟩
    rw [laws_has.l0, if_pos (by omega), if_pos (by omega), drop_rd q i (by omega), List.any_cons]
    by_cases h : rd q i = v
    · rw [if_pos h, decide_eq_true h, Bool.true_or]
    · rw [if_neg h, wrap_cast i (by omega), ih k (i + 1) (by omega) (by omega), decide_eq_false h, Bool.false_or]
def inL (q : List Int) (v : Int) : Bool := q.any (fun w => decide (w = v))
theorem inL_iff (q : List Int) (v : Int) : inL q v = true ↔ v ∈ q := by
  simp [inL, List.any_eq_true]
theorem has_eq (q : List Int) (v : Int) (hx : q.length ≤ 1048576) (k : Nat) (hk : q.length < k) : laws_has.f k q v = some (inL q v) := has_l0 q v hx q.length k 0 (by omega) hk
/-- What the jobs that are not left over need. -/
def sumU (q : List Int) : List S89 → Int
  | [] => 0
  | j :: r => (if inL q j.f0 = true then 0 else tN j.f1 j.f2 j.f3) + sumU q r
theorem sumU_range (q : List Int) (x : List S89) (h : ∀ j ∈ x, okJ j) : 0 ≤ sumU q x ∧ sumU q x ≤ 1280 * x.length := by
  induction x with
  | nil => simp [sumU]
  | cons j r ih =>
    have := ih (fun j' h' => h j' (List.mem_cons_of_mem _ h'))
    have h' := (okB_iff _ _ _ _).1 (h j (List.mem_cons_self ..))
    have ht := tN_range j.f1 j.f2 j.f3 h'.2.1 h'.2.2.1
    rw [sumU, List.length_cons]
    split <;> omega
theorem chL_law (x : List S89) : ∀ (q : List Int) (a b c : Int), acB a b c = true → (∀ j ∈ x, okJ j) → (x.map S89.f0).Nodup → (∀ v ∈ x.map S89.f0, v ∉ q) →
    ∃ c' s, chL x q a b c = (a, b, c', q ++ s) ∧ acB a b c' = true ∧ (∀ v ∈ s, v ∈ x.map S89.f0) ∧ c' = c + sumU (q ++ s) x := by
  induction x with
  | nil => intro q a b c h _ _ _; exact ⟨c, [], by simp [chL], h, by simp, by simp [sumU]⟩
  | cons j r ih =>
    intro q a b c h ho hd hq
    have hoj : okB j.f0 j.f1 j.f2 j.f4 = true := ho j (List.mem_cons_self ..)
    have h' := (okB_iff _ _ _ _).1 hoj
    have ha := (acB_iff _ _ _).1 h
    have ht := tN_range j.f1 j.f2 j.f3 h'.2.1 h'.2.2.1
    have hor : ∀ j ∈ r, okJ j := fun j' h' => ho j' (List.mem_cons_of_mem _ h')
    rw [List.map_cons, List.nodup_cons] at hd
    have hqj : j.f0 ∉ q := hq j.f0 (by simp)
    have hqr : ∀ v ∈ r.map S89.f0, v ∉ q := fun v hv => hq v (by rw [List.map_cons]; exact List.mem_cons_of_mem _ hv)
    rw [chL, if_pos hoj]
    by_cases hc : b + c + tN j.f1 j.f2 j.f3 > a
    · rw [if_pos hc]
      obtain ⟨c', s, e1, e2, e3, e4⟩ := ih (q ++ [j.f0]) a b c h hor hd.2 (fun v hv => by
        intro hm
        rcases List.mem_append.1 hm with hm | hm
        · exact hqr v hv hm
        · rw [List.mem_singleton] at hm; rw [hm] at hv; exact hd.1 hv)
      refine ⟨c', j.f0 :: s, by rw [e1]; simp, e2, fun v hv => ?_, ?_⟩
      · rw [List.map_cons]
        rcases List.mem_cons.1 hv with hv | hv
        · rw [hv]; exact List.mem_cons_self ..
        · exact List.mem_cons_of_mem _ (e3 v hv)
      · rw [sumU, if_pos ((inL_iff _ _).2 (by simp))]
        rw [List.append_assoc] at e4
        rw [e4]; simp
    · rw [if_neg hc]
      obtain ⟨c', s, e1, e2, e3, e4⟩ := ih q a b (c + tN j.f1 j.f2 j.f3) ((acB_iff _ _ _).2 (by omega)) hor hd.2 hqr
      refine ⟨c', s, e1, e2, fun v hv => by rw [List.map_cons]; exact List.mem_cons_of_mem _ (e3 v hv), ?_⟩
      rw [sumU, if_neg (by
        rw [inL_iff, List.mem_append]
        rintro (hm | hm)
        · exact hqj hm
        · exact hd.1 (e3 _ hm))]
      omega
theorem law_l0 (x : List S89) (q : List Int) (hx : x.length ≤ 12) (hq : q.length ≤ 1048576) (ho : ∀ j ∈ x, okJ j) (a b c a' b' c' : Int) (hc : 0 ≤ c ∧ c ≤ 1000000) (d : Nat) : ∀ (k : Nat) (i : Nat) (t : Int), i + d = x.length → d + q.length + 100 < k → 0 ≤ t → t + 1280 * d ≤ 100000 →
    laws_FnCharges.l0 k x q t i a b c a' b' c' = some (acB a' b' c' && (decide (c' = c + (t + sumU q (x.drop i))) && (decide (b' = b) && decide ((q.length : Int) ≤ x.length)))) := by
  induction d with
  | zero =>
    intro k i t hi hk h0 h1
    obtain ⟨k, rfl⟩ : ∃ m, k = m + 1 := ⟨k - 1, by omega⟩
    rw [laws_FnCharges.l0, if_neg (by omega), List.drop_of_length_le (by omega), sumU]
    simp only [iac_eq, Option.bind_some]
    rw [wrap_id (x := c + t) (by omega) (by omega), Int.add_zero]
    cases acB a' b' c' with
    | false => simp
    | true =>
      rw [if_pos rfl]
      by_cases e1 : c' = c + t
      · rw [if_pos e1, decide_eq_true e1]
        by_cases e2 : b' = b
        · rw [if_pos e2, decide_eq_true e2]; rfl
        · rw [if_neg e2, decide_eq_false e2]; rfl
      · rw [if_neg e1, decide_eq_false e1]; rfl
  | succ d ih =>
    intro k i t hi hk h0 h1
    obtain ⟨k, rfl⟩ : ∃ m, k = m + 1 := ⟨k - 1, by omega⟩
    have e : rd_T89 x i = x.getD i z89 := by simp [rd_T89]
    have hoj : okB (x.getD i z89).f0 (x.getD i z89).f1 (x.getD i z89).f2 (x.getD i z89).f4 = true := ho _ (getD_mem x z89 i (by omega))
    have h' := (okB_iff _ _ _ _).1 hoj
    have ht := tN_range _ _ (x.getD i z89).f3 h'.2.1 h'.2.2.1
    rw [laws_FnCharges.l0, if_pos (by omega), if_pos (by omega), e, has_eq q _ hq k (by omega), getD_drop x z89 i (by omega), sumU]
    simp only [Option.bind_some]
    by_cases hh : inL q (x.getD i z89).f0 = true
    · rw [if_pos hh, if_pos hh, wrap_cast i (by omega), ih k (i + 1) t (by omega) (by omega) h0 (by omega), Int.zero_add]
    · rw [if_neg hh, if_neg hh, implJobSheets_eq _ _ _ _ _ _ hoj k (by omega)]
      simp only [Option.bind_some]
      rw [wrap_id (x := t + tN _ _ _) (by omega) (by omega), wrap_cast i (by omega), ih k (i + 1) _ (by omega) (by omega) (by omega) (by omega), Int.add_assoc]
theorem pure : laws_FnCharges.Stm := by
  intro x _ _
  refine ⟨x.length + 1100, ?_⟩
  generalize hK : x.length + 1100 = K
  unfold laws_FnCharges.f laws_big.f
  simp only [Option.bind_some]
  by_cases h : (x.length : Int) > 1048576
  · simp [h]
  · rw [if_neg (by simpa using h)]
    obtain ⟨a, b, c, ea, ha⟩ := drawAcct_some x (by omega) K (by omega)
    obtain ⟨y, ey, hy⟩ := drawJobs_some x (by omega) K (by omega)
    have hl := hy.2.2
    have hr := (acB_iff _ _ _).1 ha
    obtain ⟨c', s, e1, e2, e3, e4⟩ := chL_law y [] a b c ha hy.1 hy.2.1 (by simp)
    have hlen := chL_len y [] a b c
    rw [e1] at hlen
    simp only [List.nil_append, List.length_nil, Nat.zero_add] at hlen e1 e4
    rw [ea]
    simp only [Option.bind_some]
    rw [ey]
    simp only [Option.bind_some]
    have e5 : impl_ChargeJobs.f K a b c y = some (a, b, c', s) := by
      rw [implCharge_eq y (by omega) a b c K (by omega), chT, if_pos ha, e1]
    have e6 := law_l0 y s hl (by omega) hy.1 a b c a b c' (by omega) y.length K 0 0 (by omega) (by omega) (by omega) (by omega)
    have e7 : ((0 : Nat) : Int) = 0 := rfl
    rw [List.drop_zero, e2, decide_eq_true (show (s.length : Int) ≤ y.length by omega), decide_eq_true (show b = b from rfl), decide_eq_true (show c' = c + (0 + sumU s y) by omega), e7, Bool.and_true, Bool.and_true, Bool.and_true] at e6
    rw [e5, Option.bind_some]
    exact e6
end Go.Proofs.Ytifaojbmdahoiaa.PureFnCharges
