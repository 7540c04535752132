/- The program's ChargeJobs answers as the reference's, holds its own answer apart and leaves the jobs as they were: no condition. -/
import Derived.Test.YtifaojbmdahoiaaOpsFnExactChargeJobs
import Derived.Test.YtifaojbmdahoiaaPlain
namespace Go.Proofs.Ytifaojbmdahoiaa.PureFnExactChargeJobs
open Go.RowKit Go.Proofs.Ytifaojbmdahoiaa.PFnExactChargeJobs Go.Proofs.Ytifaojbmdahoiaa.Opened Go.Proofs.Ytifaojbmdahoiaa.Plain Go.Proofs.YtifaojbmdahoiaaW.PrintWords Go.Proofs.YtifaojbmdahoiaaW.PrintLast Go.Proofs.YtifaojbmdahoiaaW.PrintMore
set_option linter.unusedVariables false
set_option linter.unusedSimpArgs false
theorem eqIntS_l0 (x : List Int) (hx : x.length ≤ 1048576) (d : Nat) : ∀ (k : Nat) (i : Nat), i + d = x.length → d < k → laws_eqIntS.l0 k x x i = some true := by
  induction d with
  | zero =>
    intro k i hi hk
    obtain ⟨k, rfl⟩ : ∃ m, k = m + 1 := ⟨k - 1, by omega⟩
    rw [laws_eqIntS.l0, if_neg (by omega)]
  | succ d ih =>
    intro k i hi hk
    obtain ⟨k, rfl⟩ : ∃ m, k = m + 1 := ⟨k - 1, by omega⟩
    rw [laws_eqIntS.l0, if_pos (by omega), if_pos (by omega), if_pos (by omega), if_pos rfl, wrap_cast i (by omega)]
    exact ih k (i + 1) (by omega) (by omega)
theorem eqIntS_eq (x : List Int) (hx : x.length ≤ 1048576) (k : Nat) (hk : x.length < k) : laws_eqIntS.f k x x = some true := by
  rw [laws_eqIntS.f, if_pos rfl]
  exact eqIntS_l0 x hx x.length k 0 (by omega) hk
def markL : Nat → Int → List Int
  | 0, _ => []
  | n + 1, m => m :: markL n (m + 1)
theorem markL_length (n : Nat) : ∀ m, (markL n m).length = n := by
  induction n with
  | zero => intro m; rfl
  | succ n ih => intro m; simp [markL, ih]
theorem set_at {α : Type} (p r : List α) (a b : α) : (p ++ a :: r).set p.length b = p ++ b :: r := by
  rw [List.set_append_right _ _ (Nat.le_refl _)]; simp
theorem markIntS_l0 (r : List Int) : ∀ (k : Nat) (p : List Int) (m : Int), r.length < k → p.length + r.length ≤ 8388608 → 0 ≤ m → m + r.length ≤ 100000000 → laws_markIntS.l0 k (p ++ r) m p.length = some (m + r.length, p ++ markL r.length m) := by
  induction r with
  | nil =>
    intro k p m hk hp h0 h1
    obtain ⟨k, rfl⟩ : ∃ q, k = q + 1 := ⟨k - 1, by omega⟩
    rw [laws_markIntS.l0, if_neg (by simp)]
    simp [markL]
  | cons a r ih =>
    intro k p m hk hp h0 h1
    simp only [List.length_cons] at hk hp h1
    obtain ⟨k, rfl⟩ : ∃ q, k = q + 1 := ⟨k - 1, by omega⟩
    have := ih k (p ++ [m]) (m + 1) (by omega) (by simp; omega) (by omega) (by omega)
    rw [laws_markIntS.l0, if_pos (by simp; omega), if_pos (by omega), Int.toNat_natCast, set_at, wrap_id (x := m + 1) (by omega) (by omega), wrap_cast p.length (by omega)]
    simp only [List.append_assoc, List.cons_append, List.nil_append, List.length_append, List.length_cons, List.length_nil, Nat.zero_add] at this
    rw [this]
    simp only [List.length_cons, markL]
    congr 2; omega
theorem markIntS_eq (x : List Int) (m : Int) (k : Nat) (hk : x.length < k) (hx : x.length ≤ 8388608) (h0 : 0 ≤ m) (h1 : m + x.length ≤ 100000000) : laws_markIntS.f k x m = some (m + x.length, markL x.length m) := by
  have := markIntS_l0 x k [] m hk (by simpa using hx) h0 h1
  simpa [laws_markIntS.f] using this
theorem heldIntS_l0 (n : Nat) : ∀ (k : Nat) (p : List Int) (m : Int), n < k → p.length + n ≤ 8388608 → 0 ≤ m → m + n ≤ 100000000 → laws_heldIntS.l0 k (p ++ markL n m) m p.length = some (m + n) := by
  induction n with
  | zero =>
    intro k p m hk hp h0 h1
    obtain ⟨k, rfl⟩ : ∃ q, k = q + 1 := ⟨k - 1, by omega⟩
    rw [laws_heldIntS.l0, if_neg (by simp [markL])]
    simp
  | succ n ih =>
    intro k p m hk hp h0 h1
    obtain ⟨k, rfl⟩ : ∃ q, k = q + 1 := ⟨k - 1, by omega⟩
    have := ih k (p ++ [m]) (m + 1) (by omega) (by simp; omega) (by omega) (by omega)
    have e : rd (p ++ markL (n + 1) m) (p.length : Int) = m := by rw [rd_nat]; simp [markL]
    rw [laws_heldIntS.l0, if_pos (by simp [markL_length]; omega), if_pos (by omega), e, if_pos rfl, wrap_id (x := m + 1) (by omega) (by omega), wrap_cast p.length (by omega)]
    simp only [List.append_assoc, List.cons_append, List.nil_append, List.length_append, List.length_cons, List.length_nil, Nat.zero_add] at this
    simp only [markL]
    rw [this]
    congr 1; omega
theorem heldIntS_eq (n : Nat) (m : Int) (k : Nat) (hk : n < k) (hn : n ≤ 8388608) (h0 : 0 ≤ m) (h1 : m + n ≤ 100000000) : laws_heldIntS.f k (markL n m) m = some (m + n) := by
  have := heldIntS_l0 n k [] m hk (by simpa using hn) h0 h1
  simpa [laws_heldIntS.f] using this
def toJob (x : S136) : S89 := ⟨x.f0, x.f1, x.f2, x.f3, x.f4, x.f5⟩
theorem toJobS_l0 (x : List S136) (hx : x.length ≤ 1048576) (d : Nat) : ∀ (k : Nat) (y : List S89) (i : Nat), i + d = x.length → y.length = x.length → d < k → y.take i = (x.take i).map toJob → laws_toJobS.l0 k x y i = some (x.map toJob) := by
  induction d with
  | zero =>
    intro k y i hi hl hk h
    obtain ⟨k, rfl⟩ : ∃ m, k = m + 1 := ⟨k - 1, by omega⟩
    rw [laws_toJobS.l0, if_neg (by omega), take_all_map (by omega) hl h]
  | succ d ih =>
    intro k y i hi hl hk h
    obtain ⟨k, rfl⟩ : ∃ m, k = m + 1 := ⟨k - 1, by omega⟩
    rw [laws_toJobS.l0, if_pos (by omega), if_pos (by omega)]
    simp only [laws_toJob.f, Option.bind_some]
    rw [if_pos (by omega), wrap_cast i (by omega), Int.toNat_natCast]
    refine ih k _ (i + 1) (by omega) (by simpa using hl) (by omega) (take_set_map toJob x y z136 _ i (by omega) hl h ?_)
    simp [toJob, rd_T136]
theorem toJobS_eq (x : List S136) (hx : x.length ≤ 1048576) (k : Nat) (hk : x.length < k) : laws_toJobS.f k x = some (x.map toJob) := by
  rw [laws_toJobS.f, if_pos (by omega), if_pos (by omega)]
  exact toJobS_l0 x hx x.length k _ 0 (by omega) (by simp) hk (by simp)
theorem eqJob_eq (x : S89) : laws_eqJob.f x.f0 x.f1 x.f2 x.f3 x.f4 x.f5 x.f0 x.f1 x.f2 x.f3 x.f4 x.f5 = some true := by simp [laws_eqJob.f]
theorem eqJobS_l0 (x : List S89) (hx : x.length ≤ 1048576) (d : Nat) : ∀ (k : Nat) (i : Nat), i + d = x.length → d < k → laws_eqJobS.l0 k x x i = some true := by
  induction d with
  | zero =>
    intro k i hi hk
    obtain ⟨k, rfl⟩ : ∃ m, k = m + 1 := ⟨k - 1, by omega⟩
    rw [laws_eqJobS.l0, if_neg (by omega)]
  | succ d ih =>
    intro k i hi hk
    obtain ⟨k, rfl⟩ : ∃ m, k = m + 1 := ⟨k - 1, by omega⟩
    rw [laws_eqJobS.l0, if_pos (by omega), if_pos (by omega), if_pos (by omega), eqJob_eq]
    simp only [Option.bind_some, if_true]
    rw [wrap_cast i (by omega)]
    exact ih k (i + 1) (by omega) (by omega)
theorem eqJobS_eq (x : List S89) (hx : x.length ≤ 1048576) (k : Nat) (hk : x.length < k) : laws_eqJobS.f k x x = some true := by
  rw [laws_eqJobS.f, if_pos rfl]
  exact eqJobS_l0 x hx x.length k 0 (by omega) hk
theorem szJobS_eq (x : List S136) (hx : x.length ≤ maxLen) : laws_szJobS.f x 1048576 = some (if x.length ≤ 1048576 then 1048576 - (x.length : Int) else -1) := by
  unfold maxLen at hx
  have e : wrap64 (1048576 - (x.length : Int)) = 1048576 - (x.length : Int) := wrap_id (by omega) (by omega)
  rw [laws_szJobS.f, e]
  by_cases h : x.length ≤ 1048576
  · rw [if_neg (by omega), if_pos h]
  · rw [if_pos (by omega), if_neg h]
def inB (a b c : Int) : Bool := if a ≥ b then decide (a ≤ c) else false
theorem in_eq (a b c : Int) : spec_l01In.f a b c = some (inB a b c) := by unfold spec_l01In.f inB; split <;> rfl
theorem within_eq (a b c : Int) : impl_within.f a b c = some (inB a b c) := in_eq a b c
theorem inB_iff (a b c : Int) : inB a b c = true ↔ b ≤ a ∧ a ≤ c := by unfold inB; split <;> simp <;> omega
def okB (a b c e : Int) : Bool := inB a 1 9999 && (inB b 1 64 && (inB c 1 20 && inB e 0 9))
theorem ok_eq (a b c : Int) (d : Bool) (e : Int) (f : Bool) : spec_JobOk.f a b c d e f = some (okB a b c e) := by
  unfold spec_JobOk.f okB
  simp only [in_eq, Option.bind_some]
  cases inB a 1 9999 <;> cases inB b 1 64 <;> cases inB c 1 20 <;> cases inB e 0 9 <;> rfl
theorem iok_eq (a b c : Int) (d : Bool) (e : Int) (f : Bool) : impl_JobOk.f a b c d e f = some (okB a b c e) := ok_eq a b c d e f
theorem okB_iff (a b c e : Int) : okB a b c e = true ↔ (1 ≤ a ∧ a ≤ 9999) ∧ (1 ≤ b ∧ b ≤ 64) ∧ (1 ≤ c ∧ c ≤ 20) ∧ (0 ≤ e ∧ e ≤ 9) := by
  simp [okB, inB_iff]
/-- How many sheets a job of b pages has, a page a side. -/
def sheetsN (b : Int) (d : Bool) : Int := if d = true then (b + 1) / 2 else b
theorem sheetsN_range (b : Int) (d : Bool) (h0 : 1 ≤ b) (h1 : b ≤ 64) : 1 ≤ sheetsN b d ∧ sheetsN b d ≤ 64 := by unfold sheetsN; split <;> omega
theorem small : ∀ i : Fin 64, ∀ d : Bool, spec_SheetsFor.f 70 ((i.val : Int) + 1) 1 d = some (sheetsN ((i.val : Int) + 1) d) ∧ impl_SheetsFor.f 70 ((i.val : Int) + 1) 1 d = some (sheetsN ((i.val : Int) + 1) d) := by decide +kernel
theorem small' (b : Int) (d : Bool) (h0 : 1 ≤ b) (h1 : b ≤ 64) : spec_SheetsFor.f 70 b 1 d = some (sheetsN b d) ∧ impl_SheetsFor.f 70 b 1 d = some (sheetsN b d) := by
  have := small ⟨(b - 1).toNat, by omega⟩ d
  rw [show (((b - 1).toNat : Nat) : Int) + 1 = b by omega] at this
  exact this
theorem specSheets_eq (b : Int) (d : Bool) (h0 : 1 ≤ b) (h1 : b ≤ 64) : spec_SheetsFor.f 70 b 1 d = some (sheetsN b d) := (small' b d h0 h1).1
theorem implSheets_eq (b : Int) (d : Bool) (h0 : 1 ≤ b) (h1 : b ≤ 64) : impl_SheetsFor.f 70 b 1 d = some (sheetsN b d) := (small' b d h0 h1).2
theorem specSheets_eq71 (b : Int) (d : Bool) (h0 : 1 ≤ b) (h1 : b ≤ 64) : spec_SheetsFor.f 71 b 1 d = some (sheetsN b d) := spec_SheetsFor.mono b 1 d 70 _ (small' b d h0 h1).1
theorem implSheets_eq71 (b : Int) (d : Bool) (h0 : 1 ≤ b) (h1 : b ≤ 64) : impl_SheetsFor.f 71 b 1 d = some (sheetsN b d) := impl_SheetsFor.mono b 1 d 70 _ (small' b d h0 h1).2
def acB (a b c : Int) : Bool := inB a 0 1000000 && (inB b 0 1000000 && (inB c 0 1000000 && decide (wrap64 (b + c) ≤ a)))
theorem ac_eq (a b c : Int) : spec_AccountOk.f a b c = some (acB a b c) := by
  unfold spec_AccountOk.f acB
  simp only [in_eq, Option.bind_some]
  cases inB a 0 1000000 <;> cases inB b 0 1000000 <;> cases inB c 0 1000000 <;> simp
theorem iac_eq (a b c : Int) : impl_AccountOk.f a b c = some (acB a b c) := ac_eq a b c
theorem acB_iff (a b c : Int) : acB a b c = true ↔ (0 ≤ a ∧ a ≤ 1000000) ∧ (0 ≤ b ∧ b ≤ 1000000) ∧ (0 ≤ c ∧ c ≤ 1000000) ∧ b + c ≤ a := by
  simp only [acB, Bool.and_eq_true, inB_iff, decide_eq_true_eq]
  constructor
  · rintro ⟨h1, h2, h3, h4⟩
    rw [wrap_id (by omega) (by omega)] at h4
    exact ⟨h1, h2, h3, h4⟩
  · rintro ⟨h1, h2, h3, h4⟩
    refine ⟨h1, h2, h3, ?_⟩
    rw [wrap_id (by omega) (by omega)]; exact h4
theorem specReserve_eq (a b c d : Int) (h : acB a b c = true) (hd : 0 ≤ d ∧ d ≤ 1000000) : spec_Reserve.f a b c d = some (if b + c + d > a then (a, b, c, false) else (a, b + d, c, true)) := by
  have h' := (acB_iff a b c).1 h
  have e1 : wrap64 (b + d) = b + d := wrap_id (by omega) (by omega)
  have e2 : wrap64 (b + c) = b + c := wrap_id (by omega) (by omega)
  have e3 : wrap64 (b + c + d) = b + c + d := wrap_id (by omega) (by omega)
  have hi : inB d 0 1000000 = true := (inB_iff _ _ _).2 hd
  unfold spec_Reserve.f
  rw [ac_eq, h]
  simp only [Option.bind_some, if_true, in_eq, hi, e1, e2, e3]
  split <;> rfl
theorem implReserve_eq (a b c d : Int) (h : acB a b c = true) (hd : 0 ≤ d ∧ d ≤ 1000000) (k : Nat) : impl_Reserve.f (k + 1) a b c d = some (if b + c + d > a then (a, b, c, false) else (a, b + d, c, true)) := by
  have h' := (acB_iff a b c).1 h
  have e1 : wrap64 (b + d) = b + d := wrap_id (by omega) (by omega)
  have hi : inB d 0 1000000 = true := (inB_iff _ _ _).2 hd
  unfold impl_Reserve.f
  rw [iac_eq, h]
  simp only [Option.bind_some, if_true, within_eq, hi, e1, impl_Reserve.j0, Bool.not_true, Bool.false_eq_true, if_false, iac_eq]
  by_cases hh : b + c + d > a
  · rw [if_pos hh, show acB a (b + d) c = false by rw [← Bool.not_eq_true, acB_iff]; omega]; rfl
  · rw [if_neg hh, show acB a (b + d) c = true by rw [acB_iff]; omega]; rfl
theorem implReserve_eq' (a b c d : Int) (h : acB a b c = true) (hd : 0 ≤ d ∧ d ≤ 1000000) (k : Nat) (hk : 0 < k) : impl_Reserve.f k a b c d = some (if b + c + d > a then (a, b, c, false) else (a, b + d, c, true)) := by
  cases k with
  | zero => omega
  | succ k => exact implReserve_eq a b c d h hd k
theorem specSettle_eq (a b c d e : Int) (h : acB a b c = true) (hd : 0 ≤ d ∧ d ≤ b) (he : 0 ≤ e ∧ e ≤ d) : spec_Settle.f a b c d e = some (a, b - d, c + e, true) := by
  have h' := (acB_iff a b c).1 h
  have e1 : wrap64 (b - d) = b - d := wrap_id (by omega) (by omega)
  have e2 : wrap64 (c + e) = c + e := wrap_id (by omega) (by omega)
  unfold spec_Settle.f
  rw [ac_eq, h]
  simp only [Option.bind_some, if_true, in_eq, (inB_iff _ _ _).2 hd, (inB_iff _ _ _).2 he, e1, e2]
theorem implSettle_eq (a b c d e : Int) (h : acB a b c = true) (hd : 0 ≤ d ∧ d ≤ b) (he : 0 ≤ e ∧ e ≤ d) : impl_Settle.f a b c d e = some (a, b - d, c + e, true) := specSettle_eq a b c d e h hd he
theorem specSheetsK (b : Int) (d : Bool) (h0 : 1 ≤ b) (h1 : b ≤ 64) (k : Nat) (hk : 70 ≤ k) : spec_SheetsFor.f k b 1 d = some (sheetsN b d) := by
  obtain ⟨q, rfl⟩ : ∃ q, k = 70 + q := ⟨k - 70, by omega⟩
  clear hk
  induction q with
  | zero => exact (small' b d h0 h1).1
  | succ q ih => exact spec_SheetsFor.mono b 1 d (70 + q) _ ih
theorem implSheetsK (b : Int) (d : Bool) (h0 : 1 ≤ b) (h1 : b ≤ 64) (k : Nat) (hk : 70 ≤ k) : impl_SheetsFor.f k b 1 d = some (sheetsN b d) := by
  obtain ⟨q, rfl⟩ : ∃ q, k = 70 + q := ⟨k - 70, by omega⟩
  clear hk
  induction q with
  | zero => exact (small' b d h0 h1).2
  | succ q ih => exact impl_SheetsFor.mono b 1 d (70 + q) _ ih
def tN (b c : Int) (d : Bool) : Int := c * sheetsN b d
theorem tN_range (b c : Int) (d : Bool) (hb : 1 ≤ b ∧ b ≤ 64) (hc : 1 ≤ c ∧ c ≤ 20) : 1 ≤ tN b c d ∧ tN b c d ≤ 1280 := by
  have h := sheetsN_range b d hb.1 hb.2
  unfold tN
  generalize sheetsN b d = s at h
  have h1 : c * 1 ≤ c * s := Int.mul_le_mul_of_nonneg_left h.1 (by omega)
  have h2 : c * s ≤ c * 64 := Int.mul_le_mul_of_nonneg_left h.2 (by omega)
  omega
theorem specJobSheets_eq (a b c : Int) (d : Bool) (e : Int) (f : Bool) (h : okB a b c e = true) (k : Nat) (hk : 70 ≤ k) : spec_JobSheets.f k a b c d e f = some (tN b c d) := by
  have h' := (okB_iff a b c e).1 h
  have ht := tN_range b c d h'.2.1 h'.2.2.1
  unfold spec_JobSheets.f
  rw [ok_eq, h]
  simp only [Option.bind_some, if_true]
  rw [specSheetsK b d h'.2.1.1 h'.2.1.2 k hk]
  simp only [Option.bind_some]
  unfold tN at ht ⊢
  rw [wrap_id (by omega) (by omega)]
theorem implJobSheets_eq (a b c : Int) (d : Bool) (e : Int) (f : Bool) (h : okB a b c e = true) (k : Nat) (hk : 70 ≤ k) : impl_JobSheets.f k a b c d e f = some (tN b c d) := by
  have h' := (okB_iff a b c e).1 h
  have ht := tN_range b c d h'.2.1 h'.2.2.1
  unfold impl_JobSheets.f
  rw [iok_eq, h]
  simp only [Option.bind_some, if_true]
  rw [implSheetsK b d h'.2.1.1 h'.2.1.2 k hk]
  simp only [Option.bind_some]
  unfold tN at ht ⊢
  rw [wrap_id (by omega) (by omega)]
def chL : List S89 → List Int → Int → Int → Int → Int × Int × Int × List Int
  | [], q, a, b, c => (a, b, c, q)
  | j :: r, q, a, b, c => if okB j.f0 j.f1 j.f2 j.f4 = true then (if b + c + tN j.f1 j.f2 j.f3 > a then chL r (q ++ [j.f0]) a b c else chL r q a b (c + tN j.f1 j.f2 j.f3)) else chL r q a b c
theorem specCharge_l0 (x : List S89) (hx : x.length ≤ 1048576) (d : Nat) : ∀ (k : Nat) (i : Nat) (q : List Int) (a b c : Int), i + d = x.length → d + 72 < k → q.length ≤ i → acB a b c = true → spec_ChargeJobs.l0 k x q i a b c = some (chL (x.drop i) q a b c) := by
  induction d with
  | zero =>
    intro k i q a b c hi hk hq h
    obtain ⟨k, rfl⟩ : ∃ m, k = m + 1 := ⟨k - 1, by omega⟩
    rw [spec_ChargeJobs.l0, if_neg (by omega), List.drop_of_length_le (by omega), chL]
  | succ d ih =>
    intro k i q a b c hi hk hq h
    obtain ⟨k, rfl⟩ : ∃ m, k = m + 1 := ⟨k - 1, by omega⟩
    have e : rd_T89 x i = x.getD i z89 := by simp [rd_T89]
    rw [spec_ChargeJobs.l0, if_pos (by omega), if_pos (by omega), e, getD_drop x z89 i (by omega), chL]
    generalize x.getD i z89 = j
    simp only [ok_eq, Option.bind_some]
    by_cases ho : okB j.f0 j.f1 j.f2 j.f4 = true
    · have h' := (okB_iff _ _ _ _).1 ho
      have ha := (acB_iff _ _ _).1 h
      have ht := tN_range j.f1 j.f2 j.f3 h'.2.1 h'.2.2.1
      rw [if_pos ho, if_pos ho, specJobSheets_eq _ _ _ _ _ _ ho k (by omega)]
      simp only [Option.bind_some]
      rw [specReserve_eq _ _ _ _ h (by omega)]
      simp only [Option.bind_some]
      by_cases hc : b + c + tN j.f1 j.f2 j.f3 > a
      · rw [if_pos hc, if_pos hc]
        simp only [Bool.false_eq_true, if_false]
        rw [if_pos (by omega), wrap_cast i (by omega)]
        exact ih k (i + 1) _ a b c (by omega) (by omega) (by simp; omega) h
      · rw [if_neg hc, if_neg hc]
        simp only [if_true]
        rw [specSettle_eq _ _ _ _ _ ((acB_iff _ _ _).2 (by omega)) (by omega) (by omega)]
        simp only [Option.bind_some]
        rw [wrap_cast i (by omega), show b + tN j.f1 j.f2 j.f3 - tN j.f1 j.f2 j.f3 = b by omega]
        exact ih k (i + 1) _ a b _ (by omega) (by omega) (by omega) ((acB_iff _ _ _).2 (by omega))
    · rw [if_neg ho, if_neg ho, wrap_cast i (by omega)]
      exact ih k (i + 1) _ a b c (by omega) (by omega) (by omega) h
theorem implCharge_l0 (x : List S89) (hx : x.length ≤ 1048576) (d : Nat) : ∀ (k : Nat) (i : Nat) (q : List Int) (a b c : Int), i + d = x.length → d + 72 < k → q.length ≤ i → acB a b c = true → impl_ChargeJobs.l0 k q x x.length i a b c = some (chL (x.drop i) q a b c) := by
  induction d with
  | zero =>
    intro k i q a b c hi hk hq h
    obtain ⟨k, rfl⟩ : ∃ m, k = m + 1 := ⟨k - 1, by omega⟩
    rw [impl_ChargeJobs.l0, if_neg (by omega), List.drop_of_length_le (by omega), chL]
  | succ d ih =>
    intro k i q a b c hi hk hq h
    obtain ⟨k, rfl⟩ : ∃ m, k = m + 1 := ⟨k - 1, by omega⟩
    have e : rd_T89 x i = x.getD i z89 := by simp [rd_T89]
    rw [impl_ChargeJobs.l0, if_pos (by omega), if_pos (by omega), if_pos (by omega), e, getD_drop x z89 i (by omega), chL]
    generalize x.getD i z89 = j
    simp only [iok_eq, Option.bind_some]
    by_cases ho : okB j.f0 j.f1 j.f2 j.f4 = true
    · have h' := (okB_iff _ _ _ _).1 ho
      have ha := (acB_iff _ _ _).1 h
      have ht := tN_range j.f1 j.f2 j.f3 h'.2.1 h'.2.2.1
      rw [if_pos ho, if_pos ho, implJobSheets_eq _ _ _ _ _ _ ho k (by omega)]
      simp only [Option.bind_some]
      rw [implReserve_eq' _ _ _ _ h (by omega) k (by omega)]
      simp only [Option.bind_some]
      by_cases hc : b + c + tN j.f1 j.f2 j.f3 > a
      · rw [if_pos hc, if_pos hc]
        simp only [Bool.false_eq_true, if_false]
        rw [if_pos (by omega), wrap_cast i (by omega)]
        exact ih k (i + 1) _ a b c (by omega) (by omega) (by simp; omega) h
      · rw [if_neg hc, if_neg hc]
        simp only [if_true]
        rw [implSettle_eq _ _ _ _ _ ((acB_iff _ _ _).2 (by omega)) (by omega) (by omega)]
        simp only [Option.bind_some]
        rw [wrap_cast i (by omega), show b + tN j.f1 j.f2 j.f3 - tN j.f1 j.f2 j.f3 = b by omega]
        exact ih k (i + 1) _ a b _ (by omega) (by omega) (by omega) ((acB_iff _ _ _).2 (by omega))
    · rw [if_neg ho, if_neg ho, wrap_cast i (by omega)]
      exact ih k (i + 1) _ a b c (by omega) (by omega) (by omega) h
def chT (x : List S89) (a b c : Int) : Int × Int × Int × List Int := if acB a b c = true then chL x [] a b c else (a, b, c, [])
theorem specCharge_eq (x : List S89) (hx : x.length ≤ 1048576) (a b c : Int) (k : Nat) (hk : x.length + 72 < k) : spec_ChargeJobs.f k a b c x = some (chT x a b c) := by
  rw [spec_ChargeJobs.f, chT]
  simp only [Option.bind_some, ac_eq]
  by_cases h : acB a b c = true
  · rw [if_pos h, if_pos h, show (0 : Int) = ((0 : Nat) : Int) from rfl, specCharge_l0 x hx x.length k 0 [] a b c (by omega) hk (by simp) h, List.drop_zero]
  · rw [if_neg h, if_neg h]
theorem implCharge_eq (x : List S89) (hx : x.length ≤ 1048576) (a b c : Int) (k : Nat) (hk : x.length + 72 < k) : impl_ChargeJobs.f k a b c x = some (chT x a b c) := by
  rw [impl_ChargeJobs.f, chT]
  simp only [Option.bind_some, iac_eq]
  by_cases h : acB a b c = true
  · rw [if_pos h, if_pos h, show (0 : Int) = ((0 : Nat) : Int) from rfl, implCharge_l0 x hx x.length k 0 [] a b c (by omega) hk (by simp) h, List.drop_zero]
  · rw [if_neg h, if_neg h]
theorem chL_len (x : List S89) : ∀ (q : List Int) (a b c : Int), (chL x q a b c).2.2.2.length ≤ q.length + x.length := by
  induction x with
  | nil => intro q a b c; simp [chL]
  | cons j r ih =>
    intro q a b c
    rw [chL, List.length_cons]
    split
    · split
      · have := ih (q ++ [j.f0]) a b c
        simp only [List.length_append, List.length_cons, List.length_nil] at this
        omega
      · have := ih q a b (c + tN j.f1 j.f2 j.f3); omega
    · have := ih q a b c; omega
theorem chT_len (x : List S89) (a b c : Int) : (chT x a b c).2.2.2.length ≤ x.length := by
  unfold chT; split
  · simpa using chL_len x [] a b c
  · simp
theorem markJobS_l0 (n : Nat) (hn : n ≤ 1048576) (d : Nat) : ∀ (k : Nat) (y : List S89) (m : Int) (i : Nat), i + d = n → y.length = n → d < k → 0 ≤ m → m + 6 * d ≤ 100000000 → ∃ y', laws_markJobS.l0 k y m i = some (m + 6 * d, y') := by
  induction d with
  | zero =>
    intro k y m i hi hl hk h0 h1
    obtain ⟨k, rfl⟩ : ∃ q, k = q + 1 := ⟨k - 1, by omega⟩
    rw [laws_markJobS.l0, if_neg (by omega)]
    exact ⟨y, by simp⟩
  | succ d ih =>
    intro k y m i hi hl hk h0 h1
    obtain ⟨k, rfl⟩ : ∃ q, k = q + 1 := ⟨k - 1, by omega⟩
    have e1 : wrap64 (m + 1) = m + 1 := wrap_id (by omega) (by omega)
    have e2 : wrap64 (m + 1 + 1) = m + 1 + 1 := wrap_id (by omega) (by omega)
    have e3 : wrap64 (m + 1 + 1 + 1) = m + 1 + 1 + 1 := wrap_id (by omega) (by omega)
    have e4 : wrap64 (m + 1 + 1 + 1 + 1) = m + 1 + 1 + 1 + 1 := wrap_id (by omega) (by omega)
    have e5 : wrap64 (m + 1 + 1 + 1 + 1 + 1) = m + 1 + 1 + 1 + 1 + 1 := wrap_id (by omega) (by omega)
    have e6 : wrap64 (m + 1 + 1 + 1 + 1 + 1 + 1) = m + 1 + 1 + 1 + 1 + 1 + 1 := wrap_id (by omega) (by omega)
    rw [laws_markJobS.l0, if_pos (by omega), if_pos (by omega)]
    simp only [Option.bind_some, e1, e2, e3, e4, e5, e6]
    rw [wrap_cast i (by omega)]
    generalize hY : List.set _ _ _ = Y
    have hYl : Y.length = n := by rw [← hY]; simp [hl]
    obtain ⟨y', e⟩ := ih k Y (m + 1 + 1 + 1 + 1 + 1 + 1) (i + 1) (by omega) hYl (by omega) (by omega) (by omega)
    refine ⟨y', ?_⟩
    rw [e]; congr 2; omega
theorem pure : laws_FnExactChargeJobs.Stm := by
  intro a b c l _ _ _ hl _
  refine ⟨2 * l.length + 100, ?_⟩
  rw [laws_FnExactChargeJobs.f, szJobS_eq l hl]
  simp only [Option.bind_some]
  by_cases h : l.length ≤ 1048576
  · rw [if_pos h, if_neg (by omega)]
    have h' : (l.map toJob).length ≤ 1048576 := by simpa using h
    have hm : (l.map toJob).length = l.length := by simp
    obtain ⟨y', em'⟩ : ∃ y', laws_markJobS.f (2 * l.length + 99) (l.map toJob) 1 = some (1 + 6 * ((l.map toJob).length : Int), y') :=
      markJobS_l0 (l.map toJob).length h' (l.map toJob).length (2 * l.length + 99) (l.map toJob) 1 0 (by omega) rfl (by omega) (by omega) (by omega)
    have hlen := chT_len (l.map toJob) a b c
    simp only [laws_toAccount.f, Option.bind_some, toJobS_eq l h _ (by omega : l.length < 2 * l.length + 100), specCharge_eq (l.map toJob) h' a b c _ (by omega : (l.map toJob).length + 72 < 2 * l.length + 100), implCharge_eq (l.map toJob) h' a b c _ (by omega : (l.map toJob).length + 72 < 2 * l.length + 100)]
    generalize hT : chT (l.map toJob) a b c = T at hlen
    obtain ⟨t1, t2, t3, q⟩ := T
    simp only at hlen
    simp only [laws_eqAccount.f, if_true, Option.bind_some, eqIntS_eq q (by omega) _ (by omega : q.length < 2 * l.length + 100), Bool.not_true]
    rw [show 2 * l.length + 100 = (2 * l.length + 99) + 1 by omega, laws_FnExactChargeJobs.j0]
    simp only [Bool.false_eq_true, if_false, toJobS_eq l h _ (by omega : l.length < 2 * l.length + 99), Option.bind_some, eqJobS_eq _ h' _ (by omega : (l.map toJob).length < 2 * l.length + 99), if_true, em', laws_eqAccount.f, eqIntS_eq q (by omega) _ (by omega : q.length < 2 * l.length + 99), Bool.not_true]
    rw [if_neg (by omega), show 2 * l.length + 99 = (2 * l.length + 98) + 1 by omega, laws_FnExactChargeJobs.j1]
    simp only [Bool.false_eq_true, if_false, markIntS_eq q 1 (2 * l.length + 98) (by omega) (by omega) (by omega) (by omega), Option.bind_some, heldIntS_eq q.length 1 (2 * l.length + 98) (by omega) (by omega) (by omega) (by omega)]
    rw [if_neg (by omega)]
    simp only [if_true, laws_toAccount.f, Option.bind_some, toJobS_eq l h _ (by omega : l.length < 2 * l.length + 98), implCharge_eq (l.map toJob) h' a b c _ (by omega : (l.map toJob).length + 72 < 2 * l.length + 98), hT, laws_eqAccount.f, eqIntS_eq q (by omega) _ (by omega : q.length < 2 * l.length + 98), Bool.not_true]
    rw [show 2 * l.length + 98 = (2 * l.length + 97) + 1 by omega, laws_FnExactChargeJobs.j2]
    simp only [Bool.false_eq_true, if_false, heldIntS_eq q.length 1 (2 * l.length + 97) (by omega) (by omega) (by omega) (by omega), Option.bind_some]
    rw [if_neg (by omega)]
    simp
  · rw [if_neg h, if_pos (by omega)]
end Go.Proofs.Ytifaojbmdahoiaa.PureFnExactChargeJobs
