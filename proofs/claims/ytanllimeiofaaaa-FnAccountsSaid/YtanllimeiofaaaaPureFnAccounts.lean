/- Of a drawn account: sheets are reserved where they are free, and settled, whatever is drawn: no condition. -/
import Derived.Test.YtanllimeiofaaaaOpsFnAccounts
import Derived.Test.YtanllimeiofaaaaPlain
namespace Go.Proofs.Ytanllimeiofaaaa.PureFnAccounts
open Go.RowKit Go.Proofs.Ytanllimeiofaaaa.PFnAccounts Go.Proofs.Ytanllimeiofaaaa.Opened Go.Proofs.Ytanllimeiofaaaa.Plain Go.Proofs.YtanllimeiofaaaaW.PrintWords Go.Proofs.YtanllimeiofaaaaW.PrintLast Go.Proofs.YtanllimeiofaaaaW.PrintMore
set_option linter.unusedVariables false
set_option linter.unusedSimpArgs false
theorem new_l0 (x : List Int) (hx : x.length ≤ 1048576) (d : Nat) : ∀ (k : Nat) (h : Int) (i : Nat), i + d = x.length → d < k → ∃ h', spec_l01New.l0 k x h i = some (x, 0, h') := by
  induction d with
  | zero =>
    intro k h i hi hk
    obtain ⟨k, rfl⟩ : ∃ m, k = m + 1 := ⟨k - 1, by omega⟩
    rw [spec_l01New.l0, if_neg (by omega)]
    exact ⟨_, rfl⟩
  | succ d ih =>
    intro k h i hi hk
    obtain ⟨k, rfl⟩ : ∃ m, k = m + 1 := ⟨k - 1, by omega⟩
    rw [spec_l01New.l0, if_pos (by omega)]
    by_cases h4 : (i : Int) < 4000
    · rw [if_pos h4, if_pos (by omega), wrap_cast i (by omega)]
      exact ih k _ (i + 1) (by omega) (by omega)
    · rw [if_neg h4]
      exact ⟨_, rfl⟩
theorem new_some (x : List Int) (hx : x.length ≤ 1048576) (k : Nat) (hk : x.length < k) : ∃ h, spec_l01New.f k x = some (x, 0, h) := new_l0 x hx x.length k _ 0 (by omega) hk
theorem byte_some (s : List Int) (hs : s.length ≤ 1048576) (i h : Int) (hi : 0 ≤ i) : ∃ v i' h', spec_l01Byte.f s i h = some (v, i', h') ∧ 0 ≤ v ∧ v ≤ 255 ∧ 0 ≤ i' := by
  unfold spec_l01Byte.f
  simp only [i64_and255]
  by_cases h1 : i < (s.length : Int)
  · rw [if_pos h1, if_pos hi]
    exact ⟨_, _, _, rfl, by omega, by omega, by rw [wrap_id (by omega) (by omega)]; omega⟩
  · rw [if_neg h1]
    exact ⟨_, _, _, rfl, by omega, by omega, hi⟩
theorem below_some (s : List Int) (hs : s.length ≤ 1048576) (i h n : Int) (hi : 0 ≤ i) (hn : 0 < n) : ∃ v i' h', spec_l01Below.f s i h n = some (v, i', h') ∧ 0 ≤ v ∧ v < n ∧ 0 ≤ i' := by
  unfold spec_l01Below.f
  rw [if_neg (by omega)]
  obtain ⟨v1, i1, h1, e1, a1, b1, c1⟩ := byte_some s hs i h hi
  by_cases h2 : n ≤ 256
  · rw [if_pos h2, e1]
    simp only [Option.bind_some]
    rw [if_neg (by omega)]
    have := tmod_range a1 hn
    exact ⟨_, _, _, rfl, this.1, this.2, c1⟩
  · rw [if_neg h2, e1]
    simp only [Option.bind_some]
    obtain ⟨v2, i2, h2, e2, a2, b2, c2⟩ := byte_some s hs i1 h1 c1
    rw [e2]
    simp only [Option.bind_some]
    obtain ⟨v3, i3, h3, e3, a3, b3, c3⟩ := byte_some s hs i2 h2 c2
    rw [e3]
    simp only [Option.bind_some]
    obtain ⟨v4, i4, h4, e4, a4, b4, c4⟩ := byte_some s hs i3 h3 c3
    rw [e4]
    simp only [Option.bind_some]
    rw [if_neg (by omega)]
    have w1 : wrap64 (v1 * 16777216) = v1 * 16777216 := wrap_id (by omega) (by omega)
    have w2 : wrap64 (v2 * 65536) = v2 * 65536 := wrap_id (by omega) (by omega)
    have w3 : wrap64 (v3 * 256) = v3 * 256 := wrap_id (by omega) (by omega)
    rw [w1, w2, w3, wrap_id (x := v1 * 16777216 + v2 * 65536) (by omega) (by omega), wrap_id (x := v1 * 16777216 + v2 * 65536 + v3 * 256) (by omega) (by omega), wrap_id (x := v1 * 16777216 + v2 * 65536 + v3 * 256 + v4) (by omega) (by omega)]
    have := tmod_range (a := v1 * 16777216 + v2 * 65536 + v3 * 256 + v4) (by omega) hn
    exact ⟨_, _, _, rfl, this.1, this.2, c4⟩
theorem pickInt_some (s : List Int) (hs : s.length ≤ 1048576) (i h : Int) (l : List Int) (hi : 0 ≤ i) (hl : 0 < l.length) : ∃ v i' h', spec_l01PickInt.f s i h l = some (v, i', h') ∧ v ∈ l ∧ 0 ≤ i' := by
  obtain ⟨v, i', h', e, a, b, c⟩ := below_some s hs i h (l.length : Int) hi (by omega)
  refine ⟨rd l v, i', h', ?_, ?_, c⟩
  · unfold spec_l01PickInt.f
    rw [e]
    simp only [Option.bind_some]
    rw [if_pos a, if_pos b]
  · have := rd_mem l v.toNat (by omega)
    rwa [show ((v.toNat : Nat) : Int) = v by omega] at this
theorem places_l0 (s : List Int) (hs : s.length ≤ 1048576) (d : Nat) : ∀ (k : Nat) (r : List Int) (i : Nat) (c h : Int), i + d = 12 → d < k → 0 ≤ c → r.length = i → (∀ x ∈ r, 0 ≤ x ∧ x < 10000) →
    ∃ q, spec_DrawPlaces.l0 k r i s c h = some q ∧ q.length = 12 ∧ ∀ x ∈ q, 0 ≤ x ∧ x < 10000 := by
  induction d with
  | zero =>
    intro k r i c h hi hk hc hl hr
    obtain ⟨k, rfl⟩ : ∃ m, k = m + 1 := ⟨k - 1, by omega⟩
    rw [spec_DrawPlaces.l0, if_neg (by omega)]
    exact ⟨r, rfl, by omega, hr⟩
  | succ d ih =>
    intro k r i c h hi hk hc hl hr
    obtain ⟨k, rfl⟩ : ∃ m, k = m + 1 := ⟨k - 1, by omega⟩
    obtain ⟨v, c', h', e, a, b, hc'⟩ := below_some s hs c h 10000 hc (by omega)
    rw [spec_DrawPlaces.l0, if_pos (by omega), e]
    simp only [Option.bind_some]
    rw [if_pos (by omega), wrap_cast i (by omega)]
    refine ih k _ (i + 1) c' h' (by omega) (by omega) hc' (by simp; omega) ?_
    intro x hx
    rcases List.mem_append.1 hx with hx | hx
    · exact hr x hx
    · rw [List.mem_singleton.1 hx]; exact ⟨a, b⟩
theorem places_some (x : List Int) (hx : x.length ≤ 1048576) (k : Nat) (hk : x.length < k) (h12 : 12 < k) : ∃ q, spec_DrawPlaces.f k x = some q ∧ q.length = 12 ∧ ∀ y ∈ q, 0 ≤ y ∧ y < 10000 := by
  obtain ⟨h, e⟩ := new_some x hx k hk
  unfold spec_DrawPlaces.f
  rw [e]
  simp only [Option.bind_some]
  exact places_l0 x hx 12 k [] 0 0 h (by omega) h12 (by omega) rfl (by simp)
theorem rd_range {q : List Int} (hl : q.length = 12) (hq : ∀ y ∈ q, 0 ≤ y ∧ y < 10000) (i : Nat) (hi : i < 12) : 0 ≤ rd q (i : Int) ∧ rd q (i : Int) < 10000 := hq _ (rd_mem q i (by omega))
def inB (a b c : Int) : Bool := if a ≥ b then decide (a ≤ c) else false
theorem within_eq (a b c : Int) : impl_within.f a b c = some (inB a b c) := by unfold impl_within.f inB; split <;> rfl
theorem inB_iff (a b c : Int) : inB a b c = true ↔ b ≤ a ∧ a ≤ c := by unfold inB; split <;> simp <;> omega
def acB (a b c : Int) : Bool := inB a 0 1000000 && (inB b 0 1000000 && (inB c 0 1000000 && decide (wrap64 (b + c) ≤ a)))
theorem iac_eq (a b c : Int) : impl_AccountOk.f a b c = some (acB a b c) := by
  unfold impl_AccountOk.f acB
  simp only [within_eq, Option.bind_some]
  cases inB a 0 1000000 <;> cases inB b 0 1000000 <;> cases inB c 0 1000000 <;> simp
theorem acB_iff (a b c : Int) : acB a b c = true ↔ (0 ≤ a ∧ a ≤ 1000000) ∧ (0 ≤ b ∧ b ≤ 1000000) ∧ (0 ≤ c ∧ c ≤ 1000000) ∧ b + c ≤ a := by
  simp only [acB, Bool.and_eq_true, inB_iff, decide_eq_true_eq]
  constructor
  · rintro ⟨h1, h2, h3, h4⟩
    rw [wrap_id (by omega) (by omega)] at h4
    exact ⟨h1, h2, h3, h4⟩
  · rintro ⟨h1, h2, h3, h4⟩
    refine ⟨h1, h2, h3, ?_⟩
    rw [wrap_id (by omega) (by omega)]; exact h4
theorem implReserve_eq (a b c d : Int) (h : acB a b c = true) (hd : 0 ≤ d ∧ d ≤ 1000000) (k : Nat) : impl_Reserve.f (k + 1) a b c d = some (if b + c + d > a then (a, b, c, false) else (a, b + d, c, true)) := by
  have h' := (acB_iff a b c).1 h
  have e1 : wrap64 (b + d) = b + d := wrap_id (by omega) (by omega)
  have hi : inB d 0 1000000 = true := (inB_iff _ _ _).2 hd
  unfold impl_Reserve.f
  rw [iac_eq, h]
  simp only [Option.bind_some, if_true, within_eq, hi, e1, impl_Reserve.j0, Bool.not_true, Bool.false_eq_true, if_false, iac_eq]
  by_cases hh : b + c + d > a
  · rw [if_pos hh, show acB a (b + d) c = false by rw [← Bool.not_eq_true, acB_iff]; omega]; rfl
  · rw [if_neg hh, show acB a (b + d) c = true by rw [acB_iff]; omega]; rfl
theorem implReserve_eq' (a b c d : Int) (h : acB a b c = true) (hd : 0 ≤ d ∧ d ≤ 1000000) (k : Nat) (hk : 0 < k) : impl_Reserve.f k a b c d = some (if b + c + d > a then (a, b, c, false) else (a, b + d, c, true)) := by
  cases k with
  | zero => omega
  | succ k => exact implReserve_eq a b c d h hd k
theorem implSettle_eq (a b c d e : Int) (h : acB a b c = true) (hd : 0 ≤ d ∧ d ≤ b) (he : 0 ≤ e ∧ e ≤ d) : impl_Settle.f a b c d e = some (a, b - d, c + e, true) := by
  have h' := (acB_iff a b c).1 h
  have e1 : wrap64 (b - d) = b - d := wrap_id (by omega) (by omega)
  have e2 : wrap64 (c + e) = c + e := wrap_id (by omega) (by omega)
  unfold impl_Settle.f
  rw [iac_eq, h]
  simp only [Option.bind_some, if_true, within_eq, (inB_iff _ _ _).2 hd, (inB_iff _ _ _).2 he, e1, e2]
theorem acct_some (s : List Int) (hs : s.length ≤ 1048576) (i h : Int) (hi : 0 ≤ i) : ∃ a b c i' h', spec_l30Account.f s i h = some (a, b, c, i', h') ∧ acB a b c = true ∧ 0 ≤ i' := by
  obtain ⟨a, i1, h1, e1, m1, c1⟩ := pickInt_some s hs i h [0, 50, 300, 1000000] hi (by simp)
  have ha : 0 ≤ a ∧ a ≤ 1000000 := by
    simp only [List.mem_cons, List.not_mem_nil, or_false] at m1
    omega
  have hm : mn a 100 = min a 100 := by unfold mn; split <;> omega
  obtain ⟨b, i2, h2, e2, a2, b2, c2⟩ := below_some s hs i1 h1 (wrap64 (mn a 100 + 1)) c1 (by rw [hm, wrap_id (by omega) (by omega)]; omega)
  rw [hm, wrap_id (by omega) (by omega)] at b2
  have hm2 : mn (wrap64 (a - b)) 100 = min (a - b) 100 := by rw [wrap_id (by omega) (by omega)]; unfold mn; split <;> omega
  obtain ⟨c, i3, h3, e3, a3, b3, c3⟩ := below_some s hs i2 h2 (wrap64 (mn (wrap64 (a - b)) 100 + 1)) c2 (by rw [hm2, wrap_id (by omega) (by omega)]; omega)
  rw [hm2, wrap_id (by omega) (by omega)] at b3
  refine ⟨a, b, c, i3, h3, ?_, (acB_iff _ _ _).2 (by omega), c3⟩
  unfold spec_l30Account.f
  rw [e1]
  simp only [Option.bind_some]
  rw [e2]
  simp only [Option.bind_some]
  rw [e3]
  rfl
theorem drawAcct_some (x : List Int) (hx : x.length ≤ 1048576) (k : Nat) (hk : x.length < k) : ∃ a b c, spec_DrawAccount.f k x = some (a, b, c) ∧ acB a b c = true := by
  obtain ⟨h, e⟩ := new_some x hx k hk
  obtain ⟨a, b, c, i', h', e2, g, _⟩ := acct_some x hx 0 h (by omega)
  refine ⟨a, b, c, ?_, g⟩
  unfold spec_DrawAccount.f
  rw [e]
  simp only [Option.bind_some]
  rw [e2]
  rfl
theorem free_eq (a b c : Int) (h : acB a b c = true) : impl_FreeSheets.f a b c = some (a - b - c) := by
  have h' := (acB_iff _ _ _).1 h
  unfold impl_FreeSheets.f
  rw [iac_eq, h]
  simp only [Option.bind_some, if_true]
  rw [wrap_id (x := a - b) (by omega) (by omega), wrap_id (by omega) (by omega)]
theorem pure : laws_FnAccounts.Stm := by
  intro x _ _
  refine ⟨x.length + 100, ?_⟩
  generalize hK : x.length + 100 = K
  unfold laws_FnAccounts.f laws_big.f
  simp only [Option.bind_some]
  by_cases h : (x.length : Int) > 1048576
  · simp [h]
  · rw [if_neg (by simpa using h)]
    obtain ⟨a, b, c, e1, hac⟩ := drawAcct_some x (by omega) K (by omega)
    obtain ⟨p, e2, hp, hpr⟩ := places_some x (by omega) K (by omega) (by omega)
    have r0 := rd_range hp hpr 0 (by omega)
    have r1 := rd_range hp hpr 1 (by omega)
    have z0 : ((0 : Nat) : Int) = 0 := rfl
    have z1 : ((1 : Nat) : Int) = 1 := rfl
    rw [z0] at r0
    rw [z1] at r1
    have t0 := tmod_range (a := rd p 0) (b := 60) r0.1 (by omega)
    rw [e1, Option.bind_some, e2, Option.bind_some]
    simp only []
    rw [if_pos (by omega), if_pos (by omega)]
    generalize Int.tmod (rd p 0) 60 = n at t0 ⊢
    rw [wrap_id (x := n + 1) (by omega) (by omega), if_neg (by omega)]
    have t1 := tmod_range (a := rd p 1) (b := n + 1) r1.1 (by omega)
    generalize Int.tmod (rd p 1) (n + 1) = m at t1 ⊢
    have h' := (acB_iff _ _ _).1 hac
    obtain ⟨K, rfl⟩ : ∃ m, K = m + 1 := ⟨K - 1, by omega⟩
    rw [implReserve_eq a b c n hac (by omega) K, Option.bind_some, iac_eq, hac, Option.bind_some, if_pos rfl, free_eq a b c hac, Option.bind_some]
    by_cases hd : b + c + n > a
    · rw [if_pos hd, decide_eq_false (show ¬ a - b - c ≥ n by omega), laws_FnAccounts.j0]
      simp
    · have hr : acB a (b + n) c = true := (acB_iff _ _ _).2 (by omega)
      have hs : acB a (b + n - n) (c + m) = true := (acB_iff _ _ _).2 (by omega)
      rw [if_neg hd, decide_eq_true (show a - b - c ≥ n by omega), laws_FnAccounts.j0]
      simp only [bne_self_eq_false, Bool.false_eq_true, if_false, if_true]
      rw [implSettle_eq a (b + n) c n m hr (by omega) (by omega), Option.bind_some]
      simp only [if_true]
      rw [iac_eq, hr, Option.bind_some, if_pos rfl, iac_eq, hs, Option.bind_some, if_pos rfl, free_eq a (b + n) c hr, Option.bind_some, free_eq a b c hac, Option.bind_some, wrap_id (x := a - b - c - n) (by omega) (by omega), if_pos (by omega), free_eq a (b + n - n) (c + m) hs, Option.bind_some, Option.bind_some, wrap_id (x := a - b - c - m) (by omega) (by omega), if_pos (by omega), if_pos (by omega), wrap_id (x := c + m) (by omega) (by omega)]
      simp
end Go.Proofs.Ytanllimeiofaaaa.PureFnAccounts
