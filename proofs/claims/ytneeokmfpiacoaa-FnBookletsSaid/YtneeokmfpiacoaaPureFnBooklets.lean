/- A booklet read through holds the pages in order, and behind them empty ones, whatever is drawn: no condition. -/
import Derived.Test.YtneeokmfpiacoaaOpsFnBooklets
import Derived.Test.YtneeokmfpiacoaaPlain
namespace Go.Proofs.Ytneeokmfpiacoaa.PureFnBooklets
open Go.RowKit Go.Proofs.Ytneeokmfpiacoaa.PFnBooklets Go.Proofs.Ytneeokmfpiacoaa.Opened Go.Proofs.Ytneeokmfpiacoaa.Plain Go.Proofs.YtneeokmfpiacoaaW.PrintWords Go.Proofs.YtneeokmfpiacoaaW.PrintLast
theorem new_l0 (x : List Int) (hx : x.length ≤ 1048576) (d : Nat) : ∀ (k : Nat) (h : Int) (i : Nat), i + d = x.length → d < k → ∃ h', spec_l01New.l0 k x h i = some (x, 0, h') := by
  induction d with
  | zero =>
    intro k h i hi hk
    obtain ⟨k, rfl⟩ : ∃ m, k = m + 1 := ⟨k - 1, by omega⟩
    rw [spec_l01New.l0, if_neg (by omega)]
    exact ⟨_, rfl⟩
  | succ d ih =>
    intro k h i hi hk
    obtain ⟨k, rfl⟩ : ∃ m, k = m + 1 := ⟨k - 1, by omega⟩
    rw [spec_l01New.l0, if_pos (by omega)]
    by_cases h4 : (i : Int) < 4000
    · rw [if_pos h4, if_pos (by omega), wrap_cast i (by omega)]
      exact ih k _ (i + 1) (by omega) (by omega)
    · rw [if_neg h4]
      exact ⟨_, rfl⟩
theorem new_some (x : List Int) (hx : x.length ≤ 1048576) (k : Nat) (hk : x.length < k) : ∃ h, spec_l01New.f k x = some (x, 0, h) := new_l0 x hx x.length k _ 0 (by omega) hk
theorem byte_some (s : List Int) (hs : s.length ≤ 1048576) (i h : Int) (hi : 0 ≤ i) : ∃ v i' h', spec_l01Byte.f s i h = some (v, i', h') ∧ 0 ≤ v ∧ v ≤ 255 ∧ 0 ≤ i' := by
  unfold spec_l01Byte.f
  simp only [i64_and255]
  by_cases h1 : i < (s.length : Int)
  · rw [if_pos h1, if_pos hi]
    exact ⟨_, _, _, rfl, by omega, by omega, by rw [wrap_id (by omega) (by omega)]; omega⟩
  · rw [if_neg h1]
    exact ⟨_, _, _, rfl, by omega, by omega, hi⟩
theorem below_some (s : List Int) (hs : s.length ≤ 1048576) (i h n : Int) (hi : 0 ≤ i) (hn : 0 < n) : ∃ v i' h', spec_l01Below.f s i h n = some (v, i', h') ∧ 0 ≤ v ∧ v < n ∧ 0 ≤ i' := by
  unfold spec_l01Below.f
  rw [if_neg (by omega)]
  obtain ⟨v1, i1, h1, e1, a1, b1, c1⟩ := byte_some s hs i h hi
  by_cases h2 : n ≤ 256
  · rw [if_pos h2, e1]
    simp only [Option.bind_some]
    rw [if_neg (by omega)]
    have := tmod_range a1 hn
    exact ⟨_, _, _, rfl, this.1, this.2, c1⟩
  · rw [if_neg h2, e1]
    simp only [Option.bind_some]
    obtain ⟨v2, i2, h2, e2, a2, b2, c2⟩ := byte_some s hs i1 h1 c1
    rw [e2]
    simp only [Option.bind_some]
    obtain ⟨v3, i3, h3, e3, a3, b3, c3⟩ := byte_some s hs i2 h2 c2
    rw [e3]
    simp only [Option.bind_some]
    obtain ⟨v4, i4, h4, e4, a4, b4, c4⟩ := byte_some s hs i3 h3 c3
    rw [e4]
    simp only [Option.bind_some]
    rw [if_neg (by omega)]
    have w1 : wrap64 (v1 * 16777216) = v1 * 16777216 := wrap_id (by omega) (by omega)
    have w2 : wrap64 (v2 * 65536) = v2 * 65536 := wrap_id (by omega) (by omega)
    have w3 : wrap64 (v3 * 256) = v3 * 256 := wrap_id (by omega) (by omega)
    rw [w1, w2, w3, wrap_id (x := v1 * 16777216 + v2 * 65536) (by omega) (by omega), wrap_id (x := v1 * 16777216 + v2 * 65536 + v3 * 256) (by omega) (by omega), wrap_id (x := v1 * 16777216 + v2 * 65536 + v3 * 256 + v4) (by omega) (by omega)]
    have := tmod_range (a := v1 * 16777216 + v2 * 65536 + v3 * 256 + v4) (by omega) hn
    exact ⟨_, _, _, rfl, this.1, this.2, c4⟩
theorem places_l0 (s : List Int) (hs : s.length ≤ 1048576) (d : Nat) : ∀ (k : Nat) (r : List Int) (i : Nat) (c h : Int), i + d = 12 → d < k → 0 ≤ c → r.length = i → (∀ x ∈ r, 0 ≤ x ∧ x < 10000) →
    ∃ q, spec_DrawPlaces.l0 k r i s c h = some q ∧ q.length = 12 ∧ ∀ x ∈ q, 0 ≤ x ∧ x < 10000 := by
  induction d with
  | zero =>
    intro k r i c h hi hk hc hl hr
    obtain ⟨k, rfl⟩ : ∃ m, k = m + 1 := ⟨k - 1, by omega⟩
    rw [spec_DrawPlaces.l0, if_neg (by omega)]
    exact ⟨r, rfl, by omega, hr⟩
  | succ d ih =>
    intro k r i c h hi hk hc hl hr
    obtain ⟨k, rfl⟩ : ∃ m, k = m + 1 := ⟨k - 1, by omega⟩
    obtain ⟨v, c', h', e, a, b, hc'⟩ := below_some s hs c h 10000 hc (by omega)
    rw [spec_DrawPlaces.l0, if_pos (by omega), e]
    simp only [Option.bind_some]
    rw [if_pos (by omega), wrap_cast i (by omega)]
    refine ih k _ (i + 1) c' h' (by omega) (by omega) hc' (by simp; omega) ?_
    intro x hx
    rcases List.mem_append.1 hx with hx | hx
    · exact hr x hx
    · rw [List.mem_singleton.1 hx]; exact ⟨a, b⟩
theorem places_some (x : List Int) (hx : x.length ≤ 1048576) (k : Nat) (hk : x.length < k) (h12 : 12 < k) : ∃ q, spec_DrawPlaces.f k x = some q ∧ q.length = 12 ∧ ∀ y ∈ q, 0 ≤ y ∧ y < 10000 := by
  obtain ⟨h, e⟩ := new_some x hx k hk
  unfold spec_DrawPlaces.f
  rw [e]
  simp only [Option.bind_some]
  exact places_l0 x hx 12 k [] 0 0 h (by omega) h12 (by omega) rfl (by simp)
theorem rd_range {q : List Int} (hl : q.length = 12) (hq : ∀ y ∈ q, 0 ≤ y ∧ y < 10000) (i : Nat) (hi : i < 12) : 0 ≤ rd q (i : Int) ∧ rd q (i : Int) < 10000 := hq _ (rd_mem q i (by omega))
def law (k : Nat) (n : Int) : Option Bool := (impl_Booklet.f k n).bind fun t154 => ((impl_ReadBooklet.f k t154).bind fun t157 => (if ((t157.length : Int) % 4) = 0 then (if (t157.length : Int) < n then (laws_FnBooklets.j0 k n t157 true) else (laws_FnBooklets.j0 k n t157 (decide ((t157.length : Int) ≥ (wrap64 (n + 4)))))) else (laws_FnBooklets.j0 k n t157 true)))
theorem law_mono (n : Int) (k : Nat) : LeO (law k n) (law (k + 1) n) := by
  have h0 := (laws_FnBooklets.mono_l k).1
  exact LeO.bind (impl_Booklet.mono n k) (fun b => LeO.bind (impl_ReadBooklet.mono b k) (fun t => LeO.ite (LeO.ite (h0 _ _ _) (h0 _ _ _)) (h0 _ _ _)))
theorem small : ∀ i : Fin 64, law 300 ((i.val : Int) + 1) = some true := by decide +kernel
theorem pure : laws_FnBooklets.Stm := by
  intro x hx _
  refine ⟨x.length + 301, ?_⟩
  unfold laws_FnBooklets.f laws_big.f
  simp only [Option.bind_some]
  by_cases h : (x.length : Int) > 1048576
  · simp [h]
  · rw [if_neg (by simpa using h)]
    obtain ⟨q, e, hl, hq⟩ := places_some x (by omega) (x.length + 301) (by omega) (by omega)
    rw [e]
    simp only [Option.bind_some]
    have r0 := rd_range hl hq 0 (by omega)
    simp only [Int.ofNat_zero] at r0
    have t0 := tmod_range (a := rd q 0) (b := 64) r0.1 (by omega)
    rw [if_pos (by omega), wrap_id (by omega) (by omega)]
    have hs := small ⟨(Int.tmod (rd q 0) 64).toNat, by omega⟩
    rw [show (((Int.tmod (rd q 0) 64).toNat : Nat) : Int) + 1 = 1 + Int.tmod (rd q 0) 64 by omega] at hs
    exact at_rounds (g := fun k => law k (1 + Int.tmod (rd q 0) 64)) (law_mono _) (by omega) hs
end Go.Proofs.Ytneeokmfpiacoaa.PureFnBooklets
