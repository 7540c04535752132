/- The program's BreakLines answers as the reference's for all widths, holds its own answer apart and leaves the widths as they were: no condition. -/
import Derived.Test.YtifaojbmdahoiaaOpsFnExactBreakLines
import Derived.Test.YtifaojbmdahoiaaPlain
namespace Go.Proofs.Ytifaojbmdahoiaa.PureFnExactBreakLines
open Go.RowKit Go.Proofs.Ytifaojbmdahoiaa.PFnExactBreakLines Go.Proofs.Ytifaojbmdahoiaa.Opened Go.Proofs.Ytifaojbmdahoiaa.Plain Go.Proofs.YtifaojbmdahoiaaW.PrintWords Go.Proofs.YtifaojbmdahoiaaW.PrintLast Go.Proofs.YtifaojbmdahoiaaW.PrintMore
set_option linter.unusedVariables false
set_option linter.unusedSimpArgs false
theorem toIntS_l0 (x : List Int) (hx : x.length ≤ 1048576) (d : Nat) : ∀ (k : Nat) (y : List Int) (i : Nat), i + d = x.length → y.length = x.length → d < k → y.take i = x.take i → laws_toIntS.l0 k x y i = some x := by
  induction d with
  | zero =>
    intro k y i hi hl hk h
    obtain ⟨k, rfl⟩ : ∃ m, k = m + 1 := ⟨k - 1, by omega⟩
    rw [laws_toIntS.l0, if_neg (by omega), take_all (by omega) hl h]
  | succ d ih =>
    intro k y i hi hl hk h
    obtain ⟨k, rfl⟩ : ∃ m, k = m + 1 := ⟨k - 1, by omega⟩
    rw [laws_toIntS.l0, if_pos (by omega), if_pos (by omega), if_pos (by omega), wrap_cast i (by omega), rd_nat, Int.toNat_natCast]
    exact ih k _ (i + 1) (by omega) (by simpa using hl) (by omega) (take_set x y 0 i (by omega) hl h)
theorem toIntS_eq (x : List Int) (hx : x.length ≤ 1048576) (k : Nat) (hk : x.length < k) : laws_toIntS.f k x = some x := by
  rw [laws_toIntS.f, if_pos (by omega), if_pos (by omega)]
  exact toIntS_l0 x hx x.length k _ 0 (by omega) (by simp) hk (by simp)
theorem eqIntS_l0 (x : List Int) (hx : x.length ≤ 1048576) (d : Nat) : ∀ (k : Nat) (i : Nat), i + d = x.length → d < k → laws_eqIntS.l0 k x x i = some true := by
  induction d with
  | zero =>
    intro k i hi hk
    obtain ⟨k, rfl⟩ : ∃ m, k = m + 1 := ⟨k - 1, by omega⟩
    rw [laws_eqIntS.l0, if_neg (by omega)]
  | succ d ih =>
    intro k i hi hk
    obtain ⟨k, rfl⟩ : ∃ m, k = m + 1 := ⟨k - 1, by omega⟩
    rw [laws_eqIntS.l0, if_pos (by omega), if_pos (by omega), if_pos (by omega), if_pos rfl, wrap_cast i (by omega)]
    exact ih k (i + 1) (by omega) (by omega)
theorem eqIntS_eq (x : List Int) (hx : x.length ≤ 1048576) (k : Nat) (hk : x.length < k) : laws_eqIntS.f k x x = some true := by
  rw [laws_eqIntS.f, if_pos rfl]
  exact eqIntS_l0 x hx x.length k 0 (by omega) hk
def markL : Nat → Int → List Int
  | 0, _ => []
  | n + 1, m => m :: markL n (m + 1)
theorem markL_length (n : Nat) : ∀ m, (markL n m).length = n := by
  induction n with
  | zero => intro m; rfl
  | succ n ih => intro m; simp [markL, ih]
theorem set_at {α : Type} (p r : List α) (a b : α) : (p ++ a :: r).set p.length b = p ++ b :: r := by
  rw [List.set_append_right _ _ (Nat.le_refl _)]; simp
theorem markIntS_l0 (r : List Int) : ∀ (k : Nat) (p : List Int) (m : Int), r.length < k → p.length + r.length ≤ 8388608 → 0 ≤ m → m + r.length ≤ 100000000 → laws_markIntS.l0 k (p ++ r) m p.length = some (m + r.length, p ++ markL r.length m) := by
  induction r with
  | nil =>
    intro k p m hk hp h0 h1
    obtain ⟨k, rfl⟩ : ∃ q, k = q + 1 := ⟨k - 1, by omega⟩
    rw [laws_markIntS.l0, if_neg (by simp)]
    simp [markL]
  | cons a r ih =>
    intro k p m hk hp h0 h1
    simp only [List.length_cons] at hk hp h1
    obtain ⟨k, rfl⟩ : ∃ q, k = q + 1 := ⟨k - 1, by omega⟩
    have := ih k (p ++ [m]) (m + 1) (by omega) (by simp; omega) (by omega) (by omega)
    rw [laws_markIntS.l0, if_pos (by simp; omega), if_pos (by omega), Int.toNat_natCast, set_at, wrap_id (x := m + 1) (by omega) (by omega), wrap_cast p.length (by omega)]
    simp only [List.append_assoc, List.cons_append, List.nil_append, List.length_append, List.length_cons, List.length_nil, Nat.zero_add] at this
    rw [this]
    simp only [List.length_cons, markL]
    congr 2; omega
theorem markIntS_eq (x : List Int) (m : Int) (k : Nat) (hk : x.length < k) (hx : x.length ≤ 8388608) (h0 : 0 ≤ m) (h1 : m + x.length ≤ 100000000) : laws_markIntS.f k x m = some (m + x.length, markL x.length m) := by
  have := markIntS_l0 x k [] m hk (by simpa using hx) h0 h1
  simpa [laws_markIntS.f] using this
theorem heldIntS_l0 (n : Nat) : ∀ (k : Nat) (p : List Int) (m : Int), n < k → p.length + n ≤ 8388608 → 0 ≤ m → m + n ≤ 100000000 → laws_heldIntS.l0 k (p ++ markL n m) m p.length = some (m + n) := by
  induction n with
  | zero =>
    intro k p m hk hp h0 h1
    obtain ⟨k, rfl⟩ : ∃ q, k = q + 1 := ⟨k - 1, by omega⟩
    rw [laws_heldIntS.l0, if_neg (by simp [markL])]
    simp
  | succ n ih =>
    intro k p m hk hp h0 h1
    obtain ⟨k, rfl⟩ : ∃ q, k = q + 1 := ⟨k - 1, by omega⟩
    have := ih k (p ++ [m]) (m + 1) (by omega) (by simp; omega) (by omega) (by omega)
    have e : rd (p ++ markL (n + 1) m) (p.length : Int) = m := by rw [rd_nat]; simp [markL]
    rw [laws_heldIntS.l0, if_pos (by simp [markL_length]; omega), if_pos (by omega), e, if_pos rfl, wrap_id (x := m + 1) (by omega) (by omega), wrap_cast p.length (by omega)]
    simp only [List.append_assoc, List.cons_append, List.nil_append, List.length_append, List.length_cons, List.length_nil, Nat.zero_add] at this
    simp only [markL]
    rw [this]
    congr 1; omega
theorem heldIntS_eq (n : Nat) (m : Int) (k : Nat) (hk : n < k) (hn : n ≤ 8388608) (h0 : 0 ≤ m) (h1 : m + n ≤ 100000000) : laws_heldIntS.f k (markL n m) m = some (m + n) := by
  have := heldIntS_l0 n k [] m hk (by simpa using hn) h0 h1
  simpa [laws_heldIntS.f] using this
def totL : List (List Int) → Nat
  | [] => 0
  | r :: x => r.length + totL x
theorem totL_le (M : Nat) (x : List (List Int)) (h : ∀ r ∈ x, r.length ≤ M) : totL x ≤ x.length * M := by
  induction x with
  | nil => simp [totL]
  | cons r x ih =>
    have h1 := h r (List.mem_cons_self ..)
    have h2 := ih (fun q hq => h q (List.mem_cons_of_mem _ hq))
    rw [totL, List.length_cons, Nat.succ_mul]
    omega
theorem eqIntSS_l0 (M : Nat) (hM : M ≤ 1048576) (x : List (List Int)) (hx : x.length ≤ 1048576) (hr : ∀ r ∈ x, r.length ≤ M) (d : Nat) : ∀ (k : Nat) (i : Nat), i + d = x.length → d + M + 1 < k → laws_eqIntSS.l0 k x x i = some true := by
  induction d with
  | zero =>
    intro k i hi hk
    obtain ⟨k, rfl⟩ : ∃ m, k = m + 1 := ⟨k - 1, by omega⟩
    rw [laws_eqIntSS.l0, if_neg (by omega)]
  | succ d ih =>
    intro k i hi hk
    obtain ⟨k, rfl⟩ : ∃ m, k = m + 1 := ⟨k - 1, by omega⟩
    have e : rd_L1 x i = x.getD i [] := by simp [rd_L1]
    have hl := hr _ (getD_mem x [] i (by omega))
    rw [laws_eqIntSS.l0, if_pos (by omega), if_pos (by omega), if_pos (by omega), e, eqIntS_eq _ (by omega) k (by omega)]
    simp only [Option.bind_some, if_true]
    rw [wrap_cast i (by omega)]
    exact ih k (i + 1) (by omega) (by omega)
theorem eqIntSS_eq (M : Nat) (hM : M ≤ 1048576) (x : List (List Int)) (hx : x.length ≤ 1048576) (hr : ∀ r ∈ x, r.length ≤ M) (k : Nat) (hk : x.length + M + 1 < k) : laws_eqIntSS.f k x x = some true := by
  rw [laws_eqIntSS.f, if_pos rfl]
  exact eqIntSS_l0 M hM x hx hr x.length k 0 (by omega) hk
def markLL : List (List Int) → Int → List (List Int)
  | [], _ => []
  | r :: x, m => markL r.length m :: markLL x (m + r.length)
theorem set_row {α : Type} (p r : List α) (a b : α) : (p ++ a :: r).set p.length b = p ++ b :: r := by
  rw [List.set_append_right _ _ (Nat.le_refl _)]; simp
theorem getD_row {α : Type} (p r : List α) (a z : α) : (p ++ a :: r).getD p.length z = a := by simp
theorem markIntSS_l0 (M : Nat) (hM : M ≤ 8388608) (r : List (List Int)) : ∀ (k : Nat) (p : List (List Int)) (m : Int), (∀ q ∈ r, q.length ≤ M) → r.length + M + 1 < k → 0 ≤ m → m + totL r ≤ 100000000 → laws_markIntSS.l0 k (p ++ r) m p.length = some (m + totL r, p ++ markLL r m) := by
  induction r with
  | nil =>
    intro k p m hr hk h0 h1
    obtain ⟨k, rfl⟩ : ∃ q, k = q + 1 := ⟨k - 1, by omega⟩
    rw [laws_markIntSS.l0, if_neg (by simp)]
    simp [markLL, totL]
  | cons a r ih =>
    intro k p m hr hk h0 h1
    simp only [List.length_cons, totL] at hk h1
    obtain ⟨k, rfl⟩ : ∃ q, k = q + 1 := ⟨k - 1, by omega⟩
    have ha := hr a (List.mem_cons_self ..)
    have := ih k (p ++ [markL a.length m]) (m + a.length) (fun q hq => hr q (List.mem_cons_of_mem _ hq)) (by omega) (by omega) (by omega)
    rw [laws_markIntSS.l0, if_pos (by simp), getD_row, markIntS_eq a m k (by omega) (by omega) h0 (by omega)]
    simp only [Option.bind_some, set_row]
    simp only [List.append_assoc, List.cons_append, List.nil_append, List.length_append, List.length_cons, List.length_nil, Nat.zero_add] at this
    rw [this]
    simp only [markLL, totL]
    congr 2; omega
theorem markIntSS_eq (M : Nat) (hM : M ≤ 8388608) (x : List (List Int)) (m : Int) (k : Nat) (hr : ∀ q ∈ x, q.length ≤ M) (hk : x.length + M + 1 < k) (h0 : 0 ≤ m) (h1 : m + totL x ≤ 100000000) : laws_markIntSS.f k x m = some (m + totL x, markLL x m) := by
  have := markIntSS_l0 M hM x k [] m hr hk h0 h1
  simpa [laws_markIntSS.f] using this
theorem heldIntSS_l0 (M : Nat) (hM : M ≤ 8388608) (r : List (List Int)) : ∀ (k : Nat) (p : List (List Int)) (m : Int), (∀ q ∈ r, q.length ≤ M) → p.length + r.length ≤ 8388608 → r.length + M + 1 < k → 0 ≤ m → m + totL r ≤ 100000000 → laws_heldIntSS.l0 k (p ++ markLL r m) m p.length = some (m + totL r) := by
  induction r with
  | nil =>
    intro k p m hr hp hk h0 h1
    obtain ⟨k, rfl⟩ : ∃ q, k = q + 1 := ⟨k - 1, by omega⟩
    rw [laws_heldIntSS.l0, if_neg (by simp [markLL])]
    simp [totL]
  | cons a r ih =>
    intro k p m hr hp hk h0 h1
    simp only [List.length_cons, totL] at hp hk h1
    obtain ⟨k, rfl⟩ : ∃ q, k = q + 1 := ⟨k - 1, by omega⟩
    have ha := hr a (List.mem_cons_self ..)
    have := ih k (p ++ [markL a.length m]) (m + a.length) (fun q hq => hr q (List.mem_cons_of_mem _ hq)) (by simp; omega) (by omega) (by omega) (by omega)
    simp only [markLL]
    have e : rd_L1 (p ++ markL a.length m :: markLL r (m + a.length)) (p.length : Int) = markL a.length m := by simp [rd_L1]
    rw [laws_heldIntSS.l0, if_pos (by simp; omega), if_pos (by omega), e, heldIntS_eq a.length m k (by omega) (by omega) h0 (by omega)]
    simp only [Option.bind_some]
    rw [if_neg (by omega), wrap_cast p.length (by omega)]
    simp only [List.append_assoc, List.cons_append, List.nil_append, List.length_append, List.length_cons, List.length_nil, Nat.zero_add] at this
    rw [this]
    simp only [totL]
    congr 1; omega
theorem heldIntSS_eq (M : Nat) (hM : M ≤ 8388608) (x : List (List Int)) (m : Int) (k : Nat) (hr : ∀ q ∈ x, q.length ≤ M) (hx : x.length ≤ 8388608) (hk : x.length + M + 1 < k) (h0 : 0 ≤ m) (h1 : m + totL x ≤ 100000000) : laws_heldIntSS.f k (markLL x m) m = some (m + totL x) := by
  have := heldIntSS_l0 M hM x k [] m hr (by simpa using hx) hk h0 h1
  simpa [laws_heldIntSS.f] using this
def inB (a b c : Int) : Bool := if a ≥ b then decide (a ≤ c) else false
theorem in_eq (a b c : Int) : spec_l01In.f a b c = some (inB a b c) := by unfold spec_l01In.f inB; split <;> rfl
theorem within_eq (a b c : Int) : impl_within.f a b c = some (inB a b c) := in_eq a b c
theorem inB_iff (a b c : Int) : inB a b c = true ↔ b ≤ a ∧ a ≤ c := by unfold inB; split <;> simp <;> omega
def fits (w : Int) (y : Int) : Bool := inB y 1 w
def widthsB (x : List Int) (w : Int) : Bool := x.all (fits w) && (decide (x.length ≤ 30) && inB w 1 32)
theorem widthsB_iff (x : List Int) (w : Int) : widthsB x w = true ↔ (∀ y ∈ x, 1 ≤ y ∧ y ≤ w) ∧ x.length ≤ 30 ∧ 1 ≤ w ∧ w ≤ 32 := by
  simp [widthsB, fits, inB_iff]
theorem specWidths_l0 (x : List Int) (w : Int) (hx : x.length ≤ 1048576) (d : Nat) : ∀ (k : Nat) (i : Nat), i + d = x.length → d < k → spec_WidthsOk.l0 k x w i = some ((x.drop i).all (fits w) && (decide (x.length ≤ 30) && inB w 1 32)) := by
  induction d with
  | zero =>
    intro k i hi hk
    obtain ⟨k, rfl⟩ : ∃ m, k = m + 1 := ⟨k - 1, by omega⟩
    rw [spec_WidthsOk.l0, if_neg (by omega), List.drop_of_length_le (by omega), in_eq]
    by_cases h : x.length ≤ 30
    · rw [if_pos (by omega)]; simp [h]
    · rw [if_neg (by omega)]; simp [h]
  | succ d ih =>
    intro k i hi hk
    obtain ⟨k, rfl⟩ : ∃ m, k = m + 1 := ⟨k - 1, by omega⟩
    rw [spec_WidthsOk.l0, if_pos (by omega), if_pos (by omega), in_eq, drop_rd x i (by omega)]
    simp only [Option.bind_some, List.all_cons, fits]
    cases hf : inB (rd x i) 1 w with
    | false => simp
    | true => rw [if_pos rfl, wrap_cast i (by omega), ih k (i + 1) (by omega) (by omega)]; simp [fits]
theorem specWidths_eq (x : List Int) (w : Int) (hx : x.length ≤ 1048576) (k : Nat) (hk : x.length < k) : spec_WidthsOk.f k x w = some (widthsB x w) := by
  have := specWidths_l0 x w hx x.length k 0 (by omega) hk
  simpa [spec_WidthsOk.f, widthsB] using this
theorem implWidths_l0 (x : List Int) (w : Int) (hx : x.length ≤ 1048576) (d : Nat) : ∀ (k : Nat) (i : Nat), i + d = x.length → d < k → impl_WidthsOk.l0 k w x x.length i = some ((x.drop i).all (fits w)) := by
  induction d with
  | zero =>
    intro k i hi hk
    obtain ⟨k, rfl⟩ : ∃ m, k = m + 1 := ⟨k - 1, by omega⟩
    rw [impl_WidthsOk.l0, if_neg (by omega), List.drop_of_length_le (by omega)]; rfl
  | succ d ih =>
    intro k i hi hk
    obtain ⟨k, rfl⟩ : ∃ m, k = m + 1 := ⟨k - 1, by omega⟩
    rw [impl_WidthsOk.l0, if_pos (by omega), if_pos (by omega), if_pos (by omega), within_eq, drop_rd x i (by omega)]
    simp only [Option.bind_some, List.all_cons, fits]
    cases hf : inB (rd x i) 1 w with
    | false => simp
    | true => rw [if_pos rfl, wrap_cast i (by omega), ih k (i + 1) (by omega) (by omega)]; simp [fits]
theorem implWidths_eq (x : List Int) (w : Int) (hx : x.length ≤ 1048576) (k : Nat) (hk : x.length + 1 < k) : impl_WidthsOk.f k x w = some (widthsB x w) := by
  obtain ⟨k, rfl⟩ : ∃ m, k = m + 1 := ⟨k - 1, by omega⟩
  have h0 := implWidths_l0 x w hx x.length k 0 (by omega) (by omega)
  simp only [List.drop_zero, Int.ofNat_zero] at h0
  have hj : ∀ c : Bool, impl_WidthsOk.j0 (k + 1) x w c = some (!c && x.all (fits w)) := by
    intro c
    cases c
    · simp only [impl_WidthsOk.j0]; simpa using h0
    · simp [impl_WidthsOk.j0]
  rw [impl_WidthsOk.f]
  by_cases h : x.length ≤ 30
  · rw [if_neg (by omega), within_eq]
    simp only [Option.bind_some, hj, widthsB]
    cases inB w 1 32 <;> simp [h]
  · rw [if_pos (by omega), hj]; simp [h, widthsB]
def setLast (o : List (List Int)) (i : Int) : List (List Int) := o.set (o.length - 1) (o.getD (o.length - 1) [] ++ [i])
/-- The lines, word after word. -/
def brk (x : List Int) (n : Int) : Nat → Nat → Int → List (List Int) → List (List Int)
  | 0, _, _, o => o
  | d + 1, i, u, o => if i = 0 ∨ u + 1 + rd x i > n then brk x n d (i + 1) (rd x i) (o ++ [[(i : Int)]]) else brk x n d (i + 1) (u + 1 + rd x i) (setLast o i)
def brkI (i : Nat) (o : List (List Int)) : Prop := o.length ≤ i ∧ (0 < i → 0 < o.length) ∧ ∀ r ∈ o, r.length ≤ i
theorem brkI_new {i : Nat} {o : List (List Int)} (h : brkI i o) : brkI (i + 1) (o ++ [[(i : Int)]]) := by
  refine ⟨by simp; exact h.1, by simp, fun r hr => ?_⟩
  rcases List.mem_append.1 hr with hr | hr
  · have := h.2.2 r hr; omega
  · rw [List.mem_singleton.1 hr]; simp
theorem last_mem {o : List (List Int)} (h : 0 < o.length) : o.getD (o.length - 1) [] ∈ o := getD_mem o [] (o.length - 1) (by omega)
theorem brkI_set {i : Nat} {o : List (List Int)} (h : brkI i o) (hi : 0 < i) : brkI (i + 1) (setLast o i) := by
  refine ⟨by simp [setLast]; have := h.1; omega, by simp [setLast]; have := h.2.1 hi; omega, fun r hr => ?_⟩
  rcases List.mem_or_eq_of_mem_set hr with hr | rfl
  · have := h.2.2 r hr; omega
  · have := h.2.2 _ (last_mem (h.2.1 hi)); rw [List.length_append]; simp only [List.length_cons, List.length_nil]; omega
theorem specBreak_l0 (x : List Int) (n : Int) (hb : widthsB x n = true) (d : Nat) : ∀ (k : Nat) (i : Nat) (u : Int) (o : List (List Int)), i + d = x.length → d < k → brkI i o → (i = 0 → u = n) → 0 ≤ u ∧ u ≤ n →
    spec_BreakLines.l0 k x n o u i = some (brk x n d i u o) := by
  obtain ⟨hw, hl, hn⟩ := (widthsB_iff x n).1 hb
  induction d with
  | zero =>
    intro k i u o hi hk ho hu hr
    obtain ⟨k, rfl⟩ : ∃ m, k = m + 1 := ⟨k - 1, by omega⟩
    rw [spec_BreakLines.l0, if_neg (by omega)]; rfl
  | succ d ih =>
    intro k i u o hi hk ho hu hr
    obtain ⟨k, rfl⟩ : ∃ m, k = m + 1 := ⟨k - 1, by omega⟩
    have hm := hw _ (rd_mem x i (by omega))
    have ho1 := ho.1
    rw [spec_BreakLines.l0, if_pos (by omega), if_pos (by omega), wrap_id (x := u + 1) (by omega) (by omega), wrap_id (x := u + 1 + rd x i) (by omega) (by omega), wrap_cast i (by omega)]
    unfold brk
    by_cases h : u + 1 + rd x i > n
    · rw [if_pos h, if_pos (by omega), if_pos (.inr h)]
      exact ih k (i + 1) _ _ (by omega) (by omega) (brkI_new ho) (by omega) (by omega)
    · have hi0 : i ≠ 0 := fun e => h (by have := hu e; omega)
      have hl0 := ho.2.1 (by omega)
      have e : wrap64 ((o.length : Int) - 1) = ((o.length - 1 : Nat) : Int) := by rw [wrap_id (by omega) (by omega)]; omega
      have er : rd_L1 o ((o.length - 1 : Nat) : Int) = o.getD (o.length - 1) [] := by simp [rd_L1]
      have hlr := ho.2.2 _ (last_mem hl0)
      rw [if_neg h, e, if_pos (by omega), if_pos (by omega), er, if_pos (by omega), Int.toNat_natCast, if_neg (by omega)]
      exact ih k (i + 1) _ _ (by omega) (by omega) (brkI_set ho (by omega)) (by omega) (by omega)
theorem specBreak_eq (x : List Int) (n : Int) (hx : x.length ≤ 1048576) (k : Nat) (hk : x.length < k) : spec_BreakLines.f k x n = some (if widthsB x n = true then brk x n x.length 0 0 [] else []) := by
  unfold spec_BreakLines.f
  rw [specWidths_eq x n hx k hk]
  simp only [Option.bind_some]
  cases hb : widthsB x n with
  | false => simp
  | true =>
    have hn := ((widthsB_iff x n).1 hb).2.2
    have := specBreak_l0 x n hb x.length k 0 n [] (by omega) hk ⟨by simp, by omega, by simp⟩ (fun _ => rfl) (by omega)
    simp only [if_true]
    rw [show ((0 : Nat) : Int) = 0 from rfl] at this
    rw [this]
    cases x with
    | nil => rfl
    | cons a r => simp [brk]
theorem implBreak_l0 (x : List Int) (n : Int) (hb : widthsB x n = true) (d : Nat) : ∀ (k : Nat) (i : Nat) (u : Int) (o : List (List Int)), i + d = x.length → d < k → brkI i o → 0 ≤ u ∧ u ≤ n →
    impl_BreakLines.l0 k n o u x x.length i = some (brk x n d i u o) := by
  obtain ⟨hw, hl, hn⟩ := (widthsB_iff x n).1 hb
  induction d with
  | zero =>
    intro k i u o hi hk ho hr
    obtain ⟨k, rfl⟩ : ∃ m, k = m + 1 := ⟨k - 1, by omega⟩
    rw [impl_BreakLines.l0, if_neg (by omega)]; rfl
  | succ d ih =>
    intro k i u o hi hk ho hr
    obtain ⟨k, rfl⟩ : ∃ m, k = m + 1 := ⟨k - 1, by omega⟩
    have hm := hw _ (rd_mem x i (by omega))
    have ho1 := ho.1
    rw [impl_BreakLines.l0, if_pos (by omega), if_pos (by omega), if_pos (by omega), wrap_id (x := u + 1) (by omega) (by omega), wrap_id (x := u + 1 + rd x i) (by omega) (by omega), wrap_cast i (by omega)]
    unfold brk
    by_cases h0 : i = 0
    · rw [if_neg (by omega), if_pos (by omega), if_pos (.inl h0)]
      exact ih k (i + 1) _ _ (by omega) (by omega) (brkI_new ho) (by omega)
    · rw [if_pos (by omega)]
      by_cases h : u + 1 + rd x i > n
      · rw [if_neg (by omega), if_pos (by omega), if_pos (.inr h)]
        exact ih k (i + 1) _ _ (by omega) (by omega) (brkI_new ho) (by omega)
      · have hl0 := ho.2.1 (by omega)
        have e : wrap64 ((o.length : Int) - 1) = ((o.length - 1 : Nat) : Int) := by rw [wrap_id (by omega) (by omega)]; omega
        have er : rd_L1 o ((o.length - 1 : Nat) : Int) = o.getD (o.length - 1) [] := by simp [rd_L1]
        have hlr := ho.2.2 _ (last_mem hl0)
        have eu : wrap64 (u + wrap64 (1 + rd x i)) = u + 1 + rd x i := by rw [wrap_id (x := 1 + rd x i) (by omega) (by omega), wrap_id (by omega) (by omega)]; omega
        rw [if_pos (by omega), e, if_pos (by omega), if_pos (by omega), er, if_pos (by omega), Int.toNat_natCast, if_neg (by omega), eu]
        exact ih k (i + 1) _ _ (by omega) (by omega) (brkI_set ho (by omega)) (by omega)
theorem implBreak_eq (x : List Int) (n : Int) (hx : x.length ≤ 1048576) (k : Nat) (hk : x.length + 1 < k) : impl_BreakLines.f k x n = some (if widthsB x n = true then brk x n x.length 0 0 [] else []) := by
  unfold impl_BreakLines.f
  rw [implWidths_eq x n hx k hk]
  simp only [Option.bind_some]
  cases hb : widthsB x n with
  | false => simp
  | true =>
    have hn := ((widthsB_iff x n).1 hb).2.2
    have := implBreak_l0 x n hb x.length k 0 0 [] (by omega) (by omega) ⟨by simp, by omega, by simp⟩ (by omega)
    simp only [if_true]
    exact this
theorem brk_I (x : List Int) (n : Int) (d : Nat) : ∀ (i : Nat) (u : Int) (o : List (List Int)), brkI i o → brkI (i + d) (brk x n d i u o) := by
  induction d with
  | zero => intro i u o h; exact h
  | succ d ih =>
    intro i u o h
    rw [brk, show i + (d + 1) = (i + 1) + d by omega]
    split
    · exact ih (i + 1) _ _ (brkI_new h)
    · rename_i c
      refine ih (i + 1) _ _ (brkI_set h ?_)
      omega
def linesF (x : List Int) (n : Int) : List (List Int) := if widthsB x n = true then brk x n x.length 0 0 [] else []
theorem linesF_ok (x : List Int) (n : Int) : (linesF x n).length ≤ 30 ∧ ∀ r ∈ linesF x n, r.length ≤ 30 := by
  unfold linesF
  by_cases c : widthsB x n = true
  · rw [if_pos c]
    have h := brk_I x n x.length 0 0 [] ⟨by simp, by simp, by simp⟩
    have hl := ((widthsB_iff x n).1 c).2.1
    exact ⟨by have := h.1; omega, fun r hr => by have := h.2.2 r hr; omega⟩
  · rw [if_neg c]; simp
theorem pure : laws_FnExactBreakLines.Stm := by
  intro x n _ _ _
  obtain ⟨K, hK⟩ : ∃ K, K = x.length + 1000 := ⟨_, rfl⟩
  refine ⟨K, ?_⟩
  rw [laws_FnExactBreakLines.f]
  by_cases h : x.length ≤ 1048576
  · rw [if_neg (by omega)]
    have e1 := toIntS_eq x h K (by omega)
    have e2 := specBreak_eq x n h K (by omega)
    have e3 := implBreak_eq x n h K (by omega)
    obtain ⟨hl, hr⟩ := linesF_ok x n
    have ht := totL_le 30 _ hr
    have ht' : (linesF x n).length * 30 ≤ 30 * 30 := Nat.mul_le_mul hl (Nat.le_refl _)
    change _ = some (linesF x n) at e2
    change _ = some (linesF x n) at e3
    have e4 := eqIntSS_eq 30 (by omega) _ (by omega) hr K (by omega)
    have e5 := eqIntS_eq x h K (by omega)
    have e6 := markIntS_eq x 1 K (by omega) (by omega) (by omega) (by omega)
    have e7 := markIntSS_eq 30 (by omega) (linesF x n) 1 K hr (by omega) (by omega) (by omega)
    have e8 := heldIntSS_eq 30 (by omega) (linesF x n) 1 K hr (by omega) (by omega) (by omega) (by omega)
    simp only [e1, Option.bind_some, e2, e3, e4, if_true, e5, e6, e7, e8]
    rw [if_pos (by omega), if_pos (by omega)]
  · rw [if_pos (by omega)]
end Go.Proofs.Ytifaojbmdahoiaa.PureFnExactBreakLines
