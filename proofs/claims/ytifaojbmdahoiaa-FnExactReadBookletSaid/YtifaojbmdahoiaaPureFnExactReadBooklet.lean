/- The program's ReadBooklet answers as the reference's for all sheets, leaves them as they were, and hands back memory of its own: no condition. -/
import Derived.Test.YtifaojbmdahoiaaOpsFnExactReadBooklet
import Derived.Test.YtifaojbmdahoiaaPlain
namespace Go.Proofs.Ytifaojbmdahoiaa.PureFnExactReadBooklet
open Go.RowKit Go.Proofs.Ytifaojbmdahoiaa.PFnExactReadBooklet Go.Proofs.Ytifaojbmdahoiaa.Opened Go.Proofs.Ytifaojbmdahoiaa.Plain Go.Proofs.YtifaojbmdahoiaaW.PrintWords Go.Proofs.YtifaojbmdahoiaaW.PrintLast Go.Proofs.YtifaojbmdahoiaaW.PrintMore
set_option linter.unusedVariables false
set_option linter.unusedSimpArgs false
def toSheet (x : S104) : S102 := ⟨x.f0, x.f1, x.f2, x.f3⟩
theorem toSheetS_l0 (x : List S104) (hx : x.length ≤ 1048576) (d : Nat) : ∀ (k : Nat) (y : List S102) (i : Nat), i + d = x.length → y.length = x.length → d < k → y.take i = (x.take i).map toSheet → laws_toSheetS.l0 k x y i = some (x.map toSheet) := by
  induction d with
  | zero =>
    intro k y i hi hl hk h
    obtain ⟨k, rfl⟩ : ∃ m, k = m + 1 := ⟨k - 1, by omega⟩
    rw [laws_toSheetS.l0, if_neg (by omega), take_all_map (by omega) hl h]
  | succ d ih =>
    intro k y i hi hl hk h
    obtain ⟨k, rfl⟩ : ∃ m, k = m + 1 := ⟨k - 1, by omega⟩
    rw [laws_toSheetS.l0, if_pos (by omega), if_pos (by omega)]
    simp only [laws_toSheet.f, Option.bind_some]
    rw [if_pos (by omega), wrap_cast i (by omega), Int.toNat_natCast]
    refine ih k _ (i + 1) (by omega) (by simpa using hl) (by omega) (take_set_map toSheet x y z104 _ i (by omega) hl h ?_)
    simp [toSheet, rd_T104]
theorem toSheetS_eq (x : List S104) (hx : x.length ≤ 1048576) (k : Nat) (hk : x.length < k) : laws_toSheetS.f k x = some (x.map toSheet) := by
  rw [laws_toSheetS.f, if_pos (by omega), if_pos (by omega)]
  exact toSheetS_l0 x hx x.length k _ 0 (by omega) (by simp) hk (by simp)
theorem eqSheet_eq (x : S102) : laws_eqSheet.f x.f0 x.f1 x.f2 x.f3 x.f0 x.f1 x.f2 x.f3 = some true := by simp [laws_eqSheet.f]
theorem eqSheetS_l0 (x : List S102) (hx : x.length ≤ 1048576) (d : Nat) : ∀ (k : Nat) (i : Nat), i + d = x.length → d < k → laws_eqSheetS.l0 k x x i = some true := by
  induction d with
  | zero =>
    intro k i hi hk
    obtain ⟨k, rfl⟩ : ∃ m, k = m + 1 := ⟨k - 1, by omega⟩
    rw [laws_eqSheetS.l0, if_neg (by omega)]
  | succ d ih =>
    intro k i hi hk
    obtain ⟨k, rfl⟩ : ∃ m, k = m + 1 := ⟨k - 1, by omega⟩
    rw [laws_eqSheetS.l0, if_pos (by omega), if_pos (by omega), if_pos (by omega), eqSheet_eq]
    simp only [Option.bind_some, if_true]
    rw [wrap_cast i (by omega)]
    exact ih k (i + 1) (by omega) (by omega)
theorem eqSheetS_eq (x : List S102) (hx : x.length ≤ 1048576) (k : Nat) (hk : x.length < k) : laws_eqSheetS.f k x x = some true := by
  rw [laws_eqSheetS.f, if_pos rfl]
  exact eqSheetS_l0 x hx x.length k 0 (by omega) hk
theorem szSheetS_eq (x : List S104) (hx : x.length ≤ maxLen) : laws_szSheetS.f x 1048576 = some (if x.length ≤ 1048576 then 1048576 - (x.length : Int) else -1) := by
  unfold maxLen at hx
  have e : wrap64 (1048576 - (x.length : Int)) = 1048576 - (x.length : Int) := wrap_id (by omega) (by omega)
  rw [laws_szSheetS.f, e]
  by_cases h : x.length ≤ 1048576
  · rw [if_neg (by omega), if_pos h]
  · rw [if_pos (by omega), if_neg h]
theorem eqIntS_l0 (x : List Int) (hx : x.length ≤ 1048576) (d : Nat) : ∀ (k : Nat) (i : Nat), i + d = x.length → d < k → laws_eqIntS.l0 k x x i = some true := by
  induction d with
  | zero =>
    intro k i hi hk
    obtain ⟨k, rfl⟩ : ∃ m, k = m + 1 := ⟨k - 1, by omega⟩
    rw [laws_eqIntS.l0, if_neg (by omega)]
  | succ d ih =>
    intro k i hi hk
    obtain ⟨k, rfl⟩ : ∃ m, k = m + 1 := ⟨k - 1, by omega⟩
    rw [laws_eqIntS.l0, if_pos (by omega), if_pos (by omega), if_pos (by omega), if_pos rfl, wrap_cast i (by omega)]
    exact ih k (i + 1) (by omega) (by omega)
theorem eqIntS_eq (x : List Int) (hx : x.length ≤ 1048576) (k : Nat) (hk : x.length < k) : laws_eqIntS.f k x x = some true := by
  rw [laws_eqIntS.f, if_pos rfl]
  exact eqIntS_l0 x hx x.length k 0 (by omega) hk
def markL : Nat → Int → List Int
  | 0, _ => []
  | n + 1, m => m :: markL n (m + 1)
theorem markL_length (n : Nat) : ∀ m, (markL n m).length = n := by
  induction n with
  | zero => intro m; rfl
  | succ n ih => intro m; simp [markL, ih]
theorem set_at {α : Type} (p r : List α) (a b : α) : (p ++ a :: r).set p.length b = p ++ b :: r := by
  rw [List.set_append_right _ _ (Nat.le_refl _)]; simp
theorem markIntS_l0 (r : List Int) : ∀ (k : Nat) (p : List Int) (m : Int), r.length < k → p.length + r.length ≤ 8388608 → 0 ≤ m → m + r.length ≤ 100000000 → laws_markIntS.l0 k (p ++ r) m p.length = some (m + r.length, p ++ markL r.length m) := by
  induction r with
  | nil =>
    intro k p m hk hp h0 h1
    obtain ⟨k, rfl⟩ : ∃ q, k = q + 1 := ⟨k - 1, by omega⟩
    rw [laws_markIntS.l0, if_neg (by simp)]
    simp [markL]
  | cons a r ih =>
    intro k p m hk hp h0 h1
    simp only [List.length_cons] at hk hp h1
    obtain ⟨k, rfl⟩ : ∃ q, k = q + 1 := ⟨k - 1, by omega⟩
    have := ih k (p ++ [m]) (m + 1) (by omega) (by simp; omega) (by omega) (by omega)
    rw [laws_markIntS.l0, if_pos (by simp; omega), if_pos (by omega), Int.toNat_natCast, set_at, wrap_id (x := m + 1) (by omega) (by omega), wrap_cast p.length (by omega)]
    simp only [List.append_assoc, List.cons_append, List.nil_append, List.length_append, List.length_cons, List.length_nil, Nat.zero_add] at this
    rw [this]
    simp only [List.length_cons, markL]
    congr 2; omega
theorem markIntS_eq (x : List Int) (m : Int) (k : Nat) (hk : x.length < k) (hx : x.length ≤ 8388608) (h0 : 0 ≤ m) (h1 : m + x.length ≤ 100000000) : laws_markIntS.f k x m = some (m + x.length, markL x.length m) := by
  have := markIntS_l0 x k [] m hk (by simpa using hx) h0 h1
  simpa [laws_markIntS.f] using this
theorem heldIntS_l0 (n : Nat) : ∀ (k : Nat) (p : List Int) (m : Int), n < k → p.length + n ≤ 8388608 → 0 ≤ m → m + n ≤ 100000000 → laws_heldIntS.l0 k (p ++ markL n m) m p.length = some (m + n) := by
  induction n with
  | zero =>
    intro k p m hk hp h0 h1
    obtain ⟨k, rfl⟩ : ∃ q, k = q + 1 := ⟨k - 1, by omega⟩
    rw [laws_heldIntS.l0, if_neg (by simp [markL])]
    simp
  | succ n ih =>
    intro k p m hk hp h0 h1
    obtain ⟨k, rfl⟩ : ∃ q, k = q + 1 := ⟨k - 1, by omega⟩
    have := ih k (p ++ [m]) (m + 1) (by omega) (by simp; omega) (by omega) (by omega)
    have e : rd (p ++ markL (n + 1) m) (p.length : Int) = m := by rw [rd_nat]; simp [markL]
    rw [laws_heldIntS.l0, if_pos (by simp [markL_length]; omega), if_pos (by omega), e, if_pos rfl, wrap_id (x := m + 1) (by omega) (by omega), wrap_cast p.length (by omega)]
    simp only [List.append_assoc, List.cons_append, List.nil_append, List.length_append, List.length_cons, List.length_nil, Nat.zero_add] at this
    simp only [markL]
    rw [this]
    congr 1; omega
theorem heldIntS_eq (n : Nat) (m : Int) (k : Nat) (hk : n < k) (hn : n ≤ 8388608) (h0 : 0 ≤ m) (h1 : m + n ≤ 100000000) : laws_heldIntS.f k (markL n m) m = some (m + n) := by
  have := heldIntS_l0 n k [] m hk (by simpa using hn) h0 h1
  simpa [laws_heldIntS.f] using this
theorem markSheetS_l0 (n : Nat) (hn : n ≤ 1048576) (d : Nat) : ∀ (k : Nat) (y : List S102) (m : Int) (i : Nat), i + d = n → y.length = n → d < k → 0 ≤ m → m + 4 * d ≤ 100000000 → ∃ y', laws_markSheetS.l0 k y m i = some (m + 4 * d, y') := by
  induction d with
  | zero =>
    intro k y m i hi hl hk h0 h1
    obtain ⟨k, rfl⟩ : ∃ q, k = q + 1 := ⟨k - 1, by omega⟩
    rw [laws_markSheetS.l0, if_neg (by omega)]
    exact ⟨y, by simp⟩
  | succ d ih =>
    intro k y m i hi hl hk h0 h1
    obtain ⟨k, rfl⟩ : ∃ q, k = q + 1 := ⟨k - 1, by omega⟩
    rw [laws_markSheetS.l0, if_pos (by omega), if_pos (by omega)]
    simp only [Option.bind_some]
    rw [wrap_id (x := m + 1) (by omega) (by omega), wrap_id (x := m + 1 + 1) (by omega) (by omega), wrap_id (x := m + 1 + 1 + 1) (by omega) (by omega), wrap_id (x := m + 1 + 1 + 1 + 1) (by omega) (by omega), wrap_cast i (by omega)]
    have key : ∀ Y : List S102, Y.length = n → ∃ y', laws_markSheetS.l0 k Y (m + 1 + 1 + 1 + 1) ((i + 1 : Nat) : Int) = some (m + 4 * ((d + 1 : Nat) : Int), y') := fun Y hY => by
      obtain ⟨y', e⟩ := ih k Y (m + 1 + 1 + 1 + 1) (i + 1) (by omega) hY (by omega) (by omega) (by omega)
      exact ⟨y', by rw [e]; congr 2; omega⟩
    exact key _ (by simpa using hl)
theorem l1_same (k : Nat) (x : List S102) (o : List Int) (i : Int) : impl_ReadBooklet.l1 k x o i = spec_ReadBooklet.l1 k x o i := by
  induction k generalizing o i with
  | zero => rfl
  | succ k ih => simp only [impl_ReadBooklet.l1, spec_ReadBooklet.l1, ih]
theorem l1_some (x : List S102) (hx : x.length ≤ 1048576) (d : Nat) : ∀ (k : Nat) (o : List Int), d < k → d ≤ x.length → o.length + 2 * d ≤ 4194304 → ∃ q, spec_ReadBooklet.l1 k x o ((d : Int) - 1) = some q ∧ q.length = o.length + 2 * d := by
  induction d with
  | zero =>
    intro k o hk hd ho
    obtain ⟨k, rfl⟩ : ∃ q, k = q + 1 := ⟨k - 1, by omega⟩
    rw [spec_ReadBooklet.l1, if_neg (by omega)]
    exact ⟨o, rfl, by omega⟩
  | succ d ih =>
    intro k o hk hd ho
    obtain ⟨k, rfl⟩ : ∃ q, k = q + 1 := ⟨k - 1, by omega⟩
    rw [spec_ReadBooklet.l1, if_pos (by omega), if_pos (by omega), if_pos (by omega)]
    simp only [Option.bind_some]
    rw [if_pos (by simp; omega), wrap_id (by omega) (by omega), show ((d + 1 : Nat) : Int) - 1 - 1 = (d : Int) - 1 by omega]
    obtain ⟨q, e, hq⟩ := ih k (o ++ [(rd_T102 x (((d + 1 : Nat) : Int) - 1)).f3, (rd_T102 x (((d + 1 : Nat) : Int) - 1)).f0]) (by omega) (by omega) (by simp; omega)
    exact ⟨q, e, by simp at hq; omega⟩
theorem l0_some (x : List S102) (hx : x.length ≤ 1048576) (d : Nat) : ∀ (k : Nat) (o : List Int) (i : Nat), i + d = x.length → d + x.length + 1 < k → o.length = 2 * i → ∃ q, spec_ReadBooklet.l0 k x o i = some q ∧ impl_ReadBooklet.l0 k x o x x.length i = some q ∧ q.length = 4 * x.length := by
  induction d with
  | zero =>
    intro k o i hi hk ho
    obtain ⟨k, rfl⟩ : ∃ q, k = q + 1 := ⟨k - 1, by omega⟩
    obtain ⟨q, e, hq⟩ := l1_some x hx x.length k o (by omega) (by omega) (by omega)
    have c : ¬ (i : Int) < (x.length : Int) := by omega
    simp only [spec_ReadBooklet.l0, impl_ReadBooklet.l0, if_neg c, l1_same, wrap_id (x := (x.length : Int) - 1) (by omega) (by omega), e]
    exact ⟨q, rfl, rfl, by omega⟩
  | succ d ih =>
    intro k o i hi hk ho
    obtain ⟨k, rfl⟩ : ∃ q, k = q + 1 := ⟨k - 1, by omega⟩
    have c1 : (i : Int) < (x.length : Int) := by omega
    have c2 : 0 ≤ (i : Int) := by omega
    have c3 : o.length + [(rd_T102 x i).f1, (rd_T102 x i).f2].length < 17592186044416 := by simp; omega
    simp only [spec_ReadBooklet.l0, impl_ReadBooklet.l0, if_pos c1, if_pos c2, Option.bind_some, if_pos c3, wrap_cast i (by omega)]
    exact ih k _ (i + 1) (by omega) (by omega) (by simp; omega)
theorem read_eq (x : List S102) (hx : x.length ≤ 1048576) (k : Nat) (hk : 2 * x.length + 1 < k) : ∃ q, spec_ReadBooklet.f k x = some q ∧ impl_ReadBooklet.f k x = some q ∧ q.length = 4 * x.length := l0_some x hx x.length k [] 0 (by omega) (by omega) rfl
theorem eqIntS_l0' (x : List Int) (hx : x.length ≤ 4194304) (d : Nat) : ∀ (k : Nat) (i : Nat), i + d = x.length → d < k → laws_eqIntS.l0 k x x i = some true := by
  induction d with
  | zero =>
    intro k i hi hk
    obtain ⟨k, rfl⟩ : ∃ m, k = m + 1 := ⟨k - 1, by omega⟩
    rw [laws_eqIntS.l0, if_neg (by omega)]
  | succ d ih =>
    intro k i hi hk
    obtain ⟨k, rfl⟩ : ∃ m, k = m + 1 := ⟨k - 1, by omega⟩
    rw [laws_eqIntS.l0, if_pos (by omega), if_pos (by omega), if_pos (by omega), if_pos rfl, wrap_cast i (by omega)]
    exact ih k (i + 1) (by omega) (by omega)
theorem eqIntS_eq' (x : List Int) (hx : x.length ≤ 4194304) (k : Nat) (hk : x.length < k) : laws_eqIntS.f k x x = some true := by
  rw [laws_eqIntS.f, if_pos rfl]
  exact eqIntS_l0' x hx x.length k 0 (by omega) hk
theorem pure : laws_FnExactReadBooklet.Stm := by
  intro l hl _
  refine ⟨4 * l.length + 10, ?_⟩
  rw [laws_FnExactReadBooklet.f, szSheetS_eq l hl]
  simp only [Option.bind_some]
  by_cases h : l.length ≤ 1048576
  · rw [if_pos h, if_neg (by omega), toSheetS_eq l h _ (by omega)]
    have h' : (l.map toSheet).length ≤ 1048576 := by simpa using h
    have hm : (l.map toSheet).length = l.length := by simp
    obtain ⟨q, e1, e2, e3⟩ := read_eq (l.map toSheet) h' (4 * l.length + 10) (by omega)
    obtain ⟨q', _, e2', _⟩ := read_eq (l.map toSheet) h' (4 * l.length + 9) (by omega)
    have hq : q' = q := Option.some.inj ((impl_ReadBooklet.mono _ (4 * l.length + 9) q' e2').symm.trans e2)
    subst hq
    obtain ⟨y', e4⟩ := markSheetS_l0 (l.map toSheet).length h' (l.map toSheet).length (4 * l.length + 10) (l.map toSheet) 1 0 (by omega) rfl (by omega) (by omega) (by omega)
    simp only [Option.bind_some, e1, e2, eqIntS_eq' q' (by omega) _ (by omega : q'.length < 4 * l.length + 10), if_true, eqSheetS_eq _ h' _ (by omega : (l.map toSheet).length < 4 * l.length + 10)]
    rw [laws_markSheetS.f, show (0 : Int) = ((0 : Nat) : Int) from rfl, e4]
    simp only [Option.bind_some]
    rw [if_neg (by omega), show 4 * l.length + 10 = (4 * l.length + 9) + 1 by omega, laws_FnExactReadBooklet.j0]
    simp only [Bool.not_true, Bool.false_eq_true, if_false]
    rw [markIntS_eq q' 1 _ (by omega) (by omega) (by omega) (by omega)]
    simp only [Option.bind_some]
    rw [heldIntS_eq q'.length 1 _ (by omega) (by omega) (by omega) (by omega)]
    simp only [Option.bind_some]
    rw [if_neg (by omega)]
    simp only [if_true]
    rw [toSheetS_eq l h _ (by omega)]
    simp only [Option.bind_some, e2']
    rw [eqIntS_eq' q' (by omega) _ (by omega)]
    simp only [Option.bind_some, if_true]
    rw [if_neg (by omega)]
  · rw [if_neg h, if_pos (by omega)]
end Go.Proofs.Ytifaojbmdahoiaa.PureFnExactReadBooklet
