/- The words of a text between its spaces, on lists of bytes: how Go's Split tells them, and that they are told from the text alone. -/
import Derived.Lib.SplitLaws
import Derived.Lib.Join
import Derived.Lib.ItoaNum
namespace Go.Proofs.YtneeokmfpiacoaaDoor.WordsOf

def pieces : List UInt8 → List (List UInt8)
  | [] => [[]]
  | c :: l => if c = 32 then [] :: pieces l else match pieces l with
    | p :: ps => (c :: p) :: ps
    | [] => [[c]]
theorem pieces_ne : ∀ l, pieces l ≠ []
  | [] => by simp [pieces]
  | c :: l => by
    unfold pieces
    split
    · simp
    · split <;> simp
theorem splitK_eq : ∀ l : List UInt8, Lib.splitK [32] 0 (Lib.count l [32]) l = pieces l
  | [] => by rw [Lib.count_one]; rfl
  | c :: l => by
    have ih := splitK_eq l
    by_cases h : c = 32
    · subst h
      rw [Lib.count_cons_eq, Nat.add_comm, Lib.splitK, Lib.index_one]
      simp only [Lib.indexByte]
      simp [pieces, ih]
    · rw [Lib.count_cons_ne _ _ _ h]
      have hp : pieces (c :: l) = match pieces l with
        | p :: ps => (c :: p) :: ps
        | [] => [[c]] := by rw [pieces, if_neg h]
      rw [hp, ← ih]
      cases hn : Lib.count l [32] with
      | zero => rfl
      | succ m =>
        have hi : ¬ (Lib.indexByte l 32 == -1) = true := fun e => by
          have := Lib.count_miss (s := l) (sub := [32]) (by rw [Lib.index_one]; exact beq_iff_eq.1 e)
          omega
        have hi' : ¬ Lib.indexByte l 32 = -1 := fun e => hi (beq_iff_eq.2 e)
        have hg := Lib.indexByte_ge l 32
        obtain ⟨i, hi2⟩ : ∃ i : Nat, Lib.indexByte l 32 = i := ⟨(Lib.indexByte l 32).toNat, by omega⟩
        have hx : Lib.indexByte (c :: l) 32 = ((i + 1 : Nat) : Int) := by
          rw [Lib.indexByte, if_neg (by simpa using h), if_neg hi, hi2]; rfl
        rw [Lib.splitK, Lib.splitK, Lib.index_one, Lib.index_one, hx, hi2, if_neg (by simp; omega), if_neg (by simp)]
        simp
theorem pieces_free : ∀ l, ∀ p ∈ pieces l, (32 : UInt8) ∉ p
  | [], p, h => by simp [pieces] at h; simp [h]
  | c :: l, p, h => by
    have ih := pieces_free l
    unfold pieces at h
    by_cases hc : c = 32
    · rw [if_pos hc] at h
      rcases List.mem_cons.1 h with rfl | h
      · simp
      · exact ih p h
    · rw [if_neg hc] at h
      split at h
      · rename_i q qs hq
        rcases List.mem_cons.1 h with rfl | h
        · have := ih q (by rw [hq]; simp)
          simp [this]; exact fun e => hc e.symm
        · exact ih p (by rw [hq]; exact List.mem_cons_of_mem _ h)
      · rename_i hq
        exact absurd hq (pieces_ne l)
def words (l : List UInt8) : List (List UInt8) := (pieces l).filter (fun p => !p.isEmpty)
theorem words_free (l : List UInt8) (p : List UInt8) (h : p ∈ words l) : (32 : UInt8) ∉ p := pieces_free l p (List.mem_filter.1 h).1
/-- Texts of words without spaces, put together, tell the words. -/
theorem head_eq : ∀ (x y r t : List UInt8), (32 : UInt8) ∉ x → (32 : UInt8) ∉ y → (r = [] ∨ ∃ r', r = 32 :: r') → (t = [] ∨ ∃ t', t = 32 :: t') → x ++ r = y ++ t → x = y ∧ r = t
  | [], [], r, t, _, _, _, _, h => ⟨rfl, h⟩
  | [], b :: y, r, t, _, hy, hr, _, h => by
    rcases hr with rfl | ⟨r', rfl⟩
    · simp at h
    · simp at h; exact absurd h.1 (fun e => hy (by simp [← e]))
  | a :: x, [], r, t, hx, _, _, ht, h => by
    rcases ht with rfl | ⟨t', rfl⟩
    · simp at h
    · simp at h; exact absurd h.1 (fun e => hx (by simp [e]))
  | a :: x, b :: y, r, t, hx, hy, hr, ht, h => by
    simp only [List.cons_append, List.cons.injEq] at h
    obtain ⟨h1, h2⟩ := head_eq x y r t (fun e => hx (List.mem_cons_of_mem _ e)) (fun e => hy (List.mem_cons_of_mem _ e)) hr ht h.2
    exact ⟨by rw [h.1, h1], h2⟩
theorem tail_form (r : List (List UInt8)) : Lib.joinTail [32] r = [] ∨ ∃ r', Lib.joinTail [32] r = 32 :: r' := by
  cases r with
  | nil => left; rfl
  | cons y r => right; exact ⟨_, by simp [Lib.joinTail]; rfl⟩
theorem tail_inj : ∀ (r t : List (List UInt8)), (∀ p ∈ r, (32 : UInt8) ∉ p) → (∀ p ∈ t, (32 : UInt8) ∉ p) → Lib.joinTail [32] r = Lib.joinTail [32] t → r = t
  | [], [], _, _, _ => rfl
  | [], _ :: _, _, _, h => by simp [Lib.joinTail] at h
  | _ :: _, [], _, _, h => by simp [Lib.joinTail] at h
  | x :: r, y :: t, hr, ht, h => by
    have h' : x ++ Lib.joinTail [32] r = y ++ Lib.joinTail [32] t := by simpa [Lib.joinTail] using h
    obtain ⟨h1, h2⟩ := head_eq x y _ _ (hr x (by simp)) (ht y (by simp)) (tail_form r) (tail_form t) h'
    rw [h1, tail_inj r t (fun p hp => hr p (List.mem_cons_of_mem _ hp)) (fun p hp => ht p (List.mem_cons_of_mem _ hp)) h2]
theorem join_inj (x y : List UInt8) (r t : List (List UInt8)) (hr : ∀ p ∈ x :: r, (32 : UInt8) ∉ p) (ht : ∀ p ∈ y :: t, (32 : UInt8) ∉ p) (h : Lib.join (x :: r) [32] = Lib.join (y :: t) [32]) : x :: r = y :: t := by
  rw [Lib.join_cons, Lib.join_cons] at h
  obtain ⟨h1, h2⟩ := head_eq x y _ _ (hr x (by simp)) (ht y (by simp)) (tail_form r) (tail_form t) h
  rw [h1, tail_inj r t (fun p hp => hr p (List.mem_cons_of_mem _ hp)) (fun p hp => ht p (List.mem_cons_of_mem _ hp)) h2]
theorem dec_free (m : Nat) : (32 : UInt8) ∉ Lib.decDigits m := by
  induction m using Nat.strongRecOn with
  | _ m ih =>
    have q : ∀ d : Fin 10, (32 : UInt8) ≠ UInt8.ofNat (48 + d.val) := by decide
    rw [Lib.decDigits]
    split
    · rename_i h
      simp only [List.mem_singleton]
      exact q ⟨m, h⟩
    · rw [List.mem_append]
      rintro (h | h)
      · exact ih (m / 10) (by omega) h
      · simp only [List.mem_singleton] at h
        exact q ⟨m % 10, by omega⟩ h
theorem pieces_app : ∀ (cur rest p : List UInt8) (ps : List (List UInt8)), (32 : UInt8) ∉ cur → pieces rest = p :: ps → pieces (cur ++ rest) = (cur ++ p) :: ps
  | [], _, _, _, _, h => h
  | c :: cur, rest, p, ps, hc, h => by
    have ih := pieces_app cur rest p ps (fun e => hc (List.mem_cons_of_mem _ e)) h
    have hne : ¬ c = 32 := fun e => hc (by simp [e])
    rw [List.cons_append, pieces, if_neg hne, ih]
    rfl
theorem words_space (cur r : List UInt8) (hc : (32 : UInt8) ∉ cur) : words (cur ++ 32 :: r) = (if cur.isEmpty = true then [] else [cur]) ++ words r := by
  have h : pieces (32 :: r) = [] :: pieces r := by rw [pieces, if_pos rfl]
  unfold words
  rw [pieces_app cur _ _ _ hc h, List.append_nil, List.filter_cons]
  cases cur with
  | nil => simp
  | cons c cur => simp
theorem words_end (cur : List UInt8) (hc : (32 : UInt8) ∉ cur) : words cur = (if cur.isEmpty = true then [] else [cur]) := by
  have h := pieces_app cur [] [] [] hc rfl
  rw [List.append_nil] at h
  unfold words
  rw [h]
  cases cur with
  | nil => rfl
  | cons c cur => rfl
/-- One pass over a text: the words so far, the word under way. -/
def okc (c : UInt8) : Bool := decide (32 ≤ c.toNat) && decide (c.toNat ≤ 126)
def mk (l : List UInt8) : ByteArray := ⟨l.toArray⟩
def fin (x : List ByteArray) : List ByteArray × Bool := if 24 < x.length then ([], false) else (x, true)
def put (x : List ByteArray) (cur : List UInt8) : List ByteArray := x ++ (if cur.isEmpty = true then [] else [mk cur])
def run : List UInt8 → List UInt8 → List ByteArray → List ByteArray × Bool
  | [], cur, x => fin (put x cur)
  | c :: r, cur, x => if okc c = true then (if c = 32 then run r [] (put x cur) else run r (cur ++ [c]) x) else ([], false)
theorem put_map (x : List ByteArray) (cur : List UInt8) : put x cur = x ++ (if cur.isEmpty = true then [] else [cur]).map mk := by
  unfold put; split <;> rfl
theorem run_eq : ∀ (rest cur : List UInt8) (x : List ByteArray), (32 : UInt8) ∉ cur → run rest cur x = if rest.all okc = true then fin (x ++ (words (cur ++ rest)).map mk) else ([], false)
  | [], cur, x, hc => by rw [run, List.append_nil, words_end cur hc, put_map]; rfl
  | c :: r, cur, x, hc => by
    rw [run, List.all_cons]
    by_cases h : okc c = true
    · rw [if_pos h, h, Bool.true_and]
      by_cases hs : c = 32
      · subst hs
        rw [if_pos rfl, run_eq r [] _ (by simp), put_map, words_space cur r hc, List.map_append, List.nil_append, List.append_assoc]
      · rw [if_neg hs, run_eq r (cur ++ [c]) x (by simp [hc]; exact fun e => hs e.symm), List.append_assoc]; rfl
    · rw [if_neg h]
      rw [Bool.not_eq_true] at h
      rw [h, Bool.false_and]; rfl
end Go.Proofs.YtneeokmfpiacoaaDoor.WordsOf
