/- Jobs are read back from their texts, and their sheets have all pages of every copy, whatever is drawn: no condition but that the library's tables hold what the program's text lays there. -/
import Derived.Test.YtneeokmfpiacoaaDoorOpsFnJobs
import Derived.Test.YtneeokmfpiacoaaDoorPlain
import Derived.Test.YtneeokmfpiacoaaDoorWordsOf
namespace Go.Proofs.YtneeokmfpiacoaaDoor.PureFnJobs
open Go.RowKit Go.Proofs.YtneeokmfpiacoaaDoor.PFnJobs Go.Proofs.YtneeokmfpiacoaaDoor.Opened Go.Proofs.YtneeokmfpiacoaaDoor.Plain Go.Proofs.YtneeokmfpiacoaaDoorW.PrintWords Go.Proofs.YtneeokmfpiacoaaDoorW.PrintLast Go.Proofs.YtneeokmfpiacoaaDoorW.PrintMore
def inB (a b c : Int) : Bool := if a ≥ b then decide (a ≤ c) else false
theorem within_eq (a b c : Int) : impl_within.f a b c = some (inB a b c) := by unfold impl_within.f inB; split <;> rfl
theorem inB_iff (a b c : Int) : inB a b c = true ↔ b ≤ a ∧ a ≤ c := by unfold inB; split <;> simp <;> omega
def okB (a b c e : Int) : Bool := inB a 1 9999 && (inB b 1 64 && (inB c 1 20 && inB e 0 9))
theorem iok_eq (a b c : Int) (d : Bool) (e : Int) (f : Bool) : impl_JobOk.f a b c d e f = some (okB a b c e) := by
  unfold impl_JobOk.f okB
  simp only [within_eq, Option.bind_some]
  cases inB a 1 9999 <;> cases inB b 1 64 <;> cases inB c 1 20 <;> cases inB e 0 9 <;> rfl
theorem okB_iff (a b c e : Int) : okB a b c e = true ↔ (1 ≤ a ∧ a ≤ 9999) ∧ (1 ≤ b ∧ b ≤ 64) ∧ (1 ≤ c ∧ c ≤ 20) ∧ (0 ≤ e ∧ e ≤ 9) := by
  simp [okB, inB_iff]
/-! The texts of numbers and of jobs. -/
def num (n : Int) : ByteArray := ⟨(Lib.itoa n).toArray⟩
def sp : ByteArray := ⟨#[32]⟩
def dup : ByteArray := ⟨#[32, 100, 117, 112, 108, 101, 120]⟩
def hel : ByteArray := ⟨#[32, 104, 101, 108, 100]⟩
theorem sp_size : sp.size = 1 := rfl
theorem dup_size : dup.size = 7 := rfl
theorem hel_size : hel.size = 5 := rfl
theorem ba_ext {a b : ByteArray} (h : a.data.toList = b.data.toList) : a = b := by
  cases a; cases b; simp only [ByteArray.mk.injEq]; exact Array.toList_inj.1 h
theorem ba_append (a b : ByteArray) : (a ++ b).data.toList = a.data.toList ++ b.data.toList := by
  rw [ByteArray.data_append, Array.toList_append]
theorem num_list (n : Int) : (num n).data.toList = Lib.itoa n := rfl
theorem num_size (n : Nat) : (num (n : Int)).size = Lib.nDigits n := by
  have h : (num (n : Int)).size = (Lib.itoa (n : Int)).length := by simp [num, ByteArray.size]
  rw [h]
  unfold Lib.itoa
  rw [if_neg (by omega), Lib.decDigits_length]
  rfl
theorem nDigits_le : ∀ (d : Nat) (m : Nat), m < 10 ^ d → Lib.nDigits m ≤ d + 1
  | 0, m, h => by rw [Lib.nDigits_small (by simp at h; omega)]; omega
  | d + 1, m, h => by
    by_cases c : m < 10
    · rw [Lib.nDigits_small c]; omega
    · rw [Lib.nDigits_big c]
      have := nDigits_le d (m / 10) (by rw [Nat.pow_succ] at h; omega)
      omega
theorem implFmt (n : Int) (h0 : 0 ≤ n) (h1 : n ≤ 9999999999) : impl_FormatInt.f n = some (num n) := by
  unfold impl_FormatInt.f strconv_Itoa_32.f
  rw [if_pos ⟨by omega, by omega⟩]
  rfl
theorem num_le (n : Int) (h0 : 0 ≤ n) (h1 : n ≤ 9999999999) : (num n).size ≤ 11 := by
  obtain ⟨m, rfl⟩ : ∃ m : Nat, n = (m : Int) := ⟨n.toNat, by omega⟩
  rw [num_size]
  exact nDigits_le 10 m (by have : (10 : Nat) ^ 10 = 10000000000 := by decide
                            omega)
/-- A job's text. -/
def jobText (a b c : Int) (d : Bool) (e : Int) (f : Bool) : ByteArray :=
  num a ++ sp ++ num b ++ sp ++ num c ++ sp ++ num e ++ (if d = true then dup else ⟨#[]⟩) ++ (if f = true then hel else ⟨#[]⟩)
theorem ba_nil (a : ByteArray) : a ++ (⟨#[]⟩ : ByteArray) = a := by
  apply ba_ext; rw [ba_append]; exact List.append_nil _
theorem joinEq (x : ByteArray) (r : List ByteArray) (h : r.length ≤ 1000) (hs : (Lib.join ((x :: r).map (·.data.toList)) sp.data.toList).length ≤ 1000) :
    strings_Join.f (x :: r) sp = some (r.foldl (fun z y => z ++ sp ++ y) x) := by
  unfold strings_Join.f
  rw [if_pos ⟨by simp only [List.length_cons]; omega, by omega⟩]
  congr 1
  apply ba_ext
  show Lib.join (x.data.toList :: r.map (·.data.toList)) sp.data.toList = _
  rw [Lib.join_cons]
  clear h hs
  induction r generalizing x with
  | nil => simp [Lib.joinTail]
  | cons y r ih =>
    rw [List.foldl_cons, ← ih (x ++ sp ++ y)]
    simp [Lib.joinTail, List.append_assoc]
theorem dup_eq : dup = sp ++ (⟨#[100, 117, 112, 108, 101, 120]⟩ : ByteArray) := by apply ba_ext; rw [ba_append]; rfl
theorem hel_eq : hel = sp ++ (⟨#[104, 101, 108, 100]⟩ : ByteArray) := by apply ba_ext; rw [ba_append]; rfl
theorem num_list_le (n : Int) (h : (num n).size ≤ 11) : (num n).data.toList.length ≤ 11 := by
  have e : (num n).data.toList.length = (num n).size := by rw [Array.length_toList]; rfl
  rw [e]; exact h
theorem implJob (a b c : Int) (d : Bool) (e : Int) (f : Bool) : impl_FormatJob.f a b c d e f = some (if okB a b c e = true then (jobText a b c d e f, true) else (⟨#[]⟩, false)) := by
  unfold impl_FormatJob.f
  rw [iok_eq, Option.bind_some]
  by_cases h : okB a b c e = true
  · rw [if_pos h, if_pos h]
    obtain ⟨⟨h1, h2⟩, ⟨h3, h4⟩, ⟨h5, h6⟩, h7, h8⟩ := (okB_iff a b c e).1 h
    have s1 := num_list_le a (num_le a (by omega) (by omega))
    have s2 := num_list_le b (num_le b (by omega) (by omega))
    have s3 := num_list_le c (num_le c (by omega) (by omega))
    have s4 := num_list_le e (num_le e (by omega) (by omega))
    rw [implFmt a (by omega) (by omega), implFmt b (by omega) (by omega), implFmt c (by omega) (by omega), implFmt e (by omega) (by omega)]
    simp only [Option.bind_some, List.length_cons, List.length_nil, List.length_append, List.cons_append, List.nil_append]
    have j (x y z u : ByteArray) (r : List ByteArray) (hr : r.length ≤ 2) (hx : x.data.toList.length ≤ 11) (hy : y.data.toList.length ≤ 11) (hz : z.data.toList.length ≤ 11) (hu : u.data.toList.length ≤ 11) (hq : (r.map (·.data.toList.length)).sum ≤ 10) : strings_Join.f (x :: y :: z :: u :: r) sp = some ((y :: z :: u :: r).foldl (fun z y => z ++ sp ++ y) x) := by
      refine joinEq x _ (by simp only [List.length_cons]; omega) ?_
      rw [List.map_cons, Lib.join_cons, List.length_append, Lib.joinTail_length]
      simp only [Lib.lens, List.map_cons, List.map_map, List.length_cons, List.sum_cons, List.length_map]
      have e1 : sp.data.toList.length = 1 := rfl
      have e2 : (List.map (List.length ∘ fun x : ByteArray => x.data.toList) r).sum = (r.map (·.data.toList.length)).sum := rfl
      rw [e1, e2]
      omega
    cases d <;> cases f
    · rw [if_neg (by decide), if_neg (by decide)]
      erw [j _ _ _ _ [] (by decide) s1 s2 s3 s4 (by decide)]
      simp [jobText, ba_nil]
    · rw [if_neg (by decide), if_pos rfl, if_pos (by decide)]
      erw [j _ _ _ _ [_] (by decide) s1 s2 s3 s4 (by decide)]
      simp [jobText, ba_nil, hel_eq, ByteArray.append_assoc]
    · rw [if_pos rfl, if_pos (by decide), if_neg (by decide)]
      erw [j _ _ _ _ [_] (by decide) s1 s2 s3 s4 (by decide)]
      simp [jobText, ba_nil, dup_eq, ByteArray.append_assoc]
    · rw [if_pos rfl, if_pos (by decide), if_pos rfl, if_pos (by decide)]
      erw [j _ _ _ _ [_, _] (by decide) s1 s2 s3 s4 (by decide)]
      simp [jobText, dup_eq, hel_eq, ByteArray.append_assoc]
  · rw [if_neg h, if_neg h]
/-! A text's fields: the reference and the program tell the same. -/
open Go.Proofs.YtneeokmfpiacoaaDoor.WordsOf in
def fields (a : ByteArray) : List ByteArray × Bool := if 600 < a.size then ([], false) else run a.data.toList [] []
open Go.Proofs.YtneeokmfpiacoaaDoor.WordsOf
theorem mk_eq (a : ByteArray) (l : List UInt8) (h : a.data.toList = l) : a = mk l := ba_ext (by rw [h]; rfl)
theorem at_drop (a : ByteArray) (i : Nat) (c : UInt8) (r : List UInt8) (h : a.data.toList.drop i = c :: r) : i < a.size ∧ a.data.toList.drop (i + 1) = r ∧ bt a (i : Int) = (c.toNat : Int) ∧ a.data.toList[i]? = some c := by
  have hl : i < a.data.toList.length := by
    rcases Nat.lt_or_ge i a.data.toList.length with q | q
    · exact q
    · rw [List.drop_eq_nil_of_le q] at h; cases h
  have hs : i < a.size := by rw [Lib.size_eq]; exact hl
  rw [List.drop_eq_getElem_cons hl] at h
  injection h with h1 h2
  refine ⟨hs, h2, ?_, by rw [List.getElem?_eq_getElem hl, h1]⟩
  unfold bt
  rw [dif_pos (by simpa using hs)]
  have : a[i] = c := by rw [← h1]; rfl
  show ((a[((i : Int)).toNat]'_).toNat : Int) = _
  simp only [Int.toNat_natCast, this]
theorem wrap_succ (i : Nat) (h : i ≤ 100000) : wrap64 ((i : Int) + 1) = ((i + 1 : Nat) : Int) := by unfold wrap64; omega
theorem cur_snoc (L : List UInt8) (b i : Nat) (c : UInt8) (hb : b ≤ i) (h : L[i]? = some c) : (L.drop b).take (i + 1 - b) = (L.drop b).take (i - b) ++ [c] := by
  rw [show i + 1 - b = (i - b) + 1 by omega, List.take_add_one, List.getElem?_drop, show b + (i - b) = i by omega, h]; rfl
theorem cur_empty (L : List UInt8) (b i : Nat) (hb : b ≤ i) (hi : i ≤ L.length) : ((L.drop b).take (i - b)).isEmpty = true ↔ ¬ b < i := by
  rw [List.isEmpty_iff_length_eq_zero, List.length_take, List.length_drop]; omega
theorem extract_mk (a : ByteArray) (b i : Nat) : a.extract b i = mk ((a.data.toList.drop b).take (i - b)) := mk_eq _ _ (by rw [Lib.extract_data])
/-- The program's fields. -/
theorem impl_l1 : ∀ (d : Nat) (x t : List ByteArray) (i k : Nat), i + d = t.length → d < k → t.length ≤ 100000 → x.length + d ≤ 100000 →
    impl_SplitFields.l1 k x t (t.length : Int) (i : Int) = some (fin (x ++ (t.drop i).filter (fun y => !y.data.toList.isEmpty)))
  | 0, x, t, i, k, hi, hk, ht, hx => by
    obtain ⟨k, rfl⟩ : ∃ m, k = m + 1 := ⟨k - 1, by omega⟩
    simp only [impl_SplitFields.l1]
    rw [if_neg (by omega), List.drop_eq_nil_of_le (by omega), List.filter_nil, List.append_nil]
    unfold fin
    by_cases c : 24 < x.length
    · rw [if_pos (by omega), if_pos c]
    · rw [if_neg (by omega), if_neg c]
  | d + 1, x, t, i, k, hi, hk, ht, hx => by
    obtain ⟨k, rfl⟩ : ∃ m, k = m + 1 := ⟨k - 1, by omega⟩
    have hlt : i < t.length := by omega
    have he : rdOf ByteArray.empty t (i : Int) = t[i] := by simp [rdOf, List.getElem?_eq_getElem hlt, List.getD_eq_getElem?_getD]
    simp only [impl_SplitFields.l1]
    rw [if_pos (by omega), if_pos (by omega), if_pos (by omega), he, wrap_succ i (by omega), Lib.toList_data, List.drop_eq_getElem_cons hlt, List.filter_cons]
    by_cases c : t[i].data.toList = []
    · rw [if_pos c, impl_l1 d x t (i + 1) k (by omega) (by omega) ht (by omega), if_neg (by rw [c]; decide)]
    · rw [if_neg c, if_pos (by omega), impl_l1 d _ t (i + 1) k (by omega) (by omega) ht (by simp; omega), if_pos (by simpa [List.isEmpty_iff] using c), List.append_assoc]; rfl
theorem split_eq (a : ByteArray) (h : a.size ≤ 600) : ∃ t, strings_Split.f a (⟨#[32]⟩ : ByteArray) = some t ∧ t.map (·.data.toList) = pieces a.data.toList ∧ t.length ≤ 601 := by
  refine ⟨Lib.splitB (⟨#[32]⟩ : ByteArray) 0 (Lib.countB a (⟨#[32]⟩ : ByteArray)) a, ?_, ?_, ?_⟩
  · unfold strings_Split.f; rw [if_pos ⟨by omega, by decide⟩]
  · rw [Lib.splitB_data]; exact splitK_eq _
  · have := Lib.splitB_length_le (⟨#[32]⟩ : ByteArray) 0 (Lib.countB a (⟨#[32]⟩ : ByteArray)) a
    have := Lib.countB_le (⟨#[32]⟩ : ByteArray) (by decide) a.size a (Nat.le_refl _)
    omega
theorem filter_mk (t : List ByteArray) : t.filter (fun y => !y.data.toList.isEmpty) = ((t.map (·.data.toList)).filter (fun p => !p.isEmpty)).map mk := by
  induction t with
  | nil => rfl
  | cons y t ih =>
    rw [List.map_cons, List.filter_cons, List.filter_cons]
    by_cases c : (!y.data.toList.isEmpty) = true
    · rw [if_pos c, if_pos c, List.map_cons, ← ih, ← mk_eq y _ rfl]
    · rw [if_neg c, if_neg c, ih]
theorem impl_l0 : ∀ (rest : List UInt8) (a : ByteArray) (i k : Nat), a.data.toList.drop i = rest → i ≤ a.size → a.size ≤ 600 → rest.length + 1000 ≤ k →
    impl_SplitFields.l0 k a (i : Int) = some (if rest.all okc = true then fin ((words a.data.toList).map mk) else ([], false))
  | [], a, i, k, hd, hi, hs, hk => by
    have hi' : i = a.size := by
      have := congrArg List.length hd
      rw [List.length_drop, ← Lib.size_eq] at this
      simp at this; omega
    obtain ⟨k, rfl⟩ : ∃ m, k = m + 1 := ⟨k - 1, by omega⟩
    obtain ⟨t, h1, h2, h3⟩ := split_eq a hs
    simp only [impl_SplitFields.l0]
    rw [if_neg (by omega), h1, Option.bind_some]
    have := impl_l1 t.length [] t 0 k (by omega) (by simp at hk; omega) (by omega) (by simp; omega)
    rw [show ((0 : Nat) : Int) = 0 from rfl, List.drop_zero, List.nil_append, filter_mk, h2] at this
    rw [this]; rfl
  | c :: r, a, i, k, hd, hi, hs, hk => by
    obtain ⟨h1, h2, h3, h4⟩ := at_drop a i c r hd
    obtain ⟨k, rfl⟩ : ∃ m, k = m + 1 := ⟨k - 1, by omega⟩
    simp only [impl_SplitFields.l0]
    rw [if_pos (by omega), if_pos (by omega), h3, List.all_cons]
    by_cases q1 : (c.toNat : Int) < 32
    · have : okc c = false := by unfold okc; simp; omega
      rw [if_pos q1, this, Bool.false_and]; rfl
    · by_cases q2 : (c.toNat : Int) > 126
      · have : okc c = false := by unfold okc; simp; omega
        rw [if_neg q1, if_pos q2, this, Bool.false_and]; rfl
      · have : okc c = true := by unfold okc; simp; omega
        rw [if_neg q1, if_neg q2, this, Bool.true_and, wrap_succ i (by omega), impl_l0 r a (i + 1) k h2 (by omega) hs (by simp at hk; omega)]
theorem implFields (a : ByteArray) (k : Nat) (hk : 2000 ≤ k) : impl_SplitFields.f k a = some (fields a) := by
  unfold impl_SplitFields.f fields
  by_cases h : 600 < a.size
  · rw [if_pos (by omega), if_pos h]
  · rw [if_neg (by omega), if_neg h]
    have hl : a.data.toList.length = a.size := (Lib.size_eq a).symm
    have := impl_l0 a.data.toList a 0 k rfl (Nat.zero_le _) (by omega) (by omega)
    rw [show ((0 : Nat) : Int) = 0 from rfl] at this
    rw [this, run_eq _ _ _ (by simp), List.nil_append, List.nil_append]
/-- What a text with fields is made of. -/
theorem fields_ok (a : ByteArray) (h : (fields a).2 = true) : (fields a).1 = (words a.data.toList).map mk ∧ (fields a).1.length ≤ 24 ∧ a.size ≤ 600 := by
  unfold fields at h ⊢
  by_cases c : 600 < a.size
  · rw [if_pos c] at h; cases h
  · rw [if_neg c] at h ⊢
    rw [run_eq _ _ _ (by simp)] at h ⊢
    by_cases q : a.data.toList.all okc = true
    · rw [if_pos q] at h ⊢
      rw [List.nil_append] at h ⊢
      unfold fin at h ⊢
      by_cases z : 24 < ((words ([] ++ a.data.toList)).map mk).length
      · rw [if_pos z] at h; cases h
      · rw [if_neg z]; rw [List.nil_append] at z ⊢; exact ⟨rfl, Nat.le_of_not_lt z, by omega⟩
    · rw [if_neg q] at h; cases h
/-! Numbers are read back. -/
theorem up {α : Type} {g : Nat → Option α} {r : α} {K : Nat} (hm : ∀ k, LeO (g k) (g (k + 1))) (h : g K = some r) : ∀ k, K ≤ k → g k = some r := by
  intro k hk
  induction k with
  | zero => obtain rfl : K = 0 := by omega
            exact h
  | succ k ih =>
    by_cases c : K = k + 1
    · subst c; exact h
    · exact hm k r (ih (by omega))
theorem step_impl (n c : Nat) (hn : n ≤ 10000000000) (h0 : 48 ≤ c) (h1 : c ≤ 57) : wrap64 ((wrap64 ((n : Int) * 10)) + (((c : Int) - 48) % 256)) = ((n * 10 + (c - 48) : Nat) : Int) := by
  have e : ((c : Int) - 48) % 256 = (c : Int) - 48 := by omega
  rw [e, wrap_id (x := (n : Int) * 10) (by omega) (by omega), wrap_id (by omega) (by omega)]
  omega
theorem uint_l0 : ∀ (d : Nat) (a : ByteArray) (n i : Nat) (k : Nat), i + d = a.size → a.size ≤ 10 → n < 10 ^ i → d + 30 ≤ k → ∃ x, impl_ParseUint.l0 k a (n : Int) (i : Int) = some x
  | 0, a, n, i, k, hi, hs, hn, hk => by
    obtain ⟨k, rfl⟩ : ∃ m, k = m + 1 := ⟨k - 1, by omega⟩
    have hp : (10 : Nat) ^ i ≤ 10 ^ 10 := Nat.pow_le_pow_right (by decide) (by omega)
    have hp' : (10 : Nat) ^ 10 = 10000000000 := by decide
    simp only [impl_ParseUint.l0]
    have hi0 : ¬ (i : Int) < (a.size : Int) := by omega
    rw [if_neg hi0]
    by_cases c : (n : Int) > 1000000000
    · rw [if_pos c]; exact ⟨_, rfl⟩
    · rw [if_neg c, implFmt _ (by omega) (by omega)]
      simp only [Option.bind_some]
      by_cases e : (num (n : Int)).toList = a.toList
      · rw [if_pos e]; exact ⟨_, rfl⟩
      · rw [if_neg e]; exact ⟨_, rfl⟩
  | d + 1, a, n, i, k, hi, hs, hn, hk => by
    obtain ⟨k, rfl⟩ : ∃ m, k = m + 1 := ⟨k - 1, by omega⟩
    have hp : (10 : Nat) ^ (i + 1) ≤ 10 ^ 10 := Nat.pow_le_pow_right (by decide) (by omega)
    have hp' : (10 : Nat) ^ 10 = 10000000000 := by decide
    obtain ⟨b0, b1⟩ := bt_range a (i : Int)
    obtain ⟨c, hc⟩ : ∃ c : Nat, bt a (i : Int) = c := ⟨(bt a (i : Int)).toNat, by omega⟩
    simp only [impl_ParseUint.l0]
    have hi0 : (i : Int) < (a.size : Int) := by omega
    have hi1 : (0 : Int) ≤ (i : Int) := by omega
    rw [if_pos hi0, if_pos hi1, hc]
    by_cases c1 : (c : Int) < 48
    · rw [if_pos c1]; exact ⟨_, rfl⟩
    · by_cases c2 : (c : Int) > 57
      · rw [if_neg c1, if_pos c2]; exact ⟨_, rfl⟩
      · rw [if_neg c1, if_neg c2]
        have hn' : n ≤ 10000000000 := by
          have q : (10 : Nat) ^ i ≤ 10 ^ (i + 1) := Nat.pow_le_pow_right (by decide) (by omega)
          omega
        have e2 := step_impl n c hn' (by omega) (by omega)
        rw [e2, wrap_succ i (by omega)]
        have hlt : n * 10 + (c - 48) < 10 ^ (i + 1) := by
          rw [Nat.pow_succ]
          clear hp hp' e2
          generalize 10 ^ i = P at hn ⊢
          omega
        clear hp hp' hn e2
        exact uint_l0 d a (n * 10 + (c - 48)) (i + 1) k (by omega) hs hlt (by omega)
theorem j0_true (a : ByteArray) (k : Nat) : impl_ParseUint.j0 (k + 1) a true = some (0, false) := by simp only [impl_ParseUint.j0]; rw [if_pos trivial]
theorem j0_false (a : ByteArray) (k : Nat) : impl_ParseUint.j0 (k + 1) a false = impl_ParseUint.l0 k a 0 0 := by simp only [impl_ParseUint.j0]; rw [if_neg (by decide)]
theorem uint_some (a : ByteArray) (k : Nat) (hk : 60 ≤ k) : ∃ x, impl_ParseUint.f (k + 1) a = some x := by
  unfold impl_ParseUint.f
  by_cases h : (a.size : Int) = 0
  · rw [if_pos h, j0_true]; exact ⟨_, rfl⟩
  · rw [if_neg h]
    by_cases c : (a.size : Int) > 10
    · rw [decide_eq_true c, j0_true]; exact ⟨_, rfl⟩
    · rw [decide_eq_false c, j0_false]
      exact uint_l0 a.size a 0 0 k (by omega) (by omega) (by decide) (by omega)
def pu (a : ByteArray) : Int × Bool := (impl_ParseUint.f 100 a).getD (0, false)
theorem implPU (a : ByteArray) (k : Nat) (hk : 100 ≤ k) : impl_ParseUint.f k a = some (pu a) := by
  obtain ⟨x, h⟩ := uint_some a 99 (by omega)
  have e : impl_ParseUint.f 100 a = some (pu a) := by unfold pu; rw [h]; rfl
  exact up (g := fun k => impl_ParseUint.f k a) (fun k => impl_ParseUint.mono a k) e k hk
/-! A job's text, read back. -/
def dupW : ByteArray := ⟨#[100, 117, 112, 108, 101, 120]⟩
def helW : ByteArray := ⟨#[104, 101, 108, 100]⟩
def J (fs : List ByteArray) : ByteArray := mk (Lib.join (fs.map (·.data.toList)) [32])
theorem J_one (x : ByteArray) : J [x] = x := by unfold J; rw [List.map_cons, List.map_nil, Lib.join_one]; exact (mk_eq x _ rfl).symm
theorem J_snoc (x : ByteArray) (r : List ByteArray) (y : ByteArray) : J (x :: r ++ [y]) = J (x :: r) ++ sp ++ y := by
  apply ba_ext
  rw [ba_append, ba_append]
  show Lib.join ((x :: r ++ [y]).map (·.data.toList)) [32] = Lib.join ((x :: r).map (·.data.toList)) [32] ++ [32] ++ y.data.toList
  rw [List.cons_append, List.map_cons, List.map_cons, Lib.join_cons, Lib.join_cons]
  simp [Lib.joinTail, List.append_assoc]
def W (a b c : Int) (d : Bool) (e : Int) (f : Bool) : List ByteArray := num a :: num b :: num c :: num e :: ((if d = true then [dupW] else []) ++ (if f = true then [helW] else []))
theorem J_W (a b c : Int) (d : Bool) (e : Int) (f : Bool) : J (W a b c d e f) = jobText a b c d e f := by
  have h4 : J [num a, num b, num c, num e] = num a ++ sp ++ num b ++ sp ++ num c ++ sp ++ num e := by
    rw [show [num a, num b, num c, num e] = num a :: [num b, num c] ++ [num e] from rfl, J_snoc, show num a :: [num b, num c] = num a :: [num b] ++ [num c] from rfl, J_snoc, show num a :: [num b] = num a :: [] ++ [num b] from rfl, J_snoc, J_one]
  have hd : dup = sp ++ dupW := by apply ba_ext; rw [ba_append]; rfl
  have hh : hel = sp ++ helW := by apply ba_ext; rw [ba_append]; rfl
  cases d <;> cases f
  · simp only [W, jobText, Bool.false_eq_true, if_false, ba_nil, List.append_nil]; exact h4
  · simp only [W, jobText, Bool.false_eq_true, if_false, if_true, ba_nil, List.nil_append]
    rw [show num a :: num b :: num c :: num e :: [helW] = num a :: [num b, num c, num e] ++ [helW] from rfl, J_snoc, h4, hh, ← ByteArray.append_assoc]
  · simp only [W, jobText, Bool.false_eq_true, if_false, if_true, ba_nil, List.append_nil]
    rw [show num a :: num b :: num c :: num e :: [dupW] = num a :: [num b, num c, num e] ++ [dupW] from rfl, J_snoc, h4, hd, ← ByteArray.append_assoc]
  · simp only [W, jobText, if_true]
    rw [show num a :: num b :: num c :: num e :: ([dupW] ++ [helW]) = num a :: [num b, num c, num e, dupW] ++ [helW] from rfl, J_snoc, show num a :: [num b, num c, num e, dupW] = num a :: [num b, num c, num e] ++ [dupW] from rfl, J_snoc, h4, hd, hh, ← ByteArray.append_assoc, ← ByteArray.append_assoc]
theorem num_free (n : Int) (h : 0 ≤ n) : (32 : UInt8) ∉ (num n).data.toList := by
  rw [num_list]; unfold Lib.itoa; rw [if_neg (by omega)]; exact dec_free _
theorem W_free (a b c : Int) (d : Bool) (e : Int) (f : Bool) (ha : 0 ≤ a) (hb : 0 ≤ b) (hc : 0 ≤ c) (he : 0 ≤ e) : ∀ p ∈ (W a b c d e f).map (·.data.toList), (32 : UInt8) ∉ p := by
  intro p hp
  have hdw : (32 : UInt8) ∉ dupW.data.toList := by decide
  have hhw : (32 : UInt8) ∉ helW.data.toList := by decide
  have na := num_free a ha
  have nb := num_free b hb
  have nc := num_free c hc
  have ne := num_free e he
  cases d <;> cases f <;> simp only [W, Bool.false_eq_true, if_false, if_true, List.append_nil, List.nil_append, List.singleton_append, List.map_cons, List.map_nil, List.mem_cons, List.mem_nil_iff, or_false] at hp
  · rcases hp with rfl | rfl | rfl | rfl <;> assumption
  · rcases hp with rfl | rfl | rfl | rfl | rfl <;> assumption
  · rcases hp with rfl | rfl | rfl | rfl | rfl <;> assumption
  · rcases hp with rfl | rfl | rfl | rfl | rfl | rfl <;> assumption
/-- A text of fields that is a job's text has the job's words for fields. -/
theorem key (x : ByteArray) (r : List ByteArray) (a b c : Int) (d : Bool) (e : Int) (f : Bool) (hf : ∀ p ∈ (x :: r).map (·.data.toList), (32 : UInt8) ∉ p) (ha : 0 ≤ a) (hb : 0 ≤ b) (hc : 0 ≤ c) (he : 0 ≤ e) (h : jobText a b c d e f = J (x :: r)) : x :: r = W a b c d e f := by
  rw [← J_W] at h
  have h' : Lib.join ((W a b c d e f).map (·.data.toList)) [32] = Lib.join ((x :: r).map (·.data.toList)) [32] := congrArg (fun z : ByteArray => z.data.toList) h
  have hw := W_free a b c d e f ha hb hc he
  obtain ⟨T, hT⟩ : ∃ T, W a b c d e f = num a :: T := ⟨_, rfl⟩
  rw [hT] at hw h' ⊢
  have e2 : (num a :: T).map (·.data.toList) = (x :: r).map (·.data.toList) := by
    rw [List.map_cons] at hw hf h'
    rw [List.map_cons] at h'
    exact join_inj _ _ _ _ hw hf h'
  have inj : ∀ (u v : List ByteArray), u.map (·.data.toList) = v.map (·.data.toList) → u = v := by
    intro u
    induction u with
    | nil => intro v hv; cases v with
      | nil => rfl
      | cons _ _ => simp at hv
    | cons y u ih => intro v hv; cases v with
      | nil => simp at hv
      | cons z v =>
        simp only [List.map_cons, List.cons.injEq] at hv
        rw [ba_ext hv.1, ih v hv.2]
  exact (inj _ _ e2).symm
/-! The two readers of a job. -/
theorem pieces_len : ∀ (l : List UInt8), ∀ p ∈ pieces l, p.length ≤ l.length
  | [], p, h => by simp [pieces] at h; simp [h]
  | c :: l, p, h => by
    have ih := pieces_len l
    unfold pieces at h
    by_cases hc : c = 32
    · rw [if_pos hc] at h
      rcases List.mem_cons.1 h with rfl | h
      · simp
      · have := ih p h; simp; omega
    · rw [if_neg hc] at h
      split at h
      · rename_i q qs hq
        rcases List.mem_cons.1 h with rfl | h
        · have := ih q (by rw [hq]; simp); simp; exact this
        · have := ih p (by rw [hq]; exact List.mem_cons_of_mem _ h); simp; omega
      · rename_i hq; exact absurd hq (pieces_ne l)
theorem fields_size (a : ByteArray) (h : (fields a).2 = true) : ∀ y ∈ (fields a).1, y.size ≤ 600 := by
  obtain ⟨h1, h2, h3⟩ := fields_ok a h
  intro y hy
  rw [h1] at hy
  obtain ⟨p, hp, rfl⟩ := List.mem_map.1 hy
  have q1 := pieces_len a.data.toList p (List.mem_filter.1 hp).1
  have q2 : (mk p).size = p.length := by rw [Lib.size_eq]; rfl
  rw [← Lib.size_eq] at q1
  omega
theorem fields_free (a : ByteArray) (h : (fields a).2 = true) : ∀ p ∈ (fields a).1.map (·.data.toList), (32 : UInt8) ∉ p := by
  obtain ⟨h1, h2, h3⟩ := fields_ok a h
  intro p hp
  rw [h1, List.map_map] at hp
  obtain ⟨q, hq, rfl⟩ := List.mem_map.1 hp
  exact words_free _ q hq
theorem lens_le (r : List ByteArray) (h : ∀ y ∈ r, y.size ≤ 600) : Lib.lens (r.map (·.data.toList)) ≤ 600 * r.length := by
  induction r with
  | nil => simp [Lib.lens]
  | cons y r ih =>
    have h1 := ih (fun z hz => h z (List.mem_cons_of_mem _ hz))
    have h2 := h y (by simp)
    rw [Lib.size_eq] at h2
    simp only [Lib.lens, List.map_cons, List.sum_cons, List.length_cons] at h1 ⊢
    omega
theorem J_len (fs : List ByteArray) (h : ∀ y ∈ fs, y.size ≤ 600) : (Lib.join (fs.map (·.data.toList)) [32]).length ≤ 601 * fs.length := by
  cases fs with
  | nil => simp [Lib.join_nil]
  | cons x r =>
    have h1 := lens_le r (fun z hz => h z (List.mem_cons_of_mem _ hz))
    have h2 := h x (by simp)
    rw [Lib.size_eq] at h2
    rw [List.map_cons, Lib.join_cons, List.length_append, Lib.joinTail_length, List.length_map]
    simp only [List.length_cons, List.length_nil]
    omega
theorem J_size (fs : List ByteArray) (h : ∀ y ∈ fs, y.size ≤ 600) : (J fs).size ≤ 601 * fs.length := by
  have e : (J fs).size = (Lib.join (fs.map (·.data.toList)) [32]).length := by rw [Lib.size_eq]; rfl
  rw [e]; exact J_len fs h
theorem join_J (fs : List ByteArray) (h : ∀ y ∈ fs, y.size ≤ 600) (hl : fs.length ≤ 24) : strings_Join.f fs (⟨#[32]⟩ : ByteArray) = some (J fs) := by
  have h1 := J_len fs h
  unfold strings_Join.f
  rw [if_pos ⟨by omega, by show (Lib.join (fs.map (·.data.toList)) [32]).length ≤ _; omega⟩]
  rfl
/-- Is this the text of the job with these marks? -/
def hit (n0 n1 n2 n3 : Int) (t : ByteArray) (d h : Bool) : Bool := okB n0 n1 n2 n3 && decide (jobText n0 n1 n2 d n3 h = t)
def res (n0 n1 n2 n3 : Int) (d h : Bool) : Int × Int × Int × Bool × Int × Bool × Bool := (n0, n1, n2, d, n3, h, true)
def zero7 : Int × Int × Int × Bool × Int × Bool × Bool := (0, 0, 0, false, 0, false, false)
theorem text_eq (x y : ByteArray) : (x.toList = y.toList) ↔ x = y := by
  rw [Lib.toList_data, Lib.toList_data]
  exact ⟨ba_ext, fun h => by rw [h]⟩
/-- What the program answers of its fields. -/
def implR (f0 f1 f2 f3 : ByteArray) (r : List ByteArray) : Int × Int × Int × Bool × Int × Bool × Bool :=
  if (pu f0).2 = true then (if (pu f1).2 = true then (if (pu f2).2 = true then (if (pu f3).2 = true then (if hit (pu f0).1 (pu f1).1 (pu f2).1 (pu f3).1 (J (f0 :: f1 :: f2 :: f3 :: r)) (impl_ParseJob.l1 r false false).1 (impl_ParseJob.l1 r false false).2 = true then res (pu f0).1 (pu f1).1 (pu f2).1 (pu f3).1 (impl_ParseJob.l1 r false false).1 (impl_ParseJob.l1 r false false).2 else zero7) else zero7) else zero7) else zero7) else zero7
theorem impl_at (k : Nat) (hk : 100 ≤ k) (fs : List ByteArray) (i : Int) (K : Int → Option (Int × Int × Int × Bool × Int × Bool × Bool)) : impl_ParseJob.at_ k fs i K = if (pu (rdOf ByteArray.empty fs i)).2 = true then K (pu (rdOf ByteArray.empty fs i)).1 else some zero7 := by
  unfold impl_ParseJob.at_
  rw [implPU _ _ hk, Option.bind_some]; rfl
theorem impl_j2 (fs : List ByteArray) (hs : ∀ y ∈ fs, y.size ≤ 600) (hl : fs.length ≤ 24) (n0 n1 n2 n3 : Int) (d h : Bool) : impl_ParseJob.j2 fs n0 n1 n2 n3 d h = some (if hit n0 n1 n2 n3 (J fs) d h = true then res n0 n1 n2 n3 d h else zero7) := by
  unfold impl_ParseJob.j2 hit
  rw [implJob, Option.bind_some, join_J fs hs hl]
  by_cases c : okB n0 n1 n2 n3 = true
  · rw [if_pos c, if_pos rfl, c, Bool.true_and, Option.bind_some]
    by_cases e : jobText n0 n1 n2 d n3 h = J fs
    · rw [if_pos ((text_eq _ _).2 e), if_pos (decide_eq_true e)]; rfl
    · rw [if_neg (fun q => e ((text_eq _ _).1 q)), if_neg (by simpa using e)]; rfl
  · rw [if_neg c, if_neg (by decide)]
    rw [Bool.not_eq_true] at c
    rw [c, Bool.false_and, if_neg (by decide)]; rfl
theorem impl_read (k : Nat) (hk : 100 ≤ k) (f0 f1 f2 f3 : ByteArray) (r : List ByteArray) (hs : ∀ y ∈ f0 :: f1 :: f2 :: f3 :: r, y.size ≤ 600) (hl : (f0 :: f1 :: f2 :: f3 :: r).length ≤ 24) :
    impl_ParseJob.l0 k (f0 :: f1 :: f2 :: f3 :: r) 0 0 0 0 0 = some (implR f0 f1 f2 f3 r) := by
  have r0 : rdOf ByteArray.empty (f0 :: f1 :: f2 :: f3 :: r) 0 = f0 := rfl
  have r1 : rdOf ByteArray.empty (f0 :: f1 :: f2 :: f3 :: r) 1 = f1 := rfl
  have r2 : rdOf ByteArray.empty (f0 :: f1 :: f2 :: f3 :: r) 2 = f2 := rfl
  have r3 : rdOf ByteArray.empty (f0 :: f1 :: f2 :: f3 :: r) 3 = f3 := rfl
  simp only [impl_ParseJob.l0, impl_ParseJob.j1]
  rw [impl_at k hk, r0, impl_at k hk, r1, impl_at k hk, r2, impl_at k hk, r3, impl_j2 _ hs hl]
  unfold implR
  split
  · split
    · split
      · split
        · rfl
        · rfl
      · rfl
    · rfl
  · rfl
/-! A job's text between spaces is read back as that job. -/
theorem uint_step (k : Nat) (a : ByteArray) (n i : Nat) (c : UInt8) (r : List UInt8) (h : a.data.toList.drop i = c :: r) (h0 : 48 ≤ c.toNat) (h1 : c.toNat ≤ 57) (hn : n ≤ 10000000000) (hi : i ≤ 1000) :
    impl_ParseUint.l0 (k + 1) a (n : Int) (i : Int) = impl_ParseUint.l0 k a ((n * 10 + (c.toNat - 48) : Nat) : Int) ((i + 1 : Nat) : Int) := by
  obtain ⟨q1, q2, q3, q4⟩ := at_drop a i c r h
  simp only [impl_ParseUint.l0]
  rw [if_pos (by omega), if_pos (by omega), q3, if_neg (by omega), if_neg (by omega), step_impl n c.toNat hn h0 h1, wrap_succ i (by omega)]
theorem uint_end (k : Nat) (a : ByteArray) (n i : Nat) (h : i = a.size) (ha : a = num (n : Int)) (hn : n ≤ 1000000000) : impl_ParseUint.l0 (k + 1) a (n : Int) (i : Int) = some ((n : Int), true) := by
  simp only [impl_ParseUint.l0]
  rw [if_neg (by omega), if_neg (by omega), implFmt _ (by omega) (by omega), Option.bind_some, if_pos (by rw [ha])]
theorem digit_nat (d : Nat) (h : d < 10) : (UInt8.ofNat (48 + d)).toNat = 48 + d := by rw [UInt8.toNat_ofNat']; omega
theorem num_one (v : Nat) (h : v < 10) : (num (v : Int)).data.toList = [UInt8.ofNat (48 + v)] := by
  rw [num_list]; unfold Lib.itoa; rw [if_neg (by omega), Int.toNat_natCast, Lib.decDigits, dif_pos h]
theorem num_two (v : Nat) (h : 10 ≤ v) (h' : v < 100) : (num (v : Int)).data.toList = [UInt8.ofNat (48 + v / 10), UInt8.ofNat (48 + v % 10)] := by
  rw [num_list]; unfold Lib.itoa; rw [if_neg (by omega), Int.toNat_natCast, Lib.decDigits, dif_neg (by omega), Lib.decDigits, dif_pos (by omega)]; rfl
theorem pu_num (v : Nat) (hv : v < 100) : pu (num (v : Int)) = ((v : Int), true) := by
  have e : impl_ParseUint.f 100 (num (v : Int)) = some ((v : Int), true) := by
    have hz : (num (v : Int)).size = (num (v : Int)).data.toList.length := Lib.size_eq _
    have hs := num_size v
    have hp := Lib.nDigits_pos v
    unfold impl_ParseUint.f
    by_cases c : v < 10
    · rw [num_one v c] at hz
      simp only [List.length_cons, List.length_nil] at hz
      rw [if_neg (by omega), decide_eq_false (by omega), j0_false]
      have s1 := uint_step 98 (num (v : Int)) 0 0 _ [] (by rw [num_one v c]; rfl) (by rw [digit_nat v c]; omega) (by rw [digit_nat v c]; omega) (by omega) (by omega)
      rw [digit_nat v c] at s1
      refine Eq.trans s1 ?_
      have := uint_end 97 (num (v : Int)) v 1 (by omega) rfl (by omega)
      rw [show 0 * 10 + (48 + v - 48) = v by omega]
      exact this
    · rw [num_two v (by omega) hv] at hz
      simp only [List.length_cons, List.length_nil] at hz
      rw [if_neg (by omega), decide_eq_false (by omega), j0_false]
      have d1 := digit_nat (v / 10) (by omega)
      have d2 := digit_nat (v % 10) (by omega)
      have s1 := uint_step 98 (num (v : Int)) 0 0 _ [UInt8.ofNat (48 + v % 10)] (by rw [num_two v (by omega) hv]; rfl) (by rw [d1]; omega) (by rw [d1]; omega) (by omega) (by omega)
      rw [d1] at s1
      have s2 := uint_step 97 (num (v : Int)) (0 * 10 + (48 + v / 10 - 48)) 1 _ [] (by rw [num_two v (by omega) hv]; rfl) (by rw [d2]; omega) (by rw [d2]; omega) (by omega) (by omega)
      rw [d2] at s2
      refine Eq.trans s1 (Eq.trans s2 ?_)
      have := uint_end 96 (num (v : Int)) v 2 (by omega) rfl (by omega)
      rw [show (0 * 10 + (48 + v / 10 - 48)) * 10 + (48 + v % 10 - 48) = v by omega]
      exact this
  unfold pu
  rw [e]; rfl
theorem pu_int (v : Int) (h0 : 0 ≤ v) (h1 : v < 100) : pu (num v) = (v, true) := by
  obtain ⟨m, rfl⟩ : ∃ m : Nat, v = (m : Int) := ⟨v.toNat, by omega⟩
  exact pu_num m (by omega)
theorem dec_ok (m : Nat) : (Lib.decDigits m).all okc = true := by
  induction m using Nat.strongRecOn with
  | _ m ih =>
    have q : ∀ d : Fin 10, okc (UInt8.ofNat (48 + d.val)) = true := by decide
    rw [Lib.decDigits]
    split
    · rename_i h
      simp only [List.all_cons, List.all_nil, Bool.and_true]
      exact q ⟨m, h⟩
    · rw [List.all_append, ih (m / 10) (by omega), Bool.true_and]
      simp only [List.all_cons, List.all_nil, Bool.and_true]
      exact q ⟨m % 10, by omega⟩
theorem num_ok (n : Int) (h : 0 ≤ n) : (num n).data.toList.all okc = true := by
  rw [num_list]; unfold Lib.itoa; rw [if_neg (by omega)]; exact dec_ok _
theorem num_ne (n : Int) (h : 0 ≤ n) : (num n).data.toList.isEmpty = false := by
  obtain ⟨m, rfl⟩ : ∃ m : Nat, n = (m : Int) := ⟨n.toNat, by omega⟩
  have h1 := num_size m
  have h2 := Lib.nDigits_pos m
  have h3 := Lib.size_eq (num (m : Int))
  cases hq : (num (m : Int)).data.toList with
  | nil => rw [hq, List.length_nil] at h3; omega
  | cons _ _ => rfl
/-- The words of a text made of words between spaces. -/
theorem words_tail : ∀ (r : List (List UInt8)) (x : List UInt8), (∀ p ∈ x :: r, (32 : UInt8) ∉ p ∧ p.isEmpty = false) → words (x ++ (Lib.joinTail [32] r ++ [32])) = x :: r
  | [], x, h => by
    have e : Lib.joinTail [32] ([] : List (List UInt8)) ++ [32] = 32 :: [] := rfl
    rw [e, words_space x [] (h x (by simp)).1, (h x (by simp)).2]; rfl
  | y :: r, x, h => by
    have e : Lib.joinTail [32] (y :: r) ++ [32] = 32 :: (y ++ (Lib.joinTail [32] r ++ [32])) := by simp [Lib.joinTail]
    rw [e, words_space x _ (h x (by simp)).1, (h x (by simp)).2, words_tail r y (fun p hp => h p (List.mem_cons_of_mem _ hp))]; rfl
theorem words_text (x : List UInt8) (r : List (List UInt8)) (h : ∀ p ∈ x :: r, (32 : UInt8) ∉ p ∧ p.isEmpty = false) : words ([32] ++ Lib.join (x :: r) [32] ++ [32]) = x :: r := by
  rw [Lib.join_cons]
  have e : [32] ++ (x ++ Lib.joinTail [32] r) ++ [32] = [] ++ 32 :: (x ++ (Lib.joinTail [32] r ++ [32])) := by simp
  rw [e, words_space [] _ (by simp), words_tail r x h]; rfl
theorem tail_ok : ∀ r : List (List UInt8), (∀ p ∈ r, p.all okc = true) → (Lib.joinTail [32] r).all okc = true
  | [], _ => rfl
  | y :: r, h => by
    have e : Lib.joinTail [32] (y :: r) = 32 :: (y ++ Lib.joinTail [32] r) := by simp [Lib.joinTail]
    have := tail_ok r (fun p hp => h p (List.mem_cons_of_mem _ hp))
    rw [e, List.all_cons, List.all_append, h y (by simp), this]; rfl
theorem fields_text (x : ByteArray) (r : List ByteArray) (h : ∀ p ∈ x :: r, (32 : UInt8) ∉ p.data.toList ∧ p.data.toList.isEmpty = false ∧ p.data.toList.all okc = true) (hl : (x :: r).length ≤ 24) (hs : (sp ++ J (x :: r) ++ sp).size ≤ 600) :
    fields (sp ++ J (x :: r) ++ sp) = (x :: r, true) := by
  have hL : (sp ++ J (x :: r) ++ sp).data.toList = [32] ++ Lib.join (x.data.toList :: r.map (·.data.toList)) [32] ++ [32] := by rw [ba_append, ba_append]; rfl
  have hp : ∀ p ∈ x.data.toList :: r.map (·.data.toList), (32 : UInt8) ∉ p ∧ p.isEmpty = false ∧ p.all okc = true := by
    intro p hp
    rcases List.mem_cons.1 hp with rfl | hp
    · exact h x (by simp)
    · obtain ⟨y, hy, rfl⟩ := List.mem_map.1 hp
      exact h y (List.mem_cons_of_mem _ hy)
  unfold fields
  rw [if_neg (by omega), run_eq _ _ _ (by simp), hL, List.nil_append, List.nil_append, words_text _ _ (fun p q => ⟨(hp p q).1, (hp p q).2.1⟩)]
  have ha : (([32] : List UInt8) ++ Lib.join (x.data.toList :: r.map (fun y : ByteArray => y.data.toList)) [32] ++ [32]).all okc = true := by
    rw [Lib.join_cons, List.all_append, List.all_append, List.all_append, (hp x.data.toList (by simp)).2.2, tail_ok _ (fun p q => (hp p (List.mem_cons_of_mem _ q)).2.2)]; rfl
  rw [if_pos ha]
  have hm : (x.data.toList :: r.map (·.data.toList)).map mk = x :: r := by
    rw [List.map_cons, List.map_map, ← mk_eq x _ rfl]
    congr 1
    have : (mk ∘ fun y : ByteArray => y.data.toList) = id := by funext y; exact (mk_eq y _ rfl).symm
    rw [this, List.map_id]
  rw [hm]
  unfold fin
  rw [if_neg (by omega)]
theorem W_word (a b c : Int) (d : Bool) (e : Int) (f : Bool) (ha : 0 ≤ a) (hb : 0 ≤ b) (hc : 0 ≤ c) (he : 0 ≤ e) : ∀ p ∈ W a b c d e f, (32 : UInt8) ∉ p.data.toList ∧ p.data.toList.isEmpty = false ∧ p.data.toList.all okc = true := by
  intro p hp
  have hdw : (32 : UInt8) ∉ dupW.data.toList ∧ dupW.data.toList.isEmpty = false ∧ dupW.data.toList.all okc = true := by decide
  have hhw : (32 : UInt8) ∉ helW.data.toList ∧ helW.data.toList.isEmpty = false ∧ helW.data.toList.all okc = true := by decide
  have w (n : Int) (h : 0 ≤ n) : (32 : UInt8) ∉ (num n).data.toList ∧ (num n).data.toList.isEmpty = false ∧ (num n).data.toList.all okc = true := ⟨num_free n h, num_ne n h, num_ok n h⟩
  have na := w a ha
  have nb := w b hb
  have nc := w c hc
  have ne := w e he
  cases d <;> cases f <;> simp only [W, Bool.false_eq_true, if_false, if_true, List.append_nil, List.nil_append, List.singleton_append, List.mem_cons, List.mem_nil_iff, or_false] at hp
  · rcases hp with rfl | rfl | rfl | rfl <;> assumption
  · rcases hp with rfl | rfl | rfl | rfl | rfl <;> assumption
  · rcases hp with rfl | rfl | rfl | rfl | rfl <;> assumption
  · rcases hp with rfl | rfl | rfl | rfl | rfl | rfl <;> assumption
theorem W_size (a b c : Int) (d : Bool) (e : Int) (f : Bool) (ha : 0 ≤ a ∧ a ≤ 9999) (hb : 0 ≤ b ∧ b ≤ 64) (hc : 0 ≤ c ∧ c ≤ 20) (he : 0 ≤ e ∧ e ≤ 9) : (∀ y ∈ W a b c d e f, y.size ≤ 600) ∧ (W a b c d e f).length ≤ 6 ∧ (jobText a b c d e f).size ≤ 70 := by
  have s1 := num_le a (by omega) (by omega)
  have s2 := num_le b (by omega) (by omega)
  have s3 := num_le c (by omega) (by omega)
  have s4 := num_le e (by omega) (by omega)
  have sd : dupW.size = 6 := rfl
  have sh : helW.size = 4 := rfl
  have s0 : (⟨#[]⟩ : ByteArray).size = 0 := rfl
  refine ⟨fun y hy => ?_, ?_, ?_⟩
  · cases d <;> cases f <;> simp only [W, Bool.false_eq_true, if_false, if_true, List.append_nil, List.nil_append, List.singleton_append, List.mem_cons, List.mem_nil_iff, or_false] at hy
    · rcases hy with rfl | rfl | rfl | rfl <;> omega
    · rcases hy with rfl | rfl | rfl | rfl | rfl <;> omega
    · rcases hy with rfl | rfl | rfl | rfl | rfl <;> omega
    · rcases hy with rfl | rfl | rfl | rfl | rfl | rfl <;> omega
  · cases d <;> cases f <;> simp [W]
  · unfold jobText
    cases d <;> cases f <;> simp only [Bool.false_eq_true, if_false, if_true, ByteArray.size_append, sp_size, dup_size, hel_size, s0] <;> omega
theorem parse_back (a b c : Int) (d : Bool) (e : Int) (f : Bool) (ho : okB a b c e = true) (ha : a < 100) (k : Nat) (hk : 2000 ≤ k) : impl_ParseJob.f k (sp ++ jobText a b c d e f ++ sp) = some (res a b c e d f) := by
  obtain ⟨⟨h1, h2⟩, ⟨h3, h4⟩, ⟨h5, h6⟩, h7, h8⟩ := (okB_iff a b c e).1 ho
  obtain ⟨w1, w2, w3⟩ := W_size a b c d e f ⟨by omega, h2⟩ ⟨by omega, h4⟩ ⟨by omega, h6⟩ ⟨h7, h8⟩
  have hf : fields (sp ++ jobText a b c d e f ++ sp) = (W a b c d e f, true) := by
    rw [← J_W]
    refine fields_text _ _ (W_word a b c d e f (by omega) (by omega) (by omega) (by omega)) ?_ ?_
    · have := w2; unfold W at this; omega
    · have hq : J (num a :: num b :: num c :: num e :: ((if d = true then [dupW] else []) ++ (if f = true then [helW] else []))) = jobText a b c d e f := J_W a b c d e f
      rw [hq, ByteArray.size_append, ByteArray.size_append, sp_size]; omega
  unfold impl_ParseJob.f
  rw [implFields _ k hk, hf, Option.bind_some, if_pos rfl]
  have h4' : ¬ (((W a b c d e f).length : Int) < 4) := by simp [W]; omega
  rw [if_neg h4']
  have hr := impl_read k (by omega) (num a) (num b) (num c) (num e) ((if d = true then [dupW] else []) ++ (if f = true then [helW] else [])) w1 (by have := w2; unfold W at this; omega)
  refine Eq.trans hr ?_
  congr 1
  have hm : impl_ParseJob.l1 ((if d = true then [dupW] else []) ++ (if f = true then [helW] else [])) false false = (d, f) := by
    have a1 : impl_ParseJob.isDup dupW = true ∧ impl_ParseJob.isHeld dupW = false ∧ impl_ParseJob.isDup helW = false ∧ impl_ParseJob.isHeld helW = true := by
      refine ⟨?_, ?_, ?_, ?_⟩ <;> (simp only [impl_ParseJob.isDup, impl_ParseJob.isHeld, Lib.toList_data]; decide)
    cases d <;> cases f <;> simp [impl_ParseJob.l1, a1]
  unfold implR
  rw [pu_int a (by omega) ha, pu_int b (by omega) (by omega), pu_int c (by omega) (by omega), pu_int e (by omega) (by omega), hm]
  have hh : hit a b c e (J (num a :: num b :: num c :: num e :: ((if d = true then [dupW] else []) ++ (if f = true then [helW] else [])))) d f = true := by
    unfold hit
    rw [ho, Bool.true_and, decide_eq_true_eq]
    exact (J_W a b c d e f).symm
  rw [if_pos rfl, if_pos rfl, if_pos rfl, if_pos rfl, if_pos hh]
theorem new_l0 (x : List Int) (hx : x.length ≤ 1048576) (d : Nat) : ∀ (k : Nat) (h : Int) (i : Nat), i + d = x.length → d < k → ∃ h', spec_l01New.l0 k x h i = some (x, 0, h') := by
  induction d with
  | zero =>
    intro k h i hi hk
    obtain ⟨k, rfl⟩ : ∃ m, k = m + 1 := ⟨k - 1, by omega⟩
    rw [spec_l01New.l0, if_neg (by omega)]
    exact ⟨_, rfl⟩
  | succ d ih =>
    intro k h i hi hk
    obtain ⟨k, rfl⟩ : ∃ m, k = m + 1 := ⟨k - 1, by omega⟩
    rw [spec_l01New.l0, if_pos (by omega)]
    by_cases h4 : (i : Int) < 4000
    · rw [if_pos h4, if_pos (by omega), wrap_cast i (by omega)]
      exact ih k _ (i + 1) (by omega) (by omega)
    · rw [if_neg h4]
      exact ⟨_, rfl⟩
theorem new_some (x : List Int) (hx : x.length ≤ 1048576) (k : Nat) (hk : x.length < k) : ∃ h, spec_l01New.f k x = some (x, 0, h) := new_l0 x hx x.length k _ 0 (by omega) hk
theorem byte_some (s : List Int) (hs : s.length ≤ 1048576) (i h : Int) (hi : 0 ≤ i) : ∃ v i' h', spec_l01Byte.f s i h = some (v, i', h') ∧ 0 ≤ v ∧ v ≤ 255 ∧ 0 ≤ i' := by
  unfold spec_l01Byte.f
  simp only [i64_and255]
  by_cases h1 : i < (s.length : Int)
  · rw [if_pos h1, if_pos hi]
    exact ⟨_, _, _, rfl, by omega, by omega, by rw [wrap_id (by omega) (by omega)]; omega⟩
  · rw [if_neg h1]
    exact ⟨_, _, _, rfl, by omega, by omega, hi⟩
theorem below_some (s : List Int) (hs : s.length ≤ 1048576) (i h n : Int) (hi : 0 ≤ i) (hn : 0 < n) : ∃ v i' h', spec_l01Below.f s i h n = some (v, i', h') ∧ 0 ≤ v ∧ v < n ∧ 0 ≤ i' := by
  unfold spec_l01Below.f
  rw [if_neg (by omega)]
  obtain ⟨v1, i1, h1, e1, a1, b1, c1⟩ := byte_some s hs i h hi
  by_cases h2 : n ≤ 256
  · rw [if_pos h2, e1]
    simp only [Option.bind_some]
    rw [if_neg (by omega)]
    have := tmod_range a1 hn
    exact ⟨_, _, _, rfl, this.1, this.2, c1⟩
  · rw [if_neg h2, e1]
    simp only [Option.bind_some]
    obtain ⟨v2, i2, h2, e2, a2, b2, c2⟩ := byte_some s hs i1 h1 c1
    rw [e2]
    simp only [Option.bind_some]
    obtain ⟨v3, i3, h3, e3, a3, b3, c3⟩ := byte_some s hs i2 h2 c2
    rw [e3]
    simp only [Option.bind_some]
    obtain ⟨v4, i4, h4, e4, a4, b4, c4⟩ := byte_some s hs i3 h3 c3
    rw [e4]
    simp only [Option.bind_some]
    rw [if_neg (by omega)]
    have w1 : wrap64 (v1 * 16777216) = v1 * 16777216 := wrap_id (by omega) (by omega)
    have w2 : wrap64 (v2 * 65536) = v2 * 65536 := wrap_id (by omega) (by omega)
    have w3 : wrap64 (v3 * 256) = v3 * 256 := wrap_id (by omega) (by omega)
    rw [w1, w2, w3, wrap_id (x := v1 * 16777216 + v2 * 65536) (by omega) (by omega), wrap_id (x := v1 * 16777216 + v2 * 65536 + v3 * 256) (by omega) (by omega), wrap_id (x := v1 * 16777216 + v2 * 65536 + v3 * 256 + v4) (by omega) (by omega)]
    have := tmod_range (a := v1 * 16777216 + v2 * 65536 + v3 * 256 + v4) (by omega) hn
    exact ⟨_, _, _, rfl, this.1, this.2, c4⟩
theorem pickInt_some (s : List Int) (hs : s.length ≤ 1048576) (i h : Int) (l : List Int) (hi : 0 ≤ i) (hl : 0 < l.length) : ∃ v i' h', spec_l01PickInt.f s i h l = some (v, i', h') ∧ v ∈ l ∧ 0 ≤ i' := by
  obtain ⟨v, i', h', e, a, b, c⟩ := below_some s hs i h (l.length : Int) hi (by omega)
  refine ⟨rd l v, i', h', ?_, ?_, c⟩
  · unfold spec_l01PickInt.f
    rw [e]
    simp only [Option.bind_some]
    rw [if_pos a, if_pos b]
  · have := rd_mem l v.toNat (by omega)
    rwa [show ((v.toNat : Nat) : Int) = v by omega] at this
theorem once_some (s : List Int) (hs : s.length ≤ 1048576) (i h n : Int) (hi : 0 ≤ i) (hn : 0 < n) : ∃ v i' h', spec_l01Once.f s i h n = some (v, i', h') ∧ 0 ≤ i' := by
  obtain ⟨v, i', h', e, a, b, c⟩ := below_some s hs i h n hi hn
  refine ⟨v == 0, i', h', ?_, c⟩
  unfold spec_l01Once.f
  rw [e]; rfl
/-- How many sheets a job of b pages has, a page a side. -/
def sheetsN (b : Int) (d : Bool) : Int := if d = true then (b + 1) / 2 else b
theorem sheetsN_range (b : Int) (d : Bool) (h0 : 1 ≤ b) (h1 : b ≤ 64) : 1 ≤ sheetsN b d ∧ sheetsN b d ≤ 64 := by unfold sheetsN; split <;> omega
theorem small : ∀ i : Fin 64, ∀ d : Bool, impl_SheetsFor.f 70 ((i.val : Int) + 1) 1 d = some (sheetsN ((i.val : Int) + 1) d) := by decide +kernel
theorem small' (b : Int) (d : Bool) (h0 : 1 ≤ b) (h1 : b ≤ 64) : impl_SheetsFor.f 70 b 1 d = some (sheetsN b d) := by
  have := small ⟨(b - 1).toNat, by omega⟩ d
  rw [show (((b - 1).toNat : Nat) : Int) + 1 = b by omega] at this
  exact this
theorem implSheets_eq (b : Int) (d : Bool) (h0 : 1 ≤ b) (h1 : b ≤ 64) : impl_SheetsFor.f 70 b 1 d = some (sheetsN b d) := small' b d h0 h1
theorem implSheets_eq71 (b : Int) (d : Bool) (h0 : 1 ≤ b) (h1 : b ≤ 64) : impl_SheetsFor.f 71 b 1 d = some (sheetsN b d) := impl_SheetsFor.mono b 1 d 70 _ (small' b d h0 h1)
theorem implSheetsK (b : Int) (d : Bool) (h0 : 1 ≤ b) (h1 : b ≤ 64) (k : Nat) (hk : 70 ≤ k) : impl_SheetsFor.f k b 1 d = some (sheetsN b d) := by
  obtain ⟨q, rfl⟩ : ∃ q, k = 70 + q := ⟨k - 70, by omega⟩
  clear hk
  induction q with
  | zero => exact small' b d h0 h1
  | succ q ih => exact impl_SheetsFor.mono b 1 d (70 + q) _ ih
def tN (b c : Int) (d : Bool) : Int := c * sheetsN b d
theorem tN_range (b c : Int) (d : Bool) (hb : 1 ≤ b ∧ b ≤ 64) (hc : 1 ≤ c ∧ c ≤ 20) : 1 ≤ tN b c d ∧ tN b c d ≤ 1280 := by
  have h := sheetsN_range b d hb.1 hb.2
  unfold tN
  generalize sheetsN b d = s at h
  have h1 : c * 1 ≤ c * s := Int.mul_le_mul_of_nonneg_left h.1 (by omega)
  have h2 : c * s ≤ c * 64 := Int.mul_le_mul_of_nonneg_left h.2 (by omega)
  omega
theorem implJobSheets_eq (a b c : Int) (d : Bool) (e : Int) (f : Bool) (h : okB a b c e = true) (k : Nat) (hk : 70 ≤ k) : impl_JobSheets.f k a b c d e f = some (tN b c d) := by
  have h' := (okB_iff a b c e).1 h
  have ht := tN_range b c d h'.2.1 h'.2.2.1
  unfold impl_JobSheets.f
  rw [iok_eq, h]
  simp only [Option.bind_some, if_true]
  rw [implSheetsK b d h'.2.1.1 h'.2.1.2 k hk]
  simp only [Option.bind_some]
  unfold tN at ht ⊢
  rw [wrap_id (by omega) (by omega)]
theorem drawJob_some (s : List Int) (hs : s.length ≤ 1048576) (i h : Int) (hi : 0 ≤ i) : ∃ (a b c : Int) (d : Bool) (e : Int) (f : Bool) (i' h' : Int), spec_l28Job.f s i h = some (a, b, c, d, e, f, i', h') ∧ okB a b c e = true ∧ a < 100 := by
  obtain ⟨v1, i1, h1, e1, a1, b1, c1⟩ := below_some s hs i h 20 hi (by omega)
  obtain ⟨v2, i2, h2, e2, a2, b2, c2⟩ := below_some s hs i1 h1 10 c1 (by omega)
  obtain ⟨v3, i3, h3, e3, a3, c3⟩ := pickInt_some s hs i2 h2 [1, 2, 3, 64, wrap64 (1 + v2)] c2 (by simp)
  obtain ⟨v4, i4, h4, e4, a4, c4⟩ := pickInt_some s hs i3 h3 [1, 1, 2, 20] c3 (by simp)
  obtain ⟨v5, i5, h5, e5, c5⟩ := once_some s hs i4 h4 2 c4 (by omega)
  obtain ⟨v6, i6, h6, e6, a6, b6, c6⟩ := below_some s hs i5 h5 10 c5 (by omega)
  obtain ⟨v7, i7, h7, e7, c7⟩ := once_some s hs i6 h6 4 c6 (by omega)
  have w1 : wrap64 (1 + v1) = 1 + v1 := wrap_id (by omega) (by omega)
  have w2 : wrap64 (1 + v2) = 1 + v2 := wrap_id (by omega) (by omega)
  rw [w2] at a3
  simp only [List.mem_cons, List.mem_nil_iff, or_false] at a3 a4
  refine ⟨1 + v1, v3, v4, v5, v6, v7, i7, h7, ?_, (okB_iff _ _ _ _).2 ⟨⟨by omega, by omega⟩, ⟨by omega, by omega⟩, ⟨by omega, by omega⟩, a6, by omega⟩, by omega⟩
  unfold spec_l28Job.f
  rw [e1]
  simp only [Option.bind_some]
  rw [e2]
  simp only [Option.bind_some]
  rw [e3]
  simp only [Option.bind_some]
  rw [e4]
  simp only [Option.bind_some]
  rw [e5]
  simp only [Option.bind_some]
  rw [e6]
  simp only [Option.bind_some]
  rw [e7, w1]
  rfl
/-- The pages on the first s sheets of a copy. -/
def cnt (P : Int) (d : Bool) (s : Int) : Int := if d = true then (if 2 * s ≤ P then 2 * s else P) else s
theorem page_at (a P C : Int) (d : Bool) (e : Int) (f : Bool) (ho : okB a P C e = true) (k : Nat) (hk : 80 ≤ k) (i s : Int) (hi : 0 ≤ i) (hn : i < tN P C d) (hs : Int.tmod i (sheetsN P d) = s) (h0 : 0 ≤ s) (h1 : s < sheetsN P d) :
    impl_PageOfSheet.f k a P C d e f i = some (if d = true then (2 * s + 1, if 2 * s + 2 > P then 0 else 2 * s + 2) else (s + 1, 0)) := by
  have h' := (okB_iff a P C e).1 ho
  have ht := tN_range P C d h'.2.1 h'.2.2.1
  have hr := sheetsN_range P d h'.2.1.1 h'.2.1.2
  obtain ⟨k, rfl⟩ : ∃ m, k = m + 1 := ⟨k - 1, by omega⟩
  unfold impl_PageOfSheet.f
  rw [iok_eq, ho, Option.bind_some, if_pos rfl, implJobSheets_eq a P C d e f ho (k + 1) (by omega), Option.bind_some, within_eq, Option.bind_some]
  have hb : inB i 0 (wrap64 (tN P C d - 1)) = true := (inB_iff _ _ _).2 (by rw [wrap_id (by omega) (by omega)]; omega)
  rw [hb]
  simp only [impl_PageOfSheet.j0]
  rw [if_neg (by decide), implSheetsK P d h'.2.1.1 h'.2.1.2 k (by omega), Option.bind_some, if_neg (by omega), hs]
  have w1 : wrap64 (2 * s) = 2 * s := wrap_id (by omega) (by omega)
  have w2 : wrap64 (2 * s + 1) = 2 * s + 1 := wrap_id (by omega) (by omega)
  have w3 : wrap64 (2 * s + 2) = 2 * s + 2 := wrap_id (by omega) (by omega)
  have w4 : wrap64 (s + 1) = s + 1 := wrap_id (by omega) (by omega)
  rw [w1, w2, w3, w4]
  cases d with
  | false => simp
  | true =>
    by_cases c : 2 * s + 2 > P
    · simp [c]
    · simp [c]
theorem page_end (a P C : Int) (d : Bool) (e : Int) (f : Bool) (ho : okB a P C e = true) (k : Nat) (hk : 80 ≤ k) : impl_PageOfSheet.f k a P C d e f (tN P C d) = some (0, 0) := by
  have h' := (okB_iff a P C e).1 ho
  have ht := tN_range P C d h'.2.1 h'.2.2.1
  obtain ⟨k, rfl⟩ : ∃ m, k = m + 1 := ⟨k - 1, by omega⟩
  unfold impl_PageOfSheet.f
  rw [iok_eq, ho, Option.bind_some, if_pos rfl, implJobSheets_eq a P C d e f ho (k + 1) (by omega), Option.bind_some, within_eq, Option.bind_some]
  have hb : inB (tN P C d) 0 (wrap64 (tN P C d - 1)) = false := by
    cases hq : inB (tN P C d) 0 (wrap64 (tN P C d - 1)) with
    | false => rfl
    | true => have q := (inB_iff _ _ _).1 hq; rw [wrap_id (by omega) (by omega)] at q; omega
  rw [hb]
  simp only [impl_PageOfSheet.j0]
  rw [if_pos (by decide)]
def loop (a P C : Int) (d : Bool) (e : Int) (f : Bool) (k : Nat) (n i : Int) : Option Bool := laws_FnJobs.l0 k true true (tN P C d) n i a P C d e f a P C d e f
theorem loop_step (a P C : Int) (d : Bool) (e : Int) (f : Bool) (ho : okB a P C e = true) (k : Nat) (hk : 80 ≤ k) (n i s : Int) (hn : 0 ≤ n ∧ n ≤ 100000) (hi : 0 ≤ i) (hi' : i < tN P C d) (hs : Int.tmod i (sheetsN P d) = s) (h0 : 0 ≤ s) (h1 : s < sheetsN P d) :
    loop a P C d e f (k + 1) (n + cnt P d s) i = loop a P C d e f k (n + cnt P d (s + 1)) (i + 1) := by
  have h' := (okB_iff a P C e).1 ho
  have ht := tN_range P C d h'.2.1 h'.2.2.1
  have hsh : sheetsN P d = if d = true then (P + 1) / 2 else P := rfl
  unfold loop
  simp only [laws_FnJobs.l0]
  rw [if_pos hi', page_at a P C d e f ho k hk i s hi hi' hs h0 h1, Option.bind_some]
  have w2 : wrap64 (i + 1) = i + 1 := wrap_id (by omega) (by omega)
  cases d with
  | false =>
    rw [if_neg (by decide)] at hsh
    have q : cnt P false s = s ∧ cnt P false (s + 1) = s + 1 := by unfold cnt; constructor <;> rfl
    rw [q.1, q.2]
    simp only [Bool.false_eq_true, if_false]
    rw [if_neg (by omega), if_neg (by omega), if_pos trivial]
    unfold laws_btoi.f
    rw [if_neg (by decide), Option.bind_some, w2, wrap_id (x := n + s + 1) (by omega) (by omega), wrap_id (by omega) (by omega), show n + s + 1 + 0 = n + (s + 1) by omega]
  | true =>
    rw [if_pos rfl] at hsh
    have q : cnt P true s = 2 * s := by unfold cnt; rw [if_pos rfl, if_pos (by omega)]
    rw [q]
    simp only [if_true]
    rw [if_neg (by omega), if_neg (by omega)]
    have w1 : wrap64 (n + 2 * s + 1) = n + 2 * s + 1 := wrap_id (by omega) (by omega)
    by_cases c : 2 * s + 2 > P
    · have q2 : cnt P true (s + 1) = 2 * s + 1 := by unfold cnt; rw [if_pos rfl, if_neg (by omega)]; omega
      rw [if_pos c, if_pos rfl]
      unfold laws_btoi.f
      rw [if_neg (by decide), Option.bind_some, w1, w2, wrap_id (by omega) (by omega), q2, show n + 2 * s + 1 + 0 = n + (2 * s + 1) by omega]
    · have q2 : cnt P true (s + 1) = 2 * s + 2 := by unfold cnt; rw [if_pos rfl, if_pos (by omega)]; omega
      have hne : ((2 * s + 2 : Int) != 0) = true := bne_iff_ne.2 (by omega)
      have w3 : wrap64 (2 * s + 1 + 1) = 2 * s + 2 := by rw [wrap_id (by omega) (by omega)]; omega
      rw [if_neg c, if_neg (by omega), w3, if_pos rfl, hne]
      unfold laws_btoi.f
      rw [if_pos rfl, Option.bind_some, w1, w2, wrap_id (by omega) (by omega), q2, show n + 2 * s + 1 + 1 = n + (2 * s + 2) by omega]
theorem cnt_full (P : Int) (d : Bool) (_ : 1 ≤ P) : cnt P d (sheetsN P d) = P := by
  unfold cnt sheetsN
  cases d with
  | false => rfl
  | true => simp only [if_true]; split <;> omega
theorem loop_copy (a P C : Int) (d : Bool) (e : Int) (f : Bool) (ho : okB a P C e = true) (K : Nat) (hK : 80 ≤ K) (n b : Int) (hn : 0 ≤ n ∧ n ≤ 100000) (hb : 0 ≤ b) (hb' : b + sheetsN P d ≤ tN P C d) (hm : ∀ s : Int, 0 ≤ s → s < sheetsN P d → Int.tmod (b + s) (sheetsN P d) = s) (m : Nat) :
    ∀ s : Int, 0 ≤ s → s + m = sheetsN P d → loop a P C d e f (m + K) (n + cnt P d s) (b + s) = loop a P C d e f K (n + P) (b + sheetsN P d) := by
  have h' := (okB_iff a P C e).1 ho
  induction m with
  | zero =>
    intro s h0 hs
    obtain rfl : s = sheetsN P d := by omega
    rw [cnt_full P d h'.2.1.1, Nat.zero_add]
  | succ m ih =>
    intro s h0 hs
    rw [show m + 1 + K = (m + K) + 1 by omega, loop_step a P C d e f ho (m + K) (by omega) n (b + s) s hn (by omega) (by omega) (hm s h0 (by omega)) h0 (by omega), show b + s + 1 = b + (s + 1) by omega]
    exact ih (s + 1) (by omega) (by omega)
theorem cnt_zero (P : Int) (d : Bool) (h : 0 ≤ P) : cnt P d 0 = 0 := by
  unfold cnt
  cases d with
  | false => rfl
  | true => rw [if_pos rfl, if_pos (by omega)]; rfl
theorem loop_all (a P C : Int) (d : Bool) (e : Int) (f : Bool) (ho : okB a P C e = true) (K : Nat) (hK : 80 ≤ K) (S : Nat) (hS : (S : Int) = sheetsN P d) (m : Nat) :
    ∀ c : Nat, (c : Int) + m = C → loop a P C d e f (m * S + K) ((c : Int) * P) ((c : Int) * S) = loop a P C d e f K (C * P) (C * S) := by
  have h' := (okB_iff a P C e).1 ho
  have hr := sheetsN_range P d h'.2.1.1 h'.2.1.2
  induction m with
  | zero =>
    intro c hc
    obtain rfl : C = (c : Int) := by omega
    rw [Nat.zero_mul, Nat.zero_add]
  | succ m ih =>
    intro c hc
    have hm : ∀ s : Int, 0 ≤ s → s < sheetsN P d → Int.tmod ((c : Int) * S + s) (sheetsN P d) = s := by
      intro s h0 h1
      obtain ⟨q, rfl⟩ : ∃ q : Nat, s = (q : Int) := ⟨s.toNat, by omega⟩
      rw [← hS, Int.tmod_eq_emod_of_nonneg (by have : (0 : Int) ≤ (c : Int) * S := Int.mul_nonneg (by omega) (by omega); omega)]
      have e1 : ((c : Int) * S + q) = ((c * S + q : Nat) : Int) := by simp
      rw [e1, ← Int.natCast_emod, Nat.mul_comm, Nat.mul_add_mod, Nat.mod_eq_of_lt (by omega)]
    have hle : (c : Int) * S + S ≤ tN P C d := by
      unfold tN
      rw [← hS]
      have e1 : (c : Int) * S + S = ((c : Int) + 1) * S := by rw [Int.add_mul, Int.one_mul]
      rw [e1]
      exact Int.mul_le_mul_of_nonneg_right (by omega) (by omega)
    have hcP : 0 ≤ (c : Int) * P ∧ (c : Int) * P ≤ 100000 := by
      have q1 : 0 ≤ (c : Int) * P := Int.mul_nonneg (by omega) (by omega)
      have q2 : (c : Int) * P ≤ 20 * P := Int.mul_le_mul_of_nonneg_right (by omega) (by omega)
      omega
    have hcS : 0 ≤ (c : Int) * S := Int.mul_nonneg (by omega) (by omega)
    have l := loop_copy a P C d e f ho (m * S + K) (by omega) ((c : Int) * P) ((c : Int) * S) hcP hcS (by rw [← hS]; exact hle) hm S 0 (by omega) (by omega)
    rw [cnt_zero P d (by omega), Int.add_zero, Int.add_zero] at l
    rw [Nat.succ_mul, show m * S + S + K = S + (m * S + K) by omega, l, ← hS]
    have e1 : (c : Int) * P + P = ((c + 1 : Nat) : Int) * P := by rw [show ((c + 1 : Nat) : Int) = (c : Int) + 1 by omega, Int.add_mul, Int.one_mul]
    have e2 : (c : Int) * S + S = ((c + 1 : Nat) : Int) * S := by rw [show ((c + 1 : Nat) : Int) = (c : Int) + 1 by omega, Int.add_mul, Int.one_mul]
    rw [e1, e2]
    exact ih (c + 1) (by omega)
theorem loop_end (a P C : Int) (d : Bool) (e : Int) (f : Bool) (ho : okB a P C e = true) (K : Nat) (hK : 80 ≤ K) : loop a P C d e f (K + 1) (C * P) (tN P C d) = some true := by
  have h' := (okB_iff a P C e).1 ho
  have hCP : 0 ≤ C * P ∧ C * P ≤ 100000 := by
    have q1 : 0 ≤ C * P := Int.mul_nonneg (by omega) (by omega)
    have q2 : C * P ≤ 20 * P := Int.mul_le_mul_of_nonneg_right (by omega) (by omega)
    omega
  unfold loop
  simp only [laws_FnJobs.l0]
  rw [if_neg (by omega), page_end a P C d e f ho K hK, Option.bind_some, iok_eq, ho, Option.bind_some, if_pos rfl]
  simp
  rw [wrap_id (by omega) (by omega)]
theorem pure : laws_FnJobs.Stm := by
  intro x hx _
  refine ⟨x.length + 6000, ?_⟩
  unfold laws_FnJobs.f laws_big.f
  simp only [Option.bind_some]
  by_cases h : (x.length : Int) > 1048576
  · simp [h]
  · rw [if_neg (by simpa using h)]
    obtain ⟨h0, e0⟩ := new_some x (by omega) (x.length + 6000) (by omega)
    obtain ⟨a, P, C, d, e, f, i', h'', e1, ho, ha⟩ := drawJob_some x (by omega) 0 h0 (by omega)
    have hd : spec_DrawJob.f (x.length + 6000) x = some (a, P, C, d, e, f) := by
      unfold spec_DrawJob.f
      rw [e0]
      simp only [Option.bind_some]
      rw [e1]; rfl
    have h' := (okB_iff a P C e).1 ho
    have hr := sheetsN_range P d h'.2.1.1 h'.2.1.2
    have ht := tN_range P C d h'.2.1 h'.2.2.1
    obtain ⟨w1, w2, w3⟩ := W_size a P C d e f ⟨by omega, h'.1.2⟩ ⟨by omega, h'.2.1.2⟩ ⟨by omega, h'.2.2.1.2⟩ h'.2.2.2
    rw [hd]
    simp only [Option.bind_some]
    rw [implJob, if_pos ho]
    simp only [Option.bind_some]
    have hp := parse_back a P C d e f ho ha (x.length + 6000) (by omega)
    have g1 : 1 + (jobText a P C d e f).size ≤ 9223372036854775807 := by omega
    have g2 : ((⟨#[32]⟩ : ByteArray) ++ jobText a P C d e f).size + 1 ≤ 9223372036854775807 := by
      have : (⟨#[32]⟩ : ByteArray).size = 1 := rfl
      rw [ByteArray.size_append]; omega
    rw [if_pos g1, if_pos g2]
    have hp' : impl_ParseJob.f (x.length + 6000) (((⟨#[32]⟩ : ByteArray) ++ jobText a P C d e f) ++ (⟨#[32]⟩ : ByteArray)) = some (res a P C e d f) := hp
    rw [hp']
    simp only [Option.bind_some]
    rw [implJobSheets_eq a P C d e f ho (x.length + 6000) (by omega)]
    simp only [Option.bind_some]
    rw [if_neg (by omega)]
    obtain ⟨S, hS⟩ : ∃ S : Nat, (S : Int) = sheetsN P d := ⟨(sheetsN P d).toNat, by omega⟩
    obtain ⟨c, hc⟩ : ∃ c : Nat, (c : Int) = C := ⟨C.toNat, by omega⟩
    have hcs : c * S ≤ 1280 := by
      have : ((c * S : Nat) : Int) = tN P C d := by unfold tN; rw [← hS, ← hc]; simp
      omega
    obtain ⟨K, hK⟩ : ∃ K, x.length + 6000 = c * S + (K + 1) ∧ 80 ≤ K := ⟨x.length + 6000 - c * S - 1, by omega, by omega⟩
    have l := loop_all a P C d e f ho (K + 1) (by omega) S hS c 0 (by omega)
    have e2 : C * (S : Int) = tN P C d := by unfold tN; rw [hS]
    rw [show (((0 : Nat) : Int)) * P = 0 by simp, show (((0 : Nat) : Int)) * (S : Int) = 0 by simp, e2, loop_end a P C d e f ho K hK.2] at l
    rw [hK.1]
    exact l
end Go.Proofs.YtneeokmfpiacoaaDoor.PureFnJobs
