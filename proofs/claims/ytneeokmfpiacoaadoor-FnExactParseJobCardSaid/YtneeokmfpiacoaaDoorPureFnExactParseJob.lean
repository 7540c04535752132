/- The program's ParseJob answers as the reference's for all texts: no condition but that the library's tables hold what the program's text lays there. -/
import Derived.Test.YtneeokmfpiacoaaDoorOpsFnExactParseJob
import Derived.Test.YtneeokmfpiacoaaDoorPlain
import Derived.Test.YtneeokmfpiacoaaDoorWordsOf
namespace Go.Proofs.YtneeokmfpiacoaaDoor.PureFnExactParseJob
open Go.RowKit Go.Proofs.YtneeokmfpiacoaaDoor.PFnExactParseJob Go.Proofs.YtneeokmfpiacoaaDoor.Opened Go.Proofs.YtneeokmfpiacoaaDoor.Plain Go.Proofs.YtneeokmfpiacoaaDoorW.PrintWords Go.Proofs.YtneeokmfpiacoaaDoorW.PrintLast Go.Proofs.YtneeokmfpiacoaaDoorW.PrintMore
def inB (a b c : Int) : Bool := if a ≥ b then decide (a ≤ c) else false
theorem in_eq (a b c : Int) : spec_l01In.f a b c = some (inB a b c) := by unfold spec_l01In.f inB; split <;> rfl
theorem within_eq (a b c : Int) : impl_within.f a b c = some (inB a b c) := in_eq a b c
theorem inB_iff (a b c : Int) : inB a b c = true ↔ b ≤ a ∧ a ≤ c := by unfold inB; split <;> simp <;> omega
def okB (a b c e : Int) : Bool := inB a 1 9999 && (inB b 1 64 && (inB c 1 20 && inB e 0 9))
theorem ok_eq (a b c : Int) (d : Bool) (e : Int) (f : Bool) : spec_JobOk.f a b c d e f = some (okB a b c e) := by
  unfold spec_JobOk.f okB
  simp only [in_eq, Option.bind_some]
  cases inB a 1 9999 <;> cases inB b 1 64 <;> cases inB c 1 20 <;> cases inB e 0 9 <;> rfl
theorem iok_eq (a b c : Int) (d : Bool) (e : Int) (f : Bool) : impl_JobOk.f a b c d e f = some (okB a b c e) := ok_eq a b c d e f
theorem okB_iff (a b c e : Int) : okB a b c e = true ↔ (1 ≤ a ∧ a ≤ 9999) ∧ (1 ≤ b ∧ b ≤ 64) ∧ (1 ≤ c ∧ c ≤ 20) ∧ (0 ≤ e ∧ e ≤ 9) := by
  simp [okB, inB_iff]
/-! The texts of numbers and of jobs. -/
def num (n : Int) : ByteArray := ⟨(Lib.itoa n).toArray⟩
def sp : ByteArray := ⟨#[32]⟩
def dup : ByteArray := ⟨#[32, 100, 117, 112, 108, 101, 120]⟩
def hel : ByteArray := ⟨#[32, 104, 101, 108, 100]⟩
theorem sp_size : sp.size = 1 := rfl
theorem dup_size : dup.size = 7 := rfl
theorem hel_size : hel.size = 5 := rfl
theorem ba_ext {a b : ByteArray} (h : a.data.toList = b.data.toList) : a = b := by
  cases a; cases b; simp only [ByteArray.mk.injEq]; exact Array.toList_inj.1 h
theorem ba_append (a b : ByteArray) : (a ++ b).data.toList = a.data.toList ++ b.data.toList := by
  rw [ByteArray.data_append, Array.toList_append]
theorem num_list (n : Int) : (num n).data.toList = Lib.itoa n := rfl
theorem num_size (n : Nat) : (num (n : Int)).size = Lib.nDigits n := by
  have h : (num (n : Int)).size = (Lib.itoa (n : Int)).length := by simp [num, ByteArray.size]
  rw [h]
  unfold Lib.itoa
  rw [if_neg (by omega), Lib.decDigits_length]
  rfl
theorem nDigits_le : ∀ (d : Nat) (m : Nat), m < 10 ^ d → Lib.nDigits m ≤ d + 1
  | 0, m, h => by rw [Lib.nDigits_small (by simp at h; omega)]; omega
  | d + 1, m, h => by
    by_cases c : m < 10
    · rw [Lib.nDigits_small c]; omega
    · rw [Lib.nDigits_big c]
      have := nDigits_le d (m / 10) (by rw [Nat.pow_succ] at h; omega)
      omega
theorem figure_eq (d : Nat) (h : d < 10) : spec_l01Figure.f (d : Int) = some ((48 : Int) + d) := by
  unfold spec_l01Figure.f
  rw [if_pos (by omega)]
  congr 1
  unfold wrap64
  omega
theorem strOfNums_list (d : Nat) (h : d < 10) : (strOfNums [(48 : Int) + d]).data.toList = [UInt8.ofNat (48 + d)] := by
  have e : ((48 : Int) + (d : Int)) = ((48 + d : Nat) : Int) := by omega
  rw [e]
  have : ∀ q : Fin 10, (strOfNums [((48 + q.val : Nat) : Int)]).data.toList = [UInt8.ofNat (48 + q.val)] := by decide +kernel
  exact this ⟨d, h⟩
/-- The loop of the reference's FormatInt puts the number's text ahead of what is there. -/
theorem fmt_l0 : ∀ (k m : Nat) (x : ByteArray), 0 < m → m ≤ 9223372036854775807 → Lib.nDigits m < k → x.size + Lib.nDigits m ≤ 1000 →
    spec_FormatInt.l0 k (m : Int) false x = some (⟨(Lib.decDigits m).toArray⟩ ++ x)
  | 0, m, x, _, _, h, _ => by omega
  | k + 1, m, x, h0, h1, hk, hx => by
    have hp := Lib.nDigits_pos m
    have e1 : Int.tmod (m : Int) 10 = ((m % 10 : Nat) : Int) := by rw [Int.tmod_eq_emod_of_nonneg (by omega)]; rfl
    have e2 : wrap64 (Int.tdiv (m : Int) 10) = ((m / 10 : Nat) : Int) := by
      have q : Int.tdiv (m : Int) 10 = ((m / 10 : Nat) : Int) := by rw [Int.tdiv_eq_ediv_of_nonneg (by omega)]; rfl
      rw [q]; unfold wrap64; omega
    have hs : (strOfNums [(48 : Int) + ((m % 10 : Nat) : Int)]).size = 1 := by
      rw [strOfNums_size]; rfl
    simp only [spec_FormatInt.l0]
    rw [if_neg (by omega), e1, if_neg (by omega), figure_eq _ (by omega)]
    simp only [Option.bind_some]
    rw [if_pos (by omega), e2]
    by_cases c : m < 10
    · have e3 : m / 10 = 0 := by omega
      rw [e3]
      cases k with
      | zero => rw [Lib.nDigits_small c] at hk; omega
      | succ k =>
        simp only [spec_FormatInt.l0]
        rw [if_pos (by rfl), if_neg (by decide)]
        congr 1
        apply ba_ext
        rw [ba_append, ba_append, strOfNums_list _ (by omega), Lib.decDigits, dif_pos c, Nat.mod_eq_of_lt c]
    · rw [Lib.nDigits_big c] at hk hx
      rw [fmt_l0 k (m / 10) _ (by omega) (by omega) (by omega) (by rw [ByteArray.size_append, hs]; omega)]
      congr 1
      apply ba_ext
      rw [ba_append, ba_append, ba_append, strOfNums_list _ (by omega)]
      show Lib.decDigits (m / 10) ++ _ = Lib.decDigits m ++ _
      rw [Lib.decDigits.eq_def m, dif_neg c, List.append_assoc]
theorem specFmt (n : Int) (k : Nat) (h0 : 0 ≤ n) (h1 : n ≤ 9999999999) (hk : 20 < k) : spec_FormatInt.f k n = some (num n) := by
  unfold spec_FormatInt.f
  by_cases c : n = 0
  · subst c
    rw [if_pos rfl]
    congr 1
    apply ba_ext
    rw [num_list]
    unfold Lib.itoa
    rw [if_neg (by decide), Lib.decDigits, dif_pos (by decide)]
    rfl
  · obtain ⟨m, rfl⟩ : ∃ m : Nat, n = (m : Int) := ⟨n.toNat, by omega⟩
    have hd := nDigits_le 10 m (by have : (10 : Nat) ^ 10 = 10000000000 := by decide
                                   omega)
    rw [if_neg c, decide_eq_false (by omega), fmt_l0 k m _ (by omega) (by omega) (by omega) (by show 0 + _ ≤ _; omega)]
    congr 1
    apply ba_ext
    rw [ba_append, num_list]
    unfold Lib.itoa
    rw [if_neg (by omega)]
    show Lib.decDigits m ++ [] = Lib.decDigits ((m : Int).toNat)
    rw [List.append_nil, Int.toNat_natCast]
theorem implFmt (n : Int) (h0 : 0 ≤ n) (h1 : n ≤ 9999999999) : impl_FormatInt.f n = some (num n) := by
  unfold impl_FormatInt.f strconv_Itoa_32.f
  rw [if_pos ⟨by omega, by omega⟩]
  rfl
theorem num_le (n : Int) (h0 : 0 ≤ n) (h1 : n ≤ 9999999999) : (num n).size ≤ 11 := by
  obtain ⟨m, rfl⟩ : ∃ m : Nat, n = (m : Int) := ⟨n.toNat, by omega⟩
  rw [num_size]
  exact nDigits_le 10 m (by have : (10 : Nat) ^ 10 = 10000000000 := by decide
                            omega)
/-- A job's text. -/
def jobText (a b c : Int) (d : Bool) (e : Int) (f : Bool) : ByteArray :=
  num a ++ sp ++ num b ++ sp ++ num c ++ sp ++ num e ++ (if d = true then dup else ⟨#[]⟩) ++ (if f = true then hel else ⟨#[]⟩)
theorem ba_nil (a : ByteArray) : a ++ (⟨#[]⟩ : ByteArray) = a := by
  apply ba_ext; rw [ba_append]; exact List.append_nil _
theorem specJob (a b c : Int) (d : Bool) (e : Int) (f : Bool) (k : Nat) (hk : 20 < k) : spec_FormatJob.f k a b c d e f = some (if okB a b c e = true then (jobText a b c d e f, true) else (⟨#[]⟩, false)) := by
  unfold spec_FormatJob.f
  rw [ok_eq, Option.bind_some]
  by_cases h : okB a b c e = true
  · rw [if_pos h, if_pos h]
    obtain ⟨⟨h1, h2⟩, ⟨h3, h4⟩, ⟨h5, h6⟩, h7, h8⟩ := (okB_iff a b c e).1 h
    have s1 := num_le a (by omega) (by omega)
    have s2 := num_le b (by omega) (by omega)
    have s3 := num_le c (by omega) (by omega)
    have s4 := num_le e (by omega) (by omega)
    rw [specFmt a k (by omega) (by omega) hk, specFmt b k (by omega) (by omega) hk, specFmt c k (by omega) (by omega) hk, specFmt e k (by omega) (by omega) hk]
    simp only [Option.bind_some]
    show (if _ then _ else _) = _
    change (if (num a).size + 1 ≤ 9223372036854775807 then (if (num a ++ sp).size + (num b).size ≤ 9223372036854775807 then (if (num a ++ sp ++ num b).size + 1 ≤ 9223372036854775807 then (if (num a ++ sp ++ num b ++ sp).size + (num c).size ≤ 9223372036854775807 then (if (num a ++ sp ++ num b ++ sp ++ num c).size + 1 ≤ 9223372036854775807 then (if (num a ++ sp ++ num b ++ sp ++ num c ++ sp).size + (num e).size ≤ 9223372036854775807 then (if d = true then (if (num a ++ sp ++ num b ++ sp ++ num c ++ sp ++ num e).size + 7 ≤ 9223372036854775807 then (if f = true then (if (num a ++ sp ++ num b ++ sp ++ num c ++ sp ++ num e ++ dup).size + 5 ≤ 9223372036854775807 then some (num a ++ sp ++ num b ++ sp ++ num c ++ sp ++ num e ++ dup ++ hel, true) else none) else some (num a ++ sp ++ num b ++ sp ++ num c ++ sp ++ num e ++ dup, true)) else none) else (if f = true then (if (num a ++ sp ++ num b ++ sp ++ num c ++ sp ++ num e).size + 5 ≤ 9223372036854775807 then some (num a ++ sp ++ num b ++ sp ++ num c ++ sp ++ num e ++ hel, true) else none) else some (num a ++ sp ++ num b ++ sp ++ num c ++ sp ++ num e, true))) else none) else none) else none) else none) else none) else none) = some (jobText a b c d e f, true)
    simp only [ByteArray.size_append, sp_size, dup_size]
    rw [if_pos (by omega), if_pos (by omega), if_pos (by omega), if_pos (by omega), if_pos (by omega), if_pos (by omega)]
    cases d <;> cases f
    · rw [if_neg (by decide), if_neg (by decide)]; simp [jobText, ba_nil]
    · rw [if_neg (by decide), if_pos rfl, if_pos (by omega)]; simp [jobText, ba_nil]
    · rw [if_pos rfl, if_pos (by omega), if_neg (by decide)]; simp [jobText, ba_nil]
    · rw [if_pos rfl, if_pos (by omega), if_pos rfl, if_pos (by omega)]; simp [jobText]
  · rw [if_neg h, if_neg h]
theorem joinEq (x : ByteArray) (r : List ByteArray) (h : r.length ≤ 1000) (hs : (Lib.join ((x :: r).map (·.data.toList)) sp.data.toList).length ≤ 1000) :
    strings_Join.f (x :: r) sp = some (r.foldl (fun z y => z ++ sp ++ y) x) := by
  unfold strings_Join.f
  rw [if_pos ⟨by simp only [List.length_cons]; omega, by omega⟩]
  congr 1
  apply ba_ext
  show Lib.join (x.data.toList :: r.map (·.data.toList)) sp.data.toList = _
  rw [Lib.join_cons]
  clear h hs
  induction r generalizing x with
  | nil => simp [Lib.joinTail]
  | cons y r ih =>
    rw [List.foldl_cons, ← ih (x ++ sp ++ y)]
    simp [Lib.joinTail, List.append_assoc]
theorem dup_eq : dup = sp ++ (⟨#[100, 117, 112, 108, 101, 120]⟩ : ByteArray) := by apply ba_ext; rw [ba_append]; rfl
theorem hel_eq : hel = sp ++ (⟨#[104, 101, 108, 100]⟩ : ByteArray) := by apply ba_ext; rw [ba_append]; rfl
theorem num_list_le (n : Int) (h : (num n).size ≤ 11) : (num n).data.toList.length ≤ 11 := by
  have e : (num n).data.toList.length = (num n).size := by rw [Array.length_toList]; rfl
  rw [e]; exact h
theorem implJob (a b c : Int) (d : Bool) (e : Int) (f : Bool) : impl_FormatJob.f a b c d e f = some (if okB a b c e = true then (jobText a b c d e f, true) else (⟨#[]⟩, false)) := by
  unfold impl_FormatJob.f
  rw [iok_eq, Option.bind_some]
  by_cases h : okB a b c e = true
  · rw [if_pos h, if_pos h]
    obtain ⟨⟨h1, h2⟩, ⟨h3, h4⟩, ⟨h5, h6⟩, h7, h8⟩ := (okB_iff a b c e).1 h
    have s1 := num_list_le a (num_le a (by omega) (by omega))
    have s2 := num_list_le b (num_le b (by omega) (by omega))
    have s3 := num_list_le c (num_le c (by omega) (by omega))
    have s4 := num_list_le e (num_le e (by omega) (by omega))
    rw [implFmt a (by omega) (by omega), implFmt b (by omega) (by omega), implFmt c (by omega) (by omega), implFmt e (by omega) (by omega)]
    simp only [Option.bind_some, List.length_cons, List.length_nil, List.length_append, List.cons_append, List.nil_append]
    have j (x y z u : ByteArray) (r : List ByteArray) (hr : r.length ≤ 2) (hx : x.data.toList.length ≤ 11) (hy : y.data.toList.length ≤ 11) (hz : z.data.toList.length ≤ 11) (hu : u.data.toList.length ≤ 11) (hq : (r.map (·.data.toList.length)).sum ≤ 10) : strings_Join.f (x :: y :: z :: u :: r) sp = some ((y :: z :: u :: r).foldl (fun z y => z ++ sp ++ y) x) := by
      refine joinEq x _ (by simp only [List.length_cons]; omega) ?_
      rw [List.map_cons, Lib.join_cons, List.length_append, Lib.joinTail_length]
      simp only [Lib.lens, List.map_cons, List.map_map, List.length_cons, List.sum_cons, List.length_map]
      have e1 : sp.data.toList.length = 1 := rfl
      have e2 : (List.map (List.length ∘ fun x : ByteArray => x.data.toList) r).sum = (r.map (·.data.toList.length)).sum := rfl
      rw [e1, e2]
      omega
    cases d <;> cases f
    · rw [if_neg (by decide), if_neg (by decide)]
      erw [j _ _ _ _ [] (by decide) s1 s2 s3 s4 (by decide)]
      simp [jobText, ba_nil]
    · rw [if_neg (by decide), if_pos rfl, if_pos (by decide)]
      erw [j _ _ _ _ [_] (by decide) s1 s2 s3 s4 (by decide)]
      simp [jobText, ba_nil, hel_eq, ByteArray.append_assoc]
    · rw [if_pos rfl, if_pos (by decide), if_neg (by decide)]
      erw [j _ _ _ _ [_] (by decide) s1 s2 s3 s4 (by decide)]
      simp [jobText, ba_nil, dup_eq, ByteArray.append_assoc]
    · rw [if_pos rfl, if_pos (by decide), if_pos rfl, if_pos (by decide)]
      erw [j _ _ _ _ [_, _] (by decide) s1 s2 s3 s4 (by decide)]
      simp [jobText, dup_eq, hel_eq, ByteArray.append_assoc]
  · rw [if_neg h, if_neg h]
/-! A text's fields: the reference and the program tell the same. -/
open Go.Proofs.YtneeokmfpiacoaaDoor.WordsOf in
def fields (a : ByteArray) : List ByteArray × Bool := if 600 < a.size then ([], false) else run a.data.toList [] []
open Go.Proofs.YtneeokmfpiacoaaDoor.WordsOf
theorem mk_eq (a : ByteArray) (l : List UInt8) (h : a.data.toList = l) : a = mk l := ba_ext (by rw [h]; rfl)
theorem at_drop (a : ByteArray) (i : Nat) (c : UInt8) (r : List UInt8) (h : a.data.toList.drop i = c :: r) : i < a.size ∧ a.data.toList.drop (i + 1) = r ∧ bt a (i : Int) = (c.toNat : Int) ∧ a.data.toList[i]? = some c := by
  have hl : i < a.data.toList.length := by
    rcases Nat.lt_or_ge i a.data.toList.length with q | q
    · exact q
    · rw [List.drop_eq_nil_of_le q] at h; cases h
  have hs : i < a.size := by rw [Lib.size_eq]; exact hl
  rw [List.drop_eq_getElem_cons hl] at h
  injection h with h1 h2
  refine ⟨hs, h2, ?_, by rw [List.getElem?_eq_getElem hl, h1]⟩
  unfold bt
  rw [dif_pos (by simpa using hs)]
  have : a[i] = c := by rw [← h1]; rfl
  show ((a[((i : Int)).toNat]'_).toNat : Int) = _
  simp only [Int.toNat_natCast, this]
theorem wrap_succ (i : Nat) (h : i ≤ 100000) : wrap64 ((i : Int) + 1) = ((i + 1 : Nat) : Int) := by unfold wrap64; omega
theorem cur_snoc (L : List UInt8) (b i : Nat) (c : UInt8) (hb : b ≤ i) (h : L[i]? = some c) : (L.drop b).take (i + 1 - b) = (L.drop b).take (i - b) ++ [c] := by
  rw [show i + 1 - b = (i - b) + 1 by omega, List.take_add_one, List.getElem?_drop, show b + (i - b) = i by omega, h]; rfl
theorem cur_empty (L : List UInt8) (b i : Nat) (hb : b ≤ i) (hi : i ≤ L.length) : ((L.drop b).take (i - b)).isEmpty = true ↔ ¬ b < i := by
  rw [List.isEmpty_iff_length_eq_zero, List.length_take, List.length_drop]; omega
theorem extract_mk (a : ByteArray) (b i : Nat) : a.extract b i = mk ((a.data.toList.drop b).take (i - b)) := mk_eq _ _ (by rw [Lib.extract_data])
theorem spec_run : ∀ (rest : List UInt8) (a : ByteArray) (b i : Nat) (x : List ByteArray) (k : Nat), a.data.toList.drop i = rest → b ≤ i → i ≤ a.size → a.size ≤ 600 → x.length ≤ i → 3 * rest.length + 4 ≤ k →
    spec_SplitFields.l0 k a x b i = some (run rest ((a.data.toList.drop b).take (i - b)) x)
  | [], a, b, i, x, k, hd, hb, hi, hs, hx, hk => by
    have hi' : i = a.size := by
      have := congrArg List.length hd
      rw [List.length_drop, ← Lib.size_eq] at this
      simp at this; omega
    obtain ⟨k, rfl⟩ : ∃ m, k = m + 4 := ⟨k - 4, by simp at hk; omega⟩
    have last (z : List ByteArray) : spec_SplitFields.l0 (k + 1) a z (((i + 1 : Nat) : Int)) (((i + 1 : Nat) : Int)) = some (fin z) := by
      simp only [spec_SplitFields.l0]
      rw [if_neg (by omega)]
      unfold fin
      by_cases c : 24 < z.length
      · rw [if_pos (by omega), if_pos c]
      · rw [if_neg (by omega), if_neg c]
    simp only [spec_SplitFields.l0]
    rw [if_pos (by omega), if_neg (by omega)]
    simp only [spec_SplitFields.j1]
    rw [if_neg (by decide), if_neg (by omega)]
    simp only [spec_SplitFields.j2]
    rw [if_neg (by decide), wrap_succ i (by omega)]
    have he := cur_empty a.data.toList b i hb (by rw [← Lib.size_eq]; omega)
    by_cases c : b < i
    · rw [if_pos (by omega), if_pos (by omega), if_pos (by omega), if_pos (by omega), if_pos (by omega), Int.toNat_natCast, Int.toNat_natCast, extract_mk, last, run, put, if_neg (by rw [he]; omega)]
    · rw [if_neg (by omega), last, run, put, if_pos (he.2 c), List.append_nil]
  | c :: r, a, b, i, x, k, hd, hb, hi, hs, hx, hk => by
    obtain ⟨h1, h2, h3, h4⟩ := at_drop a i c r hd
    obtain ⟨k, rfl⟩ : ∃ m, k = m + 3 := ⟨k - 3, by simp at hk; omega⟩
    have hk' : 3 * r.length + 4 ≤ k := by simp at hk; omega
    simp only [spec_SplitFields.l0]
    rw [if_pos (by omega), if_pos (by omega), if_pos (by omega), h3]
    by_cases q1 : (c.toNat : Int) < 32
    · rw [if_pos q1]
      simp only [spec_SplitFields.j1]
      rw [if_pos trivial, run, if_neg (by unfold okc; simp; omega)]
    · rw [if_neg q1]
      simp only [spec_SplitFields.j1]
      by_cases q2 : (c.toNat : Int) > 126
      · rw [if_pos (decide_eq_true q2), run, if_neg (by unfold okc; simp; omega)]
      · rw [if_neg (by simpa using q2), if_pos (by omega), if_pos (by omega), h3]
        rw [run, if_pos (by unfold okc; simp; omega)]
        simp only [spec_SplitFields.j2]
        rw [wrap_succ i (by omega)]
        have he := cur_empty a.data.toList b i hb (by rw [← Lib.size_eq]; omega)
        by_cases q3 : c = 32
        · have e3 : ((c.toNat : Int) != 32) = false := by rw [q3]; rfl
          rw [if_neg (by rw [e3]; decide), if_pos q3]
          have next (z : List ByteArray) (hz : z.length ≤ i + 1) : spec_SplitFields.l0 k a z (((i + 1 : Nat) : Int)) (((i + 1 : Nat) : Int)) = some (run r [] z) := by
            rw [spec_run r a (i + 1) (i + 1) z k h2 (Nat.le_refl _) (by omega) hs hz hk', Nat.sub_self, List.take_zero]
          by_cases q4 : b < i
          · rw [if_pos (by omega), if_pos (by omega), if_pos (by omega), if_pos (by omega), if_pos (by omega), Int.toNat_natCast, Int.toNat_natCast, extract_mk, next _ (by simp; omega), put, if_neg (by rw [he]; omega)]
          · rw [if_neg (by omega), next _ (by omega), put, if_pos (he.2 q4), List.append_nil]
        · have e3 : ((c.toNat : Int) != 32) = true := by
            rw [bne_iff_ne]; intro e; exact q3 (UInt8.toNat_inj.1 (by show c.toNat = 32; omega))
          rw [if_pos e3, if_neg q3, spec_run r a b (i + 1) x k h2 (by omega) (by omega) hs (by omega) hk', cur_snoc _ b i c hb h4]
theorem specFields (a : ByteArray) (k : Nat) (hk : 2000 ≤ k) : spec_SplitFields.f k a = some (fields a) := by
  unfold spec_SplitFields.f fields
  rw [Option.bind_some]
  by_cases h : 600 < a.size
  · rw [if_pos (by omega), if_pos h]
  · rw [if_neg (by omega), if_neg h]
    have hl : a.data.toList.length = a.size := (Lib.size_eq a).symm
    have := spec_run a.data.toList a 0 0 [] k rfl (Nat.le_refl _) (Nat.zero_le _) (by omega) (Nat.zero_le _) (by omega)
    simpa using this
/-- The program's fields. -/
theorem impl_l1 : ∀ (d : Nat) (x t : List ByteArray) (i k : Nat), i + d = t.length → d < k → t.length ≤ 100000 → x.length + d ≤ 100000 →
    impl_SplitFields.l1 k x t (t.length : Int) (i : Int) = some (fin (x ++ (t.drop i).filter (fun y => !y.data.toList.isEmpty)))
  | 0, x, t, i, k, hi, hk, ht, hx => by
    obtain ⟨k, rfl⟩ : ∃ m, k = m + 1 := ⟨k - 1, by omega⟩
    simp only [impl_SplitFields.l1]
    rw [if_neg (by omega), List.drop_eq_nil_of_le (by omega), List.filter_nil, List.append_nil]
    unfold fin
    by_cases c : 24 < x.length
    · rw [if_pos (by omega), if_pos c]
    · rw [if_neg (by omega), if_neg c]
  | d + 1, x, t, i, k, hi, hk, ht, hx => by
    obtain ⟨k, rfl⟩ : ∃ m, k = m + 1 := ⟨k - 1, by omega⟩
    have hlt : i < t.length := by omega
    have he : rdOf ByteArray.empty t (i : Int) = t[i] := by simp [rdOf, List.getElem?_eq_getElem hlt, List.getD_eq_getElem?_getD]
    simp only [impl_SplitFields.l1]
    rw [if_pos (by omega), if_pos (by omega), if_pos (by omega), he, wrap_succ i (by omega), Lib.toList_data, List.drop_eq_getElem_cons hlt, List.filter_cons]
    by_cases c : t[i].data.toList = []
    · rw [if_pos c, impl_l1 d x t (i + 1) k (by omega) (by omega) ht (by omega), if_neg (by rw [c]; decide)]
    · rw [if_neg c, if_pos (by omega), impl_l1 d _ t (i + 1) k (by omega) (by omega) ht (by simp; omega), if_pos (by simpa [List.isEmpty_iff] using c), List.append_assoc]; rfl
theorem split_eq (a : ByteArray) (h : a.size ≤ 600) : ∃ t, strings_Split.f a (⟨#[32]⟩ : ByteArray) = some t ∧ t.map (·.data.toList) = pieces a.data.toList ∧ t.length ≤ 601 := by
  refine ⟨Lib.splitB (⟨#[32]⟩ : ByteArray) 0 (Lib.countB a (⟨#[32]⟩ : ByteArray)) a, ?_, ?_, ?_⟩
  · unfold strings_Split.f; rw [if_pos ⟨by omega, by decide⟩]
  · rw [Lib.splitB_data]; exact splitK_eq _
  · have := Lib.splitB_length_le (⟨#[32]⟩ : ByteArray) 0 (Lib.countB a (⟨#[32]⟩ : ByteArray)) a
    have := Lib.countB_le (⟨#[32]⟩ : ByteArray) (by decide) a.size a (Nat.le_refl _)
    omega
theorem filter_mk (t : List ByteArray) : t.filter (fun y => !y.data.toList.isEmpty) = ((t.map (·.data.toList)).filter (fun p => !p.isEmpty)).map mk := by
  induction t with
  | nil => rfl
  | cons y t ih =>
    rw [List.map_cons, List.filter_cons, List.filter_cons]
    by_cases c : (!y.data.toList.isEmpty) = true
    · rw [if_pos c, if_pos c, List.map_cons, ← ih, ← mk_eq y _ rfl]
    · rw [if_neg c, if_neg c, ih]
theorem impl_l0 : ∀ (rest : List UInt8) (a : ByteArray) (i k : Nat), a.data.toList.drop i = rest → i ≤ a.size → a.size ≤ 600 → rest.length + 1000 ≤ k →
    impl_SplitFields.l0 k a (i : Int) = some (if rest.all okc = true then fin ((words a.data.toList).map mk) else ([], false))
  | [], a, i, k, hd, hi, hs, hk => by
    have hi' : i = a.size := by
      have := congrArg List.length hd
      rw [List.length_drop, ← Lib.size_eq] at this
      simp at this; omega
    obtain ⟨k, rfl⟩ : ∃ m, k = m + 1 := ⟨k - 1, by omega⟩
    obtain ⟨t, h1, h2, h3⟩ := split_eq a hs
    simp only [impl_SplitFields.l0]
    rw [if_neg (by omega), h1, Option.bind_some]
    have := impl_l1 t.length [] t 0 k (by omega) (by simp at hk; omega) (by omega) (by simp; omega)
    rw [show ((0 : Nat) : Int) = 0 from rfl, List.drop_zero, List.nil_append, filter_mk, h2] at this
    rw [this]; rfl
  | c :: r, a, i, k, hd, hi, hs, hk => by
    obtain ⟨h1, h2, h3, h4⟩ := at_drop a i c r hd
    obtain ⟨k, rfl⟩ : ∃ m, k = m + 1 := ⟨k - 1, by omega⟩
    simp only [impl_SplitFields.l0]
    rw [if_pos (by omega), if_pos (by omega), h3, List.all_cons]
    by_cases q1 : (c.toNat : Int) < 32
    · have : okc c = false := by unfold okc; simp; omega
      rw [if_pos q1, this, Bool.false_and]; rfl
    · by_cases q2 : (c.toNat : Int) > 126
      · have : okc c = false := by unfold okc; simp; omega
        rw [if_neg q1, if_pos q2, this, Bool.false_and]; rfl
      · have : okc c = true := by unfold okc; simp; omega
        rw [if_neg q1, if_neg q2, this, Bool.true_and, wrap_succ i (by omega), impl_l0 r a (i + 1) k h2 (by omega) hs (by simp at hk; omega)]
theorem implFields (a : ByteArray) (k : Nat) (hk : 2000 ≤ k) : impl_SplitFields.f k a = some (fields a) := by
  unfold impl_SplitFields.f fields
  by_cases h : 600 < a.size
  · rw [if_pos (by omega), if_pos h]
  · rw [if_neg (by omega), if_neg h]
    have hl : a.data.toList.length = a.size := (Lib.size_eq a).symm
    have := impl_l0 a.data.toList a 0 k rfl (Nat.zero_le _) (by omega) (by omega)
    rw [show ((0 : Nat) : Int) = 0 from rfl] at this
    rw [this, run_eq _ _ _ (by simp), List.nil_append, List.nil_append]
/-- What a text with fields is made of. -/
theorem fields_ok (a : ByteArray) (h : (fields a).2 = true) : (fields a).1 = (words a.data.toList).map mk ∧ (fields a).1.length ≤ 24 ∧ a.size ≤ 600 := by
  unfold fields at h ⊢
  by_cases c : 600 < a.size
  · rw [if_pos c] at h; cases h
  · rw [if_neg c] at h ⊢
    rw [run_eq _ _ _ (by simp)] at h ⊢
    by_cases q : a.data.toList.all okc = true
    · rw [if_pos q] at h ⊢
      rw [List.nil_append] at h ⊢
      unfold fin at h ⊢
      by_cases z : 24 < ((words ([] ++ a.data.toList)).map mk).length
      · rw [if_pos z] at h; cases h
      · rw [if_neg z]; rw [List.nil_append] at z ⊢; exact ⟨rfl, Nat.le_of_not_lt z, by omega⟩
    · rw [if_neg q] at h; cases h
/-! Numbers are read back alike. -/
theorem up {α : Type} {g : Nat → Option α} {r : α} {K : Nat} (hm : ∀ k, LeO (g k) (g (k + 1))) (h : g K = some r) : ∀ k, K ≤ k → g k = some r := by
  intro k hk
  induction k with
  | zero => obtain rfl : K = 0 := by omega
            exact h
  | succ k ih =>
    by_cases c : K = k + 1
    · subst c; exact h
    · exact hm k r (ih (by omega))
theorem step_spec (n c : Nat) (hn : n ≤ 10000000000) (h0 : 48 ≤ c) (h1 : c ≤ 57) : wrap64 ((wrap64 ((wrap64 (10 * (n : Int))) + (wrap64 (c : Int)))) - 48) = ((n * 10 + (c - 48) : Nat) : Int) := by
  rw [wrap_id (x := 10 * (n : Int)) (by omega) (by omega), wrap_id (x := (c : Int)) (by omega) (by omega), wrap_id (x := 10 * (n : Int) + c) (by omega) (by omega), wrap_id (by omega) (by omega)]
  omega
theorem step_impl (n c : Nat) (hn : n ≤ 10000000000) (h0 : 48 ≤ c) (h1 : c ≤ 57) : wrap64 ((wrap64 ((n : Int) * 10)) + (((c : Int) - 48) % 256)) = ((n * 10 + (c - 48) : Nat) : Int) := by
  have e : ((c : Int) - 48) % 256 = (c : Int) - 48 := by omega
  rw [e, wrap_id (x := (n : Int) * 10) (by omega) (by omega), wrap_id (by omega) (by omega)]
  omega
theorem uint_l0 : ∀ (d : Nat) (a : ByteArray) (n i : Nat) (k : Nat), i + d = a.size → a.size ≤ 10 → n < 10 ^ i → d + 30 ≤ k →
    ∃ (v : Int) (b : Bool), spec_ParseUint.l0 k a (n : Int) (i : Int) = some (v, b) ∧ impl_ParseUint.l0 k a (n : Int) (i : Int) = some (v, b) ∧ (b = true → a = num v ∧ 0 ≤ v ∧ v ≤ 1000000000) ∧ (b = false → v = 0)
  | 0, a, n, i, k, hi, hs, hn, hk => by
    obtain ⟨k, rfl⟩ : ∃ m, k = m + 1 := ⟨k - 1, by omega⟩
    have hp : (10 : Nat) ^ i ≤ 10 ^ 10 := Nat.pow_le_pow_right (by decide) (by omega)
    have hp' : (10 : Nat) ^ 10 = 10000000000 := by decide
    simp only [spec_ParseUint.l0, impl_ParseUint.l0]
    have hi0 : ¬ (i : Int) < (a.size : Int) := by omega
    rw [if_neg hi0, if_neg hi0]
    by_cases c : (n : Int) > 1000000000
    · rw [if_pos c, if_pos c]; exact ⟨0, false, rfl, rfl, by simp, fun _ => rfl⟩
    · rw [if_neg c, if_neg c, specFmt _ _ (by omega) (by omega) (by omega), implFmt _ (by omega) (by omega)]
      simp only [Option.bind_some]
      by_cases e : (num (n : Int)).toList = a.toList
      · rw [if_pos e]
        refine ⟨(n : Int), true, rfl, rfl, fun _ => ⟨?_, by omega, by omega⟩, by simp⟩
        apply ba_ext
        rw [← Lib.toList_data, ← Lib.toList_data, e]
      · rw [if_neg e]; exact ⟨0, false, rfl, rfl, by simp, fun _ => rfl⟩
  | d + 1, a, n, i, k, hi, hs, hn, hk => by
    obtain ⟨k, rfl⟩ : ∃ m, k = m + 1 := ⟨k - 1, by omega⟩
    have hp : (10 : Nat) ^ (i + 1) ≤ 10 ^ 10 := Nat.pow_le_pow_right (by decide) (by omega)
    have hp' : (10 : Nat) ^ 10 = 10000000000 := by decide
    have hq : (10 : Nat) ^ (i + 1) = 10 ^ i * 10 := Nat.pow_succ ..
    obtain ⟨b0, b1⟩ := bt_range a (i : Int)
    obtain ⟨c, hc⟩ : ∃ c : Nat, bt a (i : Int) = c := ⟨(bt a (i : Int)).toNat, by omega⟩
    simp only [spec_ParseUint.l0, impl_ParseUint.l0]
    have hi0 : (i : Int) < (a.size : Int) := by omega
    have hi1 : (0 : Int) ≤ (i : Int) := by omega
    rw [if_pos hi0, if_pos hi0, if_pos hi1, if_pos hi1, hc]
    by_cases c1 : (c : Int) < 48
    · rw [if_pos c1, if_pos c1]; exact ⟨0, false, rfl, rfl, by simp, fun _ => rfl⟩
    · by_cases c2 : (c : Int) > 57
      · rw [if_neg c1, if_neg c1, if_pos c2, if_pos c2]; exact ⟨0, false, rfl, rfl, by simp, fun _ => rfl⟩
      · rw [if_neg c1, if_neg c1, if_neg c2, if_neg c2]
        have hn' : n ≤ 10000000000 := by
          have q : (10 : Nat) ^ i ≤ 10 ^ (i + 1) := Nat.pow_le_pow_right (by decide) (by omega)
          omega
        have e1 := step_spec n c hn' (by omega) (by omega)
        have e2 := step_impl n c hn' (by omega) (by omega)
        rw [e1, e2, wrap_succ i (by omega)]
        have hlt : n * 10 + (c - 48) < 10 ^ (i + 1) := by
          rw [Nat.pow_succ]
          clear hp hp' hq e1 e2
          generalize 10 ^ i = P at hn ⊢
          omega
        clear hp hp' hq hn e1 e2
        exact uint_l0 d a (n * 10 + (c - 48)) (i + 1) k (by omega) hs hlt (by omega)
theorem j0_true (a : ByteArray) (k : Nat) : impl_ParseUint.j0 (k + 1) a true = some (0, false) := by simp only [impl_ParseUint.j0]; rw [if_pos trivial]
theorem j0_false (a : ByteArray) (k : Nat) : impl_ParseUint.j0 (k + 1) a false = impl_ParseUint.l0 k a 0 0 := by simp only [impl_ParseUint.j0]; rw [if_neg (by decide)]
theorem uint_both (a : ByteArray) (k : Nat) (hk : 60 ≤ k) : ∃ (v : Int) (b : Bool), spec_ParseUint.f (k + 1) a = some (v, b) ∧ impl_ParseUint.f (k + 1) a = some (v, b) ∧ (b = true → a = num v ∧ 0 ≤ v ∧ v ≤ 1000000000) ∧ (b = false → v = 0) := by
  unfold spec_ParseUint.f impl_ParseUint.f
  by_cases h : a.size ≤ 10
  · have h1 : decide ((a.size : Int) > 10) = false := decide_eq_false (by omega)
    have h2 : ¬ (a.size : Int) > 10 := by omega
    rw [if_neg h2, h1, j0_true, j0_false]
    obtain ⟨v, b, e1, e2, e3, e4⟩ := uint_l0 a.size a 0 0 k (by omega) h (by decide) (by omega)
    have m1 := (spec_ParseUint.mono_l k) a ((0 : Nat) : Int) ((0 : Nat) : Int) _ e1
    by_cases c : (a.size : Int) = 0
    · rw [if_pos c]
      refine ⟨v, b, m1, ?_, e3, e4⟩
      cases b with
      | false => rw [e4 rfl]
      | true =>
        obtain ⟨q1, q2, q3⟩ := e3 rfl
        exfalso
        obtain ⟨m, rfl⟩ : ∃ m : Nat, v = (m : Int) := ⟨v.toNat, by omega⟩
        have q4 := congrArg ByteArray.size q1
        rw [num_size] at q4
        have := Lib.nDigits_pos m
        omega
    · rw [if_neg c]
      exact ⟨v, b, m1, e2, e3, e4⟩
  · have h1 : decide ((a.size : Int) > 10) = true := decide_eq_true (by omega)
    have h2 : (a.size : Int) > 10 := by omega
    have h3 : ¬ (a.size : Int) = 0 := by omega
    rw [if_pos h2, if_neg h3, h1, j0_true]
    exact ⟨0, false, rfl, rfl, by simp, fun _ => rfl⟩
def pu (a : ByteArray) : Int × Bool := (spec_ParseUint.f 100 a).getD (0, false)
theorem pu_eq (a : ByteArray) : spec_ParseUint.f 100 a = some (pu a) ∧ impl_ParseUint.f 100 a = some (pu a) ∧ ((pu a).2 = true → a = num (pu a).1 ∧ 0 ≤ (pu a).1 ∧ (pu a).1 ≤ 1000000000) ∧ ((pu a).2 = false → (pu a).1 = 0) := by
  obtain ⟨v, b, e1, e2, e3, e4⟩ := uint_both a 99 (by omega)
  have : pu a = (v, b) := by unfold pu; rw [e1]; rfl
  rw [this]
  exact ⟨e1, e2, e3, e4⟩
theorem specPU (a : ByteArray) (k : Nat) (hk : 100 ≤ k) : spec_ParseUint.f k a = some (pu a) := up (g := fun k => spec_ParseUint.f k a) (fun k => spec_ParseUint.mono a k) (pu_eq a).1 k hk
theorem implPU (a : ByteArray) (k : Nat) (hk : 100 ≤ k) : impl_ParseUint.f k a = some (pu a) := up (g := fun k => impl_ParseUint.f k a) (fun k => impl_ParseUint.mono a k) (pu_eq a).2.1 k hk
/-! A job's text, read back. -/
def dupW : ByteArray := ⟨#[100, 117, 112, 108, 101, 120]⟩
def helW : ByteArray := ⟨#[104, 101, 108, 100]⟩
def J (fs : List ByteArray) : ByteArray := mk (Lib.join (fs.map (·.data.toList)) [32])
theorem J_one (x : ByteArray) : J [x] = x := by unfold J; rw [List.map_cons, List.map_nil, Lib.join_one]; exact (mk_eq x _ rfl).symm
theorem J_snoc (x : ByteArray) (r : List ByteArray) (y : ByteArray) : J (x :: r ++ [y]) = J (x :: r) ++ sp ++ y := by
  apply ba_ext
  rw [ba_append, ba_append]
  show Lib.join ((x :: r ++ [y]).map (·.data.toList)) [32] = Lib.join ((x :: r).map (·.data.toList)) [32] ++ [32] ++ y.data.toList
  rw [List.cons_append, List.map_cons, List.map_cons, Lib.join_cons, Lib.join_cons]
  simp [Lib.joinTail, List.append_assoc]
def W (a b c : Int) (d : Bool) (e : Int) (f : Bool) : List ByteArray := num a :: num b :: num c :: num e :: ((if d = true then [dupW] else []) ++ (if f = true then [helW] else []))
theorem J_W (a b c : Int) (d : Bool) (e : Int) (f : Bool) : J (W a b c d e f) = jobText a b c d e f := by
  have h4 : J [num a, num b, num c, num e] = num a ++ sp ++ num b ++ sp ++ num c ++ sp ++ num e := by
    rw [show [num a, num b, num c, num e] = num a :: [num b, num c] ++ [num e] from rfl, J_snoc, show num a :: [num b, num c] = num a :: [num b] ++ [num c] from rfl, J_snoc, show num a :: [num b] = num a :: [] ++ [num b] from rfl, J_snoc, J_one]
  have hd : dup = sp ++ dupW := by apply ba_ext; rw [ba_append]; rfl
  have hh : hel = sp ++ helW := by apply ba_ext; rw [ba_append]; rfl
  cases d <;> cases f
  · simp only [W, jobText, Bool.false_eq_true, if_false, ba_nil, List.append_nil]; exact h4
  · simp only [W, jobText, Bool.false_eq_true, if_false, if_true, ba_nil, List.nil_append]
    rw [show num a :: num b :: num c :: num e :: [helW] = num a :: [num b, num c, num e] ++ [helW] from rfl, J_snoc, h4, hh, ← ByteArray.append_assoc]
  · simp only [W, jobText, Bool.false_eq_true, if_false, if_true, ba_nil, List.append_nil]
    rw [show num a :: num b :: num c :: num e :: [dupW] = num a :: [num b, num c, num e] ++ [dupW] from rfl, J_snoc, h4, hd, ← ByteArray.append_assoc]
  · simp only [W, jobText, if_true]
    rw [show num a :: num b :: num c :: num e :: ([dupW] ++ [helW]) = num a :: [num b, num c, num e, dupW] ++ [helW] from rfl, J_snoc, show num a :: [num b, num c, num e, dupW] = num a :: [num b, num c, num e] ++ [dupW] from rfl, J_snoc, h4, hd, hh, ← ByteArray.append_assoc, ← ByteArray.append_assoc]
theorem num_free (n : Int) (h : 0 ≤ n) : (32 : UInt8) ∉ (num n).data.toList := by
  rw [num_list]; unfold Lib.itoa; rw [if_neg (by omega)]; exact dec_free _
theorem W_free (a b c : Int) (d : Bool) (e : Int) (f : Bool) (ha : 0 ≤ a) (hb : 0 ≤ b) (hc : 0 ≤ c) (he : 0 ≤ e) : ∀ p ∈ (W a b c d e f).map (·.data.toList), (32 : UInt8) ∉ p := by
  intro p hp
  have hdw : (32 : UInt8) ∉ dupW.data.toList := by decide
  have hhw : (32 : UInt8) ∉ helW.data.toList := by decide
  have na := num_free a ha
  have nb := num_free b hb
  have nc := num_free c hc
  have ne := num_free e he
  cases d <;> cases f <;> simp only [W, Bool.false_eq_true, if_false, if_true, List.append_nil, List.nil_append, List.singleton_append, List.map_cons, List.map_nil, List.mem_cons, List.mem_nil_iff, or_false] at hp
  · rcases hp with rfl | rfl | rfl | rfl <;> assumption
  · rcases hp with rfl | rfl | rfl | rfl | rfl <;> assumption
  · rcases hp with rfl | rfl | rfl | rfl | rfl <;> assumption
  · rcases hp with rfl | rfl | rfl | rfl | rfl | rfl <;> assumption
/-- A text of fields that is a job's text has the job's words for fields. -/
theorem key (x : ByteArray) (r : List ByteArray) (a b c : Int) (d : Bool) (e : Int) (f : Bool) (hf : ∀ p ∈ (x :: r).map (·.data.toList), (32 : UInt8) ∉ p) (ha : 0 ≤ a) (hb : 0 ≤ b) (hc : 0 ≤ c) (he : 0 ≤ e) (h : jobText a b c d e f = J (x :: r)) : x :: r = W a b c d e f := by
  rw [← J_W] at h
  have h' : Lib.join ((W a b c d e f).map (·.data.toList)) [32] = Lib.join ((x :: r).map (·.data.toList)) [32] := congrArg (fun z : ByteArray => z.data.toList) h
  have hw := W_free a b c d e f ha hb hc he
  obtain ⟨T, hT⟩ : ∃ T, W a b c d e f = num a :: T := ⟨_, rfl⟩
  rw [hT] at hw h' ⊢
  have e2 : (num a :: T).map (·.data.toList) = (x :: r).map (·.data.toList) := by
    rw [List.map_cons] at hw hf h'
    rw [List.map_cons] at h'
    exact join_inj _ _ _ _ hw hf h'
  have inj : ∀ (u v : List ByteArray), u.map (·.data.toList) = v.map (·.data.toList) → u = v := by
    intro u
    induction u with
    | nil => intro v hv; cases v with
      | nil => rfl
      | cons _ _ => simp at hv
    | cons y u ih => intro v hv; cases v with
      | nil => simp at hv
      | cons z v =>
        simp only [List.map_cons, List.cons.injEq] at hv
        rw [ba_ext hv.1, ih v hv.2]
  exact (inj _ _ e2).symm
/-! The two readers of a job. -/
theorem pieces_len : ∀ (l : List UInt8), ∀ p ∈ pieces l, p.length ≤ l.length
  | [], p, h => by simp [pieces] at h; simp [h]
  | c :: l, p, h => by
    have ih := pieces_len l
    unfold pieces at h
    by_cases hc : c = 32
    · rw [if_pos hc] at h
      rcases List.mem_cons.1 h with rfl | h
      · simp
      · have := ih p h; simp; omega
    · rw [if_neg hc] at h
      split at h
      · rename_i q qs hq
        rcases List.mem_cons.1 h with rfl | h
        · have := ih q (by rw [hq]; simp); simp; exact this
        · have := ih p (by rw [hq]; exact List.mem_cons_of_mem _ h); simp; omega
      · rename_i hq; exact absurd hq (pieces_ne l)
theorem fields_size (a : ByteArray) (h : (fields a).2 = true) : ∀ y ∈ (fields a).1, y.size ≤ 600 := by
  obtain ⟨h1, h2, h3⟩ := fields_ok a h
  intro y hy
  rw [h1] at hy
  obtain ⟨p, hp, rfl⟩ := List.mem_map.1 hy
  have q1 := pieces_len a.data.toList p (List.mem_filter.1 hp).1
  have q2 : (mk p).size = p.length := by rw [Lib.size_eq]; rfl
  rw [← Lib.size_eq] at q1
  omega
theorem fields_free (a : ByteArray) (h : (fields a).2 = true) : ∀ p ∈ (fields a).1.map (·.data.toList), (32 : UInt8) ∉ p := by
  obtain ⟨h1, h2, h3⟩ := fields_ok a h
  intro p hp
  rw [h1, List.map_map] at hp
  obtain ⟨q, hq, rfl⟩ := List.mem_map.1 hp
  exact words_free _ q hq
theorem lens_le (r : List ByteArray) (h : ∀ y ∈ r, y.size ≤ 600) : Lib.lens (r.map (·.data.toList)) ≤ 600 * r.length := by
  induction r with
  | nil => simp [Lib.lens]
  | cons y r ih =>
    have h1 := ih (fun z hz => h z (List.mem_cons_of_mem _ hz))
    have h2 := h y (by simp)
    rw [Lib.size_eq] at h2
    simp only [Lib.lens, List.map_cons, List.sum_cons, List.length_cons] at h1 ⊢
    omega
theorem J_len (fs : List ByteArray) (h : ∀ y ∈ fs, y.size ≤ 600) : (Lib.join (fs.map (·.data.toList)) [32]).length ≤ 601 * fs.length := by
  cases fs with
  | nil => simp [Lib.join_nil]
  | cons x r =>
    have h1 := lens_le r (fun z hz => h z (List.mem_cons_of_mem _ hz))
    have h2 := h x (by simp)
    rw [Lib.size_eq] at h2
    rw [List.map_cons, Lib.join_cons, List.length_append, Lib.joinTail_length, List.length_map]
    simp only [List.length_cons, List.length_nil]
    omega
theorem J_size (fs : List ByteArray) (h : ∀ y ∈ fs, y.size ≤ 600) : (J fs).size ≤ 601 * fs.length := by
  have e : (J fs).size = (Lib.join (fs.map (·.data.toList)) [32]).length := by rw [Lib.size_eq]; rfl
  rw [e]; exact J_len fs h
theorem join_J (fs : List ByteArray) (h : ∀ y ∈ fs, y.size ≤ 600) (hl : fs.length ≤ 24) : strings_Join.f fs (⟨#[32]⟩ : ByteArray) = some (J fs) := by
  have h1 := J_len fs h
  unfold strings_Join.f
  rw [if_pos ⟨by omega, by show (Lib.join (fs.map (·.data.toList)) [32]).length ≤ _; omega⟩]
  rfl
def vals (fs : List ByteArray) : List Int := fs.map (fun y => (pu y).1)
def pre (fs : List ByteArray) (i : Nat) : ByteArray := if i = 0 then ⟨#[]⟩ else J (fs.take i)
theorem spec_l0 (fs : List ByteArray) (K : Nat) (hs : ∀ y ∈ fs, y.size ≤ 600) (hl : fs.length ≤ 6) (hp : 0 < fs.length) (hK : 100 ≤ K) (d : Nat) : ∀ i : Nat, i + d = fs.length →
    spec_ParseJob.l0 (d + (K + 1)) fs (vals (fs.take i)) (pre fs i) (i : Int) = spec_ParseJob.l1 K (vals fs) (J fs) 0 := by
  induction d with
  | zero =>
    intro i hi
    rw [Nat.zero_add]
    simp only [spec_ParseJob.l0]
    rw [if_neg (by omega), List.take_of_length_le (by omega)]
    unfold pre
    rw [if_neg (by omega), List.take_of_length_le (by omega)]
  | succ d ihd =>
    intro i hi
    have hlt : i < fs.length := by omega
    have he : rdOf ByteArray.empty fs (i : Int) = fs[i] := by simp [rdOf, List.getElem?_eq_getElem hlt, List.getD_eq_getElem?_getD]
    have ht : fs.take (i + 1) = fs.take i ++ [fs[i]] := by rw [List.take_add_one, List.getElem?_eq_getElem hlt]; rfl
    have hv : vals (fs.take i) ++ [(pu fs[i]).1] = vals (fs.take (i + 1)) := by rw [ht]; simp only [vals, List.map_append, List.map_cons, List.map_nil]
    have hsz := hs fs[i] (List.getElem_mem hlt)
    have hn : (vals (fs.take i)).length ≤ 6 := by simp [vals]; omega
    have ih := ihd (i + 1) (by omega)
    have hM : 100 ≤ d + (K + 1) := by omega
    rw [show d + 1 + (K + 1) = (d + (K + 1)) + 1 by omega]
    generalize d + (K + 1) = M at ih hM ⊢
    simp only [spec_ParseJob.l0]
    rw [if_pos (by omega), if_pos (by omega), he, specPU _ _ (by omega)]
    simp only [Option.bind_some]
    rw [if_pos (by omega), hv, wrap_succ i (by omega)]
    by_cases c : i = 0
    · subst c
      have e0 : pre fs 0 ++ fs[0] = pre fs 1 := by
        unfold pre
        rw [if_pos rfl, if_neg (by decide), ht, List.take_zero, List.nil_append, J_one]
        apply ba_ext; rw [ba_append]; rfl
      have s0 : (pre fs 0).size = 0 := rfl
      have g0 : ¬ ((0 : Nat) : Int) > 0 := by decide
      have g1 : (pre fs 0).size + (fs[0]).size ≤ 9223372036854775807 := by omega
      rw [if_neg g0, if_pos g1, e0]
      exact ih
    · obtain ⟨x, r, hx⟩ : ∃ x r, fs.take i = x :: r := by
        cases hq : fs.take i with
        | nil => have := congrArg List.length hq; rw [List.length_take, List.length_nil] at this; omega
        | cons x r => exact ⟨x, r, rfl⟩
      have e1 : (pre fs i ++ (⟨#[32]⟩ : ByteArray)) ++ fs[i] = pre fs (i + 1) := by
        unfold pre
        rw [if_neg c, if_neg (by omega), ht, hx, J_snoc]; rfl
      have s1 : (pre fs i).size ≤ 601 * 6 := by
        unfold pre
        rw [if_neg c]
        have := J_size (fs.take i) (fun y hy => hs y (List.mem_of_mem_take hy))
        rw [List.length_take] at this
        omega
      have s2 : (pre fs i ++ (⟨#[32]⟩ : ByteArray)).size = (pre fs i).size + 1 := by rw [ByteArray.size_append]; rfl
      have g0 : (i : Int) > 0 := by omega
      have g1 : (pre fs i).size + 1 ≤ 9223372036854775807 := by omega
      have g2 : (pre fs i ++ (⟨#[32]⟩ : ByteArray)).size + (fs[i]).size ≤ 9223372036854775807 := by omega
      rw [if_pos g0, if_pos g1, if_pos g2, e1]
      exact ih
/-- Is this the text of the job with these marks? -/
def hit (n0 n1 n2 n3 : Int) (t : ByteArray) (d h : Bool) : Bool := okB n0 n1 n2 n3 && decide (jobText n0 n1 n2 d n3 h = t)
def res (n0 n1 n2 n3 : Int) (d h : Bool) : Int × Int × Int × Bool × Int × Bool × Bool := (n0, n1, n2, d, n3, h, true)
def zero7 : Int × Int × Int × Bool × Int × Bool × Bool := (0, 0, 0, false, 0, false, false)
theorem text_eq (x y : ByteArray) : (x.toList = y.toList) ↔ x = y := by
  rw [Lib.toList_data, Lib.toList_data]
  exact ⟨ba_ext, fun h => by rw [h]⟩
theorem l1_step (k : Nat) (hk : 21 ≤ k) (i : Int) (hi : i < 4) (n0 n1 n2 n3 : Int) (ms : List Int) (t : ByteArray) :
    spec_ParseJob.l1 (k + 1) (n0 :: n1 :: n2 :: n3 :: ms) t i = if hit n0 n1 n2 n3 t (Int.tmod i 2 == 1) (decide (i ≥ 2)) = true then some (res n0 n1 n2 n3 (Int.tmod i 2 == 1) (decide (i ≥ 2))) else spec_ParseJob.l1 k (n0 :: n1 :: n2 :: n3 :: ms) t (wrap64 (i + 1)) := by
  have r0 : rd (n0 :: n1 :: n2 :: n3 :: ms) 0 = n0 := rfl
  have r1 : rd (n0 :: n1 :: n2 :: n3 :: ms) 1 = n1 := rfl
  have r2 : rd (n0 :: n1 :: n2 :: n3 :: ms) 2 = n2 := rfl
  have r3 : rd (n0 :: n1 :: n2 :: n3 :: ms) 3 = n3 := rfl
  simp only [spec_ParseJob.l1]
  rw [if_pos hi, if_pos (by simp only [List.length_cons]; omega), if_pos (by simp only [List.length_cons]; omega), if_pos (by simp only [List.length_cons]; omega), if_pos (by simp only [List.length_cons]; omega), r0, r1, r2, r3, specJob _ _ _ _ _ _ k (by omega)]
  simp only [Option.bind_some]
  unfold hit
  by_cases c : okB n0 n1 n2 n3 = true
  · rw [if_pos c, if_pos rfl, c, Bool.true_and]
    by_cases e : jobText n0 n1 n2 (Int.tmod i 2 == 1) n3 (decide (i ≥ 2)) = t
    · rw [if_pos ((text_eq _ _).2 e), if_pos (decide_eq_true e)]; rfl
    · rw [if_neg (fun q => e ((text_eq _ _).1 q)), if_neg (by simpa using e)]
  · rw [if_neg c, if_neg (by decide)]
    rw [Bool.not_eq_true] at c
    rw [c, Bool.false_and, if_neg (by decide)]
theorem l1_all (k : Nat) (hk : 21 ≤ k) (n0 n1 n2 n3 : Int) (ms : List Int) (t : ByteArray) :
    spec_ParseJob.l1 (k + 5) (n0 :: n1 :: n2 :: n3 :: ms) t 0 = some (if hit n0 n1 n2 n3 t false false = true then res n0 n1 n2 n3 false false else if hit n0 n1 n2 n3 t true false = true then res n0 n1 n2 n3 true false else if hit n0 n1 n2 n3 t false true = true then res n0 n1 n2 n3 false true else if hit n0 n1 n2 n3 t true true = true then res n0 n1 n2 n3 true true else zero7) := by
  have e0 : (Int.tmod 0 2 == 1) = false ∧ decide ((0 : Int) ≥ 2) = false ∧ wrap64 (0 + 1) = 1 := ⟨by decide, by decide, by unfold wrap64; omega⟩
  have e1 : (Int.tmod 1 2 == 1) = true ∧ decide ((1 : Int) ≥ 2) = false ∧ wrap64 (1 + 1) = 2 := ⟨by decide, by decide, by unfold wrap64; omega⟩
  have e2 : (Int.tmod 2 2 == 1) = false ∧ decide ((2 : Int) ≥ 2) = true ∧ wrap64 (2 + 1) = 3 := ⟨by decide, by decide, by unfold wrap64; omega⟩
  have e3 : (Int.tmod 3 2 == 1) = true ∧ decide ((3 : Int) ≥ 2) = true ∧ wrap64 (3 + 1) = 4 := ⟨by decide, by decide, by unfold wrap64; omega⟩
  have e4 : spec_ParseJob.l1 (k + 1) (n0 :: n1 :: n2 :: n3 :: ms) t 4 = some zero7 := by
    simp only [spec_ParseJob.l1]; rw [if_neg (by decide)]; rfl
  rw [l1_step (k + 4) (by omega) 0 (by decide), e0.1, e0.2.1, e0.2.2, l1_step (k + 3) (by omega) 1 (by decide), e1.1, e1.2.1, e1.2.2, l1_step (k + 2) (by omega) 2 (by decide), e2.1, e2.2.1, e2.2.2, l1_step (k + 1) (by omega) 3 (by decide), e3.1, e3.2.1, e3.2.2, e4]
  split
  · rfl
  · split
    · rfl
    · split
      · rfl
      · split <;> rfl
/-- What the program answers of its fields. -/
def implR (f0 f1 f2 f3 : ByteArray) (r : List ByteArray) : Int × Int × Int × Bool × Int × Bool × Bool :=
  if (pu f0).2 = true then (if (pu f1).2 = true then (if (pu f2).2 = true then (if (pu f3).2 = true then (if hit (pu f0).1 (pu f1).1 (pu f2).1 (pu f3).1 (J (f0 :: f1 :: f2 :: f3 :: r)) (impl_ParseJob.l1 r false false).1 (impl_ParseJob.l1 r false false).2 = true then res (pu f0).1 (pu f1).1 (pu f2).1 (pu f3).1 (impl_ParseJob.l1 r false false).1 (impl_ParseJob.l1 r false false).2 else zero7) else zero7) else zero7) else zero7) else zero7
theorem impl_at (k : Nat) (hk : 100 ≤ k) (fs : List ByteArray) (i : Int) (K : Int → Option (Int × Int × Int × Bool × Int × Bool × Bool)) : impl_ParseJob.at_ k fs i K = if (pu (rdOf ByteArray.empty fs i)).2 = true then K (pu (rdOf ByteArray.empty fs i)).1 else some zero7 := by
  unfold impl_ParseJob.at_
  rw [implPU _ _ hk, Option.bind_some]; rfl
theorem impl_j2 (fs : List ByteArray) (hs : ∀ y ∈ fs, y.size ≤ 600) (hl : fs.length ≤ 24) (n0 n1 n2 n3 : Int) (d h : Bool) : impl_ParseJob.j2 fs n0 n1 n2 n3 d h = some (if hit n0 n1 n2 n3 (J fs) d h = true then res n0 n1 n2 n3 d h else zero7) := by
  unfold impl_ParseJob.j2 hit
  rw [implJob, Option.bind_some, join_J fs hs hl]
  by_cases c : okB n0 n1 n2 n3 = true
  · rw [if_pos c, if_pos rfl, c, Bool.true_and, Option.bind_some]
    by_cases e : jobText n0 n1 n2 d n3 h = J fs
    · rw [if_pos ((text_eq _ _).2 e), if_pos (decide_eq_true e)]; rfl
    · rw [if_neg (fun q => e ((text_eq _ _).1 q)), if_neg (by simpa using e)]; rfl
  · rw [if_neg c, if_neg (by decide)]
    rw [Bool.not_eq_true] at c
    rw [c, Bool.false_and, if_neg (by decide)]; rfl
theorem impl_read (k : Nat) (hk : 100 ≤ k) (f0 f1 f2 f3 : ByteArray) (r : List ByteArray) (hs : ∀ y ∈ f0 :: f1 :: f2 :: f3 :: r, y.size ≤ 600) (hl : (f0 :: f1 :: f2 :: f3 :: r).length ≤ 24) :
    impl_ParseJob.l0 k (f0 :: f1 :: f2 :: f3 :: r) 0 0 0 0 0 = some (implR f0 f1 f2 f3 r) := by
  have r0 : rdOf ByteArray.empty (f0 :: f1 :: f2 :: f3 :: r) 0 = f0 := rfl
  have r1 : rdOf ByteArray.empty (f0 :: f1 :: f2 :: f3 :: r) 1 = f1 := rfl
  have r2 : rdOf ByteArray.empty (f0 :: f1 :: f2 :: f3 :: r) 2 = f2 := rfl
  have r3 : rdOf ByteArray.empty (f0 :: f1 :: f2 :: f3 :: r) 3 = f3 := rfl
  simp only [impl_ParseJob.l0, impl_ParseJob.j1]
  rw [impl_at k hk, r0, impl_at k hk, r1, impl_at k hk, r2, impl_at k hk, r3, impl_j2 _ hs hl]
  unfold implR
  split
  · split
    · split
      · split
        · rfl
        · rfl
      · rfl
    · rfl
  · rfl
theorem pu_zero : pu (num 0) = (0, true) := by
  unfold pu
  have e : num 0 = (⟨#[48]⟩ : ByteArray) := by
    apply ba_ext; rw [num_list]; unfold Lib.itoa; rw [if_neg (by decide), Lib.decDigits, dif_pos (by decide)]; rfl
  rw [e]
  decide +kernel
/-- A text that is a number's text, and tells that number, is read without a fault. -/
theorem pu_ok (x : ByteArray) (h : x = num (pu x).1) : (pu x).2 = true := by
  cases hq : (pu x).2 with
  | true => rfl
  | false =>
    have h0 := (pu_eq x).2.2.2 hq
    rw [h0] at h
    rw [h, pu_zero] at hq
    exact absurd hq (by decide)
/-- Where the text is a job's, the program reads that job. -/
theorem impl_hit (f0 f1 f2 f3 : ByteArray) (r : List ByteArray) (hf : ∀ p ∈ (f0 :: f1 :: f2 :: f3 :: r).map (·.data.toList), (32 : UInt8) ∉ p) (d h : Bool)
    (hh : hit (pu f0).1 (pu f1).1 (pu f2).1 (pu f3).1 (J (f0 :: f1 :: f2 :: f3 :: r)) d h = true) :
    implR f0 f1 f2 f3 r = res (pu f0).1 (pu f1).1 (pu f2).1 (pu f3).1 d h ∧ r.length ≤ 2 := by
  have hh' := hh
  unfold hit at hh'
  rw [Bool.and_eq_true, decide_eq_true_eq] at hh'
  obtain ⟨ho, ht⟩ := hh'
  obtain ⟨⟨h1, h2⟩, ⟨h3, h4⟩, ⟨h5, h6⟩, h7, h8⟩ := (okB_iff _ _ _ _).1 ho
  have hk := key f0 (f1 :: f2 :: f3 :: r) _ _ _ d _ h hf (by omega) (by omega) (by omega) (by omega) ht
  unfold W at hk
  simp only [List.cons.injEq] at hk
  obtain ⟨k0, k1, k2, k3, k4⟩ := hk
  have hm : impl_ParseJob.l1 r false false = (d, h) ∧ r.length ≤ 2 := by
    rw [k4]
    have a1 : impl_ParseJob.isDup dupW = true ∧ impl_ParseJob.isHeld dupW = false ∧ impl_ParseJob.isDup helW = false ∧ impl_ParseJob.isHeld helW = true := by
      refine ⟨?_, ?_, ?_, ?_⟩ <;> (simp only [impl_ParseJob.isDup, impl_ParseJob.isHeld, Lib.toList_data]; decide)
    cases d <;> cases h <;> simp [impl_ParseJob.l1, a1]
  unfold implR
  rw [if_pos (pu_ok f0 k0), if_pos (pu_ok f1 k1), if_pos (pu_ok f2 k2), if_pos (pu_ok f3 k3), hm.1]
  exact ⟨by rw [if_pos hh], hm.2⟩
theorem eq_self (x : Int × Int × Int × Bool × Int × Bool × Bool) : laws_eqJob.f x.1 x.2.1 x.2.2.1 x.2.2.2.1 x.2.2.2.2.1 x.2.2.2.2.2.1 x.1 x.2.1 x.2.2.1 x.2.2.2.1 x.2.2.2.2.1 x.2.2.2.2.2.1 = some true := by
  unfold laws_eqJob.f; simp
theorem same (a : ByteArray) : ∃ x, spec_ParseJob.f 3000 a = some x ∧ impl_ParseJob.f 3000 a = some x := by
  unfold spec_ParseJob.f impl_ParseJob.f
  rw [specFields a 3000 (by decide), implFields a 3000 (by decide), Option.bind_some, Option.bind_some]
  have z0 (fs : List ByteArray) (k : Nat) : spec_ParseJob.j0 (k + 1) fs true = some zero7 := by simp only [spec_ParseJob.j0]; rw [if_pos trivial]; rfl
  by_cases ho : (fields a).2 = true
  · rw [if_pos ho, if_pos ho, in_eq, Option.bind_some]
    have hs := fields_size a ho
    have hf := fields_free a ho
    have hl := (fields_ok a ho).2.1
    by_cases h4 : ((fields a).1.length : Int) < 4
    · have hi : inB ((fields a).1.length : Int) 4 6 = false := by
        cases hq : inB ((fields a).1.length : Int) 4 6 with
        | false => rfl
        | true => have := (inB_iff _ _ _).1 hq; omega
      rw [if_pos h4, hi]
      exact ⟨zero7, z0 _ 2999, rfl⟩
    · rw [if_neg h4]
      revert hs hf hl h4
      generalize (fields a).1 = fs
      intro hs hf hl h4
      obtain ⟨f0, f1, f2, f3, r, rfl⟩ : ∃ f0 f1 f2 f3 r, fs = f0 :: f1 :: f2 :: f3 :: r := by
        match fs, h4 with
        | f0 :: f1 :: f2 :: f3 :: r, _ => exact ⟨f0, f1, f2, f3, r, rfl⟩
        | [], h => simp at h
        | [_], h => simp at h
        | [_, _], h => simp at h
        | [_, _, _], h => simp at h
      refine ⟨implR f0 f1 f2 f3 r, ?_, impl_read 3000 (by decide) f0 f1 f2 f3 r hs hl⟩
      by_cases h6 : (f0 :: f1 :: f2 :: f3 :: r).length ≤ 6
      · have hi : inB ((f0 :: f1 :: f2 :: f3 :: r).length : Int) 4 6 = true := (inB_iff _ _ _).2 ⟨by omega, by omega⟩
        rw [hi]
        have j : spec_ParseJob.j0 3000 (f0 :: f1 :: f2 :: f3 :: r) (!true) = spec_ParseJob.l0 2999 (f0 :: f1 :: f2 :: f3 :: r) [] (⟨#[]⟩ : ByteArray) 0 := by
          rw [show (3000 : Nat) = 2999 + 1 from rfl]; simp only [spec_ParseJob.j0]; rw [if_neg (by decide)]
        obtain ⟨K, hK⟩ : ∃ K, 2999 = (f0 :: f1 :: f2 :: f3 :: r).length + ((K + 5) + 1) := ⟨2999 - 6 - (f0 :: f1 :: f2 :: f3 :: r).length, by omega⟩
        have l := spec_l0 (f0 :: f1 :: f2 :: f3 :: r) (K + 5) hs h6 (by simp) (by omega) (f0 :: f1 :: f2 :: f3 :: r).length 0 (by omega)
        rw [← hK] at l
        rw [j]
        refine Eq.trans l ?_
        show spec_ParseJob.l1 (K + 5) ((pu f0).1 :: (pu f1).1 :: (pu f2).1 :: (pu f3).1 :: vals r) (J (f0 :: f1 :: f2 :: f3 :: r)) 0 = _
        rw [l1_all K (by omega)]
        congr 1
        have q := impl_hit f0 f1 f2 f3 r hf
        by_cases c1 : hit (pu f0).1 (pu f1).1 (pu f2).1 (pu f3).1 (J (f0 :: f1 :: f2 :: f3 :: r)) false false = true
        · rw [if_pos c1]; exact (q _ _ c1).1.symm
        · rw [if_neg c1]
          by_cases c2 : hit (pu f0).1 (pu f1).1 (pu f2).1 (pu f3).1 (J (f0 :: f1 :: f2 :: f3 :: r)) true false = true
          · rw [if_pos c2]; exact (q _ _ c2).1.symm
          · rw [if_neg c2]
            by_cases c3 : hit (pu f0).1 (pu f1).1 (pu f2).1 (pu f3).1 (J (f0 :: f1 :: f2 :: f3 :: r)) false true = true
            · rw [if_pos c3]; exact (q _ _ c3).1.symm
            · rw [if_neg c3]
              by_cases c4 : hit (pu f0).1 (pu f1).1 (pu f2).1 (pu f3).1 (J (f0 :: f1 :: f2 :: f3 :: r)) true true = true
              · rw [if_pos c4]; exact (q _ _ c4).1.symm
              · rw [if_neg c4]
                unfold implR
                have no : ¬ hit (pu f0).1 (pu f1).1 (pu f2).1 (pu f3).1 (J (f0 :: f1 :: f2 :: f3 :: r)) (impl_ParseJob.l1 r false false).1 (impl_ParseJob.l1 r false false).2 = true := by
                  cases (impl_ParseJob.l1 r false false).1 <;> cases (impl_ParseJob.l1 r false false).2 <;> assumption
                rw [if_neg no]
                split
                · split
                  · split
                    · split <;> rfl
                    · rfl
                  · rfl
                · rfl
      · have hi : inB ((f0 :: f1 :: f2 :: f3 :: r).length : Int) 4 6 = false := by
          cases hq : inB ((f0 :: f1 :: f2 :: f3 :: r).length : Int) 4 6 with
          | false => rfl
          | true => have := (inB_iff _ _ _).1 hq; omega
        rw [hi]
        refine (z0 _ 2999).trans ?_
        congr 1
        unfold implR
        have no : ¬ hit (pu f0).1 (pu f1).1 (pu f2).1 (pu f3).1 (J (f0 :: f1 :: f2 :: f3 :: r)) (impl_ParseJob.l1 r false false).1 (impl_ParseJob.l1 r false false).2 = true := fun c => by
          have := (impl_hit f0 f1 f2 f3 r hf _ _ c).2
          simp only [List.length_cons] at h6
          omega
        rw [if_neg no]
        split
        · split
          · split
            · split <;> rfl
            · rfl
          · rfl
        · rfl
  · rw [if_neg ho, if_neg ho]
    exact ⟨zero7, z0 _ 2999, rfl⟩
theorem pure : laws_FnExactParseJob.Stm := by
  intro a _
  refine ⟨3000, ?_⟩
  unfold laws_FnExactParseJob.f
  by_cases h : (a.size : Int) > 1048576
  · rw [if_pos h]
  · rw [if_neg h]
    obtain ⟨x, h1, h2⟩ := same a
    rw [h1, h2, Option.bind_some, Option.bind_some, eq_self, Option.bind_some, if_pos rfl]
    simp
end Go.Proofs.YtneeokmfpiacoaaDoor.PureFnExactParseJob
