/- The program's FormatJob answers as the reference's for all jobs: no condition but that the library's tables hold what the program's text lays there. -/
import Derived.Test.YtneeokmfpiacoaaDoorOpsFnExactFormatJob
import Derived.Test.YtneeokmfpiacoaaDoorPlain
namespace Go.Proofs.YtneeokmfpiacoaaDoor.PureFnExactFormatJob
open Go.RowKit Go.Proofs.YtneeokmfpiacoaaDoor.PFnExactFormatJob Go.Proofs.YtneeokmfpiacoaaDoor.Opened Go.Proofs.YtneeokmfpiacoaaDoor.Plain Go.Proofs.YtneeokmfpiacoaaDoorW.PrintWords Go.Proofs.YtneeokmfpiacoaaDoorW.PrintLast Go.Proofs.YtneeokmfpiacoaaDoorW.PrintMore
def inB (a b c : Int) : Bool := if a ≥ b then decide (a ≤ c) else false
theorem in_eq (a b c : Int) : spec_l01In.f a b c = some (inB a b c) := by unfold spec_l01In.f inB; split <;> rfl
theorem within_eq (a b c : Int) : impl_within.f a b c = some (inB a b c) := in_eq a b c
theorem inB_iff (a b c : Int) : inB a b c = true ↔ b ≤ a ∧ a ≤ c := by unfold inB; split <;> simp <;> omega
def okB (a b c e : Int) : Bool := inB a 1 9999 && (inB b 1 64 && (inB c 1 20 && inB e 0 9))
theorem ok_eq (a b c : Int) (d : Bool) (e : Int) (f : Bool) : spec_JobOk.f a b c d e f = some (okB a b c e) := by
  unfold spec_JobOk.f okB
  simp only [in_eq, Option.bind_some]
  cases inB a 1 9999 <;> cases inB b 1 64 <;> cases inB c 1 20 <;> cases inB e 0 9 <;> rfl
theorem iok_eq (a b c : Int) (d : Bool) (e : Int) (f : Bool) : impl_JobOk.f a b c d e f = some (okB a b c e) := ok_eq a b c d e f
theorem okB_iff (a b c e : Int) : okB a b c e = true ↔ (1 ≤ a ∧ a ≤ 9999) ∧ (1 ≤ b ∧ b ≤ 64) ∧ (1 ≤ c ∧ c ≤ 20) ∧ (0 ≤ e ∧ e ≤ 9) := by
  simp [okB, inB_iff]
/-! The texts of numbers and of jobs. -/
def num (n : Int) : ByteArray := ⟨(Lib.itoa n).toArray⟩
def sp : ByteArray := ⟨#[32]⟩
def dup : ByteArray := ⟨#[32, 100, 117, 112, 108, 101, 120]⟩
def hel : ByteArray := ⟨#[32, 104, 101, 108, 100]⟩
theorem sp_size : sp.size = 1 := rfl
theorem dup_size : dup.size = 7 := rfl
theorem hel_size : hel.size = 5 := rfl
theorem ba_ext {a b : ByteArray} (h : a.data.toList = b.data.toList) : a = b := by
  cases a; cases b; simp only [ByteArray.mk.injEq]; exact Array.toList_inj.1 h
theorem ba_append (a b : ByteArray) : (a ++ b).data.toList = a.data.toList ++ b.data.toList := by
  rw [ByteArray.data_append, Array.toList_append]
theorem num_list (n : Int) : (num n).data.toList = Lib.itoa n := rfl
theorem num_size (n : Nat) : (num (n : Int)).size = Lib.nDigits n := by
  have h : (num (n : Int)).size = (Lib.itoa (n : Int)).length := by simp [num, ByteArray.size]
  rw [h]
  unfold Lib.itoa
  rw [if_neg (by omega), Lib.decDigits_length]
  rfl
theorem nDigits_le : ∀ (d : Nat) (m : Nat), m < 10 ^ d → Lib.nDigits m ≤ d + 1
  | 0, m, h => by rw [Lib.nDigits_small (by simp at h; omega)]; omega
  | d + 1, m, h => by
    by_cases c : m < 10
    · rw [Lib.nDigits_small c]; omega
    · rw [Lib.nDigits_big c]
      have := nDigits_le d (m / 10) (by rw [Nat.pow_succ] at h; omega)
      omega
theorem figure_eq (d : Nat) (h : d < 10) : spec_l01Figure.f (d : Int) = some ((48 : Int) + d) := by
  unfold spec_l01Figure.f
  rw [if_pos (by omega)]
  congr 1
  unfold wrap64
  omega
theorem strOfNums_list (d : Nat) (h : d < 10) : (strOfNums [(48 : Int) + d]).data.toList = [UInt8.ofNat (48 + d)] := by
  have e : ((48 : Int) + (d : Int)) = ((48 + d : Nat) : Int) := by omega
  rw [e]
  have : ∀ q : Fin 10, (strOfNums [((48 + q.val : Nat) : Int)]).data.toList = [UInt8.ofNat (48 + q.val)] := by decide +kernel
  exact this ⟨d, h⟩
/-- The loop of the reference's FormatInt puts the number's text ahead of what is there. -/
theorem fmt_l0 : ∀ (k m : Nat) (x : ByteArray), 0 < m → m ≤ 9223372036854775807 → Lib.nDigits m < k → x.size + Lib.nDigits m ≤ 1000 →
    spec_FormatInt.l0 k (m : Int) false x = some (⟨(Lib.decDigits m).toArray⟩ ++ x)
  | 0, m, x, _, _, h, _ => by omega
  | k + 1, m, x, h0, h1, hk, hx => by
    have hp := Lib.nDigits_pos m
    have e1 : Int.tmod (m : Int) 10 = ((m % 10 : Nat) : Int) := by rw [Int.tmod_eq_emod_of_nonneg (by omega)]; rfl
    have e2 : wrap64 (Int.tdiv (m : Int) 10) = ((m / 10 : Nat) : Int) := by
      have q : Int.tdiv (m : Int) 10 = ((m / 10 : Nat) : Int) := by rw [Int.tdiv_eq_ediv_of_nonneg (by omega)]; rfl
      rw [q]; unfold wrap64; omega
    have hs : (strOfNums [(48 : Int) + ((m % 10 : Nat) : Int)]).size = 1 := by
      rw [strOfNums_size]; rfl
    simp only [spec_FormatInt.l0]
    rw [if_neg (by omega), e1, if_neg (by omega), figure_eq _ (by omega)]
    simp only [Option.bind_some]
    rw [if_pos (by omega), e2]
    by_cases c : m < 10
    · have e3 : m / 10 = 0 := by omega
      rw [e3]
      cases k with
      | zero => rw [Lib.nDigits_small c] at hk; omega
      | succ k =>
        simp only [spec_FormatInt.l0]
        rw [if_pos (by rfl), if_neg (by decide)]
        congr 1
        apply ba_ext
        rw [ba_append, ba_append, strOfNums_list _ (by omega), Lib.decDigits, dif_pos c, Nat.mod_eq_of_lt c]
    · rw [Lib.nDigits_big c] at hk hx
      rw [fmt_l0 k (m / 10) _ (by omega) (by omega) (by omega) (by rw [ByteArray.size_append, hs]; omega)]
      congr 1
      apply ba_ext
      rw [ba_append, ba_append, ba_append, strOfNums_list _ (by omega)]
      show Lib.decDigits (m / 10) ++ _ = Lib.decDigits m ++ _
      rw [Lib.decDigits.eq_def m, dif_neg c, List.append_assoc]
theorem specFmt (n : Int) (k : Nat) (h0 : 0 ≤ n) (h1 : n ≤ 9999999999) (hk : 20 < k) : spec_FormatInt.f k n = some (num n) := by
  unfold spec_FormatInt.f
  by_cases c : n = 0
  · subst c
    rw [if_pos rfl]
    congr 1
    apply ba_ext
    rw [num_list]
    unfold Lib.itoa
    rw [if_neg (by decide), Lib.decDigits, dif_pos (by decide)]
    rfl
  · obtain ⟨m, rfl⟩ : ∃ m : Nat, n = (m : Int) := ⟨n.toNat, by omega⟩
    have hd := nDigits_le 10 m (by have : (10 : Nat) ^ 10 = 10000000000 := by decide
                                   omega)
    rw [if_neg c, decide_eq_false (by omega), fmt_l0 k m _ (by omega) (by omega) (by omega) (by show 0 + _ ≤ _; omega)]
    congr 1
    apply ba_ext
    rw [ba_append, num_list]
    unfold Lib.itoa
    rw [if_neg (by omega)]
    show Lib.decDigits m ++ [] = Lib.decDigits ((m : Int).toNat)
    rw [List.append_nil, Int.toNat_natCast]
theorem implFmt (n : Int) (h0 : 0 ≤ n) (h1 : n ≤ 9999999999) : impl_FormatInt.f n = some (num n) := by
  unfold impl_FormatInt.f strconv_Itoa_32.f
  rw [if_pos ⟨by omega, by omega⟩]
  rfl
theorem num_le (n : Int) (h0 : 0 ≤ n) (h1 : n ≤ 9999999999) : (num n).size ≤ 11 := by
  obtain ⟨m, rfl⟩ : ∃ m : Nat, n = (m : Int) := ⟨n.toNat, by omega⟩
  rw [num_size]
  exact nDigits_le 10 m (by have : (10 : Nat) ^ 10 = 10000000000 := by decide
                            omega)
/-- A job's text. -/
def jobText (a b c : Int) (d : Bool) (e : Int) (f : Bool) : ByteArray :=
  num a ++ sp ++ num b ++ sp ++ num c ++ sp ++ num e ++ (if d = true then dup else ⟨#[]⟩) ++ (if f = true then hel else ⟨#[]⟩)
theorem ba_nil (a : ByteArray) : a ++ (⟨#[]⟩ : ByteArray) = a := by
  apply ba_ext; rw [ba_append]; exact List.append_nil _
theorem specJob (a b c : Int) (d : Bool) (e : Int) (f : Bool) (k : Nat) (hk : 20 < k) : spec_FormatJob.f k a b c d e f = some (if okB a b c e = true then (jobText a b c d e f, true) else (⟨#[]⟩, false)) := by
  unfold spec_FormatJob.f
  rw [ok_eq, Option.bind_some]
  by_cases h : okB a b c e = true
  · rw [if_pos h, if_pos h]
    obtain ⟨⟨h1, h2⟩, ⟨h3, h4⟩, ⟨h5, h6⟩, h7, h8⟩ := (okB_iff a b c e).1 h
    have s1 := num_le a (by omega) (by omega)
    have s2 := num_le b (by omega) (by omega)
    have s3 := num_le c (by omega) (by omega)
    have s4 := num_le e (by omega) (by omega)
    rw [specFmt a k (by omega) (by omega) hk, specFmt b k (by omega) (by omega) hk, specFmt c k (by omega) (by omega) hk, specFmt e k (by omega) (by omega) hk]
    simp only [Option.bind_some]
    show (if _ then _ else _) = _
    change (if (num a).size + 1 ≤ 9223372036854775807 then (if (num a ++ sp).size + (num b).size ≤ 9223372036854775807 then (if (num a ++ sp ++ num b).size + 1 ≤ 9223372036854775807 then (if (num a ++ sp ++ num b ++ sp).size + (num c).size ≤ 9223372036854775807 then (if (num a ++ sp ++ num b ++ sp ++ num c).size + 1 ≤ 9223372036854775807 then (if (num a ++ sp ++ num b ++ sp ++ num c ++ sp).size + (num e).size ≤ 9223372036854775807 then (if d = true then (if (num a ++ sp ++ num b ++ sp ++ num c ++ sp ++ num e).size + 7 ≤ 9223372036854775807 then (if f = true then (if (num a ++ sp ++ num b ++ sp ++ num c ++ sp ++ num e ++ dup).size + 5 ≤ 9223372036854775807 then some (num a ++ sp ++ num b ++ sp ++ num c ++ sp ++ num e ++ dup ++ hel, true) else none) else some (num a ++ sp ++ num b ++ sp ++ num c ++ sp ++ num e ++ dup, true)) else none) else (if f = true then (if (num a ++ sp ++ num b ++ sp ++ num c ++ sp ++ num e).size + 5 ≤ 9223372036854775807 then some (num a ++ sp ++ num b ++ sp ++ num c ++ sp ++ num e ++ hel, true) else none) else some (num a ++ sp ++ num b ++ sp ++ num c ++ sp ++ num e, true))) else none) else none) else none) else none) else none) else none) = some (jobText a b c d e f, true)
    simp only [ByteArray.size_append, sp_size, dup_size]
    rw [if_pos (by omega), if_pos (by omega), if_pos (by omega), if_pos (by omega), if_pos (by omega), if_pos (by omega)]
    cases d <;> cases f
    · rw [if_neg (by decide), if_neg (by decide)]; simp [jobText, ba_nil]
    · rw [if_neg (by decide), if_pos rfl, if_pos (by omega)]; simp [jobText, ba_nil]
    · rw [if_pos rfl, if_pos (by omega), if_neg (by decide)]; simp [jobText, ba_nil]
    · rw [if_pos rfl, if_pos (by omega), if_pos rfl, if_pos (by omega)]; simp [jobText]
  · rw [if_neg h, if_neg h]
theorem joinEq (x : ByteArray) (r : List ByteArray) (h : r.length ≤ 1000) (hs : (Lib.join ((x :: r).map (·.data.toList)) sp.data.toList).length ≤ 1000) :
    strings_Join.f (x :: r) sp = some (r.foldl (fun z y => z ++ sp ++ y) x) := by
  unfold strings_Join.f
  rw [if_pos ⟨by simp only [List.length_cons]; omega, by omega⟩]
  congr 1
  apply ba_ext
  show Lib.join (x.data.toList :: r.map (·.data.toList)) sp.data.toList = _
  rw [Lib.join_cons]
  clear h hs
  induction r generalizing x with
  | nil => simp [Lib.joinTail]
  | cons y r ih =>
    rw [List.foldl_cons, ← ih (x ++ sp ++ y)]
    simp [Lib.joinTail, List.append_assoc]
theorem dup_eq : dup = sp ++ (⟨#[100, 117, 112, 108, 101, 120]⟩ : ByteArray) := by apply ba_ext; rw [ba_append]; rfl
theorem hel_eq : hel = sp ++ (⟨#[104, 101, 108, 100]⟩ : ByteArray) := by apply ba_ext; rw [ba_append]; rfl
theorem num_list_le (n : Int) (h : (num n).size ≤ 11) : (num n).data.toList.length ≤ 11 := by
  have e : (num n).data.toList.length = (num n).size := by rw [Array.length_toList]; rfl
  rw [e]; exact h
theorem implJob (a b c : Int) (d : Bool) (e : Int) (f : Bool) : impl_FormatJob.f a b c d e f = some (if okB a b c e = true then (jobText a b c d e f, true) else (⟨#[]⟩, false)) := by
  unfold impl_FormatJob.f
  rw [iok_eq, Option.bind_some]
  by_cases h : okB a b c e = true
  · rw [if_pos h, if_pos h]
    obtain ⟨⟨h1, h2⟩, ⟨h3, h4⟩, ⟨h5, h6⟩, h7, h8⟩ := (okB_iff a b c e).1 h
    have s1 := num_list_le a (num_le a (by omega) (by omega))
    have s2 := num_list_le b (num_le b (by omega) (by omega))
    have s3 := num_list_le c (num_le c (by omega) (by omega))
    have s4 := num_list_le e (num_le e (by omega) (by omega))
    rw [implFmt a (by omega) (by omega), implFmt b (by omega) (by omega), implFmt c (by omega) (by omega), implFmt e (by omega) (by omega)]
    simp only [Option.bind_some, List.length_cons, List.length_nil, List.length_append, List.cons_append, List.nil_append]
    have j (x y z u : ByteArray) (r : List ByteArray) (hr : r.length ≤ 2) (hx : x.data.toList.length ≤ 11) (hy : y.data.toList.length ≤ 11) (hz : z.data.toList.length ≤ 11) (hu : u.data.toList.length ≤ 11) (hq : (r.map (·.data.toList.length)).sum ≤ 10) : strings_Join.f (x :: y :: z :: u :: r) sp = some ((y :: z :: u :: r).foldl (fun z y => z ++ sp ++ y) x) := by
      refine joinEq x _ (by simp only [List.length_cons]; omega) ?_
      rw [List.map_cons, Lib.join_cons, List.length_append, Lib.joinTail_length]
      simp only [Lib.lens, List.map_cons, List.map_map, List.length_cons, List.sum_cons, List.length_map]
      have e1 : sp.data.toList.length = 1 := rfl
      have e2 : (List.map (List.length ∘ fun x : ByteArray => x.data.toList) r).sum = (r.map (·.data.toList.length)).sum := rfl
      rw [e1, e2]
      omega
    cases d <;> cases f
    · rw [if_neg (by decide), if_neg (by decide)]
      erw [j _ _ _ _ [] (by decide) s1 s2 s3 s4 (by decide)]
      simp [jobText, ba_nil]
    · rw [if_neg (by decide), if_pos rfl, if_pos (by decide)]
      erw [j _ _ _ _ [_] (by decide) s1 s2 s3 s4 (by decide)]
      simp [jobText, ba_nil, hel_eq, ByteArray.append_assoc]
    · rw [if_pos rfl, if_pos (by decide), if_neg (by decide)]
      erw [j _ _ _ _ [_] (by decide) s1 s2 s3 s4 (by decide)]
      simp [jobText, ba_nil, dup_eq, ByteArray.append_assoc]
    · rw [if_pos rfl, if_pos (by decide), if_pos rfl, if_pos (by decide)]
      erw [j _ _ _ _ [_, _] (by decide) s1 s2 s3 s4 (by decide)]
      simp [jobText, dup_eq, hel_eq, ByteArray.append_assoc]
  · rw [if_neg h, if_neg h]
theorem pure : laws_FnExactFormatJob.Stm := by
  intro a b c d e f _ _ _ _
  refine ⟨30, ?_⟩
  unfold laws_FnExactFormatJob.f laws_toJob.f
  simp only [Option.bind_some]
  rw [specJob a b c d e f 30 (by decide), implJob]
  simp only [Option.bind_some]
  simp
end Go.Proofs.YtneeokmfpiacoaaDoor.PureFnExactFormatJob
