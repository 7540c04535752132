/- What Go's library reads of the program's variables, and the three functions of it that the laws call, in the words of the print: a number's decimal text, the pieces of a string, strings put together. -/
import Derived.Test.YtneeokmfpiacoaaDoorRows
import Derived.Test.YtneeokmfpiacoaaDoorShelf
import Derived.Test.YtneeokmfpiacoaaDoorWMore
import Derived.Lib.SmallJoins
import Derived.Lib.AppendIntMem
namespace Go.Proofs.YtneeokmfpiacoaaDoorW.PrintMore
open Go.RowKit Go.Proofs.YtneeokmfpiacoaaDoorW.PrintWords Go.Proofs.YtneeokmfpiacoaaDoorW.PrintLast

/-- The name of the table of powers of ten. -/
def powName : String := Go.Proofs.YtneeokmfpiacoaaDoor.Rows.fnExactFormatJobRow.named.headD ""
/-- The table of powers of ten stands, and the first variable holds a number. -/
structure Tabs (w : World) : Prop where
  pow : Lib.TabIs Tryd.prog w powName .u64 Lib.pow10Tab
  len : ∃ m : Int, w.cell? ⟨0, 0, none⟩ = some (.int .i64 m)
theorem powName_at : Tryd.prog.globalNamed powName = some 1 := by kernel_rfl
theorem Tabs.below {w w' : World} (h : Tabs w) (hb : Below w.heap.size w w') : Tabs w' :=
  ⟨Joins.tab_stays powName_at h.pow hb (Nat.le_refl _), by obtain ⟨m, hm⟩ := h.len; exact ⟨m, pw_cell_below hb hm⟩⟩

def strconv_Itoa_32.f (a0 : Int) : Option ByteArray :=
  if -9223372036854775808 ≤ a0 ∧ a0 ≤ 9223372036854775807 then some ⟨(Lib.itoa a0).toArray⟩ else none
theorem strconv_Itoa_32.calls (a0 : Int) (r : ByteArray) (w : World) (h : strconv_Itoa_32.f a0 = some r) (hT : Tabs w) :
    Calls Tryd.prog 32 #[.int .i64 a0] w fun e w' => e = .returned (.string r) ∧ Below w.heap.size w w' := by
  unfold strconv_Itoa_32.f at h
  by_cases c : -9223372036854775808 ≤ a0 ∧ a0 ≤ 9223372036854775807
  · rw [if_pos c] at h
    obtain rfl := Option.some.inj h
    refine (Any.strconv_Itoa Tryd.laysM171 a0 c.1 c.2 w hT.pow).mono ?_
    rintro e w' ⟨rfl, k, os, rfl⟩
    exact ⟨rfl, Lib.below_grow _ w (Nat.le_refl _) k os⟩
  · rw [if_neg c] at h
    cases h

def strings_Join.f (l0 : List ByteArray) (a1 : ByteArray) : Option ByteArray :=
  if l0.length ≤ 140737488355328 ∧ (Lib.join (l0.map (·.data.toList)) a1.data.toList).length ≤ 140737488355328 then some ⟨(Lib.join (l0.map (·.data.toList)) a1.data.toList).toArray⟩ else none
theorem strings_Join.calls (A0 : Option Addr) (c0 : Nat) (l0 : List ByteArray) (a1 : ByteArray) (r : ByteArray) (w : World) (hr0 : Kd.C Kd.string w A0 l0.length l0) (hc0 : l0.length ≤ c0) (h : strings_Join.f l0 a1 = some r) :
    Calls Tryd.prog 21 #[.slice A0 l0.length c0, .string a1] w fun e w' => e = .returned (.string r) ∧ Below w.heap.size w w' := by
  unfold strings_Join.f at h
  by_cases c : l0.length ≤ 140737488355328 ∧ (Lib.join (l0.map (·.data.toList)) a1.data.toList).length ≤ 140737488355328
  · rw [if_pos c] at h
    obtain rfl := Option.some.inj h
    cases l0 with
    | nil =>
      refine (Any.strings_Join_none Tryd.lays156 Tryd.Builder_Extra_156 A0 c0 a1 w).mono ?_
      rintro e w' ⟨rfl, rfl⟩
      exact ⟨rfl, Below.refl _ _⟩
    | cons x l =>
      obtain ⟨⟨bk, o, sp⟩, rfl, hc⟩ := hr0.2.2 (by simp)
      have cell : ∀ (j : Nat) y, (x :: l)[j]? = some y → w.cell? ((⟨bk, o, sp⟩ : Addr).add j) = some (.string y) := by
        intro j y hj
        obtain ⟨cs, hl, hk, hi⟩ := hc j y hj
        have hk' : cs = [.string y] := hk
        subst hk'
        have := hi 0 _ rfl
        simpa [Kd.string, Kd.scalar] using this
      have h0 := cell 0 x rfl
      have hsp : sp = none := by
        cases sp with
        | none => rfl
        | some q =>
          exfalso
          simp only [Addr.add, if_pos, World.cell?] at h0
          split at h0 <;> simp at h0
      subst hsp
      have hbk : bk < w.heap.size := by
        have h1 : w.cell? ⟨bk, o, none⟩ = some (.string x) := by simpa [Addr.add] using h0
        by_cases hh : bk < w.heap.size
        · exact hh
        · rw [World.cell?, Array.getElem?_eq_none (by simpa using hh)] at h1
          simp at h1
      refine (Any.strings_Join Tryd.lays156 Tryd.Builder_Extra_156 bk o c0 (x :: l) a1 w (fun j y hj => ?_) hbk c.1 hc0 c.2).mono ?_
      · have := cell j y hj
        unfold Addr.add at this
        by_cases hj0 : j = 0
        · subst hj0; simpa using this
        · rw [if_neg hj0] at this; exact this
      · rintro e w' ⟨rfl, hb⟩
        exact ⟨rfl, hb⟩
  · rw [if_neg c] at h
    cases h

def strings_Split.f (a0 a1 : ByteArray) : Option (List ByteArray) :=
  if a0.size < 4294967281 ∧ 1 ≤ a1.size then some (Lib.splitB a1 0 (Lib.countB a0 a1) a0) else none
theorem strings_Split.calls (a0 : ByteArray) (a1 : ByteArray) (r : List ByteArray) (w : World) (h : strings_Split.f a0 a1 = some r) (hT : Tabs w) :
    Calls Tryd.prog 36 #[.string a0, .string a1] w fun e w' => ∃ v0_ : Value, e = .returned (v0_) ∧ Kd.R Kd.string 9 w' w.heap.size (fun _ => True) v0_ r ∧ Below w.heap.size w w' := by
  unfold strings_Split.f at h
  by_cases c : a0.size < 4294967281 ∧ 1 ≤ a1.size
  · rw [if_pos c] at h
    obtain rfl := Option.some.inj h
    obtain ⟨m, hm⟩ := hT.len
    have hle := Lib.countB_le a1 c.2 a0.size a0 (Nat.le_refl _)
    have hlen := Lib.splitB_all a1 c.2 0 _ a0 rfl
    refine (Any.strings_Split Tryd.lays146 (by kernel_rfl) a0 a1 m w c.1 hm c.2).mono ?_
    rintro e w' ⟨rfl, rfl⟩
    refine ⟨_, rfl, ⟨fun _ _ => trivial, (Lib.splitB a1 0 (Lib.countB a0 a1) a0).map Value.string, ?_, ?_⟩, (Below.refl _ _).alloc (Nat.le_refl _) _⟩
    · refine ⟨by simp [Kd.string, Kd.scalar], .inr ⟨w.heap.size, Lib.countB a0 a1 + 1, ((Lib.splitB a1 0 (Lib.countB a0 a1) a0).map Value.string).toArray, ?_, Nat.le_refl _, ?_, ?_, ?_, ?_, ?_⟩⟩
      · rw [hlen]
      · exact heap_alloc_new w _
      · rw [hlen]; exact Nat.le_refl _
      · unfold maxLen; omega
      · simp [Kd.string, Kd.scalar, hlen]
      · simp only [Kd.string, Kd.scalar, Nat.mul_one]
        exact List.take_of_length_le (by simp)
    · refine ⟨by simp [Kd.string, Kd.scalar], fun j p hj => ?_⟩
      simp only [Kd.string, Kd.scalar, Nat.mul_one]
      have hj' : ((Lib.splitB a1 0 (Lib.countB a0 a1) a0).map Value.string)[j]? = some (.string p) := by rw [List.getElem?_map, hj]; rfl
      obtain ⟨hlt, he⟩ := List.getElem?_eq_some_iff.1 hj'
      rw [List.drop_eq_getElem_cons hlt, he]
      rfl
  · rw [if_neg c] at h
    cases h
/-- A cell of another block, behind the store of a struct of six cells. -/
theorem cell_far6 {W : World} {g : Nat} {a : Addr} {v b0 b1 b2 b3 b4 b5 : Value} (h : a.block ≠ g) (hv : W.cell? a = some v) :
    ((((((W.setCell ⟨g, 0, none⟩ b0).setCell ⟨g, 1, none⟩ b1).setCell ⟨g, 2, none⟩ b2).setCell ⟨g, 3, none⟩ b3).setCell ⟨g, 4, none⟩ b4).setCell ⟨g, 5, none⟩ b5).cell? a = some v := by
  rw [cell_far (p := ⟨g, 5, none⟩) h, cell_far (p := ⟨g, 4, none⟩) h, cell_far (p := ⟨g, 3, none⟩) h, cell_far (p := ⟨g, 2, none⟩) h, cell_far (p := ⟨g, 1, none⟩) h, cell_far (p := ⟨g, 0, none⟩) h]
  exact hv
end Go.Proofs.YtneeokmfpiacoaaDoorW.PrintMore
