/- Plain lemmas on lists and whole numbers, in the words of the print. -/
import Derived.Test.YtphjcllhlecpfaaWMore
import Derived.Laws.BitsLemmas
namespace Go.Proofs.Ytphjcllhlecpfaa.Plain
open Go.RowKit Go.Proofs.YtphjcllhlecpfaaW.PrintWords Go.Proofs.YtphjcllhlecpfaaW.PrintLast

theorem wrap_id {x : Int} (h0 : -9223372036854775808 ≤ x) (h1 : x ≤ 9223372036854775807) : wrap64 x = x := by
  unfold wrap64; omega
theorem wrap_cast (i : Nat) (h : i < 9223372036854775807) : wrap64 ((i : Int) + 1) = ((i + 1 : Nat) : Int) := by
  rw [wrap_id (by omega) (by omega)]; omega
theorem getD_drop {α : Type} (x : List α) (z : α) (i : Nat) (h : i < x.length) : x.drop i = x.getD i z :: x.drop (i + 1) := by
  rw [List.drop_eq_getElem_cons h, List.getD_eq_getElem?_getD, List.getElem?_eq_getElem h]; rfl
theorem rd_nat (x : List Int) (i : Nat) : rd x (i : Int) = x.getD i 0 := by simp [rd]
theorem drop_rd (x : List Int) (i : Nat) (h : i < x.length) : x.drop i = rd x i :: x.drop (i + 1) := by
  rw [rd_nat]; exact getD_drop x 0 i h
theorem getD_mem {α : Type} (x : List α) (z : α) (i : Nat) (h : i < x.length) : x.getD i z ∈ x := by
  rw [List.getD_eq_getElem?_getD, List.getElem?_eq_getElem h]; exact List.getElem_mem h
/-- One more element is copied. -/
theorem take_set {α : Type} (x y : List α) (z : α) (i : Nat) (hi : i < x.length) (hl : y.length = x.length) (h : y.take i = x.take i) : (y.set i (x.getD i z)).take (i + 1) = x.take (i + 1) := by
  apply List.ext_getElem?
  intro j
  have hj : ∀ q, q < i → y[q]? = x[q]? := fun q hq => by
    have := congrArg (fun l : List α => l[q]?) h
    simpa [List.getElem?_take, hq] using this
  rw [List.getElem?_take, List.getElem?_take]
  by_cases h1 : j < i + 1
  · rw [if_pos h1, if_pos h1, List.getElem?_set]
    by_cases h2 : i = j
    · subst h2
      rw [if_pos rfl, if_pos (by omega), List.getD_eq_getElem?_getD, List.getElem?_eq_getElem hi]; rfl
    · rw [if_neg h2]; exact hj j (by omega)
  · rw [if_neg h1, if_neg h1]
theorem take_all {α : Type} {x y : List α} {i : Nat} (hi : i = x.length) (hl : y.length = x.length) (h : y.take i = x.take i) : y = x := by
  subst hi
  rw [List.take_length] at h
  rw [← hl, List.take_length] at h
  exact h
/-- The same with elements turned one by one. -/
theorem take_set_map {α β : Type} (f : α → β) (x : List α) (y : List β) (z : α) (v : β) (i : Nat) (hi : i < x.length) (hl : y.length = x.length) (h : y.take i = (x.take i).map f) (hv : v = f (x.getD i z)) : (y.set i v).take (i + 1) = (x.take (i + 1)).map f := by
  have h' : y.take i = (x.map f).take i := by rw [h, List.map_take]
  have := take_set (x.map f) y (f z) i (by simpa using hi) (by simpa using hl) h'
  rw [List.map_take, ← this, hv]
  congr 2
  simp [List.getD_eq_getElem?_getD, List.getElem?_eq_getElem hi]
theorem take_all_map {α β : Type} {f : α → β} {x : List α} {y : List β} {i : Nat} (hi : i = x.length) (hl : y.length = x.length) (h : y.take i = (x.take i).map f) : y = x.map f :=
  take_all (x := x.map f) (by simpa using hi) (by simpa using hl) (by rw [h, List.map_take])
end Go.Proofs.Ytphjcllhlecpfaa.Plain
