/- Rows of rows, told by their parts: out of a row whose elements lead to blocks of their own the elements' cells and blocks, and a row made of such parts again. -/
import Derived.Test.YtphjcllhlecpfaaWApart
import Derived.Test.YtphjcllhlecpfaaWKept
import Derived.Test.YtphjcllhlecpfaaWN
import Derived.ArgAppend
import Derived.Laws.Slices
namespace Go.Proofs.YtphjcllhlecpfaaW.PrintWords
open Go.RowKit
namespace Kd
variable {α : Type} {d : Kd α} {e : Nat} {w w1 W : World} {base base' : Nat} {ok ok' : Nat → Prop} {v : Value} {xs : List α}
/-- The cells of element j among a row's cells. -/
def chunk (sz : Nat) (cs : List Value) (j : Nat) : List Value := (cs.drop (j * sz)).take sz
/-- What a row of rows is made of: its cells, and for each element its blocks. -/
theorem S_parts (h : S d e w base ok v xs) : ∃ (inner : List Value) (f : Nat → Nat), w.ownsRow base e d.sz v xs.length inner ∧ (∀ k, v.ownBlock = some k → ok k) ∧ ∀ j x, xs[j]? = some x → d.M w base (fun k => (ok k ∧ some k ≠ v.ownBlock) ∧ f k = j) x (chunk d.sz inner j) := by
  obtain ⟨f, h0, inner, ho, hr⟩ := h
  rw [List.length_zipIdx] at ho
  exact ⟨inner, f, ho, h0, fun j x hj => hr.2 j (x, j) (zip_at hj)⟩
open Classical in
/-- A row of rows out of its parts: P t are the blocks of element t; no two share one. -/
theorem S_make_parts (P : Nat → Nat → Prop) {cs : List Value} (ho : w.ownsRow base e d.sz v xs.length cs) (h0 : ∀ k, v.ownBlock = some k → ok k)
    (hM : ∀ t x, xs[t]? = some x → d.M w base (P t) x (chunk d.sz cs t)) (hd : ∀ k t t', P t k → P t' k → t = t') (hP : ∀ t k, P t k → ok k ∧ some k ≠ v.ownBlock) : S d e w base ok v xs := by
  refine ⟨fun k => if h : ∃ t, P t k then h.choose else 0, h0, cs, by rw [List.length_zipIdx]; exact ho, by rw [List.length_zipIdx]; exact ho.1, fun t p hp => ?_⟩
  rw [List.getElem?_zipIdx, Nat.zero_add] at hp
  obtain ⟨x, hx, rfl⟩ := Option.map_eq_some_iff.1 hp
  refine d.M_mono (fun k hk => ⟨hP t k hk, ?_⟩) (hM t x hx)
  have hex : ∃ t, P t k := ⟨t, hk⟩
  show (if h : ∃ t, P t k then h.choose else 0) = t
  rw [dif_pos hex]
  exact hd k _ _ hex.choose_spec hk
/-- The same row, its cells as raw parts. -/
theorem S_raw (h : S d e w base ok v xs) : ∃ (rows : List (List Value)) (f : Nat → Nat), rows.length = xs.length ∧ (raw d.sz).R e w base (fun k => some k = v.ownBlock) v rows ∧ (∀ k, v.ownBlock = some k → ok k) ∧ ∀ j x c, xs[j]? = some x → rows[j]? = some c → d.M w base (fun k => (ok k ∧ some k ≠ v.ownBlock) ∧ f k = j) x c := by
  obtain ⟨inner, f, ho, h0, hM⟩ := S_parts h
  have hl : ((List.range xs.length).map (chunk d.sz inner)).length = xs.length := by simp
  have hc : ∀ j, j < xs.length → ((List.range xs.length).map (chunk d.sz inner))[j]? = some (chunk d.sz inner j) := fun j hj => by simp [hj]
  refine ⟨(List.range xs.length).map (chunk d.sz inner), f, hl, ⟨fun k hk => hk.symm, inner, by rw [hl]; exact ho, by rw [hl]; exact ho.1, fun j c hj => ?_⟩, h0, fun j x c hx hj => ?_⟩
  · have hjl : j < xs.length := by
      have := (List.getElem?_eq_some_iff.1 hj).1
      rwa [hl] at this
    rw [hc j hjl] at hj
    obtain rfl := Option.some.inj hj
    have hm := d.K_of_M (hM j _ (List.getElem?_eq_getElem hjl))
    exact ⟨rfl, d.K_len hm, d.K_one hm⟩
  · have hjl : j < xs.length := (List.getElem?_eq_some_iff.1 hx).1
    rw [hc j hjl] at hj
    obtain rfl := Option.some.inj hj
    exact hM j x hx
/-- A row of raw parts, each of which is told: a row of rows. -/
theorem S_of_raw (P : Nat → Nat → Prop) {rows : List (List Value)} (hl : rows.length = xs.length) (hR : (raw d.sz).R e w base ok' v rows) (h0 : ∀ k, v.ownBlock = some k → ok k)
    (hM : ∀ t x c, xs[t]? = some x → rows[t]? = some c → d.M w base (P t) x c) (hd : ∀ k t t', P t k → P t' k → t = t') (hP : ∀ t k, P t k → ok k ∧ some k ≠ v.ownBlock) : S d e w base ok v xs := by
  obtain ⟨_, inner, ho, hr⟩ := hR
  rw [hl] at ho
  refine S_make_parts P ho h0 (fun t x hx => ?_) hd hP
  have htl : t < rows.length := by rw [hl]; exact (List.getElem?_eq_some_iff.1 hx).1
  have hc := (hr.2 t _ (List.getElem?_eq_getElem htl)).1
  have := hM t x rows[t] hx (List.getElem?_eq_getElem htl)
  rw [← hc] at this
  exact this
/-- append(xs[:k:k], xs[k+1:]...): an element taken out; what lies in memory stays as it is. Where the element is the last one, it is a cut of the row itself. -/
theorem cap_erase {P : Program} (t ty e' : TypeId) (i : TypeInfo) (z : Value) (bytes sz : Nat) (ht : P.underlying t = some (.slice e')) (hi : P.info? e' = some i) (hz : i.zero = some z) (hsize : i.size = sz) (hby : i.bytes = bytes) (hzs : z.cells.size = sz) (hsz : 0 < sz)
    {g n cap k : Nat} {rows : List (List Value)} (HO : (raw sz).R e' W base ok (.slice (some ⟨g, 0, none⟩) n cap) rows) (hk : k < n) {A : Option Addr} (hA : A = if cap = k + 1 then some ⟨g, 0, none⟩ else (some (⟨g, 0, none⟩ : Addr)).map (·.add ((k + 1) * sz))) (c2 : Nat) (hb : n * bytes ≤ 140737488355328) :
    ∃ v1 W1, (Builtin.append_ #[t, t] ty #[.slice (some ⟨g, 0, none⟩) k k, .slice A (n - (k + 1)) c2]).run P W = .ok v1 W1 ∧ Below W.heap.size W W1 ∧
      ((n = k + 1 ∧ v1 = .slice (some ⟨g, 0, none⟩) k k ∧ W1 = W) ∨ (n ≠ k + 1 ∧ (raw sz).R e' W1 W.heap.size (fun _ => True) v1 (rows.eraseIdx k))) := by
  obtain ⟨hn, hnc, _⟩ := R_reads' HO
  obtain ⟨hok, inner, hown, hr⟩ := HO
  have hin : inner.length = n * sz := by rw [hr.1, hn]; rfl
  rcases hown.2 with ⟨hv, _⟩ | ⟨g', cap', cur, hv, hb', hh, _, hcm, hcs, htake⟩
  · cases hv
  injection hv with ha _ hc
  injection ha with ha
  injection ha with hg
  subst hg; subst hc
  rw [← hn] at htake
  have htake' : cur.toList.take (n * sz) = inner := htake
  have hle : (k + 1) * sz ≤ n * sz := Nat.mul_le_mul_right _ hk
  have hks : (k + 1) * sz = k * sz + sz := Nat.succ_mul _ _
  have hcur : ∀ q, q < n * sz → cur.toList[q]? = inner[q]? := by
    intro q hq
    rw [← htake', List.getElem?_take, if_pos hq]
  have hsub : (n - (k + 1)) * sz = n * sz - (k + 1) * sz := Nat.sub_mul _ _ _
  obtain ⟨news, hnews⟩ : ∃ news, news = inner.drop ((k + 1) * sz) := ⟨_, rfl⟩
  have hnl : news.length = (n - (k + 1)) * sz := by rw [hnews, List.length_drop, hin, hsub]
  obtain ⟨a, rfl, hcell⟩ : ∃ a, A = some a ∧ ∀ j u, news[j]? = some u → W.cell? (a.add j) = some u := by
    by_cases hck : cap = k + 1
    · rw [if_pos hck] at hA
      refine ⟨_, hA, fun j u hu => ?_⟩
      have h0 : news = [] := List.eq_nil_of_length_eq_zero (by rw [hnl, show n - (k + 1) = 0 by omega, Nat.zero_mul])
      rw [h0] at hu
      simp at hu
    · rw [if_neg hck, Option.map_some] at hA
      refine ⟨_, hA, fun j u hu => ?_⟩
      have hj : j < news.length := (List.getElem?_eq_some_iff.1 hu).1
      rw [add_add, add_at, cell_of_row W g _ cur e' (0, 0) hh, ← Array.getElem?_toList]
      rw [hnews, List.getElem?_drop] at hu
      rw [← hu, Nat.zero_add]
      exact hcur _ (by omega)
  by_cases hlast : n = k + 1
  · have h0 : news = [] := List.eq_nil_of_length_eq_zero (by rw [hnl, show n - (k + 1) = 0 by omega, Nat.zero_mul])
    have hrun := run_append_room_cells (P := P) (w := W) t ty e' i ht hi g 0 k k a (n - (k + 1)) c2 news (by rw [hnl, hsize]) hcell (by rw [h0]; simp) (by omega) (by rw [h0]; intro j hj; simp at hj) (by rw [h0]; intro j hj; simp at hj)
    rw [h0] at hrun
    have e1 : k + (n - (k + 1)) = k := by omega
    rw [e1] at hrun
    exact ⟨_, _, hrun, Below.refl _ _, .inl ⟨hlast, rfl, rfl⟩⟩
  · obtain ⟨v1, W1, hrun, hown1, hgr⟩ := run_append_arg_grows (P := P) (w := W) t ty e' i z sz bytes ht hi hz hsize hby hzs hsz ⟨g, 0, none⟩ k k (inner.take (k * sz)) (by rw [List.length_take, hin]; omega)
      (fun j u hu => by
        have hj : j < k * sz := by
          have := (List.getElem?_eq_some_iff.1 hu).1
          rw [List.length_take] at this
          omega
        rw [List.getElem?_take, if_pos hj] at hu
        rw [add_plain, cell_of_row W g _ cur e' (0, 0) hh, ← Array.getElem?_toList, hcur _ (by omega)]
        exact hu) a (n - (k + 1)) c2 news hnl hcell (by omega) (by omega) (by rw [show k + (n - (k + 1)) = n - 1 by omega]; exact Nat.le_trans (Nat.mul_le_mul_right _ (by omega)) hb)
    have hB : Below W.heap.size W W1 := ⟨hgr.os, hgr.tape, hgr.output, hgr.size, fun q hq => hgr.block q hq (by simp)⟩
    refine ⟨v1, W1, hrun, hB, .inr ⟨hlast, fun _ _ => trivial, inner.take (k * sz) ++ news, ?_, ?_⟩⟩
    · rw [List.length_eraseIdx_of_lt (by omega), show rows.length - 1 = k + (n - (k + 1)) by omega]
      exact hown1
    · rw [List.eraseIdx_eq_take_drop_succ]
      have hmv : ∀ p q, (raw sz).M W base (fun k' => ok k' ∧ some k' ≠ (Value.slice (some ⟨g, 0, none⟩) n cap).ownBlock) p q → (raw sz).M W1 W.heap.size (fun k' => True ∧ some k' ≠ v1.ownBlock) p q := fun p q hp => hp
      subst hnews
      exact reps_append ((reps_take hr (by omega)).imp_ hmv) ((reps_drop hr).imp_ hmv)
/-- A row, or a cut from the front of one, with whatever capacity. -/
def Told {α : Type} (d : Kd α) (e : Nat) (w : World) (base : Nat) (ok : Nat → Prop) (v : Value) (xs : List α) : Prop :=
  ∃ (A : Option Addr) (c n0 c0 : Nat) (xs0 : List α), v = .slice A xs.length c ∧ xs.length ≤ c ∧ xs.length ≤ xs0.length ∧ xs0.take xs.length = xs ∧ S d e w base ok (.slice A n0 c0) xs0
section
variable {P : Program} {ops : Array Oper} {rest : List Oper} {o : Oper} {a : Act} {Q : Exit → Act → World → Prop}
end
end Kd
/-- 'xs[:k:k]'. -/
theorem cut_cap {P : Program} (t e : TypeId) (kh : IntKind) {i : TypeInfo} (ht : P.underlying t = some (.slice e)) (hi : P.info? e = some i) (A : Option Addr) (n c : Nat) (j : Int) (h0 : 0 ≤ j) (hm : j ≤ n) (hc : n ≤ c) :
    ∀ W : World, (Instr.slice t (.slice A n c) none (some (.int kh j)) (some (.int kh j))).run P W = .ok (.slice A j.toNat j.toNat) W := by
  intro W
  have hel : P.elem t = e := by simp [Program.elem, ht]
  have ha : (A.map fun x => x.add 0) = A := by cases A <;> simp [Addr.add]
  have hu : P.underlying t = some (.slice (P.elem t)) := by rw [hel]; exact ht
  rw [run_slice_hm W t A n c hu kh kh j j h0 (Int.le_refl _) (by omega), hel]
  simp [sizeOf, typeInfo, hi, sliced, Result.andThen, ha]
end Go.Proofs.YtphjcllhlecpfaaW.PrintWords
