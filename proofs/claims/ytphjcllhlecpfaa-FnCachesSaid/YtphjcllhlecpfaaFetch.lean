/- Rows of rows with their cells named: an element handed out, an element taken out, an element put in front. -/
import Derived.Test.YtphjcllhlecpfaaLent
import Derived.Test.YtphjcllhlecpfaaWNEv
import Derived.Test.YtphjcllhlecpfaaWMore
namespace Go.Proofs.YtphjcllhlecpfaaW.PrintWords
open Go.RowKit
namespace Kd
variable {α : Type} {d : Kd α} {e : Nat} {w w1 W : World} {base base' : Nat} {ok ok' : Nat → Prop} {u v : Value} {xs : List α} {r : List Value} {k : Nat}
/-- A row whose elements lead to blocks of their own, its cells named. -/
def SR {α : Type} (d : Kd α) (e : Nat) (w : World) (base : Nat) (ok : Nat → Prop) (v : Value) (xs : List α) (rows : List (List Value)) : Prop :=
  rows.length = xs.length ∧ (raw d.sz).R e w base (fun k => some k = v.ownBlock) v rows ∧ (∀ k, v.ownBlock = some k → ok k) ∧ ∃ f : Nat → Nat, ∀ j x c, xs[j]? = some x → rows[j]? = some c → d.M w base (fun k => (ok k ∧ some k ≠ v.ownBlock) ∧ f k = j) x c
theorem SR_of_S (h : S d e w base ok v xs) : ∃ rows, SR d e w base ok v xs rows := by
  obtain ⟨rows, f, h1, h2, h3, h4⟩ := S_raw h
  exact ⟨rows, h1, h2, h3, f, h4⟩
theorem S_of_SR {rows : List (List Value)} (h : SR d e w base ok v xs rows) : S d e w base ok v xs := by
  obtain ⟨h1, h2, h3, f, h4⟩ := h
  exact S_of_raw (fun t b => (ok b ∧ some b ≠ v.ownBlock) ∧ f b = t) h1 (R_mono h2 (fun b hb => h3 b hb.symm)) h3 (fun t x c hx hc => h4 t x c hx hc) (fun b t t' a a' => a.2.symm.trans a'.2) (fun t b hb => hb.1)
theorem SR_mono {rows : List (List Value)} (h : SR d e w base ok v xs rows) (hok : ∀ k, ok k → ok' k) : SR d e w base ok' v xs rows := by
  obtain ⟨h1, h2, h3, f, h4⟩ := h
  exact ⟨h1, h2, fun k hk => hok k (h3 k hk), f, fun j x c hx hc => d.M_mono (fun k hk => ⟨⟨hok k hk.1.1, hk.1.2⟩, hk.2⟩) (h4 j x c hx hc)⟩
theorem SR_step {rows : List (List Value)} (h : SR d e w base ok v xs rows) (hm : ∀ k, ok k → k < w.heap.size → w1.heap[k]? = w.heap[k]?) : SR d e w1 base ok v xs rows := by
  obtain ⟨h1, h2, h3, f, h4⟩ := h
  exact ⟨h1, R_step h2 (fun k hk hlt => hm k (h3 k hk.symm) hlt), h3, f, fun j x c hx hc => M_step (h4 j x c hx hc) (fun k hk hlt => hm k hk.1.1 hlt)⟩
theorem SR_bound {rows : List (List Value)} (h : SR d e w base ok v xs rows) : SR d e w base (fun k => ok k ∧ k < w.heap.size) v xs rows := by
  obtain ⟨h1, h2, h3, f, h4⟩ := h
  exact ⟨h1, h2, fun k hk => ⟨h3 k hk, R_lt h2 k hk⟩, f, fun j x c hx hc => d.M_mono (fun k hk => ⟨⟨⟨hk.1.1.1, hk.2.2.1⟩, hk.1.1.2⟩, hk.1.2⟩) (d.M_bound (h4 j x c hx hc))⟩
/-- The same, element k's cells named. -/
def SE {α : Type} (d : Kd α) (e : Nat) (w : World) (base : Nat) (ok : Nat → Prop) (v : Value) (xs : List α) (k : Nat) (r : List Value) : Prop := ∃ rows, SR d e w base ok v xs rows ∧ rows[k]? = some r
theorem SE_S (h : SE d e w base ok v xs k r) : S d e w base ok v xs := by obtain ⟨rows, h, _⟩ := h; exact S_of_SR h
theorem SE_mono (h : SE d e w base ok v xs k r) (hok : ∀ k, ok k → ok' k) : SE d e w base ok' v xs k r := by obtain ⟨rows, h, h2⟩ := h; exact ⟨rows, SR_mono h hok, h2⟩
theorem SE_step (h : SE d e w base ok v xs k r) (hm : ∀ k, ok k → k < w.heap.size → w1.heap[k]? = w.heap[k]?) : SE d e w1 base ok v xs k r := by obtain ⟨rows, h, h2⟩ := h; exact ⟨rows, SR_step h hm, h2⟩
theorem SE_below (h : SE d e w base ok v xs k r) (hb : Below w.heap.size w w1) : SE d e w1 base ok v xs k r := SE_step h (fun k _ hk => hb.block k hk)
theorem SE_alloc (h : SE d e w base ok v xs k r) (o : Obj) : SE d e (w.alloc o) base ok v xs k r := SE_below h (below_alloc (Below.refl _ _) o)
theorem SE_drew (h : SE d e w base ok v xs k r) : SE d e w.drew base ok v xs k r := SE_below h (below_drew (Below.refl _ _))
theorem SE_drewN (h : SE d e w base ok v xs k r) (m : Nat) : SE d e (w.drewN m) base ok v xs k r := SE_below h (pw_below_drewN (Below.refl _ _) m)
theorem SE_far (h : SE d e w base ok v xs k r) {p : Addr} (hok : ∀ k, ok k → k ≠ p.block) (u : Value) : SE d e (w.setCell p u) base ok v xs k r := SE_step h (fun k ho _ => Below.heap_setCell w p u k (hok k ho))
/-- An element read out of a row, and its cells named from there on. -/
theorem SE_get {ad : Addr} {n cap : Nat} (h : S d e W base ok (.slice (some ad) n cap) xs) (z : α) (i : Int) (h0 : 0 ≤ i) (h1 : i < n) :
    ∃ c, c.length = d.sz ∧ FK d W (fun k => ok k ∧ some k ≠ (Value.slice (some ad) n cap).ownBlock) (xs.getD i.toNat z) c ∧ (∀ j u, c[j]? = some u → W.cell? (ad.add (i.toNat * d.sz + j)) = some u) ∧ SE d e W base ok (.slice (some ad) n cap) xs i.toNat c := by
  have hn := (S_reads' h).1
  obtain ⟨rows, hrows⟩ := SR_of_S h
  have hrow := hrows
  obtain ⟨hl, hR, h3, f, hM⟩ := hrow
  obtain ⟨c, hcl, hMc, hcc⟩ := R_getA hR [] i h0 h1
  have hlt : i.toNat < rows.length := by omega
  have hx : xs[i.toNat]? = some (xs.getD i.toNat z) := by rw [List.getD_eq_getElem?_getD, List.getElem?_eq_getElem (by omega)]; rfl
  have hc : rows[i.toNat]? = some c := by
    rw [List.getElem?_eq_getElem hlt]
    have he := hMc.1
    rw [List.getD_eq_getElem?_getD, List.getElem?_eq_getElem hlt] at he
    exact congrArg some he.symm
  exact ⟨c, hcl, FK_mono (FK_of_M (hM _ _ _ hx hc)) (fun k hk => hk.1), hcc, rows, hrows, hc⟩
/-- Of a row (u, xs) element k is taken out: v is what is left, the row itself as it was. -/
def Er {α : Type} (d : Kd α) (e : Nat) (W : World) (base : Nat) (ok : Nat → Prop) (u : Value) (xs : List α) (k : Nat) (r : List Value) (v : Value) : Prop :=
  ∃ (rows : List (List Value)) (A : Option Addr) (c : Nat), SR d e W base ok u xs rows ∧ rows[k]? = some r ∧ v = .slice A (xs.length - 1) c ∧ xs.length - 1 ≤ c ∧ F (raw d.sz) W ok A (xs.length - 1) (rows.eraseIdx k) ∧ ∀ b, v.ownBlock = some b → b < W.heap.size
theorem Er_slice (h : Er d e W base ok u xs k r v) : ∃ A c, v = .slice A (xs.length - 1) c := by obtain ⟨_, A, c, _, _, h, _⟩ := h; exact ⟨A, c, h⟩
theorem Er_lt (h : Er d e W base ok u xs k r v) : ∀ b, v.ownBlock = some b → b < W.heap.size := by obtain ⟨_, _, _, _, _, _, _, _, h⟩ := h; exact h
theorem Er_mono (h : Er d e W base ok u xs k r v) (hok : ∀ k, ok k → ok' k) : Er d e W base ok' u xs k r v := by
  obtain ⟨rows, A, c, h1, h2, h3, h4, h5, h6⟩ := h
  exact ⟨rows, A, c, SR_mono h1 hok, h2, h3, h4, F_mono h5 hok, h6⟩
theorem Er_step (h : Er d e W base ok u xs k r v) (hs : W.heap.size ≤ w1.heap.size) (hm : ∀ k, ok k → k < W.heap.size → w1.heap[k]? = W.heap[k]?) : Er d e w1 base ok u xs k r v := by
  obtain ⟨rows, A, c, h1, h2, h3, h4, h5, h6⟩ := h
  exact ⟨rows, A, c, SR_step h1 hm, h2, h3, h4, F_step h5 hm, fun b hb => Nat.lt_of_lt_of_le (h6 b hb) hs⟩
theorem Er_below (h : Er d e W base ok u xs k r v) (hb : Below W.heap.size W w1) : Er d e w1 base ok u xs k r v := Er_step h hb.size (fun k _ hk => hb.block k hk)
theorem Er_alloc (h : Er d e W base ok u xs k r v) (o : Obj) : Er d e (W.alloc o) base ok u xs k r v := Er_below h (below_alloc (Below.refl _ _) o)
theorem Er_drew (h : Er d e W base ok u xs k r v) : Er d e W.drew base ok u xs k r v := Er_below h (below_drew (Below.refl _ _))
theorem Er_drewN (h : Er d e W base ok u xs k r v) (m : Nat) : Er d e (W.drewN m) base ok u xs k r v := Er_below h (pw_below_drewN (Below.refl _ _) m)
theorem Er_far (h : Er d e W base ok u xs k r v) {p : Addr} (hok : ∀ k, ok k → k ≠ p.block) (u1 : Value) : Er d e (W.setCell p u1) base ok u xs k r v := Er_step h (by simp) (fun k ho _ => Below.heap_setCell W p u1 k (hok k ho))
theorem Er_elder' {u1 : Value} (h : Er d e W base ok u xs k r v) (hbase : ∀ k, u1.ownBlock = some k → W.heap.size ≤ k) (hb : Below W.heap.size W w1) : Er d e w1 base (fun k => ok k ∧ some k ≠ u1.ownBlock) u xs k r v := by
  obtain ⟨rows, A, c, h1, h2, h3, h4, h5, h6⟩ := h
  have hc : ∀ b, ok b ∧ b < W.heap.size → ok b ∧ some b ≠ u1.ownBlock := fun b hk => ⟨hk.1, fun he => by have := hbase b he.symm; have := hk.2; omega⟩
  exact ⟨rows, A, c, SR_mono (SR_step (SR_bound h1) (fun k _ hk => hb.block k hk)) hc, h2, h3, h4, F_mono (F_step (F_bound h5) (fun k _ hk => hb.block k hk)) hc, fun b hb' => Nat.lt_of_lt_of_le (h6 b hb') hb.size⟩
section
variable {P : Program} {ops : Array Oper} {rest : List Oper} {o : Oper} {a : Act} {Q : Exit → Act → World → Prop}
/-- append(xs[:k:k], xs[k+1:]...), in a region that draws its order. -/
theorem Er_erase_step {Kc : Act → World → Prop} (d : Kd α) {w0 W : World} (base : Nat) (hw : Region.wanted o (yielded ops a.tmps) = true) (s x : Operand) (t e : TypeId) (z : Value) (bytes : Nat) (ho : o.op = .call { callee := .builtin .append, args := #[s, x], argTypes := #[t, t] })
    (ht : P.underlying t = some (.slice e)) (hinfo : (P.info? e).map (fun i => (i.zero, i.size, i.bytes)) = some (some z, d.sz, bytes)) (hz : z.cells.size = d.sz) (hs0 : 0 < d.sz) {g n c k m c2 : Nat} {A : Option Addr} {xs : List α} {ok : Nat → Prop}
    (hs : a.eval s = .slice (some ⟨g, 0, none⟩) k k) (hx : a.eval x = .slice A m c2) (hA : A = if c = k + 1 then some ⟨g, 0, none⟩ else (some (⟨g, 0, none⟩ : Addr)).map (·.add ((k + 1) * d.sz))) (hm : m = n - (k + 1))
    (HO : SE d e W base ok (.slice (some ⟨g, 0, none⟩) n c) xs k r) (hk : k < n) (HB : Below base w0 W) (hbase : base ≤ W.heap.size) (hl : n * bytes ≤ 140737488355328) (hfresh : ∀ b, W.heap.size ≤ b → ok b)
    (h : ∀ v1 w1, Er d e w1 base ok (.slice (some ⟨g, 0, none⟩) n c) xs k r v1 → Below base w0 w1 → W.grownBy w1 (some g) → (v1.ownBlock = some g ∨ ∃ b, v1.ownBlock = some b ∧ W.heap.size ≤ b) → Kc (a.put o.dst v1) w1) :
    if Region.wanted o (yielded ops a.tmps) = true then Oper.wp P o a W Kc Q else Kc (a.put o.dst undef) W := by
  subst hm
  obtain ⟨rows, HS, hr⟩ := HO
  have HS' := HS
  obtain ⟨hrl, hR, h0, f, hM⟩ := HS'
  obtain ⟨i0, hi, hzz⟩ := Option.map_eq_some_iff.1 hinfo
  simp only [Prod.mk.injEq] at hzz
  obtain ⟨hz0, hz1, hz2⟩ := hzz
  have hn : n = xs.length := by rw [← hrl]; exact (R_reads' hR).1
  have hnc : n ≤ c := (R_reads' hR).2.1
  obtain ⟨v1, w1, hrun, hB1, hcase⟩ := cap_erase (P := P) t o.type e i0 z bytes d.sz ht hi hz0 hz1 hz2 hz hs0 hR hk hA c2 hl
  have hEr : Er d e w1 base ok (.slice (some ⟨g, 0, none⟩) n c) xs k r v1 ∧ (v1.ownBlock = some g ∨ ∃ b, v1.ownBlock = some b ∧ W.heap.size ≤ b) := by
    have hgs : g < W.heap.size := R_lt hR g (by simp [Value.ownBlock])
    rcases hcase with ⟨hlast, rfl, rfl⟩ | ⟨hlast, hR1⟩
    · refine ⟨⟨rows, some ⟨g, 0, none⟩, k, HS, hr, by rw [← hn, show n - 1 = k by omega], by omega, ?_, fun b hb => ?_⟩, .inl (by simp [Value.ownBlock])⟩
      · have hF : F (raw d.sz) w1 ok (some ⟨g, 0, none⟩) rows.length rows := by
          have := R_F (R_mono hR (fun b hb => h0 b hb.symm))
          rwa [show n = rows.length by omega] at this
        have := F_take (m := k) hF (by omega)
        rw [List.length_take, Nat.min_eq_left (by omega)] at this
        rw [← hn, show n - 1 = k by omega, List.eraseIdx_eq_take_drop_succ, List.drop_eq_nil_of_le (by omega), List.append_nil]
        exact this
      · have : g = b := by simpa [Value.ownBlock] using hb
        omega
    · have hel : (rows.eraseIdx k).length = n - 1 := by rw [List.length_eraseIdx_of_lt (by omega)]; omega
      obtain ⟨g1, c1, rfl, hg1, _⟩ := R_form hR1 (by omega)
      refine ⟨⟨rows, some ⟨g1, 0, none⟩, c1, SR_step HS (fun b _ hlt => hB1.block b hlt), hr, by rw [hel, ← hn], ?_, ?_, R_lt hR1⟩, .inr ⟨g1, by simp [Value.ownBlock], hg1⟩⟩
      · have := (R_reads' hR1).2.1
        omega
      · have := R_F (raw_tight hR1)
        rw [hel] at this
        rw [← hn]
        exact F_mono this (fun b hb => hfresh b (R_base hR1 b (by rw [hel]; exact hb.symm)))
  rw [if_pos hw]
  unfold Oper.wp execOp
  simp only [ho, resolve, invoke, builtin, Sem.run_bind, Sem.run_pure, Result.andThen_ok, List.map_toArray, List.map_cons, List.map_nil, hs, hx, hrun]
  exact h v1 w1 hEr.1 (HB.grown (grown_of_below hB1 none) hbase (fun _ h => by cases h)) (grown_of_below hB1 (some g)) hEr.2
/-- append([]T{x}, xs...) where x stood at k of a row and xs is what is left of it. -/
theorem Er_append (d : Kd α) {w0 W : World} (base : Nat) (hgd : o.guard = none) (s x : Operand) (t e : TypeId) (z : Value) (bytes : Nat)
    (ho : o.op = .call { callee := .builtin .append, args := #[s, x], argTypes := #[t, t] })
    (ht : P.underlying t = some (.slice e)) (hinfo : (P.info? e).map (fun i => (i.zero, i.size, i.bytes)) = some (some z, d.sz, bytes)) (hz : z.cells.size = d.sz) (hs0 : 0 < d.sz) (hb0 : 0 < bytes)
    (v : Value) (A : Option Addr) (m c : Nat) (x0 : α) {okl okE : Nat → Prop} (hs : a.eval s = v) (hx : a.eval x = .slice A m c)
    (HO : (raw d.sz).R e W base okl v [r]) (HE : Er d e W base okE u xs k r (.slice A m c)) (hx0 : xs[k]? = some x0) (hown : ∀ b, okE b → some b ≠ v.ownBlock) (hokE : ∀ b, okE b → ok b) (hokl : ∀ b, okl b → ok b) (hfresh : ∀ b, W.heap.size ≤ b → ok b)
    (HB : Below base w0 W) (hbase : base ≤ W.heap.size) (hl : (1 + m) * bytes ≤ 140737488355328)
    (h : ∀ v1 w1, S d e w1 base ok v1 (x0 :: xs.eraseIdx k) → Below base w0 w1 → W.grownBy w1 v.ownBlock → (v1.ownBlock = v.ownBlock ∨ ∃ b, v1.ownBlock = some b ∧ W.heap.size ≤ b) → wpList P ops Q rest (a.put o.dst v1) w1) :
    wpList P ops Q (o :: rest) a W := by
  obtain ⟨rows, A', c', HS, hr, hv, hmc, hF, hlt⟩ := HE
  injection hv with e1 e2 e3
  subst e1; subst e2; subst e3
  obtain ⟨hrl, hR, h0, f, hM⟩ := SR_bound HS
  have hk : k < xs.length := (List.getElem?_eq_some_iff.1 hx0).1
  refine R_append_rows (raw d.sz) (Rr := (raw d.sz).K W) base hgd s x t e z bytes ho ht hinfo hz hs0 hb0 v [r] (rows.eraseIdx k) A (xs.length - 1) c ok (fun _ => False) hs hx (R_mono HO hokl) (F_now hF) (fun _ _ h => h) (fun _ h => h.elim) hfresh HB hbase (by simpa using hl) ?_
  intro v1 w1 hR1 hB1 hg1 hat
  refine h v1 w1 ?_ hB1 hg1 hat
  refine S_of_raw (fun q b => (((okE b ∧ b < W.heap.size) ∧ some b ≠ u.ownBlock) ∧ f b = if q = 0 then k else if q - 1 < k then q - 1 else q)) (by simp [List.length_eraseIdx_of_lt, hk, hrl]) hR1 hR1.1 (fun q y cs hy hc => ?_) (fun b q q' h1 h2 => ?_) (fun q b hb => ⟨hokE b hb.1.1.1, fun he => ?_⟩)
  · refine M_step (w := W) ?_ (fun b hb hlt => hg1.block b hlt (hown b hb.1.1.1))
    cases q with
    | zero =>
      simp only [List.getElem?_cons_zero, Option.some.injEq, List.cons_append] at hy hc
      subst hy; subst hc
      exact d.M_mono (fun b hb => ⟨hb.1, by simpa using hb.2⟩) (hM k _ _ hx0 hr)
    | succ q =>
      simp only [List.getElem?_cons_succ, List.cons_append, List.nil_append, List.getElem?_eraseIdx] at hy hc
      by_cases hq : q < k
      · rw [if_pos hq] at hy hc
        exact d.M_mono (fun b hb => ⟨hb.1, by rw [hb.2]; simp [hq]⟩) (hM q _ _ hy hc)
      · rw [if_neg hq] at hy hc
        exact d.M_mono (fun b hb => ⟨hb.1, by rw [hb.2]; simp [hq]⟩) (hM (q + 1) _ _ hy hc)
  · have := h1.2.symm.trans h2.2
    split at this <;> split at this <;> (try split at this) <;> (try split at this) <;> omega
  · rcases hat with hat | ⟨b', hb', hle⟩
    · rw [hat] at he
      exact hown b hb.1.1.1 he
    · rw [hb'] at he
      injection he with he
      have := hb.1.1.2
      omega
/-- append([]T{x}, xs...) where x leads to blocks of its own. -/
theorem S_front (d : Kd α) {w0 W : World} (base : Nat) (hgd : o.guard = none) (s x : Operand) (t e : TypeId) (z : Value) (bytes : Nat)
    (ho : o.op = .call { callee := .builtin .append, args := #[s, x], argTypes := #[t, t] })
    (ht : P.underlying t = some (.slice e)) (hinfo : (P.info? e).map (fun i => (i.zero, i.size, i.bytes)) = some (some z, d.sz, bytes)) (hz : z.cells.size = d.sz) (hs0 : 0 < d.sz) (hb0 : 0 < bytes)
    (v : Value) (A : Option Addr) (m c : Nat) (x0 : α) {okl okE P0 : Nat → Prop} (hs : a.eval s = v) (hx : a.eval x = .slice A m c)
    (HO : (raw d.sz).R e W base okl v [r]) (HE : S d e W base okE (.slice A m c) xs) (HM : d.M W base P0 x0 r) (hP0 : ∀ b, P0 b → (ok b ∧ some b ≠ v.ownBlock) ∧ ¬ okE b) (hown : ∀ b, okE b → some b ≠ v.ownBlock) (hokE : ∀ b, okE b → ok b) (hokl : ∀ b, okl b → ok b) (hfresh : ∀ b, W.heap.size ≤ b → ok b)
    (HB : Below base w0 W) (hbase : base ≤ W.heap.size) (hl : (1 + m) * bytes ≤ 140737488355328)
    (h : ∀ v1 w1, S d e w1 base ok v1 (x0 :: xs) → Below base w0 w1 → W.grownBy w1 v.ownBlock → (v1.ownBlock = v.ownBlock ∨ ∃ b, v1.ownBlock = some b ∧ W.heap.size ≤ b) → wpList P ops Q rest (a.put o.dst v1) w1) :
    wpList P ops Q (o :: rest) a W := by
  obtain ⟨rows, HS⟩ := SR_of_S HE
  obtain ⟨hrl, hR, h0, f, hM⟩ := SR_bound HS
  have hm : m = rows.length := (R_reads' hR).1
  have hF := R_F hR
  have hMb := d.M_bound HM
  refine R_append_rows (raw d.sz) (Rr := (raw d.sz).K W) base hgd s x t e z bytes ho ht hinfo hz hs0 hb0 v [r] rows A m c ok (fun _ => False) hs hx (R_mono HO hokl) (F_now hF) (fun _ _ h => h) (fun _ h => h.elim) hfresh HB hbase (by simpa using hl) ?_
  intro v1 w1 hR1 hB1 hg1 hat
  refine h v1 w1 ?_ hB1 hg1 hat
  refine S_of_raw (fun q b => if q = 0 then P0 b ∧ b < W.heap.size else ((okE b ∧ b < W.heap.size) ∧ some b ≠ (Value.slice A m c).ownBlock) ∧ f b = q - 1) (by simp [hrl]) hR1 hR1.1 (fun q y cs hy hc => ?_) (fun b q q' h1 h2 => ?_) (fun q b hb => ?_)
  · cases q with
    | zero =>
      simp only [List.getElem?_cons_zero, Option.some.injEq, List.cons_append] at hy hc
      subst hy; subst hc
      refine M_step (w := W) (d.M_mono (fun b hb => ?_) hMb) (fun b hb hlt => hg1.block b hlt ?_)
      · rw [if_pos rfl]; exact ⟨hb.1, hb.2.2.1⟩
      · rw [if_pos rfl] at hb; exact (hP0 b hb.1).1.2
    | succ q =>
      simp only [List.getElem?_cons_succ, List.cons_append, List.nil_append] at hy hc
      refine M_step (w := W) (d.M_mono (fun b hb => ?_) (hM q _ _ hy hc)) (fun b hb hlt => hg1.block b hlt ?_)
      · rw [if_neg (by omega)]; exact ⟨hb.1, by rw [hb.2]; simp⟩
      · rw [if_neg (by omega)] at hb; exact hown b hb.1.1.1
  · by_cases hq : q = 0 <;> by_cases hq' : q' = 0
    · omega
    · rw [if_pos hq] at h1; rw [if_neg hq'] at h2
      exact absurd h2.1.1.1 (hP0 b h1.1).2
    · rw [if_neg hq] at h1; rw [if_pos hq'] at h2
      exact absurd h1.1.1.1 (hP0 b h2.1).2
    · rw [if_neg hq] at h1; rw [if_neg hq'] at h2
      have := h1.2.symm.trans h2.2
      omega
  · have hb' : (ok b ∧ some b ≠ v.ownBlock) ∧ b < W.heap.size := by
      by_cases hq : q = 0
      · rw [if_pos hq] at hb; exact ⟨(hP0 b hb.1).1, hb.2⟩
      · rw [if_neg hq] at hb; exact ⟨⟨hokE b hb.1.1.1, hown b hb.1.1.1⟩, hb.1.1.2⟩
    refine ⟨hb'.1.1, fun he => ?_⟩
    rcases hat with hat | ⟨b'', hb'', hle⟩
    · rw [hat] at he; exact hb'.1.2 he
    · rw [hb''] at he
      injection he with he
      have := hb'.2
      omega
end
end Kd
end Go.Proofs.YtphjcllhlecpfaaW.PrintWords
