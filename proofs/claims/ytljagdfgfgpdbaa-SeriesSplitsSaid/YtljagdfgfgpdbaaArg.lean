/- Series: how the arguments read. -/
import Derived.Test.YtljagdfgfgpdbaaRep
import Derived.Test.YtljagdfgfgpdbaaOpen
set_option linter.unusedVariables false
namespace Go.Proofs.Ytljagdfgfgpdbaa
open Go.ChangeShapes Go.WideShapes Go.Deep Go.Joins Go.RowKit
theorem cells29 : Try.prog.cellsOf 29 = 2 := by kernel_rfl
theorem cells31 : Try.prog.cellsOf 31 = 2 := by kernel_rfl
section
variable {H : Type} {enc : TypeId × Value → H} {w : World} {base : Nat} {spare : Nat → Bool} {held : Bool}
theorem steps_of {r : Reach} {b0 : Nat} {v : Value} {d : DataW H} {p : List MemPlace} (hv : Value.okWide Try.prog w r b0 22 v) (h : DataW.Trod enc Try.prog w base spare held 22 v d p) :
    ∃ A n c l, v = .slice A n c ∧ SAt w w.heap.size A n l ∧ n ≤ c ∧ c ≤ maxLen := by
  obtain ⟨A, n, c, rfl⟩ := okWide_slice Try.underlying22 hv
  obtain ⟨fuel, hf⟩ := h
  rcases open_slice_fields Try.underlying22 Try.underlying29 (by kernel_rfl) cells29 hf with ⟨hcs, _⟩ | ⟨a, len, cap, m, D, Pl, hcs, _, hl, hm, hmm, _, hi⟩
  · simp [Value.cells] at hcs
    obtain ⟨rfl, rfl, rfl⟩ := hcs
    exact ⟨none, 0, 0, [], rfl, SAt.nil _ _, Nat.le_refl _, Nat.zero_le _⟩
  · simp [Value.cells] at hcs
    obtain ⟨rfl, rfl, rfl⟩ := hcs
    have key : ∀ i, i < n → ∃ t x : Int, w.cell? (a.add (i * 2)) = some (.int .i64 t) ∧ w.cell? (a.add (i * 2 + 1)) = some (.int .i64 x) := by
      intro i hin
      obtain ⟨ys, k, _, _, _, hfs⟩ := hi i (by rw [hmm]; split <;> omega)
      obtain ⟨v0, y0, c0, _, t0⟩ := hfs 0 _ rfl
      obtain ⟨v1, y1, c1, _, t1⟩ := hfs 1 _ rfl
      obtain ⟨z0, e0, _, _⟩ := DataW.trod_int Try.underlying3 t0
      obtain ⟨z1, e1, _, _⟩ := DataW.trod_int Try.underlying3 t1
      cases e0
      cases e1
      exact ⟨z0, z1, by simpa using c0, by simpa using c1⟩
    have build : ∀ k, k ≤ n → ∃ l : List Ser.Step, l.length = k ∧ ∀ j u, (scells l)[j]? = some u → w.cell? (a.add j) = some u := by
      intro k
      induction k with
      | zero => intro _; exact ⟨[], rfl, fun j u h => by simp [scells] at h⟩
      | succ k ih =>
        intro hk
        obtain ⟨l, hl1, hl2⟩ := ih (by omega)
        obtain ⟨t, x, e0, e1⟩ := key k (by omega)
        refine ⟨l ++ [(t, x)], by simp [hl1], fun j u hj => ?_⟩
        rw [scells_append] at hj
        have hsl := scells_length l
        rcases Nat.lt_or_ge j (scells l).length with h | h
        · rw [List.getElem?_append_left h] at hj
          exact hl2 j u hj
        · rw [List.getElem?_append_right h] at hj
          have hlt : j - (scells l).length < 2 := by
            rcases Nat.lt_or_ge (j - (scells l).length) 2 with h' | h'
            · exact h'
            · rw [List.getElem?_eq_none (by simpa [scells] using h')] at hj; cases hj
          rcases (show j = k * 2 ∨ j = k * 2 + 1 by omega) with rfl | rfl
          · rw [show k * 2 - (scells l).length = 0 by omega] at hj
            simp [scells] at hj
            rw [← hj]; exact e0
          · rw [show k * 2 + 1 - (scells l).length = 1 by omega] at hj
            simp [scells] at hj
            rw [← hj]; exact e1
    obtain ⟨l, hl1, hl2⟩ := build n (Nat.le_refl _)
    refine ⟨some a, n, c, l, rfl, ⟨by rw [scells_length, hl1], fun h0 => ⟨a, rfl, ?_, hl2⟩⟩, hl, hm⟩
    obtain ⟨t, x, e0, _⟩ := key 0 h0
    have := lt_of_cell e0
    rwa [add_block] at this
theorem span_of {r : Reach} {b0 : Nat} {v : Value} {d : DataW H} {p : List MemPlace} (hv : Value.okWide Try.prog w r b0 31 v) (h : DataW.Trod enc Try.prog w base spare held 31 v d p) :
    ∃ F T : Int, v = .agg #[.int .i64 F, .int .i64 T] ∧ (Lit.int .i64 F).wf = true ∧ (Lit.int .i64 T).wf = true := by
  obtain ⟨v0, v1, y0, y1, n, rfl, _, _, t0, t1⟩ := open_agg2 Try.underlying31 (by kernel_rfl) cells31 hv h
  obtain ⟨z0, e0, _, w0⟩ := DataW.trod_int Try.underlying3 t0
  obtain ⟨z1, e1, _, w1⟩ := DataW.trod_int Try.underlying3 t1
  cases e0
  cases e1
  exact ⟨z0, z1, rfl, w0, w1⟩
theorem wf64 {n : Int} (h : (Lit.int .i64 n).wf = true) : -9223372036854775808 ≤ n ∧ n ≤ 9223372036854775807 := by simpa [Lit.wf, IntKind.min, IntKind.max, IntKind.signed, IntKind.bits] using h
end
end Go.Proofs.Ytljagdfgfgpdbaa
