/- How arguments read: slices of elements of any shape. -/
import Derived.Test.YtbngclibfnnejaaDoorFlat
import Derived.Test.YtbngclibfnnejaaDoorOpen
set_option linter.unusedVariables false
set_option linter.unusedSimpArgs false
namespace Go.Proofs.YtbngclibfnnejaaDoor
open Go.ChangeShapes Go.WideShapes Go.Deep Go.Joins Go.RowKit
theorem build_el {α : Type} {f : α → List Value} {s : Nat} (hf : ∀ a, (f a).length = s) (Pr : α → Prop) (w : World) (a : Addr) (n : Nat)
    (key : ∀ i, i < n → ∃ x : α, (∀ j u, (f x)[j]? = some u → w.cell? (a.add (i * s + j)) = some u) ∧ Pr x) :
    ∃ l : List α, l.length = n ∧ (∀ j u, (flat f l)[j]? = some u → w.cell? (a.add j) = some u) ∧ ∀ x ∈ l, Pr x := by
  have build : ∀ k, k ≤ n → ∃ l : List α, l.length = k ∧ (∀ j u, (flat f l)[j]? = some u → w.cell? (a.add j) = some u) ∧ ∀ x ∈ l, Pr x := by
    intro k
    induction k with
    | zero => intro _; exact ⟨[], rfl, fun j u h => by simp [flat] at h, fun x h => by simp at h⟩
    | succ k ih =>
      intro hk
      obtain ⟨l, hl1, hl2, hl3⟩ := ih (by omega)
      obtain ⟨x, hx, hp⟩ := key k (by omega)
      refine ⟨l ++ [x], by simp [hl1], fun j u hj => ?_, fun y hy => ?_⟩
      · rw [flat_append, flat_one] at hj
        have hsl := flat_len hf l
        rcases Nat.lt_or_ge j (flat f l).length with h | h
        · rw [List.getElem?_append_left h] at hj
          exact hl2 j u hj
        · rw [List.getElem?_append_right h] at hj
          have := hx _ u hj
          rw [hsl, hl1] at this h
          rwa [show k * s + (j - k * s) = j by omega] at this
      · rcases List.mem_append.1 hy with h | h
        · exact hl3 y h
        · simp at h; subst h; exact hp
  exact build n (Nat.le_refl _)
section
variable {H : Type} {enc : TypeId × Value → H} {P : Program} {w : World} {base : Nat} {spare : Nat → Bool} {held : Bool}
/-- a slice, opened: each element's cells by 'one' -/
theorem slice_el {α : Type} {f : α → List Value} {s : Nat} (Pr : α → Prop) {t e : TypeId} {fuel : Nat} {cs : List Value} {x : DataW H × List MemPlace} (ht : P.underlying t = some (.slice e)) (hC : P.cellsOf e = s)
    (hf : ∀ a, (f a).length = s) (hpos : 0 < s)
    (one : ∀ (n : Nat) (cs' : List Value) y, cs'.length = s → DataW.trod enc P w base spare held n e cs' = some y → ∃ a : α, cs' = f a ∧ Pr a)
    (h : DataW.trod enc P w base spare held fuel t cs = some x) :
    ∃ A n c l, cs = [.slice A n c] ∧ LAt f s w w.heap.size A n l ∧ n ≤ c ∧ c ≤ maxLen ∧ ∀ a ∈ l, Pr a := by
  rcases open_slice ht h with ⟨hcs, _⟩ | ⟨a, len, cap, m, n, D, Pl, hcs, hb, hl, hm, hmm, hx, hi⟩
  · exact ⟨none, 0, 0, [], hcs, LAt.nil hf _ _, Nat.le_refl _, Nat.zero_le _, fun a h => by simp at h⟩
  · have key : ∀ i, i < len → ∃ x : α, (∀ j u, (f x)[j]? = some u → w.cell? (a.add (i * s + j)) = some u) ∧ Pr x := by
      intro i hil
      obtain ⟨cs', hc, ht'⟩ := hi i (by rw [hmm]; split <;> omega)
      rw [hC] at hc
      obtain ⟨_, hcl, hat⟩ := World.cells?_some hc
      obtain ⟨x, rfl, hp⟩ := one _ cs' _ hcl ht'
      refine ⟨x, fun j u hu => ?_, hp⟩
      have hj : j < s := by
        rcases Nat.lt_or_ge j s with g | g
        · exact g
        · rw [List.getElem?_eq_none (by rw [hf]; exact g)] at hu; cases hu
      have := hat j hj
      rw [Go.Deep.add_add] at this
      rw [this, hu]
    obtain ⟨l, hl1, hl2, hl3⟩ := build_el hf Pr w a len key
    refine ⟨some a, len, cap, l, hcs, ⟨⟨hl1, hf⟩, by rw [flat_len hf, hl1], fun h0 => ⟨a, rfl, ?_, hl2⟩⟩, hl, hm, hl3⟩
    obtain ⟨x, hx, _⟩ := key 0 h0
    have h0' : 0 < (f x).length := by rw [hf]; exact hpos
    have := lt_of_cell (hx 0 _ (List.getElem?_eq_getElem h0'))
    rwa [add_block] at this
end
end Go.Proofs.YtbngclibfnnejaaDoor
