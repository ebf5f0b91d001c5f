/- How arguments read: slices of structs, of strings. -/
import Derived.Test.YtiggpgeldigknaaFlat
import Derived.Test.YtiggpgeldigknaaOpen
set_option linter.unusedVariables false
set_option linter.unusedSimpArgs false
namespace Go.Proofs.Ytiggpgeldigknaa
open Go.ChangeShapes Go.WideShapes Go.Deep Go.Joins Go.RowKit
theorem build_list {α : Type} {f : α → List Value} {s : Nat} (hf : ∀ a, (f a).length = s) (Pr : α → Prop) (w : World) (a : Addr) (n : Nat)
    (key : ∀ i, i < n → ∃ x : α, (∀ j u, (f x)[j]? = some u → w.cell? (a.add (i * s + j)) = some u) ∧ Pr x) :
    ∃ l : List α, l.length = n ∧ (∀ j u, (flat f l)[j]? = some u → w.cell? (a.add j) = some u) ∧ ∀ x ∈ l, Pr x := by
  have build : ∀ k, k ≤ n → ∃ l : List α, l.length = k ∧ (∀ j u, (flat f l)[j]? = some u → w.cell? (a.add j) = some u) ∧ ∀ x ∈ l, Pr x := by
    intro k
    induction k with
    | zero => intro _; exact ⟨[], rfl, fun j u h => by simp [flat] at h, fun x h => by simp at h⟩
    | succ k ih =>
      intro hk
      obtain ⟨l, hl1, hl2, hl3⟩ := ih (by omega)
      obtain ⟨x, hx, hp⟩ := key k (by omega)
      refine ⟨l ++ [x], by simp [hl1], fun j u hj => ?_, fun y hy => ?_⟩
      · rw [flat_append, flat_one] at hj
        have hsl := flat_len hf l
        rcases Nat.lt_or_ge j (flat f l).length with h | h
        · rw [List.getElem?_append_left h] at hj
          exact hl2 j u hj
        · rw [List.getElem?_append_right h] at hj
          have := hx _ u hj
          rw [hsl, hl1] at this h
          rwa [show k * s + (j - k * s) = j by omega] at this
      · rcases List.mem_append.1 hy with h | h
        · exact hl3 y h
        · simp at h; subst h; exact hp
  exact build n (Nat.le_refl _)
section
variable {H : Type} {enc : TypeId × Value → H} {P : Program} {w : World} {base : Nat} {spare : Nat → Bool} {held : Bool}
/-- a slice of structs of one-cell fields, opened: each element by 'one' -/
theorem slice_of {α : Type} {f : α → List Value} (Pr : α → Prop) {t e : TypeId} {fs : Array Field} {fuel : Nat} {cs : List Value} {x : DataW H × List MemPlace} (ht : P.underlying t = some (.slice e)) (he : P.underlying e = some (.struct fs))
    (hone : oneCellFields P fs = true) (hC : P.cellsOf e = fs.size) (hf : ∀ a, (f a).length = fs.size) (hpos : 0 < fs.size)
    (one : ∀ (n : Nat) (g : Nat → Value) (ys : List (DataW H × List MemPlace)), (∀ (j : Nat) (fl : Field), fs[j]? = some fl → ∃ y, DataW.trod enc P w base spare held n fl.type [g j] = some y) → ∃ a : α, (∀ j u, (f a)[j]? = some u → g j = u) ∧ Pr a)
    (h : DataW.trod enc P w base spare held fuel t cs = some x) :
    ∃ A n c l, cs = [.slice A n c] ∧ LAt f fs.size w w.heap.size A n l ∧ n ≤ c ∧ c ≤ maxLen ∧ ∀ a ∈ l, Pr a := by
  rcases open_slice_fields ht he hone hC h with ⟨hcs, _⟩ | ⟨a, len, cap, m, D, Pl, hcs, _, hl, hm, hmm, _, hi⟩
  · exact ⟨none, 0, 0, [], hcs, LAt.nil hf _ _, Nat.le_refl _, Nat.zero_le _, fun a h => by simp at h⟩
  · have key : ∀ i, i < len → ∃ x : α, (∀ j u, (f x)[j]? = some u → w.cell? (a.add (i * fs.size + j)) = some u) ∧ Pr x := by
      intro i hil
      obtain ⟨ys, k, _, _, _, hfs⟩ := hi i (by rw [hmm]; split <;> omega)
      obtain ⟨x, h1, h2⟩ := one k (fun j => (w.cell? (a.add (i * fs.size + j))).getD undef) ys (fun j fl hj => by
        obtain ⟨v, y, hc, _, ht⟩ := hfs j fl hj
        exact ⟨y, by simpa [hc] using ht⟩)
      refine ⟨x, fun j u hu => ?_, h2⟩
      have hj : j < fs.size := by
        rcases Nat.lt_or_ge j fs.size with g | g
        · exact g
        · rw [List.getElem?_eq_none (by rw [hf]; exact g)] at hu; cases hu
      obtain ⟨v, y, hc, _, _⟩ := hfs j _ (Array.getElem?_eq_getElem hj)
      have := h1 j u hu
      simp only [hc, Option.getD_some] at this
      rw [hc, this]
    obtain ⟨l, hl1, hl2, hl3⟩ := build_list hf Pr w a len key
    refine ⟨some a, len, cap, l, hcs, ⟨⟨hl1, hf⟩, by rw [flat_len hf, hl1], fun h0 => ⟨a, rfl, ?_, hl2⟩⟩, hl, hm, hl3⟩
    obtain ⟨x, hx, _⟩ := key 0 h0
    have h0' : 0 < (f x).length := by rw [hf]; exact hpos
    have := lt_of_cell (hx 0 _ (List.getElem?_eq_getElem h0'))
    rwa [add_block] at this
/-- a slice of one-cell elements -/
theorem ones_of {α : Type} (mk : α → Value) (Pr : α → Prop) {t e : TypeId} {fuel : Nat} {cs : List Value} {x : DataW H × List MemPlace} (ht : P.underlying t = some (.slice e)) (hC : P.cellsOf e = 1)
    (one : ∀ (n : Nat) (v : Value) y, DataW.trod enc P w base spare held n e [v] = some y → ∃ a : α, v = mk a ∧ Pr a)
    (h : DataW.trod enc P w base spare held fuel t cs = some x) :
    ∃ A n c l, cs = [.slice A n c] ∧ LAt (fun a => [mk a]) 1 w w.heap.size A n l ∧ n ≤ c ∧ c ≤ maxLen ∧ ∀ a ∈ l, Pr a := by
  rcases open_slice ht h with ⟨hcs, _⟩ | ⟨a, len, cap, m, n, D, Pl, hcs, hb, hl, hm, hmm, hx, hi⟩
  · exact ⟨none, 0, 0, [], hcs, LAt.nil (f := fun a => [mk a]) (fun _ => rfl) _ _, Nat.le_refl _, Nat.zero_le _, fun a h => by simp at h⟩
  · have key : ∀ i, i < len → ∃ x : α, (∀ j u, [mk x][j]? = some u → w.cell? (a.add (i * 1 + j)) = some u) ∧ Pr x := by
      intro i hil
      obtain ⟨cs', hc, ht'⟩ := hi i (by rw [hmm]; split <;> omega)
      rw [hC] at hc
      obtain ⟨_, hcl, hat⟩ := World.cells?_some hc
      have hat0 := hat 0 (by omega)
      match cs', hcl with
      | [v], _ =>
        obtain ⟨x, rfl, hp⟩ := one _ v _ ht'
        refine ⟨x, fun j u hu => ?_, hp⟩
        cases j with
        | zero =>
          simp at hu
          subst hu
          simpa [Go.Deep.add_add, Addr.add] using hat0
        | succ j => simp at hu
    obtain ⟨l, hl1, hl2, hl3⟩ := build_list (f := fun a => [mk a]) (fun _ => rfl) Pr w a len key
    refine ⟨some a, len, cap, l, hcs, ⟨⟨hl1, fun _ => rfl⟩, by rw [flat_len (s := 1) (fun _ => rfl), hl1], fun h0 => ⟨a, rfl, ?_, hl2⟩⟩, hl, hm, hl3⟩
    obtain ⟨x, hx, _⟩ := key 0 h0
    have := lt_of_cell (hx 0 _ rfl)
    rwa [add_block] at this
end
end Go.Proofs.Ytiggpgeldigknaa
