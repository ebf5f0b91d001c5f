/- Invoices: books compared at equal sides, walked; what stays true of books. -/
import Derived.Test.YtbngclibfnnejaaDoorIK
set_option linter.unusedVariables false
set_option linter.unusedSimpArgs false
namespace Go.Proofs.YtbngclibfnnejaaDoor
open Go.RowKit
theorem credit_valid {b : List Iv} {num t : Int} (hv : validB b = 0) (hn : b.length ≤ 255) : validB (creditB b num t).1 = 0 ∧ ((creditB b num t).1 = b ∨ (creditB b num t).1.length = b.length + 1) := by
  obtain ⟨h1, h2⟩ := credit_ok (num := num) (t := t) hv hn
  by_cases q : num < 1 ∨ (b.length : Int) < num
  · rw [h1 q]; exact ⟨hv, .inl rfl⟩
  · have hj : (num - 1).toNat < b.length := by omega
    obtain ⟨h3, h4⟩ := h2 b[(num - 1).toNat] (by omega) (by omega) (List.getElem?_eq_getElem hj)
    have hat : b[(num - 1).toNat]? = some b[(num - 1).toNat] := List.getElem?_eq_getElem hj
    obtain ⟨-, -, p3, p4, p5, p6, -⟩ := check_parts (valid_at hv hat)
    generalize b[(num - 1).toNat] = v at *
    by_cases q1 : v.credits = 0
    · obtain ⟨h5, h6, h7⟩ := h4 q1
      cases q2 : credited num b with
      | true => rw [h5 q2]; exact ⟨hv, .inl rfl⟩
      | false =>
        cases q3 : lateB b t with
        | true => rw [h6 q2 q3]; exact ⟨hv, .inl rfl⟩
        | false =>
          rw [h7 q2 q3]
          refine ⟨valid_add hv (by omega) (check_new q3 ?_ p4 p5 (by rw [smallI_neg]; exact p6) ?_), .inr (by rw [List.length_append]; rfl)⟩
          · unfold linesB at p3 ⊢
            rw [List.length_map]
            exact p3
          · unfold creditsB
            rw [if_neg (by show ¬ num = 0; omega), if_neg (by show ¬ (num < 1 ∨ (b.length : Int) < num); omega)]
            show (match b[(num - 1).toNat]? with | none => false | some o => _) = true
            rw [hat, List.take_length]
            show (decide (v.credits = 0) && strEq v.cust v.cust && strEq v.cur v.cur && !credited num b && eqIts (v.items.map negIt) (v.items.map negIt)) = true
            rw [q1, q2, strEq_self, strEq_self, eqIts_self]
            rfl
    · rw [h3 q1]; exact ⟨hv, .inl rfl⟩
theorem issue_valid2 {b : List Iv} {cust cur : ByteArray} {t : Int} {l : List It} (hv : validB b = 0) (hn : b.length ≤ 255) : validB (issueB b cust cur t l).1 = 0 ∧ ((issueB b cust cur t l).1 = b ∨ (issueB b cust cur t l).1.length = b.length + 1) := by
  by_cases h : (issueB b cust cur t l).2 = 0
  · obtain ⟨-, h1, h2⟩ := issue_valid h
    rw [h1]
    exact ⟨h2, .inr (by rw [List.length_append]; rfl)⟩
  · obtain ⟨a1, a2, a3, a4, a5, a6⟩ := issue_ok (cust := cust) (cur := cur) (t := t) (l := l) hv hn
    have key : (issueB b cust cur t l).1 = b := by
      cases q1 : nameB cust with
      | false => rw [a1 q1]
      | true =>
        cases q2 : curB cur with
        | false => rw [a2 q1 q2]
        | true =>
          cases q3 : lateB b t with
          | true => rw [a3 q1 q2 q3]
          | false =>
            by_cases q4 : l.length < 1 ∨ 64 < l.length
            · rw [a4 q1 q2 q3 q4]
            · cases q5 : smallI l with
              | false => rw [a5 q1 q2 q3 (by omega) q5]
              | true => rw [a6 q1 q2 q3 (by omega) q5] at h; exact absurd rfl h
    rw [key]
    exact ⟨hv, .inl rfl⟩
/-- a call that hands back an error hands back the book that came in -/
theorem issue_err {b : List Iv} {cust cur : ByteArray} {t : Int} {l : List It} (hv : validB b = 0) (hn : b.length ≤ 255) (h : (issueB b cust cur t l).2 ≠ 0) : (issueB b cust cur t l).1 = b := by
  obtain ⟨a1, a2, a3, a4, a5, a6⟩ := issue_ok (cust := cust) (cur := cur) (t := t) (l := l) hv hn
  cases q1 : nameB cust with
  | false => rw [a1 q1]
  | true =>
    cases q2 : curB cur with
    | false => rw [a2 q1 q2]
    | true =>
      cases q3 : lateB b t with
      | true => rw [a3 q1 q2 q3]
      | false =>
        by_cases q4 : l.length < 1 ∨ 64 < l.length
        · rw [a4 q1 q2 q3 q4]
        · cases q5 : smallI l with
          | false => rw [a5 q1 q2 q3 (by omega) q5]
          | true => rw [a6 q1 q2 q3 (by omega) q5] at h; exact absurd rfl h
theorem GoodM.nil (w : World) : GoodM w none 0 0 [] := ⟨BkAt.nil w, rfl⟩
theorem GoodM.small_all {w : World} {A : Option Addr} {n c : Nat} {L : List Im} (h : GoodM w A n c L) : ∀ x ∈ L, x.items.length ≤ 100000 := fun x hx => by
  obtain ⟨k, hk, rfl⟩ := List.getElem_of_mem hx
  have := (h.small hk).2.2
  omega
end Go.Proofs.YtbngclibfnnejaaDoor
