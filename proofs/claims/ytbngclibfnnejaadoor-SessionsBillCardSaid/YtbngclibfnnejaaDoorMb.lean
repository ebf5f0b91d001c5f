/- Invoices in plain words, further: sums are small, what a valid book says of its parts. -/
import Derived.Test.YtbngclibfnnejaaDoorMa
import Derived.WideShapes
set_option linter.unusedVariables false
namespace Go.Proofs.YtbngclibfnnejaaDoor
def p45 (x : Int) : Prop := -35184372088832 ≤ x ∧ x ≤ 35184372088832
theorem sum_small : ∀ (xs : List Int), (∀ x ∈ xs, p45 x) → -(35184372088832 * (xs.length : Int)) ≤ xs.sum ∧ xs.sum ≤ 35184372088832 * (xs.length : Int)
  | [], _ => by simp
  | x :: r, h => by
    have h1 := sum_small r (fun y hy => h y (List.mem_cons_of_mem _ hy))
    have h2 := h x List.mem_cons_self
    unfold p45 at h2
    simp only [List.sum_cons, List.length_cons]
    omega
theorem sum_take (xs : List Int) (k : Nat) (hk : k < xs.length) : (xs.take (k + 1)).sum = (xs.take k).sum + xs[k] := by
  rw [List.take_succ_eq_append_getElem hk, List.sum_append]
  simp
theorem sum_take_small (xs : List Int) (h : ∀ x ∈ xs, p45 x) (hn : xs.length ≤ 64) (k : Nat) : -2251799813685248 ≤ (xs.take k).sum ∧ (xs.take k).sum ≤ 2251799813685248 := by
  have h1 := sum_small (xs.take k) (fun y hy => h y (List.mem_of_mem_take hy))
  have h2 : (xs.take k).length ≤ 64 := by rw [List.length_take]; omega
  omega
/-- the high word of a number of 128 bits with a sign -/
def hiS (s : Int) : Int := if s < 0 then 18446744073709551615 else 0
theorem part_iff (n : Int) : partB n = true ↔ p45 n := by unfold partB p45; simp
theorem item_parts {x : It} (h : itemB x = true) : p45 x.price ∧ p45 x.net ∧ p45 x.vat ∧ p45 x.gross := by
  unfold itemB at h
  simp only [Bool.and_eq_true, part_iff] at h
  exact ⟨h.1.1.1, h.1.1.2, h.1.2, h.2⟩
theorem small_parts {l : List It} (h : smallI l = true) (f : It → Int) (hf : ∀ x, itemB x = true → p45 (f x)) : ∀ y ∈ l.map f, p45 y := by
  intro y hy
  obtain ⟨x, hx, rfl⟩ := List.mem_map.1 hy
  unfold smallI at h
  rw [List.all_eq_true] at h
  exact hf x (h x hx)
theorem small_net {l : List It} (h : smallI l = true) : ∀ y ∈ l.map (·.net), p45 y := small_parts h _ fun x hx => (item_parts hx).2.1
theorem small_vat {l : List It} (h : smallI l = true) : ∀ y ∈ l.map (·.vat), p45 y := small_parts h _ fun x hx => (item_parts hx).2.2.1
theorem small_gross {l : List It} (h : smallI l = true) : ∀ y ∈ l.map (·.gross), p45 y := small_parts h _ fun x hx => (item_parts hx).2.2.2
theorem lines_iff (l : List It) : linesB l = false ↔ 1 ≤ l.length ∧ l.length ≤ 64 := by
  unfold linesB
  simp only [Bool.or_eq_false_iff, decide_eq_false_iff_not]
  omega
theorem late_nil (t : Int) : lateB [] t = (decide (t < 0) || decide (268435456 < t)) := by unfold lateB; simp
theorem late_last {b : List Iv} {o : Iv} (t : Int) (h : b[b.length - 1]? = some o) : lateB b t = (decide (t < 0) || decide (268435456 < t) || decide (t < o.at_)) := by
  unfold lateB
  rw [List.getLast?_eq_getElem?, h]
theorem late_parts {b : List Iv} {k : Nat} {t : Int} (hk : k ≤ b.length) (h : lateB (b.take k) t = false) : 0 ≤ t ∧ t ≤ 268435456 ∧ ∀ o, 0 < k → b[k - 1]? = some o → o.at_ ≤ t := by
  have h0 := h
  unfold lateB at h0
  simp only [Bool.or_eq_false_iff, decide_eq_false_iff_not] at h0
  refine ⟨by omega, by omega, fun o hk0 ho => ?_⟩
  have hl : (b.take k).length = k := by rw [List.length_take]; omega
  have h1 : (b.take k)[(b.take k).length - 1]? = some o := by rw [hl, List.getElem?_take, if_pos (by omega)]; exact ho
  rw [late_last t h1] at h
  simp only [Bool.or_eq_false_iff, decide_eq_false_iff_not] at h
  omega
theorem str_iff (a b : ByteArray) : strEq a b = true ↔ a = b := by
  unfold strEq
  rw [decide_eq_true_eq]
  constructor
  · intro h
    rw [ByteArray.toList_eq, ByteArray.toList_eq] at h
    exact Go.WideShapes.bytes_inj h
  · intro h; rw [h]
theorem credits_parts {b : List Iv} {k : Nat} {v : Iv} (h : creditsB b k v = true) (h0 : v.credits ≠ 0) : 1 ≤ v.credits ∧ v.credits ≤ (k : Int) ∧ ∃ o, b[(v.credits - 1).toNat]? = some o ∧ o.credits = 0 ∧ o.cust = v.cust ∧ o.cur = v.cur ∧ credited v.credits (b.take k) = false ∧ v.items = o.items.map negIt := by
  unfold creditsB at h
  rw [if_neg h0] at h
  by_cases h1 : v.credits < 1 ∨ (k : Int) < v.credits
  · rw [if_pos h1] at h; cases h
  · rw [if_neg h1] at h
    refine ⟨by omega, by omega, ?_⟩
    cases ho : b[(v.credits - 1).toNat]? with
    | none => rw [ho] at h; cases h
    | some o =>
      rw [ho] at h
      simp only [Bool.and_eq_true, decide_eq_true_eq, Bool.not_eq_true', str_iff, eqIts_iff] at h
      exact ⟨o, rfl, h.1.1.1.1, h.1.1.1.2, h.1.1.2, h.1.2, h.2⟩
theorem valid_len {b : List Iv} (h : validB b = 0) : b.length ≤ 256 := by
  unfold validB at h
  by_cases hl : 256 < b.length
  · rw [if_pos hl] at h; cases h
  · omega
theorem gross_small {l : List It} (h : smallI l = true) (hn : l.length ≤ 64) : -2251799813685248 ≤ grossS l ∧ grossS l ≤ 2251799813685248 := by
  have h1 := sum_take_small (l.map (·.gross)) (small_gross h) (by rw [List.length_map]; exact hn) (l.map (·.gross)).length
  rw [List.take_length] at h1
  exact h1
theorem valid_gross {b : List Iv} (h : validB b = 0) {j : Nat} {v : Iv} (hj : b[j]? = some v) : -2251799813685248 ≤ v.gross ∧ v.gross ≤ 2251799813685248 := by
  obtain ⟨-, -, h3, -, -, h6, -, -, h9, -⟩ := check_parts (valid_at h hj)
  rw [h9]
  exact gross_small h6 ((lines_iff _).1 h3).2
def dueT (cust cur : ByteArray) (v : Iv) : Int := if strEq v.cust cust && strEq v.cur cur then v.gross else 0
theorem dueT_small {v : Iv} (cust cur : ByteArray) (h : -2251799813685248 ≤ v.gross ∧ v.gross ≤ 2251799813685248) : -2251799813685248 ≤ dueT cust cur v ∧ dueT cust cur v ≤ 2251799813685248 := by
  unfold dueT
  split <;> omega
theorem due_take {b : List Iv} (cust cur : ByteArray) {k : Nat} {v : Iv} (hv : b[k]? = some v) : dueS (b.take (k + 1)) cust cur = dueS (b.take k) cust cur + dueT cust cur v := by
  obtain ⟨hk, rfl⟩ := List.getElem?_eq_some_iff.1 hv
  rw [List.take_succ_eq_append_getElem hk, due_add]
  rfl
theorem due_bound {b : List Iv} (h : validB b = 0) (cust cur : ByteArray) : ∀ k : Nat, k ≤ b.length → -(2251799813685248 * (k : Int)) ≤ dueS (b.take k) cust cur ∧ dueS (b.take k) cust cur ≤ 2251799813685248 * (k : Int)
  | 0, _ => by simp [dueS]
  | k + 1, hk => by
    have h1 := due_bound h cust cur k (by omega)
    have hv : b[k]? = some b[k] := List.getElem?_eq_getElem hk
    rw [due_take cust cur hv]
    have h2 := dueT_small cust cur (valid_gross h hv)
    push_cast
    omega
theorem credited_take {b : List Iv} (n : Int) {k : Nat} {v : Iv} (hv : b[k]? = some v) : credited n (b.take (k + 1)) = (credited n (b.take k) || decide (v.credits = n)) := by
  obtain ⟨hk, rfl⟩ := List.getElem?_eq_some_iff.1 hv
  rw [List.take_succ_eq_append_getElem hk]
  unfold credited
  rw [List.any_append]
  simp only [List.any_cons, List.any_nil, Bool.or_false]
end Go.Proofs.YtbngclibfnnejaaDoor
