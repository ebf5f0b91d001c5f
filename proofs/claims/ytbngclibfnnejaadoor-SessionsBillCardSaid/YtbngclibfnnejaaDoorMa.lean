/- Invoices in plain words: what the calls compute, and what stays true of a book. -/
import Derived.Test.YtbngclibfnnejaaDoorId
set_option linter.unusedVariables false
namespace Go.Proofs.YtbngclibfnnejaaDoor
structure It where
  kind : Int
  price : Int
  tax : Int
  qty : Int
  net : Int
  vat : Int
  gross : Int
structure Iv where
  num : Int
  cust : ByteArray
  cur : ByteArray
  at_ : Int
  items : List It
  net : Int
  vat : Int
  gross : Int
  credits : Int
def curB (s : ByteArray) : Bool := decide (s.size = 3) && s.data.toList.all fun b => decide (65 ≤ b.toNat) && decide (b.toNat ≤ 90)
def partB (n : Int) : Bool := decide (-35184372088832 ≤ n) && decide (n ≤ 35184372088832)
def itemB (x : It) : Bool := partB x.price && partB x.net && partB x.vat && partB x.gross
def smallI (l : List It) : Bool := l.all itemB
def eqIt (a b : It) : Bool := decide (a.kind = b.kind) && decide (a.price = b.price) && decide (a.tax = b.tax) && decide (a.qty = b.qty) && decide (a.net = b.net) && decide (a.vat = b.vat) && decide (a.gross = b.gross)
def eqIts : List It → List It → Bool
  | [], [] => true
  | x :: r, y :: s => eqIt x y && eqIts r s
  | _, _ => false
def negIt (x : It) : It := ⟨x.kind, -x.price, x.tax, x.qty, -x.net, -x.vat, -x.gross⟩
def netS (l : List It) : Int := (l.map (·.net)).sum
def vatS (l : List It) : Int := (l.map (·.vat)).sum
def grossS (l : List It) : Int := (l.map (·.gross)).sum
def strEq (a b : ByteArray) : Bool := decide (a.toList = b.toList)
def credited (n : Int) (l : List Iv) : Bool := l.any fun v => decide (v.credits = n)
def creditsB (b : List Iv) (k : Nat) (v : Iv) : Bool :=
  if v.credits = 0 then true else if v.credits < 1 ∨ (k : Int) < v.credits then false else
  match b[(v.credits - 1).toNat]? with
  | none => false
  | some o => decide (o.credits = 0) && strEq o.cust v.cust && strEq o.cur v.cur && !credited v.credits (b.take k) && eqIts v.items (o.items.map negIt)
/-- a time that may follow the invoices b -/
def lateB (b : List Iv) (t : Int) : Bool := decide (t < 0) || decide (268435456 < t) || (match b.getLast? with | none => false | some o => decide (t < o.at_))
def linesB (l : List It) : Bool := decide (l.length < 1) || decide (64 < l.length)
def checkE (b : List Iv) (k : Nat) (v : Iv) : Int :=
  if v.num ≠ (k : Int) + 1 ∨ lateB (b.take k) v.at_ = true ∨ linesB v.items = true then 1 else if nameB v.cust = false then 4 else if curB v.cur = false then 21 else if smallI v.items = false then 2 else
  if v.net ≠ netS v.items ∨ v.vat ≠ vatS v.items ∨ v.gross ≠ grossS v.items then 7 else if creditsB b k v = false then 1 else 0
def firstE (b : List Iv) : List Iv → Nat → Int
  | [], _ => 0
  | v :: r, k => if checkE b k v ≠ 0 then checkE b k v else firstE b r (k + 1)
def validB (b : List Iv) : Int := if 256 < b.length then 3 else firstE b b 0
def mkIv (b : List Iv) (cust cur : ByteArray) (t : Int) (l : List It) (cr : Int) : Iv := ⟨(b.length : Int) + 1, cust, cur, t, l, netS l, vatS l, grossS l, cr⟩
def issueB (b : List Iv) (cust cur : ByteArray) (t : Int) (l : List It) : List Iv × Int :=
  if validB b ≠ 0 then (b, validB b) else if 256 ≤ b.length then (b, 3) else if nameB cust = false then (b, 4) else if curB cur = false then (b, 21) else if lateB b t = true then (b, 2) else if linesB l = true then (b, 1) else if smallI l = false then (b, 2) else
  (b ++ [mkIv b cust cur t l 0], 0)
def creditB (b : List Iv) (n t : Int) : List Iv × Int :=
  if validB b ≠ 0 then (b, validB b) else if n < 1 ∨ (b.length : Int) < n then (b, 8) else
  match b[(n - 1).toNat]? with
  | none => (b, 8)
  | some v => if v.credits ≠ 0 then (b, 10) else if credited n b = true then (b, 9) else if 256 ≤ b.length then (b, 3) else if lateB b t = true then (b, 2) else (b ++ [mkIv b v.cust v.cur t (v.items.map negIt) n], 0)
def dueS (b : List Iv) (cust cur : ByteArray) : Int := (b.map fun v => if strEq v.cust cust && strEq v.cur cur then v.gross else 0).sum
def dueB (b : List Iv) (cust cur : ByteArray) : Int × Int := if validB b ≠ 0 then (0, validB b) else (dueS b cust cur, 0)
/-! what stays true -/
theorem eqIt_iff (a b : It) : eqIt a b = true ↔ a = b := by
  obtain ⟨a1, a2, a3, a4, a5, a6, a7⟩ := a
  obtain ⟨b1, b2, b3, b4, b5, b6, b7⟩ := b
  unfold eqIt
  simp only [Bool.and_eq_true, decide_eq_true_eq, It.mk.injEq]
  constructor
  · rintro ⟨⟨⟨⟨⟨⟨h1, h2⟩, h3⟩, h4⟩, h5⟩, h6⟩, h7⟩
    exact ⟨h1, h2, h3, h4, h5, h6, h7⟩
  · rintro ⟨h1, h2, h3, h4, h5, h6, h7⟩
    exact ⟨⟨⟨⟨⟨⟨h1, h2⟩, h3⟩, h4⟩, h5⟩, h6⟩, h7⟩
theorem eqIts_iff : ∀ a b : List It, eqIts a b = true ↔ a = b
  | [], [] => by simp [eqIts]
  | [], _ :: _ => by simp [eqIts]
  | _ :: _, [] => by simp [eqIts]
  | x :: r, y :: s => by
    show (eqIt x y && eqIts r s) = true ↔ _
    rw [Bool.and_eq_true, eqIt_iff, eqIts_iff r s, List.cons.injEq]
theorem eqIts_self (l : List It) : eqIts l l = true := (eqIts_iff l l).2 rfl
theorem strEq_self (s : ByteArray) : strEq s s = true := by unfold strEq; simp
theorem partB_neg (n : Int) : partB (-n) = partB n := by
  unfold partB
  by_cases h1 : -35184372088832 ≤ n <;> by_cases h2 : n ≤ 35184372088832 <;> simp [h1, h2] <;> omega
theorem itemB_neg (x : It) : itemB (negIt x) = itemB x := by
  unfold itemB negIt
  simp only [partB_neg]
theorem smallI_neg (l : List It) : smallI (l.map negIt) = smallI l := by
  unfold smallI
  rw [List.all_map]
  congr 1
  funext x
  exact itemB_neg x
theorem sum_neg (f : It → Int) (h : ∀ x, f (negIt x) = - f x) : ∀ l : List It, ((l.map negIt).map f).sum = -(l.map f).sum
  | [] => rfl
  | x :: r => by
    simp only [List.map_cons, List.sum_cons, h, sum_neg f h r]
    omega
theorem firstE_zero (b : List Iv) : ∀ (l : List Iv) (k : Nat), firstE b l k = 0 ↔ ∀ j v, l[j]? = some v → checkE b (k + j) v = 0
  | [], k => ⟨fun _ j v h => by simp at h, fun _ => rfl⟩
  | x :: r, k => by
    show (if checkE b k x ≠ 0 then checkE b k x else firstE b r (k + 1)) = 0 ↔ _
    by_cases h : checkE b k x = 0
    · rw [if_neg (fun e => e h), firstE_zero b r (k + 1)]
      constructor
      · intro h1 j v hj
        cases j with
        | zero => simp only [List.getElem?_cons_zero, Option.some.injEq] at hj; subst hj; exact h
        | succ j => rw [show k + (j + 1) = k + 1 + j by omega]; exact h1 j v (by simpa using hj)
      · intro h1 j v hj
        have := h1 (j + 1) v (by simpa using hj)
        rw [show k + (j + 1) = k + 1 + j by omega] at this
        exact this
    · rw [if_pos h]
      exact ⟨fun e => absurd e h, fun h1 => absurd (h1 0 x rfl) h⟩
/-- the error of an invoice depends on what comes before it -/
theorem checkE_prefix (b t : List Iv) (k : Nat) (v : Iv) (hk : k ≤ b.length) : checkE (b ++ t) k v = checkE b k v := by
  have h1 : (b ++ t).take k = b.take k := List.take_append_of_le_length hk
  have h2 : creditsB (b ++ t) k v = creditsB b k v := by
    unfold creditsB
    by_cases c0 : v.credits = 0
    · rw [if_pos c0, if_pos c0]
    · rw [if_neg c0, if_neg c0]
      by_cases c1 : v.credits < 1 ∨ (k : Int) < v.credits
      · rw [if_pos c1, if_pos c1]
      · rw [if_neg c1, if_neg c1, List.getElem?_append_left (by omega), h1]
  unfold checkE
  rw [h1, h2]
theorem valid_add {b : List Iv} {v : Iv} (h : validB b = 0) (hl : b.length < 256) (hv : checkE b b.length v = 0) : validB (b ++ [v]) = 0 := by
  unfold validB at h ⊢
  rw [if_neg (by omega), firstE_zero] at h
  rw [if_neg (by rw [List.length_append]; simp only [List.length_cons, List.length_nil]; omega), firstE_zero]
  intro j x hj
  rw [Nat.zero_add]
  by_cases hjb : j < b.length
  · rw [List.getElem?_append_left hjb] at hj
    rw [checkE_prefix b [v] j x (by omega)]
    have := h j x hj
    rwa [Nat.zero_add] at this
  · rw [List.getElem?_append_right (by omega)] at hj
    have hj0 : j - b.length = 0 := by
      rcases Nat.eq_zero_or_pos (j - b.length) with e | e
      · exact e
      · rw [List.getElem?_eq_none (by simp only [List.length_cons, List.length_nil]; omega)] at hj; cases hj
    rw [hj0] at hj
    simp only [List.getElem?_cons_zero, Option.some.injEq] at hj
    subst hj
    rw [show j = b.length by omega, checkE_prefix b [v] b.length v (Nat.le_refl _)]
    exact hv
theorem valid_nil : validB [] = 0 := rfl
theorem valid_at {b : List Iv} (h : validB b = 0) {j : Nat} {v : Iv} (hj : b[j]? = some v) : checkE b j v = 0 := by
  unfold validB at h
  by_cases hl : 256 < b.length
  · rw [if_pos hl] at h; cases h
  · rw [if_neg hl, firstE_zero] at h
    have := h j v hj
    rwa [Nat.zero_add] at this
theorem check_parts {b : List Iv} {k : Nat} {v : Iv} (h : checkE b k v = 0) : v.num = (k : Int) + 1 ∧ lateB (b.take k) v.at_ = false ∧ linesB v.items = false ∧ nameB v.cust = true ∧ curB v.cur = true ∧ smallI v.items = true ∧ v.net = netS v.items ∧ v.vat = vatS v.items ∧ v.gross = grossS v.items ∧ creditsB b k v = true := by
  unfold checkE at h
  split at h
  · cases h
  · rename_i h1
    split at h
    · cases h
    · rename_i h2
      split at h
      · cases h
      · rename_i h3
        split at h
        · cases h
        · rename_i h4
          split at h
          · cases h
          · rename_i h5
            split at h
            · cases h
            · rename_i h6
              simp only [not_or, Bool.not_eq_true, Bool.not_eq_false, ne_eq, Classical.not_not] at h1 h2 h3 h4 h5 h6
              exact ⟨h1.1, h1.2.1, h1.2.2, h2, h3, h4, h5.1, h5.2.1, h5.2.2, h6⟩
theorem check_new {b : List Iv} {cust cur : ByteArray} {t : Int} {l : List It} {cr : Int} (h2 : lateB b t = false) (h3 : linesB l = false) (h4 : nameB cust = true) (h5 : curB cur = true) (h6 : smallI l = true) (h7 : creditsB b b.length (mkIv b cust cur t l cr) = true) : checkE b b.length (mkIv b cust cur t l cr) = 0 := by
  unfold checkE
  rw [List.take_length, if_neg (by show ¬ (((b.length : Int) + 1 ≠ (b.length : Int) + 1) ∨ lateB b t = true ∨ linesB l = true); rw [h2, h3]; simp), if_neg (by show ¬ nameB cust = false; rw [h4]; decide), if_neg (by show ¬ curB cur = false; rw [h5]; decide), if_neg (by show ¬ smallI l = false; rw [h6]; decide), if_neg (by show ¬ ((netS l ≠ netS l) ∨ (vatS l ≠ vatS l) ∨ grossS l ≠ grossS l); simp), if_neg (by rw [h7]; decide)]
theorem issue_valid {b : List Iv} {cust cur : ByteArray} {t : Int} {l : List It} (h : (issueB b cust cur t l).2 = 0) : validB b = 0 ∧ (issueB b cust cur t l).1 = b ++ [mkIv b cust cur t l 0] ∧ validB (b ++ [mkIv b cust cur t l 0]) = 0 := by
  unfold issueB at h ⊢
  by_cases h0 : validB b = 0
  · rw [if_neg (fun e => e h0)] at h ⊢
    by_cases h1 : 256 ≤ b.length
    · rw [if_pos h1] at h; cases h
    · rw [if_neg h1] at h ⊢
      cases h2 : nameB cust with
      | false => rw [if_pos h2] at h; cases h
      | true =>
        rw [if_neg (by first | decide | (rw [h2]; decide))] at h ⊢
        cases h3 : curB cur with
        | false => rw [if_pos h3] at h; cases h
        | true =>
          rw [if_neg (by first | decide | (rw [h3]; decide))] at h ⊢
          cases h4 : lateB b t with
          | true => rw [if_pos h4] at h; cases h
          | false =>
            rw [if_neg (by first | decide | (rw [h4]; decide))] at h ⊢
            cases h5 : linesB l with
            | true => rw [if_pos h5] at h; cases h
            | false =>
              rw [if_neg (by first | decide | (rw [h5]; decide))] at h ⊢
              cases h6 : smallI l with
              | false => rw [if_pos h6] at h; cases h
              | true =>
                rw [if_neg (by first | decide | (rw [h6]; decide))]
                exact ⟨h0, rfl, valid_add h0 (by omega) (check_new h4 h5 h2 h3 h6 (by unfold creditsB mkIv; simp))⟩
  · rw [if_pos h0] at h; exact absurd h h0
theorem credits_le {b : List Iv} {k : Nat} {v : Iv} (h : creditsB b k v = true) : v.credits = 0 ∨ (1 ≤ v.credits ∧ v.credits ≤ k) := by
  unfold creditsB at h
  by_cases h0 : v.credits = 0
  · exact .inl h0
  · rw [if_neg h0] at h
    by_cases h1 : v.credits < 1 ∨ (k : Int) < v.credits
    · rw [if_pos h1] at h; cases h
    · exact .inr (by omega)
theorem not_credited {b : List Iv} (h : validB b = 0) {n : Int} (hn : (b.length : Int) ≤ n) (h0 : n ≠ 0) : credited n b = false := by
  unfold credited
  rw [List.any_eq_false]
  intro v hv
  obtain ⟨j, hj, rfl⟩ := List.getElem_of_mem hv
  have h1 := (check_parts (valid_at h (List.getElem?_eq_getElem hj))).2.2.2.2.2.2.2.2.2
  have h2 := credits_le h1
  simp only [decide_eq_true_eq]
  omega
theorem getLast_add (b : List Iv) (v : Iv) : (b ++ [v]).getLast? = some v := by simp
/-- the credit note of the invoice that was issued last -/
theorem credit_last {b : List Iv} {cust cur : ByteArray} {t : Int} {l : List It} (h : (issueB b cust cur t l).2 = 0) (hl : b.length < 255) :
    creditB (b ++ [mkIv b cust cur t l 0]) ((b.length : Int) + 1) t = (b ++ [mkIv b cust cur t l 0] ++ [mkIv (b ++ [mkIv b cust cur t l 0]) cust cur t (l.map negIt) ((b.length : Int) + 1)], 0) ∧ validB (b ++ [mkIv b cust cur t l 0] ++ [mkIv (b ++ [mkIv b cust cur t l 0]) cust cur t (l.map negIt) ((b.length : Int) + 1)]) = 0 := by
  obtain ⟨h0, -, h1⟩ := issue_valid h
  obtain ⟨v, hv⟩ : ∃ v, v = mkIv b cust cur t l 0 := ⟨_, rfl⟩
  rw [← hv] at h1 ⊢
  have hlen : (b ++ [v]).length = b.length + 1 := by rw [List.length_append]; rfl
  have hat : (b ++ [v])[b.length]? = some v := by rw [List.getElem?_append_right (Nat.le_refl _), Nat.sub_self]; rfl
  obtain ⟨-, p2, p3, p4, p5, p6, -, -, -, -⟩ := check_parts (valid_at h1 hat)
  rw [List.take_append_of_le_length (Nat.le_refl _), List.take_length] at p2
  have e1 : v.cust = cust := by rw [hv]; rfl
  have e2 : v.cur = cur := by rw [hv]; rfl
  have e3 : v.items = l := by rw [hv]; rfl
  have e4 : v.at_ = t := by rw [hv]; rfl
  have e5 : v.credits = 0 := by rw [hv]; rfl
  rw [e1] at p4
  rw [e2] at p5
  rw [e3] at p3 p6
  rw [e4] at p2
  have hcr : credited ((b.length : Int) + 1) (b ++ [v]) = false := not_credited h1 (by rw [hlen]; omega) (by omega)
  have hlate : lateB (b ++ [v]) t = false := by
    unfold lateB at p2 ⊢
    simp only [Bool.or_eq_false_iff] at p2
    rw [getLast_add, p2.1.1, p2.1.2]
    show decide (t < v.at_) = false
    rw [e4]
    simp
  have hnth : (b ++ [v])[(((b.length : Int) + 1) - 1).toNat]? = some v := by rw [show (((b.length : Int) + 1) - 1).toNat = b.length by omega]; exact hat
  constructor
  · unfold creditB
    rw [if_neg (fun e => e h1), if_neg (by rw [hlen]; omega), hnth]
    dsimp only
    rw [if_neg (fun e => e e5), if_neg (by rw [hcr]; decide), if_neg (by rw [hlen]; omega), if_neg (by rw [hlate]; decide), e1, e2, e3]
  · refine valid_add h1 (by rw [hlen]; omega) (check_new hlate ?_ p4 p5 (by rw [smallI_neg]; exact p6) ?_)
    · unfold linesB at p3 ⊢
      rw [List.length_map]
      exact p3
    · unfold creditsB
      rw [if_neg (by show ¬ ((b.length : Int) + 1 = 0); omega), if_neg (by show ¬ ((b.length : Int) + 1 < 1 ∨ (((b ++ [v]).length : Nat) : Int) < (b.length : Int) + 1); rw [hlen]; omega)]
      show (match (b ++ [v])[(((b.length : Int) + 1) - 1).toNat]? with | none => false | some o => _) = true
      rw [hnth, List.take_length]
      show (decide (v.credits = 0) && strEq v.cust cust && strEq v.cur cur && !credited ((b.length : Int) + 1) (b ++ [v]) && eqIts (l.map negIt) (v.items.map negIt)) = true
      rw [e5, e1, e2, e3, hcr, strEq_self, strEq_self, eqIts_self]
      rfl
theorem due_add (b : List Iv) (v : Iv) (cust cur : ByteArray) : dueS (b ++ [v]) cust cur = dueS b cust cur + (if strEq v.cust cust && strEq v.cur cur then v.gross else 0) := by
  unfold dueS
  rw [List.map_append, List.sum_append]
  simp
/-- an invoice and its credit note add nothing -/
theorem due_credit (b : List Iv) (cust cur : ByteArray) (t : Int) (l : List It) (n : Int) : dueS (b ++ [mkIv b cust cur t l 0] ++ [mkIv (b ++ [mkIv b cust cur t l 0]) cust cur t (l.map negIt) n]) cust cur = dueS b cust cur := by
  rw [due_add, due_add]
  show dueS b cust cur + (if strEq cust cust && strEq cur cur then grossS l else 0) + (if strEq cust cust && strEq cur cur then grossS (l.map negIt) else 0) = _
  rw [strEq_self, strEq_self, show grossS (l.map negIt) = - grossS l from sum_neg (·.gross) (fun x => rfl) l]
  simp
  omega
theorem due_other {cust cur cu2 cr2 : ByteArray} {t : Int} {l : List It} (h : strEq cust cu2 = false ∨ strEq cur cr2 = false) : dueS [mkIv [] cust cur t l 0] cu2 cr2 = 0 := by
  unfold dueS
  simp only [List.map_cons, List.map_nil, List.sum_cons, List.sum_nil]
  show (if strEq cust cu2 && strEq cur cr2 then grossS l else 0) + 0 = 0
  rcases h with h | h <;> simp [h]
end Go.Proofs.YtbngclibfnnejaaDoor
