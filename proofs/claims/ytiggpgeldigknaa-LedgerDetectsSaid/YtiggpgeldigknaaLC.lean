/- Ledger: the plain law. -/
import Derived.Test.YtiggpgeldigknaaLB
set_option linter.unusedVariables false
namespace Go.Proofs.Ytiggpgeldigknaa
def noLn : Ln := ⟨0, 0, ⟨#[]⟩, ⟨#[]⟩, ⟨#[]⟩, 0⟩
/-- a line is right behind another one, at an index -/
def rightX (p : Ln) (i : Nat) (x : Ln) : Bool := decide (x.seq = (i : Int) + 1) && (decide (p.at_ ≤ x.at_) && (decide (0 ≤ x.at_) && (decide (x.at_ ≤ 268435456) && decide (x.sum = hashL p.sum x))))
/-- the index of the first line that is not right, or the number of lines -/
def verF (p : Ln) (i : Nat) : List Ln → Nat
  | [] => i
  | x :: r => if rightX p i x then verF x (i + 1) r else i
def goodF (p : Ln) (i : Nat) : List Ln → Bool
  | [] => true
  | x :: r => rightX p i x && goodF x (i + 1) r
def verE (l : List Ln) : Int := if goodF noLn 0 l then 0 else 7
def lastF (p : Ln) : List Ln → Ln
  | [] => p
  | x :: r => lastF x r
theorem lastF_snoc (p : Ln) (l : List Ln) (x : Ln) : lastF p (l ++ [x]) = x := by
  induction l generalizing p with
  | nil => rfl
  | cons y l ih => exact ih y
theorem lastF_ne (p q : Ln) {l : List Ln} (h : l ≠ []) : lastF p l = lastF q l := by
  cases l with
  | nil => exact absurd rfl h
  | cons x r => rfl
theorem lastF_get (p : Ln) (l : List Ln) (h : l ≠ []) : lastF p l = l.getD (l.length - 1) noLn := by
  induction l generalizing p with
  | nil => exact absurd rfl h
  | cons x r ih =>
    cases r with
    | nil => rfl
    | cons y r =>
      have := ih x (by simp)
      rw [lastF, this]
      rfl
theorem verF_good {p : Ln} {i : Nat} {l : List Ln} (h : goodF p i l = true) : verF p i l = i + l.length := by
  induction l generalizing p i with
  | nil => rfl
  | cons x r ih =>
    rw [goodF, Bool.and_eq_true] at h
    rw [verF, if_pos h.1, ih h.2, List.length_cons]
    omega
theorem goodF_app {p : Ln} {i : Nat} {l m : List Ln} : goodF p i (l ++ m) = (goodF p i l && goodF (lastF p l) (i + l.length) m) := by
  induction l generalizing p i with
  | nil => simp [goodF, lastF]
  | cons x r ih =>
    rw [List.cons_append, goodF, ih, goodF, lastF, List.length_cons, Bool.and_assoc]
    congr 3
    omega
theorem verF_stop {p : Ln} {i : Nat} {l m : List Ln} {x : Ln} (h : goodF p i l = true) (hx : rightX (lastF p l) (i + l.length) x = false) : verF p i (l ++ x :: m) = i + l.length := by
  induction l generalizing p i with
  | nil => rw [List.nil_append, verF, if_neg (by rw [lastF, List.length_nil, Nat.add_zero] at hx; rw [hx]; decide)]; rfl
  | cons y r ih =>
    rw [goodF, Bool.and_eq_true] at h
    rw [List.cons_append, verF, if_pos h.1, ih h.2 (by rw [lastF, List.length_cons] at hx; rw [← hx]; congr 1; omega), List.length_cons]
    omega
theorem good_stop {p : Ln} {i : Nat} {l m : List Ln} {x : Ln} (hx : rightX (lastF p l) (i + l.length) x = false) : goodF p i (l ++ x :: m) = false := by
  rw [goodF_app, goodF, hx]; simp
theorem good_take {p : Ln} {i : Nat} {l : List Ln} (h : goodF p i l = true) (k : Nat) : goodF p i (l.take k) = true := by
  rw [← List.take_append_drop k l, goodF_app, Bool.and_eq_true] at h
  exact h.1
theorem good_mid {p : Ln} {i : Nat} {l : List Ln} (h : goodF p i l = true) {k : Nat} (hk : k < l.length) : rightX (lastF p (l.take k)) (i + k) l[k] = true := by
  rw [← List.take_append_drop k l, goodF_app, Bool.and_eq_true, List.drop_eq_getElem_cons hk, goodF, Bool.and_eq_true] at h
  have := h.2.1
  rwa [List.length_take, Nat.min_eq_left (by omega)] at this
theorem right_seq {p x : Ln} {i : Nat} (h : rightX p i x = true) : x.seq = (i : Int) + 1 := by
  simp only [rightX, Bool.and_eq_true, decide_eq_true_eq] at h; exact h.1
theorem right_sum {p x : Ln} {i : Nat} (h : rightX p i x = true) : x.sum = hashL p.sum x := by
  simp only [rightX, Bool.and_eq_true, decide_eq_true_eq] at h; exact h.2.2.2.2
/-- the lines behind the first one with a hash -/
def sinceL (l : List Ln) (h : Int) : List Ln × Bool := if h = 0 then (l, true) else (((l.dropWhile fun x => decide (x.sum ≠ h)).drop 1), l.any fun x => decide (x.sum = h))
theorem since_at {l : List Ln} {k : Nat} (hk : k < l.length) (h0 : l[k].sum ≠ 0) (hd : ∀ j, j < k → ∀ hj : j < l.length, l[j].sum ≠ l[k].sum) : sinceL l l[k].sum = (l.drop (k + 1), true) := by
  unfold sinceL
  rw [if_neg h0]
  have e : l = l.take k ++ l[k] :: l.drop (k + 1) := by rw [← List.drop_eq_getElem_cons hk, List.take_append_drop]
  have hall : ∀ x ∈ l.take k, (fun x : Ln => decide (x.sum ≠ l[k].sum)) x = true := by
    intro x hx
    obtain ⟨j, hj, rfl⟩ := List.getElem_of_mem hx
    rw [List.length_take] at hj
    rw [List.getElem_take]
    simpa using hd j (by omega) (by omega)
  congr 1
  · conv => lhs; arg 2; arg 2; rw [e]
    rw [List.dropWhile_append_of_pos hall, List.dropWhile_cons_of_neg (by simp)]
    simp
  · rw [List.any_eq_true]
    exact ⟨_, List.getElem_mem hk, by simp⟩
structure Nt where
  at_ : Int
  who : ByteArray
  what : ByteArray
  on : ByteArray
def headL (l : List Ln) : Int := (lastF noLn l).sum
def lineX (l : List Ln) (n : Nt) : Ln := ⟨(l.length : Int) + 1, n.at_, n.who, n.what, n.on, 0⟩
def lineOf (l : List Ln) (n : Nt) : Ln := { lineX l n with sum := hashL (headL l) (lineX l n) }
def badAt (l : List Ln) (n : Nt) : Bool := decide (n.at_ < 0) || (decide (268435456 < n.at_) || (decide (0 < l.length) && decide (n.at_ < (lastF noLn l).at_)))
def appR (l : List Ln) (n : Nt) : List Ln × Int :=
  if 4096 ≤ l.length then (l, 3) else if badAt l n = true then (l, 2) else if (nameB n.who && nameB n.what) = false then (l, 4) else if 64 < n.on.size then (l, 3) else (l ++ [lineOf l n], 0)
def buildL (l : List Nt) : List Ln := l.foldl (fun m n => (appR m n).1) []
theorem lnB_sum (s : Int) (x : Ln) : lnB { x with sum := s } = lnB x := rfl
theorem hash_sum (p s : Int) (x : Ln) : hashL p { x with sum := s } = hashL p x := by unfold hashL; rw [lnB_sum]
theorem line_right {l : List Ln} {n : Nt} (h : badAt l n = false) : rightX (lastF noLn l) (0 + l.length) (lineOf l n) = true := by
  simp only [badAt, Bool.or_eq_false_iff, Bool.and_eq_false_iff, decide_eq_false_iff_not] at h
  obtain ⟨h1, h2, h3⟩ := h
  simp only [rightX, Bool.and_eq_true, decide_eq_true_eq]
  refine ⟨by show (l.length : Int) + 1 = _; omega, ?_, by show 0 ≤ n.at_; omega, by show n.at_ ≤ _; omega, (hash_sum _ _ _).symm⟩
  show _ ≤ n.at_
  rcases h3 with h3 | h3
  · obtain rfl : l = [] := List.eq_nil_of_length_eq_zero (by omega)
    show (0 : Int) ≤ _
    omega
  · omega
structure LnS (x : Ln) : Prop where
  s : 1 ≤ x.seq ∧ x.seq ≤ 5000
  a : 0 ≤ x.at_ ∧ x.at_ ≤ 268435456
  w : x.who.size ≤ 70
  t : x.what.size ≤ 70
  o : x.on.size ≤ 70
structure LogOk (l : List Ln) : Prop where
  good : goodF noLn 0 l = true
  all : ∀ x ∈ l, LnS x
theorem name_size {s : ByteArray} (h : nameB s = true) : s.size ≤ 70 := by
  simp only [nameB, Bool.and_eq_true, decide_eq_true_eq] at h; omega
theorem app_ok {l : List Ln} {n : Nt} (h : LogOk l) : LogOk (appR l n).1 ∧ (appR l n).1.length ≤ l.length + 1 := by
  unfold appR
  split
  · exact ⟨h, by simp⟩
  · split
    · exact ⟨h, by simp⟩
    · split
      · exact ⟨h, by simp⟩
      · split
        · exact ⟨h, by simp⟩
        · rename_i h1 h2 h3 h4
          have h2 : badAt l n = false := by simpa using h2
          have h3 : (nameB n.who && nameB n.what) = true := by simpa using h3
          rw [Bool.and_eq_true] at h3
          refine ⟨⟨?_, ?_⟩, by simp⟩
          · rw [goodF_app, h.good, goodF, line_right h2]; rfl
          · intro x hx
            rcases List.mem_append.1 hx with hx | hx
            · exact h.all x hx
            · rw [List.mem_singleton] at hx
              subst hx
              have hr := line_right h2
              simp only [badAt, Bool.or_eq_false_iff, decide_eq_false_iff_not] at h2
              exact ⟨by show 1 ≤ (l.length : Int) + 1 ∧ (l.length : Int) + 1 ≤ 5000; omega, by show 0 ≤ n.at_ ∧ n.at_ ≤ _; omega, name_size h3.1, name_size h3.2, by show n.on.size ≤ 70; omega⟩
theorem build_ok (ns : List Nt) : LogOk (buildL ns) ∧ (buildL ns).length ≤ ns.length := by
  have key : ∀ (ns : List Nt) (l : List Ln), LogOk l → LogOk (ns.foldl (fun m n => (appR m n).1) l) ∧ (ns.foldl (fun m n => (appR m n).1) l).length ≤ l.length + ns.length := by
    intro ns
    induction ns with
    | nil => intro l h; exact ⟨h, by simp⟩
    | cons n r ih =>
      intro l h
      obtain ⟨h1, h2⟩ := app_ok (n := n) h
      obtain ⟨h3, h4⟩ := ih _ h1
      refine ⟨h3, ?_⟩
      rw [List.foldl_cons, List.length_cons]
      omega
  have := key ns [] ⟨rfl, fun x h => by cases h⟩
  simpa [buildL] using this
theorem build_snoc (ns : List Nt) (k : Nat) (h : k < ns.length) : buildL (ns.take (k + 1)) = (appR (buildL (ns.take k)) ns[k]).1 := by
  unfold buildL
  rw [List.take_succ_eq_append_getElem h, List.foldl_append]; rfl
/-- one field of a line is put from another one -/
def setF (x c : Ln) (f : Nat) : Ln :=
  if f = 0 then { x with seq := c.seq } else if f = 1 then { x with at_ := c.at_ } else if f = 2 then { x with who := c.who } else if f = 3 then { x with what := c.what } else if f = 4 then { x with on := c.on } else { x with sum := c.sum }
theorem set_split {α : Type} (l : List α) (i : Nat) (h : i < l.length) (y : α) : l.set i y = l.take i ++ y :: l.drop (i + 1) := by
  rw [List.set_eq_take_append_cons_drop, if_pos h]
theorem take_len {α : Type} (l : List α) (i : Nat) (h : i < l.length) : (l.take i).length = i := by
  rw [List.length_take]; omega
theorem detect {l : List Ln} (hl : goodF noLn 0 l = true) {i : Nat} (hi : i < l.length) {c : Ln} {f : Nat} (hne : setF l[i] c f ≠ l[i])
    (hs : ¬ (hashL (headL (l.take i)) (setF l[i] c f) = hashL (headL (l.take i)) l[i] ∧ (setF l[i] c f).sum = l[i].sum)) :
    verF noLn 0 (l.set i (setF l[i] c f)) = i ∧ goodF noLn 0 (l.set i (setF l[i] c f)) = false := by
  have hr := good_mid hl hi
  rw [Nat.zero_add] at hr
  have key : rightX (lastF noLn (l.take i)) (0 + (l.take i).length) (setF l[i] c f) = false := by
    rw [take_len l i hi, Nat.zero_add]
    cases hx : rightX (lastF noLn (l.take i)) i (setF l[i] c f) with
    | false => rfl
    | true =>
      exfalso
      have e1 := right_seq hx
      have e2 := right_sum hx
      have g1 := right_seq hr
      have g2 := right_sum hr
      change _ = hashL (headL (l.take i)) _ at e2
      change _ = hashL (headL (l.take i)) _ at g2
      have hsum : (setF l[i] c f).sum = l[i].sum := by
        unfold setF at e1 e2 ⊢
        repeat' split
        all_goals first
          | rfl
          | (rename_i h0 h1 h2 h3 h4
             rw [if_neg h0, if_neg h1, if_neg h2, if_neg h3, if_neg h4] at e2
             exact e2.trans ((hash_sum _ _ _).trans g2.symm))
      exact hs ⟨by rw [← e2, ← g2, hsum], hsum⟩
  rw [set_split l i hi]
  refine ⟨?_, good_stop key⟩
  rw [verF_stop (good_take hl i) key, take_len l i hi, Nat.zero_add]
theorem removed {l : List Ln} (hl : goodF noLn 0 l = true) {i : Nat} (hi : i + 1 < l.length) :
    verF noLn 0 (l.take i ++ l.drop (i + 1)) = i ∧ goodF noLn 0 (l.take i ++ l.drop (i + 1)) = false := by
  have hr := right_seq (good_mid hl hi)
  have key : rightX (lastF noLn (l.take i)) (0 + (l.take i).length) l[i + 1] = false := by
    rw [take_len l i (by omega)]
    cases hx : rightX (lastF noLn (l.take i)) (0 + i) l[i + 1] with
    | false => rfl
    | true =>
      have := right_seq hx
      omega
  rw [List.drop_eq_getElem_cons hi]
  refine ⟨?_, good_stop key⟩
  rw [verF_stop (good_take hl i) key, take_len l i (by omega), Nat.zero_add]
theorem since_head {l : List Ln} {k : Nat} (hk : k ≤ l.length) (h0 : ∀ x ∈ l, x.sum ≠ 0) (hd : ∀ i j, j < i → ∀ (hi : i < l.length) (hj : j < l.length), l[j].sum ≠ l[i].sum) : sinceL l (headL (l.take k)) = (l.drop k, true) := by
  cases k with
  | zero => rfl
  | succ k =>
    have hkl : k < l.length := by omega
    have e : lastF noLn (l.take (k + 1)) = l[k] := by
      rw [List.take_succ_eq_append_getElem hkl, lastF_snoc]
    unfold headL
    rw [e]
    exact since_at hkl (h0 _ (List.getElem_mem hkl)) fun j hj hjl => hd k j hj hkl hjl
end Go.Proofs.Ytiggpgeldigknaa
