/- Series: the plain mathematics of step functions (no program in sight). -/
set_option linter.unusedVariables false
namespace Ser
abbrev Step := Int × Int
/-- the error of one step behind a step at p -/
def okTime (t : Int) : Bool := decide (0 ≤ t) && decide (t ≤ 268435456)
def okVal (v : Int) : Bool := decide (-1099511627776 ≤ v) && decide (v ≤ 1099511627776)
def vchk : Option Int → List Step → Int
  | _, [] => 0
  | p, s :: r => if !okTime s.1 || !okVal s.2 then 2 else if (match p with | some q => decide (s.1 ≤ q) | none => false) then 1 else vchk (some s.1) r
def valid (l : List Step) : Int := if 512 < l.length then 3 else vchk none l
/-- ascending behind p, in range -/
def Asc : Int → List Step → Prop
  | _, [] => True
  | p, s :: r => p < s.1 ∧ s.1 ≤ 268435456 ∧ -1099511627776 ≤ s.2 ∧ s.2 ≤ 1099511627776 ∧ Asc s.1 r
theorem vchk_asc : ∀ (l : List Step) (p : Option Int), vchk p l = 0 → (∀ q, p = some q → -1 ≤ q) → Asc (p.getD (-1)) l
  | [], _, _, _ => trivial
  | s :: r, p, h, hp => by
    unfold vchk at h
    by_cases h1 : (!okTime s.1 || !okVal s.2) = true
    · rw [if_pos h1] at h; simp at h
    · rw [if_neg h1] at h
      simp [okTime, okVal] at h1
      cases p with
      | none =>
        simp only [Bool.false_eq_true, if_false] at h
        have := vchk_asc r (some s.1) h (by intro q hq; cases hq; omega)
        simp only [Option.getD_none, Option.getD_some, Asc] at this ⊢
        exact ⟨by omega, by omega, by omega, by omega, this⟩
      | some q =>
        by_cases h2 : s.1 ≤ q
        · simp [h2] at h
        · simp only [h2, decide_false, Bool.false_eq_true, if_false] at h
          have := vchk_asc r (some s.1) h (by intro q hq; cases hq; omega)
          simp only [Option.getD_some, Asc] at this ⊢
          exact ⟨by omega, by omega, by omega, by omega, this⟩
theorem asc_vchk : ∀ (l : List Step) (q : Int) (p : Option Int), -1 ≤ q → p.getD (-1) = q → Asc q l → vchk p l = 0
  | [], _, _, _, _, _ => rfl
  | s :: r, q, p, hq, hp, ⟨h1, h2, h3, h4, h5⟩ => by
    unfold vchk
    rw [if_neg (by simp [okTime, okVal]; omega)]
    cases p with
    | none =>
      simp only [Bool.false_eq_true, if_false]
      exact asc_vchk r s.1 (some s.1) (by omega) rfl h5
    | some x =>
      simp only [Option.getD_some] at hp
      rw [if_neg (by simp; omega)]
      exact asc_vchk r s.1 (some s.1) (by omega) rfl h5
theorem valid_asc {l : List Step} (h : valid l = 0) : Asc (-1) l ∧ l.length ≤ 512 := by
  unfold valid at h
  by_cases hl : 512 < l.length
  · rw [if_pos hl] at h; cases h
  · rw [if_neg hl] at h; exact ⟨vchk_asc l none h (by simp), by omega⟩
theorem asc_valid {l : List Step} (h : Asc (-1) l) (hl : l.length ≤ 512) : valid l = 0 := by
  unfold valid; rw [if_neg (by omega)]; exact asc_vchk l (-1) none (by omega) rfl h
theorem Asc.mono : ∀ {l : List Step} {p q : Int}, Asc p l → q ≤ p → Asc q l
  | [], _, _, _, _ => trivial
  | _ :: _, _, _, ⟨h1, h2⟩, h => ⟨by omega, h2⟩
/-- the value at a time: the reference's: the last step that does not lie behind t -/
def atR (v : Int) : List Step → Int → Int
  | [], _ => v
  | s :: r, t => atR (if s.1 ≤ t then s.2 else v) r t
def at_ (l : List Step) (t : Int) : Int := atR 0 l t
theorem atR_late : ∀ (l : List Step) (v p t : Int), Asc p l → t ≤ p → atR v l t = v
  | [], _, _, _, _, _ => rfl
  | s :: r, v, p, t, ⟨h1, h2, h3, h4, h5⟩, h => by
    unfold atR; rw [if_neg (by omega)]; exact atR_late r v s.1 t h5 (by omega)
theorem atR_append (a b : List Step) (v t : Int) : atR v (a ++ b) t = atR (atR v a t) b t := by
  induction a generalizing v with
  | nil => rfl
  | cons s r ih => simp only [List.cons_append, atR]; exact ih _
/-- put: behind the value last -/
def emit (last at_ v : Int) : List Step := if v = last then [] else [(at_, v)]
/-- the program's combination: the heads are merged -/
def mrg (f : Int → Int → Int) : Nat → List Step → List Step → Int → Int → Int → List Step
  | 0, _, _, _, _, _ => []
  | _ + 1, [], [], _, _, _ => []
  | n + 1, s :: a, [], x, y, last => emit last s.1 (f s.2 y) ++ mrg f n a [] s.2 y (f s.2 y)
  | n + 1, [], r :: b, x, y, last => emit last r.1 (f x r.2) ++ mrg f n [] b x r.2 (f x r.2)
  | n + 1, s :: a, r :: b, x, y, last =>
    if s.1 < r.1 then emit last s.1 (f s.2 y) ++ mrg f n a (r :: b) s.2 y (f s.2 y)
    else if r.1 < s.1 then emit last r.1 (f x r.2) ++ mrg f n (s :: a) b x r.2 (f x r.2)
    else emit last s.1 (f s.2 r.2) ++ mrg f n a b s.2 r.2 (f s.2 r.2)
def comb (f : Int → Int → Int) (a b : List Step) : List Step := mrg f (a.length + b.length) a b 0 0 0
end Ser
namespace Ser
/-- the reference's search for the next time -/
def nxtR (t : Int) : Int → List Step → Int
  | best, [] => best
  | best, s :: r => nxtR t (if t < s.1 ∧ (best < 0 ∨ s.1 < best) then s.1 else best) r
def nxt (a b : List Step) (t : Int) : Int := nxtR t (-1) (a ++ b)
theorem nxtR_append (t best : Int) (a b : List Step) : nxtR t best (a ++ b) = nxtR t (nxtR t best a) b := by
  induction a generalizing best with
  | nil => rfl
  | cons s r ih => simp only [List.cons_append, nxtR]; exact ih _
theorem nxtR_old (t : Int) : ∀ (a : List Step) (best : Int), (∀ s ∈ a, s.1 ≤ t) → nxtR t best a = best
  | [], _, _ => rfl
  | s :: r, best, h => by
    unfold nxtR
    have := h s (by simp)
    rw [if_neg (by omega)]
    exact nxtR_old t r best (fun x hx => h x (by simp [hx]))
theorem nxtR_asc (t : Int) : ∀ (a : List Step) (best p : Int), Asc p a → 0 ≤ best → best ≤ p → nxtR t best a = best
  | [], _, _, _, _, _ => rfl
  | s :: r, best, p, ⟨h1, _, _, _, h5⟩, hb, hp => by
    unfold nxtR
    rw [if_neg (by omega)]
    exact nxtR_asc t r best s.1 h5 hb (by omega)
theorem nxtR_min (t : Int) : ∀ (a : List Step) (best : Int), Asc t a → -1 ≤ t →
    nxtR t best a = match a with | [] => best | s :: _ => if best < 0 ∨ s.1 < best then s.1 else best
  | [], _, _, _ => rfl
  | s :: r, best, ⟨h1, h2, h3, h4, h5⟩, ht => by
    unfold nxtR
    by_cases hb : best < 0 ∨ s.1 < best
    · rw [if_pos ⟨h1, hb⟩]
      simp only [hb, if_true]
      exact nxtR_asc t r s.1 s.1 h5 (by omega) (by omega)
    · rw [if_neg (by omega)]
      simp only [hb, if_false]
      exact nxtR_asc t r best s.1 h5 (by omega) (by omega)
/-- the reference's combination -/
def rcomb (f : Int → Int → Int) (a b : List Step) : Nat → Int → Int → List Step
  | 0, _, _ => []
  | n + 1, t, last => if t < 0 then [] else emit last t (f (at_ a t) (at_ b t)) ++ rcomb f a b n (nxt a b t) (f (at_ a t) (at_ b t))
theorem Asc.lift {p q : Int} : ∀ {a : List Step}, Asc p a → (∀ s r, a = s :: r → q < s.1) → Asc q a
  | [], _, _ => trivial
  | s :: r, ⟨_, h2⟩, h => ⟨h s r rfl, h2⟩
theorem atR_cut {a1 a2 : List Step} {p t : Int} (h2 : Asc p a2) (ht : t ≤ p) : at_ (a1 ++ a2) t = atR 0 a1 t := by
  unfold at_; rw [atR_append]; exact atR_late a2 _ p t h2 ht
theorem atR_same : ∀ (a : List Step) (v t t' : Int), (∀ s ∈ a, s.1 ≤ t) → t ≤ t' → atR v a t' = atR v a t
  | [], _, _, _, _, _ => rfl
  | s :: r, v, t, t', h, ht => by
    have := h s (by simp)
    unfold atR
    rw [if_pos (by omega), if_pos (by omega)]
    exact atR_same r s.2 t t' (fun x hx => h x (by simp [hx])) ht
theorem nxt_cut {a1 a2 b1 b2 : List Step} {t : Int} (ha : ∀ s ∈ a1, s.1 ≤ t) (hb : ∀ s ∈ b1, s.1 ≤ t) (ha2 : Asc t a2) (hb2 : Asc t b2) (ht : -1 ≤ t) :
    nxt (a1 ++ a2) (b1 ++ b2) t = match a2, b2 with
      | [], [] => -1
      | s :: _, [] => s.1
      | [], r :: _ => r.1
      | s :: _, r :: _ => if r.1 < s.1 then r.1 else s.1 := by
  unfold nxt
  rw [List.append_assoc, nxtR_append, nxtR_append, nxtR_append, nxtR_old t a1 _ ha, nxtR_min t a2 _ ha2 ht, nxtR_old t b1 _ hb, nxtR_min t b2 _ hb2 ht]
  cases a2 with
  | nil => cases b2 <;> simp
  | cons s a => cases b2 with
    | nil => simp
    | cons r b =>
      have := ha2.1
      have h0 : ¬ s.1 < 0 := by omega
      simp [h0]
theorem rcomb_mrg (f : Int → Int → Int) : ∀ (k n m : Nat) (a1 a2 b1 b2 : List Step) (t last : Int), a2.length + b2.length ≤ k → k ≤ n → k ≤ m → -1 ≤ t →
    (∀ s ∈ a1, s.1 ≤ t) → (∀ s ∈ b1, s.1 ≤ t) → Asc t a2 → Asc t b2 →
    rcomb f (a1 ++ a2) (b1 ++ b2) n (nxt (a1 ++ a2) (b1 ++ b2) t) last = mrg f m a2 b2 (atR 0 a1 t) (atR 0 b1 t) last := by
  intro k
  induction k with
  | zero =>
    intro n m a1 a2 b1 b2 t last hk hn hm ht ha hb ha2 hb2
    obtain rfl : a2 = [] := List.eq_nil_of_length_eq_zero (by omega)
    obtain rfl : b2 = [] := List.eq_nil_of_length_eq_zero (by omega)
    rw [nxt_cut ha hb ha2 hb2 ht]
    cases n <;> cases m <;> simp [rcomb, mrg]
  | succ k ih =>
    intro n m a1 a2 b1 b2 t last hk hn hm ht ha hb ha2 hb2
    obtain ⟨n, rfl⟩ : ∃ n', n = n' + 1 := ⟨n - 1, by omega⟩
    obtain ⟨m, rfl⟩ : ∃ m', m = m' + 1 := ⟨m - 1, by omega⟩
    rw [nxt_cut ha hb ha2 hb2 ht]
    -- one step, whichever lists are cut at their head
    have snocA : ∀ (s : Step) (a : List Step), a1 ++ s :: a = (a1 ++ [s]) ++ a := fun s a => by simp
    have snocB : ∀ (s : Step) (b : List Step), b1 ++ s :: b = (b1 ++ [s]) ++ b := fun s b => by simp
    cases a2 with
    | nil =>
      cases b2 with
      | nil => simp [rcomb, mrg]
      | cons r b =>
        obtain ⟨h1, h2, h3, h4, h5⟩ := hb2
        have eA : at_ (a1 ++ []) r.1 = atR 0 a1 t := by
          rw [List.append_nil]; exact atR_same a1 0 t r.1 ha (by omega)
        have eB : at_ (b1 ++ r :: b) r.1 = r.2 := by
          rw [snocB, atR_cut h5 (Int.le_refl _), atR_append]; simp [atR]
        simp only [rcomb, mrg]
        rw [if_neg (by omega), eA, eB, snocB]
        have := ih n m a1 [] (b1 ++ [r]) b r.1 (f (atR 0 a1 t) r.2) (by simp at hk ⊢; omega) (by omega) (by omega) (by omega) (fun s hs => by have := ha s hs; omega)
          (fun s hs => by rcases List.mem_append.1 hs with h | h; · have := hb s h; omega
                          · simp at h; subst h; omega) trivial h5
        rw [this, atR_same a1 0 t r.1 ha (by omega), atR_append]
        simp [atR]
    | cons s a =>
      obtain ⟨g1, g2, g3, g4, g5⟩ := ha2
      cases b2 with
      | nil =>
        have eB : at_ (b1 ++ []) s.1 = atR 0 b1 t := by
          rw [List.append_nil]; exact atR_same b1 0 t s.1 hb (by omega)
        have eA : at_ (a1 ++ s :: a) s.1 = s.2 := by
          rw [snocA, atR_cut g5 (Int.le_refl _), atR_append]; simp [atR]
        simp only [rcomb, mrg]
        rw [if_neg (by omega), eA, eB, snocA]
        have := ih n m (a1 ++ [s]) a b1 [] s.1 (f s.2 (atR 0 b1 t)) (by simp at hk ⊢; omega) (by omega) (by omega) (by omega)
          (fun x hs => by rcases List.mem_append.1 hs with h | h; · have := ha x h; omega
                          · simp at h; subst h; omega) (fun x hs => by have := hb x hs; omega) g5 trivial
        rw [this, atR_same b1 0 t s.1 hb (by omega), atR_append]
        simp [atR]
      | cons r b =>
        obtain ⟨h1, h2, h3, h4, h5⟩ := hb2
        by_cases c1 : s.1 < r.1
        · have eA : at_ (a1 ++ s :: a) s.1 = s.2 := by
            rw [snocA, atR_cut g5 (Int.le_refl _), atR_append]; simp [atR]
          have hB : Asc s.1 (r :: b) := ⟨c1, h2, h3, h4, h5⟩
          have eB : at_ (b1 ++ r :: b) s.1 = atR 0 b1 t := by
            rw [atR_cut hB (Int.le_refl _)]; exact atR_same b1 0 t s.1 hb (by omega)
          simp only [rcomb, mrg]
          rw [if_neg (show ¬ r.1 < s.1 by omega), if_pos c1, if_neg (by omega), eA, eB, snocA]
          have := ih n m (a1 ++ [s]) a b1 (r :: b) s.1 (f s.2 (atR 0 b1 t)) (by simp at hk ⊢; omega) (by omega) (by omega) (by omega)
            (fun x hs => by rcases List.mem_append.1 hs with h | h; · have := ha x h; omega
                            · simp at h; subst h; omega) (fun x hs => by have := hb x hs; omega) g5 hB
          rw [this, atR_same b1 0 t s.1 hb (by omega), atR_append]
          simp [atR]
        · by_cases c2 : r.1 < s.1
          · have eB : at_ (b1 ++ r :: b) r.1 = r.2 := by
              rw [snocB, atR_cut h5 (Int.le_refl _), atR_append]; simp [atR]
            have hA : Asc r.1 (s :: a) := ⟨c2, g2, g3, g4, g5⟩
            have eA : at_ (a1 ++ s :: a) r.1 = atR 0 a1 t := by
              rw [atR_cut hA (Int.le_refl _)]; exact atR_same a1 0 t r.1 ha (by omega)
            simp only [rcomb, mrg]
            rw [if_pos c2, if_neg c1, if_pos c2, if_neg (by omega), eA, eB, snocB]
            have := ih n m a1 (s :: a) (b1 ++ [r]) b r.1 (f (atR 0 a1 t) r.2) (by simp at hk ⊢; omega) (by omega) (by omega) (by omega) (fun x hs => by have := ha x hs; omega)
              (fun x hs => by rcases List.mem_append.1 hs with h | h; · have := hb x h; omega
                              · simp at h; subst h; omega) hA h5
            rw [this, atR_same a1 0 t r.1 ha (by omega), atR_append]
            simp [atR]
          · have e : r.1 = s.1 := by omega
            have eA : at_ (a1 ++ s :: a) s.1 = s.2 := by
              rw [snocA, atR_cut g5 (Int.le_refl _), atR_append]; simp [atR]
            have eB : at_ (b1 ++ r :: b) s.1 = r.2 := by
              rw [snocB, atR_cut h5 (by omega), atR_append]; simp [atR, e]
            simp only [rcomb, mrg]
            rw [if_neg c2, if_neg c1, if_neg c2, if_neg (by omega), eA, eB, snocA, snocB]
            have := ih n m (a1 ++ [s]) a (b1 ++ [r]) b s.1 (f s.2 r.2) (by simp at hk ⊢; omega) (by omega) (by omega) (by omega)
              (fun x hs => by rcases List.mem_append.1 hs with h | h; · have := ha x h; omega
                              · simp at h; subst h; omega)
              (fun x hs => by rcases List.mem_append.1 hs with h | h; · have := hb x h; omega
                              · simp at h; subst h; omega) g5 (e ▸ h5)
            rw [this, atR_append, atR_append]
            simp [atR, e]
theorem rcomb_comb (f : Int → Int → Int) {a b : List Step} (ha : Asc (-1) a) (hb : Asc (-1) b) {n : Nat} (hn : a.length + b.length ≤ n) :
    rcomb f a b n (nxt a b (-1)) 0 = comb f a b := by
  have := rcomb_mrg f (a.length + b.length) n (a.length + b.length) [] a [] b (-1) 0 (Nat.le_refl _) hn (Nat.le_refl _) (by omega) (by simp) (by simp) ha hb
  simpa [comb, atR] using this
end Ser

namespace Ser
/-- times ascend behind p -/
def Tm : Int → List Step → Prop
  | _, [] => True
  | p, s :: r => p < s.1 ∧ s.1 ≤ 268435456 ∧ Tm s.1 r
/-- no step has the value before it -/
def Nrm : Int → List Step → Prop
  | _, [] => True
  | last, s :: r => s.2 ≠ last ∧ Nrm s.2 r
theorem Tm.mono {p q : Int} : ∀ {l : List Step}, Tm p l → q ≤ p → Tm q l
  | [], _, _ => trivial
  | _ :: _, ⟨h1, h2⟩, h => ⟨by omega, h2⟩
theorem tm_emit {last p t v : Int} {l : List Step} (h1 : p < t) (h2 : t ≤ 268435456) (h : Tm t l) : Tm p (emit last t v ++ l) := by
  unfold emit
  split
  · exact h.mono (by omega)
  · exact ⟨h1, h2, h⟩
theorem nrm_emit {last t v : Int} {l : List Step} (h : Nrm v l) : Nrm last (emit last t v ++ l) := by
  unfold emit
  split
  · rename_i e; subst e; exact h
  · rename_i e; exact ⟨e, h⟩
theorem atR_early : ∀ (l : List Step) (v p t : Int), Tm p l → t ≤ p → atR v l t = v
  | [], _, _, _, _, _ => rfl
  | s :: r, v, p, t, ⟨h1, h2, h3⟩, h => by
    unfold atR; rw [if_neg (by omega)]; exact atR_early r v s.1 t h3 (by omega)
theorem at_emit {last t v u : Int} {l : List Step} (h : Tm t l) : atR last (emit last t v ++ l) u = if t ≤ u then atR v l u else last := by
  unfold emit
  by_cases e : v = last
  · rw [if_pos e]; subst e
    by_cases hu : t ≤ u
    · rw [if_pos hu]; rfl
    · rw [if_neg hu]; exact atR_early l v t u h (by omega)
  · rw [if_neg e]
    simp only [List.cons_append, List.nil_append, atR]
    by_cases hu : t ≤ u
    · rw [if_pos hu, if_pos hu]
    · rw [if_neg hu, if_neg hu]; exact atR_early l last t u h (by omega)
theorem Asc.tm : ∀ {l : List Step} {p : Int}, Asc p l → Tm p l
  | [], _, _ => trivial
  | _ :: _, _, ⟨h1, h2, _, _, h5⟩ => ⟨h1, h2, h5.tm⟩
def Rng (l : List Step) : Prop := ∀ s ∈ l, -1099511627776 ≤ s.2 ∧ s.2 ≤ 1099511627776
theorem Asc.rng : ∀ {l : List Step} {p : Int}, Asc p l → Rng l
  | [], _, _ => fun _ h => absurd h (by simp)
  | s :: r, _, ⟨_, _, h3, h4, h5⟩ => fun x hx => by
    rcases List.mem_cons.1 hx with rfl | h
    · exact ⟨h3, h4⟩
    · exact h5.rng x h
theorem asc_of : ∀ {l : List Step} {p : Int}, Tm p l → Rng l → Asc p l
  | [], _, _, _ => trivial
  | s :: r, _, ⟨h1, h2, h3⟩, hr => ⟨h1, h2, (hr s (by simp)).1, (hr s (by simp)).2, asc_of h3 (fun x hx => hr x (by simp [hx]))⟩
theorem mrg_all (f : Int → Int → Int) : ∀ (n : Nat) (a b : List Step) (x y p : Int), a.length + b.length ≤ n → Asc p a → Asc p b →
    Tm p (mrg f n a b x y (f x y)) ∧ Nrm (f x y) (mrg f n a b x y (f x y)) ∧ ∀ u, atR (f x y) (mrg f n a b x y (f x y)) u = f (atR x a u) (atR y b u) := by
  intro n
  induction n with
  | zero =>
    intro a b x y p h ha hb
    obtain rfl : a = [] := List.eq_nil_of_length_eq_zero (by omega)
    obtain rfl : b = [] := List.eq_nil_of_length_eq_zero (by omega)
    exact ⟨trivial, trivial, fun u => rfl⟩
  | succ n ih =>
    intro a b x y p h ha hb
    have late : ∀ (l : List Step) (v q u : Int), Asc q l → ¬ q < u → atR v l u = v := fun l v q u hl hu => atR_late l v q u hl (by omega)
    cases a with
    | nil =>
      cases b with
      | nil => exact ⟨trivial, trivial, fun u => rfl⟩
      | cons r b =>
        obtain ⟨h1, h2, h3, h4, h5⟩ := hb
        obtain ⟨i1, i2, i3⟩ := ih [] b x r.2 r.1 (by simp at h ⊢; omega) trivial h5
        simp only [mrg]
        refine ⟨tm_emit h1 h2 i1, nrm_emit i2, fun u => ?_⟩
        rw [at_emit i1]
        by_cases hu : r.1 ≤ u
        · rw [if_pos hu, i3]; simp only [atR]; rw [if_pos hu]
        · rw [if_neg hu]; simp only [atR]; rw [if_neg hu, late b y r.1 u h5 (by omega)]
    | cons s a =>
      obtain ⟨g1, g2, g3, g4, g5⟩ := ha
      cases b with
      | nil =>
        obtain ⟨i1, i2, i3⟩ := ih a [] s.2 y s.1 (by simp at h ⊢; omega) g5 trivial
        simp only [mrg]
        refine ⟨tm_emit g1 g2 i1, nrm_emit i2, fun u => ?_⟩
        rw [at_emit i1]
        by_cases hu : s.1 ≤ u
        · rw [if_pos hu, i3]; simp only [atR]; rw [if_pos hu]
        · rw [if_neg hu]; simp only [atR]; rw [if_neg hu, late a x s.1 u g5 (by omega)]
      | cons r b =>
        obtain ⟨h1, h2, h3, h4, h5⟩ := hb
        by_cases c1 : s.1 < r.1
        · have hB : Asc s.1 (r :: b) := ⟨c1, h2, h3, h4, h5⟩
          obtain ⟨i1, i2, i3⟩ := ih a (r :: b) s.2 y s.1 (by simp at h ⊢; omega) g5 hB
          simp only [mrg]; rw [if_pos c1]
          refine ⟨tm_emit g1 g2 i1, nrm_emit i2, fun u => ?_⟩
          rw [at_emit i1]
          by_cases hu : s.1 ≤ u
          · rw [if_pos hu, i3]; simp only [atR]; rw [if_pos hu]
          · rw [if_neg hu, late (r :: b) y s.1 u hB (by omega)]; simp only [atR]; rw [if_neg hu, late a x s.1 u g5 (by omega)]
        · by_cases c2 : r.1 < s.1
          · have hA : Asc r.1 (s :: a) := ⟨c2, g2, g3, g4, g5⟩
            obtain ⟨i1, i2, i3⟩ := ih (s :: a) b x r.2 r.1 (by simp at h ⊢; omega) hA h5
            simp only [mrg]; rw [if_neg c1, if_pos c2]
            refine ⟨tm_emit h1 h2 i1, nrm_emit i2, fun u => ?_⟩
            rw [at_emit i1]
            by_cases hu : r.1 ≤ u
            · rw [if_pos hu, i3]; simp only [atR]; rw [if_pos hu]
            · rw [if_neg hu, late (s :: a) x r.1 u hA (by omega)]; simp only [atR]; rw [if_neg hu, late b y r.1 u h5 (by omega)]
          · have e : r.1 = s.1 := by omega
            obtain ⟨i1, i2, i3⟩ := ih a b s.2 r.2 s.1 (by simp at h ⊢; omega) g5 (e ▸ h5)
            simp only [mrg]; rw [if_neg c1, if_neg c2]
            refine ⟨tm_emit g1 g2 i1, nrm_emit i2, fun u => ?_⟩
            rw [at_emit i1]
            by_cases hu : s.1 ≤ u
            · rw [if_pos hu, i3]; simp only [atR]; rw [if_pos hu, if_pos (show r.1 ≤ u by omega)]
            · rw [if_neg hu]; simp only [atR]; rw [if_neg hu, if_neg (show ¬ r.1 ≤ u by omega), late a x s.1 u g5 (by omega), late b y r.1 u h5 (by omega)]
theorem comb_all (f : Int → Int → Int) (h0 : f 0 0 = 0) {a b : List Step} (ha : Asc (-1) a) (hb : Asc (-1) b) :
    Tm (-1) (comb f a b) ∧ Nrm 0 (comb f a b) ∧ ∀ u, at_ (comb f a b) u = f (at_ a u) (at_ b u) := by
  have := mrg_all f (a.length + b.length) a b 0 0 (-1) (Nat.le_refl _) ha hb
  rw [h0] at this
  exact this
/-- is a value that is computed out of range? -/
def outs (f : Int → Int → Int) : Nat → List Step → List Step → Int → Int → Bool
  | 0, _, _, _, _ => false
  | _ + 1, [], [], _, _ => false
  | n + 1, s :: a, [], x, y => !okVal (f s.2 y) || outs f n a [] s.2 y
  | n + 1, [], r :: b, x, y => !okVal (f x r.2) || outs f n [] b x r.2
  | n + 1, s :: a, r :: b, x, y =>
    if s.1 < r.1 then !okVal (f s.2 y) || outs f n a (r :: b) s.2 y
    else if r.1 < s.1 then !okVal (f x r.2) || outs f n (s :: a) b x r.2
    else !okVal (f s.2 r.2) || outs f n a b s.2 r.2
def wide (l : List Step) : Bool := l.any fun s => !okVal s.2
theorem wide_emit (last t v : Int) (l : List Step) (b : Bool) (h : okVal last = true) (ih : okVal v = true → b = wide l) : (!okVal v || b) = wide (emit last t v ++ l) := by
  unfold emit
  by_cases e : v = last
  · rw [if_pos e]; subst e; rw [h]; simp; exact ih h
  · rw [if_neg e]
    cases hv : okVal v with
    | true => simp [wide, hv]; rw [ih hv]; rfl
    | false => simp [wide, hv]
theorem outs_wide (f : Int → Int → Int) : ∀ (n : Nat) (a b : List Step) (x y last : Int), okVal last = true → outs f n a b x y = wide (mrg f n a b x y last)
  | 0, _, _, _, _, _, _ => rfl
  | _ + 1, [], [], _, _, _, _ => rfl
  | n + 1, s :: a, [], x, y, last, h => by simp only [outs, mrg]; exact wide_emit _ _ _ _ _ h (fun hv => outs_wide f n a [] s.2 y _ hv)
  | n + 1, [], r :: b, x, y, last, h => by simp only [outs, mrg]; exact wide_emit _ _ _ _ _ h (fun hv => outs_wide f n [] b x r.2 _ hv)
  | n + 1, s :: a, r :: b, x, y, last, h => by
    simp only [outs, mrg]
    by_cases c1 : s.1 < r.1
    · rw [if_pos c1, if_pos c1]; exact wide_emit _ _ _ _ _ h (fun hv => outs_wide f n a (r :: b) s.2 y _ hv)
    · rw [if_neg c1, if_neg c1]
      by_cases c2 : r.1 < s.1
      · rw [if_pos c2, if_pos c2]; exact wide_emit _ _ _ _ _ h (fun hv => outs_wide f n (s :: a) b x r.2 _ hv)
      · rw [if_neg c2, if_neg c2]; exact wide_emit _ _ _ _ _ h (fun hv => outs_wide f n a b s.2 r.2 _ hv)
theorem rng_of_wide {l : List Step} (h : wide l = false) : Rng l := by
  intro s hs
  unfold wide at h
  rw [List.any_eq_false] at h
  have := h s hs
  simp [okVal] at this
  exact this
end Ser

namespace Ser
/-- without steps that change nothing -/
def norm (last : Int) : List Step → List Step
  | [] => []
  | s :: r => emit last s.1 s.2 ++ norm s.2 r
theorem mrg_norm : ∀ (n : Nat) (a : List Step) (x last : Int), a.length ≤ n → mrg (fun x y => x + y) n a [] x 0 last = norm last a
  | 0, a, _, _, h => by
    obtain rfl : a = [] := List.eq_nil_of_length_eq_zero (by omega)
    rfl
  | _ + 1, [], _, _, _ => rfl
  | n + 1, s :: a, x, last, h => by
    simp only [mrg, norm, Int.add_zero]
    rw [mrg_norm n a s.2 s.2 (by simp at h; omega)]
theorem comb_norm (l : List Step) : comb (fun x y => x + y) l [] = norm 0 l := mrg_norm _ l 0 0 (by simp)
theorem norm_all : ∀ (l : List Step) (last p : Int), Tm p l → Tm p (norm last l) ∧ Nrm last (norm last l) ∧ ∀ u, atR last (norm last l) u = atR last l u
  | [], _, _, _ => ⟨trivial, trivial, fun _ => rfl⟩
  | s :: r, last, p, ⟨h1, h2, h3⟩ => by
    obtain ⟨i1, i2, i3⟩ := norm_all r s.2 s.1 h3
    simp only [norm]
    refine ⟨tm_emit h1 h2 i1, nrm_emit i2, fun u => ?_⟩
    rw [at_emit i1, i3]
    simp only [atR]
    by_cases hu : s.1 ≤ u
    · rw [if_pos hu, if_pos hu]
    · rw [if_neg hu, if_neg hu, atR_early r last s.1 u h3 (by omega)]
theorem norm_mem : ∀ (l : List Step) (last : Int) (s : Step), s ∈ norm last l → s ∈ l
  | [], _, _, h => h
  | x :: r, last, s, h => by
    simp only [norm, List.mem_append] at h
    rcases h with h | h
    · unfold emit at h
      split at h
      · simp at h
      · simp at h; subst h; simp
    · exact List.mem_cons_of_mem _ (norm_mem r _ s h)
theorem norm_rng {l : List Step} {last : Int} (h : Rng l) : Rng (norm last l) := fun s hs => h s (norm_mem l last s hs)
theorem norm_length : ∀ (l : List Step) (last : Int), (norm last l).length ≤ l.length
  | [], _ => Nat.le_refl _
  | x :: r, last => by
    simp only [norm, List.length_append, List.length_cons]
    have h1 : (emit last x.1 x.2).length ≤ 1 := by unfold emit; split <;> simp
    have := norm_length r x.2
    omega
/-- what a span cuts out -/
def mid (F T : Int) (l : List Step) : List Step := l.filter fun s => decide (F < s.1) && decide (s.1 < T)
def clip (l : List Step) (F T : Int) : List Step := if F = T then [] else norm 0 ((F, at_ l F) :: (mid F T l ++ [(T, 0)]))
theorem mid_tm {F T : Int} (hT : T ≤ 268435456) : ∀ (l : List Step) (p q : Int), Tm p l → q ≤ F ∨ q ≤ p → F < T → q < T → Tm q (mid F T l ++ [(T, 0)])
  | [], p, q, _, _, _, h => ⟨h, hT, trivial⟩
  | s :: r, p, q, ⟨h1, h2, h3⟩, hq, hF, hT2 => by
    unfold mid
    by_cases hs : F < s.1 ∧ s.1 < T
    · rw [List.filter_cons_of_pos (by simp; exact hs)]
      exact ⟨by omega, h2, mid_tm hT r s.1 s.1 h3 (Or.inr (Int.le_refl _)) hF hs.2⟩
    · rw [List.filter_cons_of_neg (by simp; omega)]
      exact mid_tm hT r s.1 q h3 (by omega) hF hT2
theorem mid_at {F T u : Int} (hF : F ≤ u) (hT : u < T) : ∀ (l : List Step) (v p : Int), Tm p l → atR (atR v l F) (mid F T l) u = atR v l u
  | [], _, _, _ => rfl
  | s :: r, v, p, ⟨h1, h2, h3⟩ => by
    have ih := fun v => mid_at hF hT r v s.1 h3
    unfold mid at ih ⊢
    simp only [atR]
    by_cases c1 : s.1 ≤ F
    · rw [if_pos c1, if_pos (by omega), List.filter_cons_of_neg (by simp; omega)]
      exact ih s.2
    · rw [if_neg c1]
      by_cases c2 : s.1 < T
      · rw [List.filter_cons_of_pos (by simp; omega)]
        simp only [atR]
        have e : atR v r F = v := atR_early r v s.1 F h3 (by omega)
        rw [e]
        by_cases c3 : s.1 ≤ u
        · simp only [c3, if_true]
          have := ih s.2
          rwa [atR_early r s.2 s.1 F h3 (by omega)] at this
        · simp only [c3, if_false]
          have := ih v
          rwa [e] at this
      · rw [List.filter_cons_of_neg (by simp; omega), if_neg (by omega)]
        exact ih v
theorem clip_all {l : List Step} {F T : Int} (h : Asc (-1) l) (h0 : 0 ≤ F) (h1 : F ≤ T) (h2 : T ≤ 268435456) :
    Tm (-1) (clip l F T) ∧ Nrm 0 (clip l F T) ∧ Rng (clip l F T) ∧ ∀ u, at_ (clip l F T) u = if F ≤ u ∧ u < T then at_ l u else 0 := by
  unfold clip
  by_cases e : F = T
  · subst e; rw [if_pos rfl]
    exact ⟨trivial, trivial, fun _ h => absurd h (by simp), fun u => by rw [if_neg (by omega)]; rfl⟩
  · rw [if_neg e]
    have ht : Tm (-1) ((F, at_ l F) :: (mid F T l ++ [(T, 0)])) := ⟨by omega, by omega, mid_tm h2 l (-1) F h.tm (Or.inl (Int.le_refl _)) (by omega) (by omega)⟩
    obtain ⟨i1, i2, i3⟩ := norm_all _ 0 (-1) ht
    refine ⟨i1, i2, ?_, fun u => ?_⟩
    · apply norm_rng
      intro s hs
      have hat : ∀ (l : List Step) (v t : Int), Rng l → -1099511627776 ≤ v → v ≤ 1099511627776 → -1099511627776 ≤ atR v l t ∧ atR v l t ≤ 1099511627776 := by
        intro l
        induction l with
        | nil => intro v t _ a b; exact ⟨a, b⟩
        | cons s r ih =>
          intro v t hr a b
          simp only [atR]
          have hs := hr s (by simp)
          exact ih _ _ (fun x hx => hr x (by simp [hx])) (by split <;> omega) (by split <;> omega)
      simp only [List.mem_cons, List.mem_append, List.not_mem_nil, or_false] at hs
      rcases hs with rfl | h' | rfl
      · exact hat l 0 F h.rng (by omega) (by omega)
      · exact h.rng s ((List.mem_filter.1 h').1)
      · simp
    · show atR 0 _ u = _
      rw [i3]
      simp only [atR]
      rw [atR_append]
      simp only [atR]
      by_cases c1 : F ≤ u
      · rw [if_pos c1]
        by_cases c2 : u < T
        · rw [if_neg (by omega), if_pos ⟨c1, c2⟩]
          exact mid_at c1 c2 l 0 (-1) h.tm
        · rw [if_pos (by omega), if_neg (by omega)]
      · have hm : ∀ v, atR v (mid F T l) u = v := by
          intro v
          have : ∀ (l : List Step), (∀ s ∈ l, u < s.1) → ∀ v, atR v l u = v := by
            intro l
            induction l with
            | nil => intro _ v; rfl
            | cons s r ih => intro hs v; simp only [atR]; rw [if_neg (by have := hs s (by simp); omega)]; exact ih (fun x hx => hs x (by simp [hx])) v
          apply this
          intro s hs
          have := (List.mem_filter.1 hs).2
          simp at this
          omega
        rw [if_neg c1, hm, if_neg (by omega), if_neg (by omega)]
/-- a series that is moved -/
def moved (by_ : Int) (l : List Step) : List Step := l.map fun s => (s.1 + by_, s.2)
def far (by_ : Int) (l : List Step) : Bool := l.any fun s => decide (by_ < -s.1) || decide (268435456 - s.1 < by_)
theorem moved_asc (b : Int) : ∀ (l : List Step) (p q : Int), Asc p l → far b l = false → q ≤ p + b → Asc q (moved b l)
  | [], _, _, _, _, _ => trivial
  | s :: r, p, q, ⟨h1, h2, h3, h4, h5⟩, hf, hq => by
    simp only [far, List.any_cons, Bool.or_eq_false_iff, decide_eq_false_iff_not] at hf
    exact ⟨by show q < s.1 + b; omega, by show s.1 + b ≤ _; omega, h3, h4, moved_asc b r s.1 (s.1 + b) h5 hf.2 (Int.le_refl _)⟩
theorem moved_asc0 (b : Int) : ∀ (l : List Step), Asc (-1) l → far b l = false → Asc (-1) (moved b l)
  | [], _, _ => trivial
  | s :: r, ⟨h1, h2, h3, h4, h5⟩, hf => by
    simp only [far, List.any_cons, Bool.or_eq_false_iff, decide_eq_false_iff_not] at hf
    exact ⟨by show -1 < s.1 + b; omega, by show s.1 + b ≤ _; omega, h3, h4, moved_asc b r s.1 (s.1 + b) h5 hf.2 (Int.le_refl _)⟩
theorem moved_at (b t : Int) : ∀ (l : List Step) (v : Int), atR v (moved b l) t = atR v l (t - b)
  | [], _ => rfl
  | s :: r, v => by
    simp only [moved, List.map_cons, atR]
    have ih := moved_at b t r
    unfold moved at ih
    rw [ih]
    by_cases h : s.1 + b ≤ t
    · rw [if_pos h, if_pos (by omega)]
    · rw [if_neg h, if_neg (by omega)]
/-- the energy over a span -/
def dur (F T : Int) (s : Step) (r : List Step) : Int :=
  let a := max s.1 F
  let b := match r with | [] => T | x :: _ => min T x.1
  if b ≤ a then 0 else b - a
def ener (F T : Int) : List Step → Int
  | [] => 0
  | s :: r => s.2 * dur F T s r + ener F T r
def hi (F T : Int) : List Step → Int
  | [] => 0
  | s :: r => s.2 / 1048576 * dur F T s r + hi F T r
def lo (F T : Int) : List Step → Int
  | [] => 0
  | s :: r => s.2 % 1048576 * dur F T s r + lo F T r
theorem ener_parts (F T : Int) : ∀ l, ener F T l = hi F T l * 1048576 + lo F T l
  | [] => rfl
  | s :: r => by
    simp only [ener, hi, lo]
    rw [ener_parts F T r]
    have : s.2 = s.2 / 1048576 * 1048576 + s.2 % 1048576 := by omega
    generalize dur F T s r = d
    generalize s.2 / 1048576 = q at *
    generalize s.2 % 1048576 = m at *
    rw [this, Int.add_mul, Int.add_mul]
    have : q * 1048576 * d = q * d * 1048576 := by rw [Int.mul_assoc, Int.mul_comm 1048576 d, Int.mul_assoc]
    omega
/-- the sum of a function over n times from F on -/
def sum (g : Int → Int) (F : Int) : Nat → Int
  | 0 => 0
  | n + 1 => g F + sum g (F + 1) n
theorem sum_append (g : Int → Int) : ∀ (n m : Nat) (F : Int), sum g F (n + m) = sum g F n + sum g (F + n) m
  | 0, m, F => by simp [sum]
  | n + 1, m, F => by
    rw [show n + 1 + m = (n + m) + 1 by omega]
    simp only [sum]
    rw [sum_append g n m (F + 1)]
    have : F + 1 + (n : Int) = F + ((n + 1 : Nat) : Int) := by omega
    rw [this]; omega
theorem sum_const (g : Int → Int) (v : Int) : ∀ (n : Nat) (F : Int), (∀ u, F ≤ u → u < F + n → g u = v) → sum g F n = v * n
  | 0, _, _ => by simp [sum]
  | n + 1, F, h => by
    simp only [sum]
    rw [h F (Int.le_refl _) (by omega), sum_const g v n (F + 1) (fun u h1 h2 => h u (by omega) (by omega))]
    have : ((n + 1 : Nat) : Int) = (n : Int) + 1 := by omega
    rw [this, Int.mul_add]; omega
theorem sum_congr {g g' : Int → Int} : ∀ (n : Nat) (F : Int), (∀ u, F ≤ u → u < F + n → g u = g' u) → sum g F n = sum g' F n
  | 0, _, _ => rfl
  | n + 1, F, h => by
    simp only [sum]
    rw [h F (Int.le_refl _) (by omega), sum_congr n (F + 1) (fun u h1 h2 => h u (by omega) (by omega))]
theorem sum_add (g g' : Int → Int) : ∀ (n : Nat) (F : Int), sum (fun u => g u + g' u) F n = sum g F n + sum g' F n
  | 0, _ => rfl
  | n + 1, F => by simp only [sum]; rw [sum_add g g' n (F + 1)]; omega
/-- over a span from a to b -/
def over (g : Int → Int) (a b : Int) : Int := sum g a (b - a).toNat
theorem over_split {g : Int → Int} {a m b : Int} (h1 : a ≤ m) (h2 : m ≤ b) : over g a b = over g a m + over g m b := by
  unfold over
  rw [show (b - a).toNat = (m - a).toNat + (b - m).toNat by omega, sum_append]
  rw [show a + ((m - a).toNat : Int) = m by omega]
theorem ener_tail (F T : Int) : ∀ (r : List Step) (s : Step), Tm s.1 r → ener F T (s :: r) = over (atR s.2 r) (max s.1 F) T
  | [], s, _ => by
    simp only [ener, dur, Int.add_zero]
    unfold over
    by_cases h : T ≤ max s.1 F
    · rw [if_pos h, show (T - max s.1 F).toNat = 0 by omega]; simp [sum]
    · rw [if_neg h, sum_const (atR s.2 []) s.2 _ _ (fun u _ _ => rfl)]
      rw [show ((T - max s.1 F).toNat : Int) = T - max s.1 F by omega]
  | x :: r, s, ⟨h1, h2, h3⟩ => by
    have ih := ener_tail F T r x h3
    show s.2 * dur F T s (x :: r) + ener F T (x :: r) = _
    rw [ih]
    simp only [dur]
    have hlate : ∀ u, u < x.1 → atR s.2 (x :: r) u = s.2 := fun u hu => by
      simp only [atR]; rw [if_neg (by omega)]; exact atR_early r s.2 x.1 u h3 (by omega)
    have hsoon : ∀ u, x.1 ≤ u → atR s.2 (x :: r) u = atR x.2 r u := fun u hu => by
      simp only [atR]; rw [if_pos hu]
    by_cases c : min T x.1 ≤ max s.1 F
    · rw [if_pos c, Int.mul_zero, Int.zero_add]
      by_cases cT : T ≤ max s.1 F
      · unfold over
        rw [show (T - max s.1 F).toNat = 0 by omega, show (T - max x.1 F).toNat = 0 by omega]; rfl
      · have hx : x.1 ≤ max s.1 F := by omega
        rw [show max x.1 F = max s.1 F by omega]
        unfold over
        exact sum_congr _ _ (fun u hu _ => (hsoon u (by omega)).symm)
    · rw [if_neg c]
      have e := over_split (g := atR s.2 (x :: r)) (a := max s.1 F) (m := min T x.1) (b := T) (by omega) (by omega)
      rw [e]
      have e1 : over (atR s.2 (x :: r)) (max s.1 F) (min T x.1) = s.2 * (min T x.1 - max s.1 F) := by
        unfold over
        rw [sum_const _ s.2 _ _ (fun u _ hu => hlate u (by omega))]
        rw [show ((min T x.1 - max s.1 F).toNat : Int) = min T x.1 - max s.1 F by omega]
      rw [e1]
      congr 1
      by_cases cT : T ≤ x.1
      · unfold over
        rw [show (T - max x.1 F).toNat = 0 by omega, show (T - min T x.1).toNat = 0 by omega]; rfl
      · rw [show max x.1 F = x.1 by omega, show min T x.1 = x.1 by omega]
        unfold over
        exact sum_congr _ _ (fun u hu _ => (hsoon u (by omega)).symm)
theorem ener_over {F T : Int} {l : List Step} {p : Int} (h : Tm p l) (hFT : F ≤ T) : ener F T l = over (at_ l) F T := by
  cases l with
  | nil => unfold over; simp only [ener]; rw [sum_const (at_ []) 0 _ _ (fun u _ _ => rfl)]; omega
  | cons s r =>
    obtain ⟨h1, h2, h3⟩ := h
    rw [ener_tail F T r s h3]
    have hl : ∀ u, u < s.1 → at_ (s :: r) u = 0 := fun u hu => by
      unfold at_; simp only [atR]; rw [if_neg (by omega)]; exact atR_early r 0 s.1 u h3 (by omega)
    have hs : ∀ u, s.1 ≤ u → at_ (s :: r) u = atR s.2 r u := fun u hu => by
      unfold at_; simp only [atR]; rw [if_pos hu]
    by_cases c : s.1 ≤ F
    · rw [show max s.1 F = F by omega]
      unfold over
      exact sum_congr _ _ (fun u hu _ => (hs u (by omega)).symm)
    · by_cases cT : T ≤ s.1
      · unfold over
        rw [show (T - max s.1 F).toNat = 0 by omega, sum_const (at_ (s :: r)) 0 _ _ (fun u _ hu => hl u (by omega))]
        simp [sum]
      · rw [over_split (g := at_ (s :: r)) (a := F) (m := s.1) (b := T) (by omega) (by omega), show max s.1 F = s.1 by omega]
        have e1 : over (at_ (s :: r)) F s.1 = 0 := by
          unfold over
          rw [sum_const _ 0 _ _ (fun u _ hu => hl u (by omega))]; omega
        rw [e1, Int.zero_add]
        unfold over
        exact sum_congr _ _ (fun u hu _ => (hs u (by omega)).symm)
end Ser

namespace Ser
theorem mrg_fuel (f : Int → Int → Int) : ∀ (n m : Nat) (a b : List Step) (x y last : Int), a.length + b.length ≤ n → a.length + b.length ≤ m → mrg f n a b x y last = mrg f m a b x y last := by
  intro n
  induction n with
  | zero =>
    intro m a b x y last h h2
    obtain rfl : a = [] := List.eq_nil_of_length_eq_zero (by omega)
    obtain rfl : b = [] := List.eq_nil_of_length_eq_zero (by omega)
    cases m <;> rfl
  | succ n ih =>
    intro m a b x y last h h2
    cases m with
    | zero =>
      obtain rfl : a = [] := List.eq_nil_of_length_eq_zero (by omega)
      obtain rfl : b = [] := List.eq_nil_of_length_eq_zero (by omega)
      rfl
    | succ m =>
      cases a with
      | nil =>
        cases b with
        | nil => rfl
        | cons r b => simp only [mrg]; rw [ih m [] b x r.2 _ (by simp at h ⊢; omega) (by simp at h2 ⊢; omega)]
      | cons s a =>
        cases b with
        | nil => simp only [mrg]; rw [ih m a [] s.2 y _ (by simp at h ⊢; omega) (by simp at h2 ⊢; omega)]
        | cons r b =>
          simp only [mrg]
          rw [ih m a (r :: b) s.2 y _ (by simp at h ⊢; omega) (by simp at h2 ⊢; omega), ih m (s :: a) b x r.2 _ (by simp at h ⊢; omega) (by simp at h2 ⊢; omega), ih m a b s.2 r.2 _ (by simp at h ⊢; omega) (by simp at h2 ⊢; omega)]
theorem outs_fuel (f : Int → Int → Int) : ∀ (n m : Nat) (a b : List Step) (x y : Int), a.length + b.length ≤ n → a.length + b.length ≤ m → outs f n a b x y = outs f m a b x y := by
  intro n
  induction n with
  | zero =>
    intro m a b x y h h2
    obtain rfl : a = [] := List.eq_nil_of_length_eq_zero (by omega)
    obtain rfl : b = [] := List.eq_nil_of_length_eq_zero (by omega)
    cases m <;> rfl
  | succ n ih =>
    intro m a b x y h h2
    cases m with
    | zero =>
      obtain rfl : a = [] := List.eq_nil_of_length_eq_zero (by omega)
      obtain rfl : b = [] := List.eq_nil_of_length_eq_zero (by omega)
      rfl
    | succ m =>
      cases a with
      | nil =>
        cases b with
        | nil => rfl
        | cons r b => simp only [outs]; rw [ih m [] b x r.2 (by simp at h ⊢; omega) (by simp at h2 ⊢; omega)]
      | cons s a =>
        cases b with
        | nil => simp only [outs]; rw [ih m a [] s.2 y (by simp at h ⊢; omega) (by simp at h2 ⊢; omega)]
        | cons r b =>
          simp only [outs]
          rw [ih m a (r :: b) s.2 y (by simp at h ⊢; omega) (by simp at h2 ⊢; omega), ih m (s :: a) b x r.2 (by simp at h ⊢; omega) (by simp at h2 ⊢; omega), ih m a b s.2 r.2 (by simp at h ⊢; omega) (by simp at h2 ⊢; omega)]
end Ser
