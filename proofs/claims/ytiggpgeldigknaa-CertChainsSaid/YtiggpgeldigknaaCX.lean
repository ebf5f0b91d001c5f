/- Certs: what the issued chains come to (the plain law of CertChains). -/
import Derived.Test.YtiggpgeldigknaaCV
set_option linter.unusedVariables false
set_option linter.unusedSimpArgs false
namespace Go.Proofs.Ytiggpgeldigknaa
open Go.RowKit
theorem runV_zero (f : Nat → Int) : ∀ (m i : Nat), (∀ j, i ≤ j → j < i + m → f j = 0) → runV f m i = 0
  | 0, _, _ => rfl
  | m + 1, i, h => by
    show (if f i ≠ 0 then f i else runV f m (i + 1)) = 0
    rw [if_neg (fun hn => hn (h i (Nat.le_refl _) (by omega)))]
    exact runV_zero f m (i + 1) fun j h1 h2 => h j (by omega) (by omega)
theorem runV_ne (f : Nat → Int) : ∀ (m i : Nat), (∃ j, i ≤ j ∧ j < i + m ∧ f j ≠ 0) → runV f m i ≠ 0
  | 0, i, h => by obtain ⟨j, h1, h2, _⟩ := h; omega
  | m + 1, i, h => by
    show (if f i ≠ 0 then f i else runV f m (i + 1)) ≠ 0
    by_cases hf : f i = 0
    · rw [if_neg (fun hn => hn hf)]
      obtain ⟨j, h1, h2, h3⟩ := h
      have : j ≠ i := fun e => h3 (by rw [e]; exact hf)
      exact runV_ne f m (i + 1) ⟨j, by omega, by omega, h3⟩
    · rw [if_pos hf]; exact hf
theorem runV_first (f : Nat → Int) (m i : Nat) (hf : f i ≠ 0) : runV f (m + 1) i = f i := by
  show (if f i ≠ 0 then f i else runV f m (i + 1)) = f i
  rw [if_pos hf]
theorem runV_last (f : Nat → Int) : ∀ (m i : Nat), (∀ j, i ≤ j → j < i + m → f j = 0) → runV f (m + 1) i = f (i + m)
  | 0, i, _ => by
    show (if f i ≠ 0 then f i else 0) = f (i + 0)
    by_cases hf : f i = 0 <;> simp [hf]
  | m + 1, i, h => by
    show (if f i ≠ 0 then f i else runV f (m + 1) (i + 1)) = f (i + (m + 1))
    rw [if_neg (fun hn => hn (h i (Nat.le_refl _) (by omega))), runV_last f m (i + 1) fun j h1 h2 => h j (by omega) (by omega)]
    congr 1
    omega
/-- what follows in a chain below a root -/
def nextOf (r : Ct) : List Ct → Ct
  | [] => r
  | c :: _ => c
/-- an element that its follower has issued, at a time that it holds -/
structure Link (now : Int) (c b : Ct) : Prop where
  v : validE c = 0
  s : spanH c.from_ c.to_ now = true
  i : c.iss = b.subj
  a : b.ca = true
  l : c.sl = sealC c b.key
def GoodC (r : Ct) (now : Int) : List Ct → Prop
  | [] => True
  | c :: rest => Link now c (nextOf r rest) ∧ GoodC r now rest
theorem good_at {r : Ct} {now : Int} : ∀ (C : List Ct), GoodC r now C → ∀ i, i < C.length → Link now (C.getD i noCt) (if i + 1 = C.length then r else C.getD (i + 1) noCt)
  | [], _, i, h => absurd h (Nat.not_lt_zero _)
  | c :: rest, hg, 0, _ => by
    have h := hg.1
    cases rest with
    | nil => exact h
    | cons d rest => simpa [nextOf] using h
  | c :: rest, hg, i + 1, h => by
    have := good_at rest hg.2 i (by simpa using h)
    simpa using this
structure RootOk (r : Ct) (now : Int) : Prop where
  v : validE r = 0
  a : r.ca = true
  s : spanH r.from_ r.to_ now = true
  i : r.iss = r.subj
  l : r.sl = sealC r r.key
theorem root_trust {r : Ct} {now : Int} {rv : List Int} {nm : ByteArray} (h : RootOk r now) (hr : hasI rv r.serial = false) (hn : nm = r.subj) : rootF rv nm now [r] = some r := by
  have : trustOk rv nm now r = true := by
    unfold trustOk
    rw [h.v, h.s, hr, h.a, hn]
    simp
  unfold rootF
  rw [List.find?_cons, this]
section
variable {r : Ct} {now : Int} {C : List Ct}
theorem good_valid : ∀ (C : List Ct), GoodC r now C → badC C = false
  | [], _ => rfl
  | c :: rest, h => by
    have := good_valid rest h.2
    unfold badC at *
    rw [List.any_cons, this, h.1.v]
    rfl
/-- a step at an element that is not the last one -/
theorem step_mid {R : List Ct} {rv : List Int} (hg : GoodC r now C) {i : Nat} (hi : i + 1 < C.length) (hh : hasI rv (C.getD i noCt).serial = false) : stepV C R rv now i = 0 := by
  have h := good_at C hg i (by omega)
  rw [if_neg (by omega)] at h
  have hs : issR C R rv now i = (C.getD (i + 1) noCt, true) := by
    unfold issR
    rw [if_neg (by omega)]
    unfold linkP
    rw [h.a, h.i]
    simp
  rw [step_eq hs rfl h.l, h.s, hh]
  rfl
theorem step_end {rv : List Int} (hg : GoodC r now C) (hr : RootOk r now) {i : Nat} (hi : i + 1 = C.length) (hh : hasI rv (C.getD i noCt).serial = false) (hrv : hasI rv r.serial = false) : stepV C [r] rv now i = 0 := by
  have h := good_at C hg i (by omega)
  rw [if_pos hi] at h
  have hs : issR C [r] rv now i = (r, true) := by
    unfold issR
    rw [if_pos hi, root_trust hr hrv h.i]
    rfl
  rw [step_eq hs rfl h.l, h.s, hh]
  rfl
theorem ver_good (hg : GoodC r now C) (hr : RootOk r now) (h0 : C ≠ []) (h4 : C.length ≤ 4) : verR C [r] [] now = 0 := by
  have hl : C.length ≠ 0 := fun e => h0 (List.eq_nil_of_length_eq_zero e)
  unfold verR
  rw [if_neg (by omega), good_valid C hg, if_neg (by decide)]
  refine runV_zero _ _ _ fun j _ hj => ?_
  by_cases hj2 : j + 1 = C.length
  · exact step_end hg hr hj2 rfl rfl
  · exact step_mid hg (by omega) rfl
theorem ver_alone (hg : GoodC r now C) (h0 : C ≠ []) (h4 : C.length ≤ 4) : verR C [] [] now = 14 := by
  have hl : C.length ≠ 0 := fun e => h0 (List.eq_nil_of_length_eq_zero e)
  obtain ⟨m, hm⟩ : ∃ m, C.length = m + 1 := ⟨C.length - 1, by omega⟩
  unfold verR
  rw [if_neg (by omega), good_valid C hg, if_neg (by decide), hm, runV_last _ m 0 fun j _ hj => step_mid hg (by omega) rfl]
  have h := good_at C hg m (by omega)
  have hs : issR C [] [] now (0 + m) = (noCt, false) := by
    unfold issR
    rw [if_pos (by omega)]
    rfl
  unfold stepV stepE
  rw [hs, show 0 + m = m by omega, h.s]
  rfl
theorem ver_late (hg : GoodC r now C) (h0 : C ≠ []) (h4 : C.length ≤ 4) : verR C [r] [] (C.getD 0 noCt).to_ = 12 := by
  have hl : C.length ≠ 0 := fun e => h0 (List.eq_nil_of_length_eq_zero e)
  obtain ⟨m, hm⟩ : ∃ m, C.length = m + 1 := ⟨C.length - 1, by omega⟩
  have hs : stepV C [r] [] (C.getD 0 noCt).to_ 0 = 12 := by
    unfold stepV stepE
    rw [if_pos (by unfold spanH; simp)]
  unfold verR
  rw [if_neg (by omega), good_valid C hg, if_neg (by decide), hm, runV_first _ _ _ (by rw [hs]; decide), hs]
theorem ver_revoked (hg : GoodC r now C) (h4 : C.length ≤ 4) {i : Nat} (hi : i < C.length) : verR C [r] [(C.getD i noCt).serial] now ≠ 0 := by
  unfold verR
  rw [if_neg (by omega), good_valid C hg, if_neg (by decide)]
  refine runV_ne _ _ _ ⟨i, Nat.zero_le _, by omega, ?_⟩
  have h := good_at C hg i hi
  unfold stepV stepE
  rw [h.s, if_neg (by decide), if_pos (by simp [hasI])]
  decide
theorem good_root : ∀ (C : List Ct), GoodC r now C → RootOk r now → GoodC r now (C ++ [r])
  | [], _, hr => ⟨⟨hr.v, hr.s, hr.i, hr.a, hr.l⟩, trivial⟩
  | c :: rest, h, hr => by
    refine ⟨?_, good_root rest h.2 hr⟩
    cases rest with
    | nil => exact h.1
    | cons d rest => exact h.1
end
theorem issue_parts {b by_ : Ct} (h : (issueR b by_).2 = 0) : validE (issC b by_) = 0 ∧ by_.ca = true ∧ outB b by_ = false ∧ (issueR b by_).1 = { issC b by_ with sl := sealC (issC b by_) by_.key } := by
  unfold issueR at h ⊢
  by_cases h1 : validE (issC b by_) = 0
  · rw [if_neg (by simp [h1])] at h ⊢
    by_cases h2 : validE by_ = 0
    · rw [if_neg (by simp [h2])] at h ⊢
      cases h3 : by_.ca with
      | false => rw [h3, if_pos (by rfl)] at h; exact absurd h (by decide)
      | true =>
        rw [h3] at h
        rw [if_neg (by decide)] at h ⊢
        cases h4 : outB b by_ with
        | true => rw [h4, if_pos (by rfl)] at h; exact absurd h (by decide)
        | false =>
          rw [if_neg (by decide)]
          exact ⟨h1, rfl, rfl, rfl⟩
    · rw [if_pos h2] at h; exact absurd h h2
  · rw [if_pos h1] at h; exact absurd h h1
theorem issue_link {b by_ : Ct} {now : Int} (h : (issueR b by_).2 = 0) (hs : spanH (issueR b by_).1.from_ (issueR b by_).1.to_ now = true) : Link now (issueR b by_).1 by_ := by
  obtain ⟨h1, h2, h3, h4⟩ := issue_parts h
  rw [h4] at hs ⊢
  exact ⟨(validE_sl (issC b by_) _).trans h1, hs, rfl, h2, sl_self (issC b by_) by_.key⟩
/-- what an issuer has issued lies within its span -/
theorem issue_span {b by_ : Ct} {now : Int} (h : (issueR b by_).2 = 0) (hs : spanH (issueR b by_).1.from_ (issueR b by_).1.to_ now = true) : spanH by_.from_ by_.to_ now = true := by
  obtain ⟨h1, h2, h3, h4⟩ := issue_parts h
  rw [h4] at hs
  have hs2 : spanH b.from_ b.to_ now = true := hs
  unfold outB at h3
  unfold spanH at hs2 ⊢
  simp only [Bool.or_eq_false_iff, decide_eq_false_iff_not, Bool.and_eq_true, decide_eq_true_eq] at h3 hs2 ⊢
  omega
theorem root_parts {c : Ct} (h : (rootR c).2 = 0) : validE (rootR c).1 = 0 ∧ (rootR c).1.ca = true ∧ (rootR c).1.iss = (rootR c).1.subj ∧ (rootR c).1.sl = sealC (rootR c).1 (rootR c).1.key := by
  unfold rootR at h ⊢
  by_cases h1 : validE (selfC c) = 0
  · rw [if_neg (by simp [h1])] at h ⊢
    cases h3 : c.ca with
    | false => rw [h3, if_pos (by rfl)] at h; exact absurd h (by decide)
    | true =>
      rw [if_neg (by decide)]
      exact ⟨(validE_sl (selfC c) _).trans h1, h3, rfl, sl_self (selfC c) c.key⟩
  · rw [if_pos h1] at h; exact absurd h h1
theorem root_ok {c : Ct} {now : Int} (h : (rootR c).2 = 0) (hs : spanH (rootR c).1.from_ (rootR c).1.to_ now = true) : RootOk (rootR c).1 now := by
  obtain ⟨h1, h2, h3, h4⟩ := root_parts h
  exact ⟨h1, h2, hs, h3, h4⟩
theorem good_cons {r b by_ : Ct} {now : Int} {C : List Ct} (hg : GoodC r now C) (hn : nextOf r C = by_) (h : (issueR b by_).2 = 0) (hs : spanH (issueR b by_).1.from_ (issueR b by_).1.to_ now = true) : GoodC r now ((issueR b by_).1 :: C) :=
  ⟨by rw [hn]; exact issue_link h hs, hg⟩
end Go.Proofs.Ytiggpgeldigknaa
