/- Replicated servers in plain words: each call keeps what was committed. -/
import Derived.Test.YtiapeenfggjpnaaMa
set_option linter.unusedVariables false
namespace Go.Proofs.Ytiapeenfggjpnaa
theorem greatS_none_or {p : Sv → Bool} {l : List Sv} : greatS p l = none ∨ ∃ q, greatS p l = some q := by
  cases h : greatS p l with
  | none => exact .inl rfl
  | some q => exact .inr ⟨q, rfl⟩
theorem newC_inv (n : Nat) (h1 : 1 ≤ n) (h7 : n ≤ 7) : Inv (newC n) [] := by
  have hl : (newC n).servers.length = n := by unfold newC; simp
  have hm : ∀ s ∈ (newC n).servers, s = ⟨true, 1, []⟩ := fun s hs => (List.mem_replicate.1 hs).2
  refine ⟨by rw [hl]; exact h1, by rw [hl]; exact h7, by show (-1 : Int) ≤ 0; decide, by rw [hl]; show (0 : Int) < n; omega, by show (1 : Int) ≤ 1; decide, fun s hs => by rw [hm s hs]; exact ⟨by decide, by show (1 : Int) ≤ 1; decide⟩, fun s hs t ht _ => by rw [hm s hs, hm t ht]; exact .inl List.prefix_rfl, fun p hp => ?_, rfl, 1, by show (1 : Int) ≤ 1; decide, ?_, fun s _ _ => List.nil_prefix⟩
  · rw [hm p (primOf_mem hp)]
    exact ⟨rfl, rfl, fun t ht _ => by rw [hm t ht]; exact Nat.le_refl _⟩
  · have : (newC n).servers.countP (kle 1 ([] : List En).length) = (newC n).servers.length := by
      rw [List.countP_eq_length]
      intro s hs
      rw [hm s hs]
      rfl
    rw [this, hl]
    omega
/-- the up flags and the primary do not matter, as long as the primary is one that is up -/
theorem Inv.flags {c : Cv} {C : List En} (h : Inv c C) (l' : List Sv) (pr' : Int) (hlen : l'.length = c.servers.length)
    (hl : ∀ (j : Nat) (t : Sv), l'[j]? = some t → ∃ s, c.servers[j]? = some s ∧ t.view = s.view ∧ t.log = s.log)
    (hp : (pr' = -1) ∨ (pr' = c.primary ∧ ∀ p, primOf ⟨pr', c.view, c.commit, l'⟩ = some p → p.up = true)) : Inv ⟨pr', c.view, c.commit, l'⟩ C := by
  have hmem : ∀ t ∈ l', ∃ s ∈ c.servers, t.view = s.view ∧ t.log = s.log := by
    intro t ht
    obtain ⟨j, hj, rfl⟩ := List.getElem_of_mem ht
    obtain ⟨s, hs, h1⟩ := hl j _ (List.getElem?_eq_getElem hj)
    exact ⟨s, List.mem_of_getElem? hs, h1⟩
  obtain ⟨w, hw, hq, hC⟩ := h.q
  refine ⟨by show 1 ≤ l'.length; rw [hlen]; exact h.n1, by show l'.length ≤ 7; rw [hlen]; exact h.n7, ?_, ?_, h.v1, fun t ht => ?_, fun s hs t ht hst => ?_, fun p hpo => ?_, h.com, w, hw, ?_, fun t ht hk => ?_⟩
  · show -1 ≤ pr'
    rcases hp with rfl | ⟨rfl, _⟩
    · decide
    · exact h.p0
  · show pr' < (l'.length : Int)
    rw [hlen]
    rcases hp with rfl | ⟨rfl, _⟩
    · omega
    · exact h.p1
  · obtain ⟨s, hs, h1, _⟩ := hmem t ht
    have := h.sv s hs
    show 1 ≤ t.view ∧ t.view ≤ c.view
    omega
  · obtain ⟨s0, hs0, a1, a2⟩ := hmem s hs
    obtain ⟨t0, ht0, b1, b2⟩ := hmem t ht
    rw [a2, b2]
    exact h.cmp s0 hs0 t0 ht0 (by omega)
  · rcases hp with rfl | ⟨rfl, hup⟩
    · unfold primOf at hpo
      rw [if_pos (by show (-1 : Int) < 0; decide)] at hpo
      cases hpo
    · have hpu := hup p hpo
      unfold primOf at hpo
      split at hpo
      · cases hpo
      · rename_i h0
        obtain ⟨s, hs, h1, h2⟩ := hl _ _ hpo
        have := h.prim s (by unfold primOf; rw [if_neg h0]; exact hs)
        refine ⟨hpu, by rw [h1]; exact this.2.1, fun t ht htv => ?_⟩
        obtain ⟨t0, ht0, b1, b2⟩ := hmem t ht
        rw [b2, h2]
        exact this.2.2 t0 ht0 (by rw [← b1]; exact htv)
  · show l'.length < 2 * l'.countP _
    have := countP_mono (kle w C.length) (kle w C.length) c.servers l' hlen.symm (fun j s t hs ht hk => by
      obtain ⟨s', hs', h1, h2⟩ := hl j t ht
      rw [hs] at hs'
      injection hs' with hs'
      subst hs'
      rw [kle_iff] at *
      rw [h1, h2]
      exact hk)
    omega
  · obtain ⟨s, hs, h1, h2⟩ := hmem t ht
    rw [h2]
    refine hC s hs ?_
    rw [kle_iff] at *
    rw [← h1, ← h2]
    exact hk
theorem setUp_at (l : List Sv) (i : Nat) (b : Bool) (s : Sv) (hs : l[i]? = some s) : setUp l i b = l.set i ⟨b, s.view, s.log⟩ := by
  unfold setUp
  rw [hs]
theorem set_flags (l : List Sv) (i : Nat) (b : Bool) (s : Sv) (hs : l[i]? = some s) (j : Nat) (t : Sv) (ht : (l.set i ⟨b, s.view, s.log⟩)[j]? = some t) : ∃ s, l[j]? = some s ∧ t.view = s.view ∧ t.log = s.log := by
  obtain ⟨hi, rfl⟩ := List.getElem?_eq_some_iff.1 hs
  by_cases h : i = j
  · subst h
    rw [List.getElem?_set_self (by simpa using hi)] at ht
    injection ht with ht
    subst ht
    exact ⟨_, hs, rfl, rfl⟩
  · rw [List.getElem?_set_ne h] at ht
    exact ⟨t, ht, rfl, rfl⟩
theorem crash_inv {c : Cv} {C : List En} (h : Inv c C) (i : Int) : Inv (crashC c i).1 C := by
  unfold crashC
  split
  · exact h
  · rename_i hr
    split
    · exact h
    · rename_i s hs
      split
      · exact h
      · show Inv ⟨_, c.view, c.commit, setUp c.servers i.toNat false⟩ C
        rw [setUp_at _ _ _ _ hs]
        refine h.flags _ _ (by rw [List.length_set]) (set_flags _ _ _ _ hs) ?_
        split
        · exact .inl rfl
        · rename_i hne
          refine .inr ⟨rfl, fun p hp => ?_⟩
          unfold primOf at hp
          split at hp
          · cases hp
          · rename_i h0
            have h0 : ¬ c.primary < 0 := h0
            have hp : (c.servers.set i.toNat ⟨false, s.view, s.log⟩)[c.primary.toNat]? = some p := hp
            rw [List.getElem?_set_ne (by omega)] at hp
            exact (h.prim p (by unfold primOf; rw [if_neg h0]; exact hp)).1
theorem restart_inv {c : Cv} {C : List En} (h : Inv c C) (i : Int) : Inv (restartC c i).1 C := by
  unfold restartC
  split
  · exact h
  · split
    · exact h
    · rename_i s hs
      split
      · exact h
      · show Inv ⟨_, c.view, c.commit, setUp c.servers i.toNat true⟩ C
        rw [setUp_at _ _ _ _ hs]
        refine h.flags _ _ (by rw [List.length_set]) (set_flags _ _ _ _ hs) (.inr ⟨rfl, fun p hp => ?_⟩)
        unfold primOf at hp
        split at hp
        · cases hp
        · rename_i h0
          have hp : (c.servers.set i.toNat ⟨true, s.view, s.log⟩)[c.primary.toNat]? = some p := hp
          by_cases he : i.toNat = c.primary.toNat
          · rw [he, List.getElem?_set] at hp
            split at hp
            · split at hp
              · injection hp with hp; rw [← hp]
              · cases hp
            · rename_i h1; exact absurd rfl h1
          · rw [List.getElem?_set_ne he] at hp
            exact (h.prim p (by unfold primOf; rw [if_neg h0]; exact hp)).1
theorem ite_le (P : Prop) [Decidable P] : (if P then (1 : Int) else 0) ≤ 1 := by split <;> omega
/-- what the loop of Submit leads to -/
theorem updS_spec (V : Int) (nl : List En) (reach prim : Int) : ∀ (l : List Sv) (i : Nat) (h : Int),
    (updS V nl reach prim l i h).1.length = l.length ∧
    (∀ (j : Nat) (t : Sv), (updS V nl reach prim l i h).1[j]? = some t → ∃ s, l[j]? = some s ∧ (t = s ∨ ((i + j : Nat) : Int) ≠ prim ∧ t = ⟨s.up, V, nl⟩)) ∧
    (∀ (j : Nat) (s : Sv), l[j]? = some s → ((i + j : Nat) : Int) = prim → (updS V nl reach prim l i h).1[j]? = some s) ∧
    h ≤ (updS V nl reach prim l i h).2 ∧
    ((∀ (j : Nat) (s : Sv), l[j]? = some s → ((i + j : Nat) : Int) = prim → kle V nl.length s = true) → (updS V nl reach prim l i h).2 + (if (i : Int) ≤ prim ∧ prim < i + l.length then 1 else 0) ≤ h + ((updS V nl reach prim l i h).1.countP (kle V nl.length) : Nat))
  | [], i, h => by
    refine ⟨rfl, fun j t ht => by simp [updS] at ht, fun j s hs => by simp at hs, Int.le_refl _, fun _ => ?_⟩
    rw [if_neg (by simp only [List.length_nil]; omega)]
    show h + 0 ≤ h + ((List.countP _ ([] : List Sv) : Nat) : Int)
    simp
  | s :: r, i, h => by
    by_cases h1 : (i : Int) = prim
    · have e : updS V nl reach prim (s :: r) i h = (s :: (updS V nl reach prim r (i + 1) h).1, (updS V nl reach prim r (i + 1) h).2) := by show (if (i : Int) = prim then _ else _) = _; rw [if_pos h1]
      obtain ⟨a1, a2, a3, a4, a5⟩ := updS_spec V nl reach prim r (i + 1) h
      rw [e]
      refine ⟨by simp [a1], fun j t ht => ?_, fun j t ht hj => ?_, a4, fun hk => ?_⟩
      · cases j with
        | zero => exact ⟨s, rfl, .inl (by simpa using ht.symm)⟩
        | succ j =>
          obtain ⟨s', hs', h2⟩ := a2 j t (by simpa using ht)
          refine ⟨s', by simpa using hs', ?_⟩
          rw [show i + (j + 1) = i + 1 + j by omega]
          exact h2
      · cases j with
        | zero => simpa using ht
        | succ j => exfalso; omega
      · have h2 := a5 (fun j t ht hj => by exfalso; omega)
        rw [if_neg (by omega)] at h2
        refine Int.le_trans (Int.add_le_add_left (ite_le _) _) ?_
        rw [List.countP_cons, if_pos (hk 0 s rfl (by simpa using h1))]
        omega
    · by_cases h2 : s.up = true ∧ (reach < 1 ∨ h < reach)
      · have e : updS V nl reach prim (s :: r) i h = (⟨s.up, V, nl⟩ :: (updS V nl reach prim r (i + 1) (h + 1)).1, (updS V nl reach prim r (i + 1) (h + 1)).2) := by show (if (i : Int) = prim then _ else if _ then _ else _) = _; rw [if_neg h1, if_pos h2]
        obtain ⟨a1, a2, a3, a4, a5⟩ := updS_spec V nl reach prim r (i + 1) (h + 1)
        rw [e]
        refine ⟨by simp [a1], fun j t ht => ?_, fun j t ht hj => ?_, by omega, fun hk => ?_⟩
        · cases j with
          | zero => exact ⟨s, rfl, .inr ⟨by simpa using h1, by simpa using ht.symm⟩⟩
          | succ j =>
            obtain ⟨s', hs', h3⟩ := a2 j t (by simpa using ht)
            refine ⟨s', by simpa using hs', ?_⟩
            rw [show i + (j + 1) = i + 1 + j by omega]
            exact h3
        · cases j with
          | zero => exact absurd (by simpa using hj) h1
          | succ j =>
            have := a3 j t (by simpa using ht) (by rw [show i + 1 + j = i + (j + 1) by omega]; exact hj)
            simpa using this
        · have h3 := a5 (fun j t ht hj => hk (j + 1) t (by simpa using ht) (by rw [show i + (j + 1) = i + 1 + j by omega]; exact hj))
          rw [List.countP_cons_of_pos (by rw [kle_iff]; exact .inr ⟨rfl, Nat.le_refl _⟩)]
          simp only [List.length_cons]
          have hif : (if (i : Int) ≤ prim ∧ prim < (i : Int) + ((r.length + 1 : Nat) : Int) then (1 : Int) else 0) = if ((i + 1 : Nat) : Int) ≤ prim ∧ prim < ((i + 1 : Nat) : Int) + (r.length : Int) then 1 else 0 := by
            by_cases hc : ((i + 1 : Nat) : Int) ≤ prim ∧ prim < ((i + 1 : Nat) : Int) + (r.length : Int)
            · rw [if_pos hc, if_pos ⟨by omega, by omega⟩]
            · rw [if_neg hc, if_neg (fun h8 => hc ⟨by omega, by omega⟩)]
          rw [hif]
          omega
      · have e : updS V nl reach prim (s :: r) i h = (s :: (updS V nl reach prim r (i + 1) h).1, (updS V nl reach prim r (i + 1) h).2) := by show (if (i : Int) = prim then _ else if _ then _ else _) = _; rw [if_neg h1, if_neg h2]
        obtain ⟨a1, a2, a3, a4, a5⟩ := updS_spec V nl reach prim r (i + 1) h
        rw [e]
        refine ⟨by simp [a1], fun j t ht => ?_, fun j t ht hj => ?_, a4, fun hk => ?_⟩
        · cases j with
          | zero => exact ⟨s, rfl, .inl (by simpa using ht.symm)⟩
          | succ j =>
            obtain ⟨s', hs', h3⟩ := a2 j t (by simpa using ht)
            refine ⟨s', by simpa using hs', ?_⟩
            rw [show i + (j + 1) = i + 1 + j by omega]
            exact h3
        · cases j with
          | zero => exact absurd (by simpa using hj) h1
          | succ j =>
            have := a3 j t (by simpa using ht) (by rw [show i + 1 + j = i + (j + 1) by omega]; exact hj)
            simpa using this
        · have h3 := a5 (fun j t ht hj => hk (j + 1) t (by simpa using ht) (by rw [show i + (j + 1) = i + 1 + j by omega]; exact hj))
          have hcp : ∀ r1 : List Sv, r1.countP (kle V nl.length) ≤ (s :: r1).countP (kle V nl.length) := fun r1 => by rw [List.countP_cons]; omega
          have hcp := hcp (updS V nl reach prim r (i + 1) h).1
          simp only [List.length_cons]
          have hif : (if (i : Int) ≤ prim ∧ prim < (i : Int) + ((r.length + 1 : Nat) : Int) then (1 : Int) else 0) = if ((i + 1 : Nat) : Int) ≤ prim ∧ prim < ((i + 1 : Nat) : Int) + (r.length : Int) then 1 else 0 := by
            by_cases hc : ((i + 1 : Nat) : Int) ≤ prim ∧ prim < ((i + 1 : Nat) : Int) + (r.length : Int)
            · rw [if_pos hc, if_pos ⟨by omega, by omega⟩]
            · rw [if_neg hc, if_neg (fun h8 => hc ⟨by omega, by omega⟩)]
          rw [hif]
          omega
end Go.Proofs.Ytiapeenfggjpnaa
