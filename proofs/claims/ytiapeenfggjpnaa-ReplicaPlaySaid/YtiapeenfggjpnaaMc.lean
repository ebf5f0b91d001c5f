/- Replicated servers in plain words: Submit and Tick keep what was committed; what a call leads to. -/
import Derived.Test.YtiapeenfggjpnaaMb
set_option linter.unusedVariables false
namespace Go.Proofs.Ytiapeenfggjpnaa
theorem primOf_ge {c : Cv} {p : Sv} (h : primOf c = some p) : 0 ≤ c.primary ∧ c.servers[c.primary.toNat]? = some p := by
  unfold primOf at h
  split at h
  · cases h
  · exact ⟨by omega, h⟩
theorem primOf_of {c : Cv} {p : Sv} (h0 : 0 ≤ c.primary) (h : c.servers[c.primary.toNat]? = some p) : primOf c = some p := by
  unfold primOf
  rw [if_neg (by omega)]
  exact h
/-- the servers that Submit leads to -/
theorem upd_facts {c : Cv} {C : List En} (h : Inv c C) {p : Sv} (hp : primOf c = some p) (nl : List En) (reach : Int) (q : List Sv × Int)
    (hq : q = updS c.view nl reach c.primary (c.servers.set c.primary.toNat ⟨p.up, p.view, nl⟩) 0 1) :
    q.1.length = c.servers.length ∧
    (∀ (j : Nat) (t : Sv), q.1[j]? = some t → ∃ s, c.servers[j]? = some s ∧ ((t.view = s.view ∧ t.log = s.log) ∨ (t.view = c.view ∧ t.log = nl))) ∧
    q.1[c.primary.toNat]? = some ⟨p.up, p.view, nl⟩ ∧
    (majN c.servers.length q.2.toNat = true → c.servers.length < 2 * q.1.countP (kle c.view nl.length)) := by
  subst hq
  obtain ⟨h0, hpa⟩ := primOf_ge hp
  obtain ⟨hup, hpv, hmax⟩ := h.prim p hp
  obtain ⟨hil, hpe⟩ := List.getElem?_eq_some_iff.1 hpa
  have hself : (c.servers.set c.primary.toNat ⟨p.up, p.view, nl⟩)[c.primary.toNat]? = some ⟨p.up, p.view, nl⟩ := List.getElem?_set_self hil
  obtain ⟨a1, a2, a3, a4, a5⟩ := updS_spec c.view nl reach c.primary (c.servers.set c.primary.toNat ⟨p.up, p.view, nl⟩) 0 1
  refine ⟨by rw [a1, List.length_set], fun j t ht => ?_, a3 _ _ hself (by omega), fun hm => ?_⟩
  · obtain ⟨s, hs, h1⟩ := a2 j t ht
    by_cases hj : c.primary.toNat = j
    · subst hj
      rw [hself] at hs
      injection hs with hs
      subst hs
      refine ⟨p, hpa, .inr ?_⟩
      rcases h1 with rfl | ⟨_, rfl⟩
      · exact ⟨hpv, rfl⟩
      · exact ⟨rfl, rfl⟩
    · rw [List.getElem?_set_ne hj] at hs
      refine ⟨s, hs, ?_⟩
      rcases h1 with rfl | ⟨_, rfl⟩
      · exact .inl ⟨rfl, rfl⟩
      · exact .inr ⟨rfl, rfl⟩
  · have h2 := a5 (fun j s hs hj => by
      have : j = c.primary.toNat := by omega
      subst this
      rw [hself] at hs
      injection hs with hs
      subst hs
      rw [kle_iff]
      exact .inr ⟨hpv.symm, Nat.le_refl _⟩)
    rw [if_pos ⟨by omega, by rw [List.length_set]; have := h.p1; omega⟩] at h2
    rw [majN_iff] at hm
    omega
theorem submit_inv {c : Cv} {C : List En} (h : Inv c C) (data : List UInt8) (reach : Int) :
    ∃ C', C <+: C' ∧ Inv (submitC c data reach).1 C' ∧ ((submitC c data reach).2.2 = 0 → ∃ p, primOf c = some p ∧ (submitC c data reach).2.1 = p.log.length ∧ C' = p.log ++ [⟨c.view, data⟩]) := by
  unfold submitC
  cases hp : primOf c with
  | none => exact ⟨C, List.prefix_rfl, h, fun e => absurd (show (24 : Int) = 0 from e) (by decide)⟩
  | some p =>
    dsimp only
    by_cases h1 : majN c.servers.length (countUp c.servers) = false
    · rw [if_pos h1]
      exact ⟨C, List.prefix_rfl, h, fun e => absurd (show (24 : Int) = 0 from e) (by decide)⟩
    rw [if_neg h1]
    by_cases h2 : 8198 < data.length ∨ 4096 ≤ p.log.length
    · rw [if_pos h2]
      exact ⟨C, List.prefix_rfl, h, fun e => absurd (show (3 : Int) = 0 from e) (by decide)⟩
    rw [if_neg h2]
    obtain ⟨nl, hnl⟩ : ∃ nl, nl = p.log ++ [(⟨c.view, data⟩ : En)] := ⟨_, rfl⟩
    rw [← hnl]
    obtain ⟨q, hq⟩ : ∃ q, q = updS c.view nl reach c.primary (c.servers.set c.primary.toNat ⟨p.up, p.view, nl⟩) 0 1 := ⟨_, rfl⟩
    rw [← hq]
    obtain ⟨b1, b2, b3, b4⟩ := upd_facts h hp nl reach q hq
    obtain ⟨hup, hpv, hmax⟩ := h.prim p hp
    obtain ⟨h0, hpa⟩ := primOf_ge hp
    have hpre : p.log <+: nl := by rw [hnl]; exact List.prefix_append _ _
    obtain ⟨c1, c2, c3⟩ := h.bring c.view p.log nl q.1 c.primary (.inl ⟨rfl, p, primOf_mem hp, hpv, rfl, hmax⟩) hpre b1 b2 h.p0 h.p1 (fun x hx => by
      obtain ⟨_, hx⟩ := primOf_ge hx
      have hx : q.1[c.primary.toNat]? = some x := hx
      rw [b3] at hx
      injection hx with hx
      subst hx
      exact ⟨hup, hpv, rfl⟩)
    by_cases h3 : majN c.servers.length q.2.toNat = true
    · rw [if_pos h3]
      exact ⟨nl, c1.trans hpre, c3 (b4 h3), fun _ => ⟨p, rfl, rfl, hnl⟩⟩
    · rw [if_neg h3]
      refine ⟨C, List.prefix_rfl, ?_, fun e => absurd (show (18 : Int) = 0 from e) (by decide)⟩
      exact c2.flags (q.1.set c.primary.toNat ⟨false, p.view, nl⟩) (-1) (by rw [List.length_set]) (set_flags q.1 _ false ⟨p.up, p.view, nl⟩ b3) (.inl rfl)
theorem bringS_at (V : Int) (L : List En) (l : List Sv) (j : Nat) (t : Sv) (ht : (bringS V L l)[j]? = some t) : ∃ s, l[j]? = some s ∧ t = if s.up then ⟨true, V, L⟩ else s := by
  unfold bringS at ht
  rw [List.getElem?_map, Option.map_eq_some_iff] at ht
  obtain ⟨s, hs, rfl⟩ := ht
  exact ⟨s, hs, rfl⟩
theorem elected_prim {c : Cv} {p : Sv} (hp : primOf (elected c) = some p) (h : c.primary < 0) : ∃ j, greatS (·.up) c.servers = some (j, p) ∧ elected c = ⟨j, c.view + 1, c.commit, c.servers⟩ := by
  unfold elected at *
  rw [if_pos h] at *
  cases hg : greatS (·.up) c.servers with
  | none =>
    rw [hg] at hp
    unfold primOf at hp
    rw [if_pos (by show (-1 : Int) < 0; decide)] at hp
    cases hp
  | some q =>
    rw [hg] at hp
    obtain ⟨_, hp⟩ := primOf_ge hp
    have hp : c.servers[((q.1 : Nat) : Int).toNat]? = some p := hp
    rw [Int.toNat_natCast, (great_some hg).1] at hp
    injection hp with hp
    exact ⟨q.1, by rw [← hp], rfl⟩
/-- what Tick leads to, where it does something -/
theorem tick_full {c : Cv} {C : List En} (h : Inv c C) (hm : majN c.servers.length (countUp c.servers) = true) (hv : 0 ≤ c.primary ∨ c.view < 2147483647) :
    ∃ p, p ∈ c.servers ∧ p.up = true ∧ primOf (tickC c) = some ⟨true, (tickC c).view, p.log⟩ ∧ C <+: p.log ∧ Inv (tickC c) p.log ∧ (tickC c).servers = bringS (tickC c).view p.log c.servers ∧ ((tickC c).view = c.view ∨ (tickC c).view = c.view + 1 ∧ c.view < 2147483647) := by
  have key : ∀ (V pr' : Int) (p : Sv), (tickC c = ⟨pr', V, p.log.length, bringS V p.log c.servers⟩) → 0 ≤ pr' → c.servers[pr'.toNat]? = some p → p.up = true → (V = c.view ∨ V = c.view + 1 ∧ c.view < 2147483647) →
      ((V = c.view ∧ ∃ p' ∈ c.servers, p'.view = c.view ∧ p'.log = p.log ∧ ∀ t ∈ c.servers, t.view = c.view → t.log.length ≤ p.log.length) ∨ (V = c.view + 1 ∧ ∃ p' ∈ c.servers, p'.log = p.log ∧ c.servers.length < 2 * c.servers.countP (fun s => kle s.view s.log.length p'))) →
      ∃ p, p ∈ c.servers ∧ p.up = true ∧ primOf (tickC c) = some ⟨true, (tickC c).view, p.log⟩ ∧ C <+: p.log ∧ Inv (tickC c) p.log ∧ (tickC c).servers = bringS (tickC c).view p.log c.servers ∧ ((tickC c).view = c.view ∨ (tickC c).view = c.view + 1 ∧ c.view < 2147483647) := by
    intro V pr' p he h0 hpa hup hVV hV
    obtain ⟨hil, -⟩ := List.getElem?_eq_some_iff.1 hpa
    have hbp : (bringS V p.log c.servers)[pr'.toNat]? = some ⟨true, V, p.log⟩ := by
      unfold bringS
      rw [List.getElem?_map, hpa]
      show some (if p.up = true then _ else _) = _
      rw [if_pos hup]
    obtain ⟨c1, c2, c3⟩ := h.bring V p.log p.log (bringS V p.log c.servers) pr' hV List.prefix_rfl (by unfold bringS; rw [List.length_map]) (fun j t ht => by
      obtain ⟨s, hs, rfl⟩ := bringS_at _ _ _ _ _ ht
      refine ⟨s, hs, ?_⟩
      split
      · exact .inr ⟨rfl, rfl⟩
      · exact .inl ⟨rfl, rfl⟩) (by omega) (by omega) (fun x hx => by
      obtain ⟨_, hx⟩ := primOf_ge hx
      have hx : (bringS V p.log c.servers)[pr'.toNat]? = some x := hx
      rw [hbp] at hx
      injection hx with hx
      subst hx
      exact ⟨rfl, rfl, rfl⟩)
    have hc := countP_mono (·.up) (kle V p.log.length) c.servers (bringS V p.log c.servers) (by unfold bringS; rw [List.length_map]) (fun j s t hs ht hu => by
      obtain ⟨s', hs', rfl⟩ := bringS_at _ _ _ _ _ ht
      rw [hs] at hs'
      injection hs' with hs'
      subst hs'
      rw [if_pos hu, kle_iff]
      exact .inr ⟨rfl, Nat.le_refl _⟩)
    have hm' := (majN_iff _ _).1 hm
    unfold countUp at hm'
    rw [he]
    exact ⟨p, List.mem_of_getElem? hpa, hup, primOf_of h0 hbp, c1, c3 (by omega), rfl, hVV⟩
  have hcond : ¬ (majN c.servers.length (countUp c.servers) = false ∨ (c.primary < 0 ∧ 2147483647 ≤ c.view)) := by
    rw [hm]
    rintro (h1 | ⟨h1, h2⟩)
    · cases h1
    · omega
  have hm' := (majN_iff _ _).1 hm
  unfold countUp at hm'
  by_cases hneg : c.primary < 0
  · have hvw : c.view < 2147483647 := by omega
    have hpos : 0 < c.servers.countP (·.up) := by omega
    obtain ⟨u, hu, huu⟩ := List.countP_pos_iff.1 hpos
    obtain ⟨q, hq, -⟩ := great_max (p := (·.up)) hu huu
    obtain ⟨q1, q2⟩ := great_some hq
    have hel : elected c = ⟨q.1, c.view + 1, c.commit, c.servers⟩ := by
      unfold elected
      rw [if_pos hneg, hq]
      rfl
    have hpo : primOf (elected c) = some q.2 := by
      rw [hel]
      exact primOf_of (by show (0 : Int) ≤ q.1; omega) (by show c.servers[((q.1 : Nat) : Int).toNat]? = _; rw [Int.toNat_natCast]; exact q1)
    refine key (c.view + 1) (q.1 : Nat) q.2 ?_ (Int.natCast_nonneg _) (by rw [Int.toNat_natCast]; exact q1) q2 (.inr ⟨rfl, hvw⟩) (.inr ⟨rfl, q.2, List.mem_of_getElem? q1, rfl, ?_⟩)
    · unfold tickC
      rw [if_neg hcond, hpo, hel]
    · have := countP_mono (·.up) (fun s => kle s.view s.log.length q.2) c.servers c.servers rfl (fun j s t hs ht hus => by
        rw [hs] at ht
        injection ht with ht
        subst ht
        obtain ⟨q', hq', hk⟩ := great_max (p := (·.up)) (List.mem_of_getElem? hs) hus
        rw [hq] at hq'
        injection hq' with hq'
        subst hq'
        exact hk)
      omega
  · have hel : elected c = c := by unfold elected; rw [if_neg hneg]
    have h1 := h.p1
    have hil : c.primary.toNat < c.servers.length := by omega
    have hpo : primOf c = some c.servers[c.primary.toNat] := primOf_of (by omega) (List.getElem?_eq_getElem hil)
    obtain ⟨hup, hpv, hmax⟩ := h.prim _ hpo
    refine key c.view c.primary _ ?_ (by omega) (List.getElem?_eq_getElem hil) hup (.inl rfl) (.inl ⟨rfl, _, primOf_mem hpo, hpv, rfl, hmax⟩)
    unfold tickC
    rw [if_neg hcond, hel, hpo]
theorem tick_inv {c : Cv} {C : List En} (h : Inv c C) : ∃ C', C <+: C' ∧ Inv (tickC c) C' := by
  by_cases hm : majN c.servers.length (countUp c.servers) = true
  · by_cases hv : 0 ≤ c.primary ∨ c.view < 2147483647
    · obtain ⟨p, -, -, -, h1, h2, -⟩ := tick_full h hm hv
      exact ⟨_, h1, h2⟩
    · refine ⟨C, List.prefix_rfl, ?_⟩
      unfold tickC
      rw [if_pos (.inr (by omega))]
      exact h
  · refine ⟨C, List.prefix_rfl, ?_⟩
    unfold tickC
    rw [if_pos (.inl (by simpa using hm))]
    exact h
/-- what is committed is what the invariant says -/
theorem committed_eq {c : Cv} {C : List En} (h : Inv c C) : committedC c = C.map (·.d) ∧ C.length ≤ (bestLog c).length ∧ C <+: bestLog c := by
  obtain ⟨w, hw, hq, hC⟩ := h.q
  obtain ⟨s, hs, hks, -⟩ := quorum_meet hq hq
  obtain ⟨q, hg, hk⟩ := great_max (p := fun _ => true) hs rfl
  have hpre : C <+: bestLog c := by
    unfold bestLog
    rw [hg]
    exact hC _ (List.mem_of_getElem? (great_some hg).1) (kle_trans hks hk)
  refine ⟨?_, hpre.length_le, hpre⟩
  unfold committedC
  have := h.com
  rw [show c.commit.toNat = C.length by omega, ← List.prefix_iff_eq_take.1 hpre]
/-- a call -/
structure Oc where
  kind : Int
  n : Int
  d : List UInt8
def callC (c : Cv) (x : Oc) : Cv × Int × Int :=
  if x.kind = 1 then submitC c x.d x.n else if x.kind = 2 then ((crashC c x.n).1, 0, (crashC c x.n).2) else if x.kind = 3 then ((restartC c x.n).1, 0, (restartC c x.n).2) else if x.kind = 4 then (tickC c, 0, 0) else (c, 0, 0)
theorem call_inv {c : Cv} {C : List En} (h : Inv c C) (x : Oc) :
    ∃ C', C <+: C' ∧ Inv (callC c x).1 C' ∧ (x.kind = 1 → (callC c x).2.2 = 0 → ∃ p, primOf c = some p ∧ (callC c x).2.1 = p.log.length ∧ C' = p.log ++ [⟨c.view, x.d⟩]) := by
  unfold callC
  by_cases h1 : x.kind = 1
  · rw [if_pos h1]
    obtain ⟨C', a, b, e⟩ := submit_inv h x.d x.n
    exact ⟨C', a, b, fun _ => e⟩
  rw [if_neg h1]
  by_cases h2 : x.kind = 2
  · rw [if_pos h2]
    exact ⟨C, List.prefix_rfl, crash_inv h _, fun e => absurd e h1⟩
  rw [if_neg h2]
  by_cases h3 : x.kind = 3
  · rw [if_pos h3]
    exact ⟨C, List.prefix_rfl, restart_inv h _, fun e => absurd e h1⟩
  rw [if_neg h3]
  by_cases h4 : x.kind = 4
  · rw [if_pos h4]
    obtain ⟨C', a, b⟩ := tick_inv h
    exact ⟨C', a, b, fun e => absurd e h1⟩
  rw [if_neg h4]
  exact ⟨C, List.prefix_rfl, h, fun e => absurd e h1⟩
end Go.Proofs.Ytiapeenfggjpnaa
