/- Replicated servers in plain words: where logs come from; clusters that are made by calls are valid; data that is submitted once is committed once; a majority serves. -/
import Derived.Test.YtiapeenfggjpnaaMc
set_option linter.unusedVariables false
namespace Go.Proofs.Ytiapeenfggjpnaa
/-- c' comes from c by a call with the data d -/
structure From (c : Cv) (d : List UInt8) (c' : Cv) : Prop where
  len : c'.servers.length = c.servers.length
  view : c'.view = c.view ∨ (c'.view = c.view + 1 ∧ c.view < 2147483647)
  all : ∀ t ∈ c'.servers, (∃ s ∈ c.servers, t.view = s.view ∧ t.log = s.log) ∨ (∃ s ∈ c.servers, t.view = c'.view ∧ t.log = s.log) ∨ (∃ p ∈ c.servers, p.view = c.view ∧ t.view = c.view ∧ t.log = p.log ++ [⟨c.view, d⟩] ∧ d.length ≤ 8198 ∧ p.log.length < 4096)
theorem From.refl (c : Cv) (d : List UInt8) : From c d c := ⟨rfl, .inl rfl, fun t ht => .inl ⟨t, ht, rfl, rfl⟩⟩
theorem from_idx {c c' : Cv} {d : List UInt8} (hl : c'.servers.length = c.servers.length) (hv : c'.view = c.view)
    (h : ∀ (j : Nat) (t : Sv), c'.servers[j]? = some t → ∃ s, c.servers[j]? = some s ∧ t.view = s.view ∧ t.log = s.log) : From c d c' :=
  ⟨hl, .inl hv, fun t ht => by
    obtain ⟨j, hj, rfl⟩ := List.getElem_of_mem ht
    obtain ⟨s, hs, h1⟩ := h j _ (List.getElem?_eq_getElem hj)
    exact .inl ⟨s, List.mem_of_getElem? hs, h1⟩⟩
theorem crash_from (c : Cv) (i : Int) (d : List UInt8) : From c d (crashC c i).1 := by
  unfold crashC
  split
  · exact .refl _ _
  · split
    · exact .refl _ _
    · rename_i s hs
      split
      · exact .refl _ _
      · rw [setUp_at _ _ _ _ hs]
        exact from_idx (by show (c.servers.set _ _).length = _; rw [List.length_set]) rfl (set_flags _ _ _ _ hs)
theorem restart_from (c : Cv) (i : Int) (d : List UInt8) : From c d (restartC c i).1 := by
  unfold restartC
  split
  · exact .refl _ _
  · split
    · exact .refl _ _
    · rename_i s hs
      split
      · exact .refl _ _
      · rw [setUp_at _ _ _ _ hs]
        exact from_idx (by show (c.servers.set _ _).length = _; rw [List.length_set]) rfl (set_flags _ _ _ _ hs)
theorem submit_from {c : Cv} {C : List En} (h : Inv c C) (data : List UInt8) (reach : Int) : From c data (submitC c data reach).1 := by
  unfold submitC
  cases hp : primOf c with
  | none => exact .refl _ _
  | some p =>
    dsimp only
    by_cases h1 : majN c.servers.length (countUp c.servers) = false
    · rw [if_pos h1]; exact .refl _ _
    rw [if_neg h1]
    by_cases h2 : 8198 < data.length ∨ 4096 ≤ p.log.length
    · rw [if_pos h2]; exact .refl _ _
    rw [if_neg h2]
    obtain ⟨nl, hnl⟩ : ∃ nl, nl = p.log ++ [(⟨c.view, data⟩ : En)] := ⟨_, rfl⟩
    rw [← hnl]
    obtain ⟨q, hq⟩ : ∃ q, q = updS c.view nl reach c.primary (c.servers.set c.primary.toNat ⟨p.up, p.view, nl⟩) 0 1 := ⟨_, rfl⟩
    rw [← hq]
    obtain ⟨b1, b2, b3, b4⟩ := upd_facts h hp nl reach q hq
    obtain ⟨hup, hpv, hmax⟩ := h.prim p hp
    have key : ∀ (j : Nat) (t : Sv), q.1[j]? = some t → (∃ s ∈ c.servers, t.view = s.view ∧ t.log = s.log) ∨ (∃ p ∈ c.servers, p.view = c.view ∧ t.view = c.view ∧ t.log = p.log ++ [⟨c.view, data⟩] ∧ data.length ≤ 8198 ∧ p.log.length < 4096) := by
      intro j t ht
      obtain ⟨s, hs, h3⟩ := b2 j t ht
      rcases h3 with h3 | ⟨h3, h4⟩
      · exact .inl ⟨s, List.mem_of_getElem? hs, h3⟩
      · exact .inr ⟨p, primOf_mem hp, hpv, h3, by rw [h4, hnl], by omega, by omega⟩
    by_cases h3 : majN c.servers.length q.2.toNat = true
    · rw [if_pos h3]
      refine ⟨b1, .inl rfl, fun t ht => ?_⟩
      obtain ⟨j, hj, rfl⟩ := List.getElem_of_mem ht
      rcases key j _ (List.getElem?_eq_getElem hj) with h4 | h4
      · exact .inl h4
      · exact .inr (.inr h4)
    · rw [if_neg h3]
      refine ⟨by show (q.1.set _ _).length = _; rw [List.length_set]; exact b1, .inl rfl, fun t ht => ?_⟩
      obtain ⟨j, hj, rfl⟩ := List.getElem_of_mem ht
      obtain ⟨s, hs, e1, e2⟩ := set_flags q.1 _ false ⟨p.up, p.view, nl⟩ b3 j _ (List.getElem?_eq_getElem hj)
      rcases key j _ hs with ⟨s0, h4, h5, h6⟩ | ⟨p0, h4, h5, h6, h7, h8⟩
      · exact .inl ⟨s0, h4, e1.trans h5, e2.trans h6⟩
      · exact .inr (.inr ⟨p0, h4, h5, e1.trans h6, e2.trans h7, h8⟩)
theorem tick_from {c : Cv} {C : List En} (h : Inv c C) (d : List UInt8) : From c d (tickC c) := by
  by_cases hm : majN c.servers.length (countUp c.servers) = true
  · by_cases hv : 0 ≤ c.primary ∨ c.view < 2147483647
    · obtain ⟨p, hp, -, -, -, -, h1, h2⟩ := tick_full h hm hv
      refine ⟨by rw [h1]; unfold bringS; rw [List.length_map], h2, fun t ht => ?_⟩
      rw [h1] at ht
      obtain ⟨j, hj, rfl⟩ := List.getElem_of_mem ht
      obtain ⟨s, hs, e⟩ := bringS_at _ _ _ _ _ (List.getElem?_eq_getElem hj)
      rw [e]
      by_cases hu : s.up = true
      · rw [if_pos hu]
        exact .inr (.inl ⟨p, hp, rfl, rfl⟩)
      · rw [if_neg hu]
        exact .inl ⟨s, List.mem_of_getElem? hs, rfl, rfl⟩
    · rw [show tickC c = c by unfold tickC; rw [if_pos (.inr (by omega))]]
      exact .refl _ _
  · rw [show tickC c = c by unfold tickC; rw [if_pos (.inl (by simpa using hm))]]
    exact .refl _ _
theorem call_from {c : Cv} {C : List En} (h : Inv c C) (x : Oc) : From c x.d (callC c x).1 := by
  unfold callC
  by_cases h1 : x.kind = 1
  · rw [if_pos h1]; exact submit_from h _ _
  rw [if_neg h1]
  by_cases h2 : x.kind = 2
  · rw [if_pos h2]; exact crash_from _ _ _
  rw [if_neg h2]
  by_cases h3 : x.kind = 3
  · rw [if_pos h3]; exact restart_from _ _ _
  rw [if_neg h3]
  by_cases h4 : x.kind = 4
  · rw [if_pos h4]; exact tick_from h _
  rw [if_neg h4]
  exact .refl _ _
theorem entE_zero {V : Int} {b : Bool} {p : Int} {x : En} : entE V b p x = 0 ↔ 1 ≤ x.view ∧ x.view ≤ V ∧ ¬ (b = true ∧ x.view < p) ∧ x.d.length ≤ 8198 := by
  unfold entE
  by_cases h1 : x.view < 1 ∨ V < x.view
  · rw [if_pos h1]
    exact ⟨fun e => absurd e (by decide), fun ⟨a, b, _⟩ => by omega⟩
  rw [if_neg h1]
  by_cases h2 : b = true ∧ x.view < p
  · rw [if_pos h2]
    exact ⟨fun e => absurd e (by decide), fun ⟨_, _, a, _⟩ => absurd h2 a⟩
  rw [if_neg h2]
  by_cases h3 : 8198 < x.d.length
  · rw [if_pos h3]
    exact ⟨fun e => absurd e (by decide), fun ⟨_, _, _, a⟩ => by omega⟩
  rw [if_neg h3]
  exact ⟨fun _ => ⟨by omega, by omega, h2, by omega⟩, fun _ => rfl⟩
theorem logE_cons {V : Int} {x : En} {r : List En} {b : Bool} {p : Int} : logE V (x :: r) b p = 0 ↔ entE V b p x = 0 ∧ logE V r true x.view = 0 := by
  show (if entE V b p x ≠ 0 then entE V b p x else logE V r true x.view) = 0 ↔ _
  split
  · rename_i h
    exact ⟨fun e => absurd e h, fun ⟨e, _⟩ => absurd e h⟩
  · rename_i h
    exact ⟨fun e => ⟨Classical.not_not.1 h, e⟩, fun e => e.2⟩
theorem logE_mono {V V' : Int} (hv : V ≤ V') : ∀ (l : List En) (b : Bool) (p : Int), logE V l b p = 0 → logE V' l b p = 0
  | [], _, _, _ => rfl
  | x :: r, b, p, h => by
    rw [logE_cons, entE_zero] at *
    exact ⟨⟨h.1.1, by omega, h.1.2.2⟩, logE_mono hv r _ _ h.2⟩
theorem logE_append {V : Int} {e : En} (he : e.view = V) (h1 : 1 ≤ V) (hd : e.d.length ≤ 8198) : ∀ (l : List En) (b : Bool) (p : Int), (b = true → p ≤ V) → logE V l b p = 0 → logE V (l ++ [e]) b p = 0
  | [], b, p, hb, h => by
    rw [List.nil_append, logE_cons, entE_zero]
    exact ⟨⟨by omega, by omega, fun ⟨h2, h3⟩ => by have := hb h2; omega, hd⟩, rfl⟩
  | x :: r, b, p, hb, h => by
    rw [List.cons_append, logE_cons] at *
    have h2 := entE_zero.1 h.1
    exact ⟨h.1, logE_append he h1 hd r _ _ (fun _ => h2.2.1) h.2⟩
def lenD (l : List En) : Nat := (l.map (·.d.length)).sum
theorem lenD_append (l : List En) (e : En) : lenD (l ++ [e]) = lenD l + e.d.length := by unfold lenD; simp
/-- clusters that are made by at most m calls -/
structure Good (m : Nat) (c : Cv) : Prop where
  v2 : c.view ≤ 2147483647
  all : ∀ s ∈ c.servers, logE s.view s.log false 0 = 0 ∧ s.log.length ≤ 4096 ∧ s.log.length ≤ m ∧ lenD s.log ≤ 8198 * m
theorem newC_good (n : Nat) : Good 0 (newC n) := by
  refine ⟨by show (1 : Int) ≤ _; decide, fun s hs => ?_⟩
  rw [(List.mem_replicate.1 hs).2]
  exact ⟨rfl, by decide, Nat.le_refl _, Nat.le_refl _⟩
theorem Good.step {m : Nat} {c c' : Cv} {C : List En} {d : List UInt8} (h : Good m c) (hi : Inv c C) (hf : From c d c') : Good (m + 1) c' := by
  have hv := h.v2
  refine ⟨by rcases hf.view with h1 | ⟨h1, h2⟩ <;> omega, fun t ht => ?_⟩
  rcases hf.all t ht with ⟨s, hs, e1, e2⟩ | ⟨s, hs, e1, e2⟩ | ⟨p, hp, e0, e1, e2, e3, e4⟩
  · obtain ⟨a1, a2, a3, a4⟩ := h.all s hs
    rw [e1, e2]
    exact ⟨a1, a2, by omega, by omega⟩
  · obtain ⟨a1, a2, a3, a4⟩ := h.all s hs
    rw [e1, e2]
    refine ⟨logE_mono ?_ _ _ _ a1, a2, by omega, by omega⟩
    have := (hi.sv s hs).2
    rcases hf.view with h1 | ⟨h1, _⟩ <;> omega
  · obtain ⟨a1, a2, a3, a4⟩ := h.all p hp
    rw [e1, e2, lenD_append, List.length_append]
    refine ⟨logE_append (V := c.view) (e := ⟨c.view, d⟩) rfl hi.v1 e3 p.log false 0 (fun h => by cases h) ?_, by show _ + 1 ≤ _; omega, by show _ + 1 ≤ _; omega, by show lenD p.log + d.length ≤ _; omega⟩
    rw [← e0]
    exact a1
theorem serversE_zero {V : Int} : ∀ {l : List Sv}, (∀ s ∈ l, serverE V s = 0) → serversE V l = 0
  | [], _ => rfl
  | s :: r, h => by
    show (if serverE V s ≠ 0 then _ else _) = (0 : Int)
    rw [if_neg (fun e => e (h s List.mem_cons_self))]
    exact serversE_zero fun t ht => h t (List.mem_cons_of_mem _ ht)
theorem valid_of {m : Nat} {c : Cv} {C : List En} (h : Inv c C) (hg : Good m c) : validC c = 0 := by
  unfold validC
  have h1 : headE c = false := by
    unfold headE
    have := h.n1; have := h.n7; have := h.p0; have := h.p1; have := h.v1; have := hg.v2
    simp only [Bool.or_eq_false_iff, decide_eq_false_iff_not]
    omega
  rw [h1, if_neg (by decide)]
  have h2 : serversE c.view c.servers = 0 := serversE_zero fun s hs => by
    have a1 := h.sv s hs
    obtain ⟨a2, a3, -⟩ := hg.all s hs
    unfold serverE
    rw [if_neg (by omega), if_neg (by omega)]
    exact a2
  rw [h2, if_neg (by decide)]
  have h3 : primE c = false := by
    unfold primE
    cases hp : primOf c with
    | none => rfl
    | some p =>
      obtain ⟨a1, a2, a3⟩ := h.prim p hp
      simp only [a1, a2, Bool.not_true, Bool.false_or, ne_eq, not_true_eq_false, decide_false]
      rw [List.any_eq_false]
      intro s hs
      simp only [Bool.and_eq_true, decide_eq_true_eq, not_and]
      intro e
      have := a3 s hs e
      omega
  rw [h3, if_neg (by decide)]
  have h4 := (committed_eq h).2.1
  have h5 := h.com
  rw [if_neg (by omega)]
theorem mem_best (c : Cv) : bestLog c = [] ∨ ∃ s ∈ c.servers, bestLog c = s.log := by
  unfold bestLog
  cases hg : greatS (fun _ => true) c.servers with
  | none => exact .inl rfl
  | some q => exact .inr ⟨q.2, List.mem_of_getElem? (great_some hg).1, rfl⟩
/-- every log holds each datum once; the data are the numbers of the calls -/
structure Once (m : Nat) (c : Cv) : Prop where
  all : ∀ s ∈ c.servers, (s.log.map (·.d)).Nodup ∧ ∀ e ∈ s.log, ∃ i, i < m ∧ e.d = [UInt8.ofNat i]
theorem newC_once (n : Int) : Once 0 (newC n) := by
  refine ⟨fun s hs => ?_⟩
  rw [(List.mem_replicate.1 hs).2]
  exact ⟨List.nodup_nil, fun e he => by cases he⟩
theorem Once.step {m : Nat} {c c' : Cv} (h : Once m c) (hm : m < 256) (hf : From c [UInt8.ofNat m] c') : Once (m + 1) c' := by
  refine ⟨fun t ht => ?_⟩
  have up : ∀ s ∈ c.servers, (s.log.map (·.d)).Nodup ∧ ∀ e ∈ s.log, ∃ i, i < m + 1 ∧ e.d = [UInt8.ofNat i] := fun s hs => ⟨(h.all s hs).1, fun e he => by
    obtain ⟨i, hi, e1⟩ := (h.all s hs).2 e he
    exact ⟨i, by omega, e1⟩⟩
  rcases hf.all t ht with ⟨s, hs, e1, e2⟩ | ⟨s, hs, e1, e2⟩ | ⟨p, hp, e0, e1, e2, e3, e4⟩
  · rw [e2]; exact up s hs
  · rw [e2]; exact up s hs
  · rw [e2]
    refine ⟨?_, fun e he => ?_⟩
    · rw [List.map_append, List.nodup_append]
      refine ⟨(h.all p hp).1, by simp, fun a ha b hb e => ?_⟩
      obtain ⟨x, hx, rfl⟩ := List.mem_map.1 ha
      obtain ⟨i, hi, e5⟩ := (h.all p hp).2 x hx
      have hb : b = [UInt8.ofNat m] := by simpa using hb
      have e6 : [UInt8.ofNat i] = [UInt8.ofNat m] := by rw [← e5, ← hb, ← e]
      injection e6 with e6 _
      have e7 := congrArg UInt8.toNat e6
      rw [UInt8.toNat_ofNat', UInt8.toNat_ofNat'] at e7
      omega
    · rcases List.mem_append.1 he with he | he
      · exact (up p hp).2 e he
      · have : e = ⟨c.view, [UInt8.ofNat m]⟩ := by simpa using he
        rw [this]
        exact ⟨m, by omega, rfl⟩
theorem once_com {m : Nat} {c : Cv} {C : List En} (h : Inv c C) (ho : Once m c) : (C.map (·.d)).Nodup ∧ ∀ d ∈ C.map (·.d), ∃ i, i < m ∧ d = [UInt8.ofNat i] := by
  have hp := (committed_eq h).2.2
  have : ∃ l : List En, C <+: l ∧ (l.map (·.d)).Nodup ∧ ∀ e ∈ l, ∃ i, i < m ∧ e.d = [UInt8.ofNat i] := by
    rcases mem_best c with e | ⟨s, hs, e⟩
    · rw [e] at hp
      exact ⟨_, hp, List.nodup_nil, fun e he => by cases he⟩
    · rw [e] at hp
      exact ⟨_, hp, ho.all s hs⟩
  obtain ⟨l, h1, h2, h3⟩ := this
  refine ⟨(h1.sublist.map _).nodup h2, fun d hd => ?_⟩
  obtain ⟨e, he, rfl⟩ := List.mem_map.1 hd
  exact h3 e (h1.subset he)
/-- with no bound, Submit reaches every server that is up -/
theorem updS_all (V : Int) (nl : List En) (reach prim : Int) (hr : reach < 1) : ∀ (l : List Sv) (i : Nat) (h : Int),
    h + (l.countP (·.up) : Nat) ≤ (updS V nl reach prim l i h).2 + (if (i : Int) ≤ prim ∧ prim < i + l.length then 1 else 0)
  | [], i, h => by
    rw [if_neg (by simp only [List.length_nil]; omega)]
    show h + ((0 : Nat) : Int) ≤ h + 0
    omega
  | s :: r, i, h => by
    rw [List.countP_cons]
    by_cases h1 : (i : Int) = prim
    · have e : updS V nl reach prim (s :: r) i h = (s :: (updS V nl reach prim r (i + 1) h).1, (updS V nl reach prim r (i + 1) h).2) := by show (if (i : Int) = prim then _ else _) = _; rw [if_pos h1]
      have h2 := updS_all V nl reach prim hr r (i + 1) h
      rw [if_neg (by omega)] at h2
      have h3 : (if (i : Int) ≤ prim ∧ prim < i + (s :: r).length then (1 : Int) else 0) = 1 := if_pos ⟨by omega, by simp only [List.length_cons]; omega⟩
      rw [e, h3]
      have : (if s.up = true then 1 else 0) ≤ 1 := by split <;> omega
      show h + ((r.countP (·.up) + (if s.up = true then 1 else 0) : Nat) : Int) ≤ (updS V nl reach prim r (i + 1) h).2 + 1
      omega
    · have hif : (if ((i + 1 : Nat) : Int) ≤ prim ∧ prim < (i + 1 : Nat) + r.length then (1 : Int) else 0) = (if (i : Int) ≤ prim ∧ prim < i + (s :: r).length then (1 : Int) else 0) := by
        simp only [List.length_cons]
        by_cases h2 : (i : Int) ≤ prim ∧ prim < i + (r.length + 1 : Nat)
        · rw [if_pos h2, if_pos (by omega)]
        · rw [if_neg h2, if_neg (by omega)]
      by_cases h2 : s.up = true
      · have e : updS V nl reach prim (s :: r) i h = (⟨s.up, V, nl⟩ :: (updS V nl reach prim r (i + 1) (h + 1)).1, (updS V nl reach prim r (i + 1) (h + 1)).2) := by show (if (i : Int) = prim then _ else if _ then _ else _) = _; rw [if_neg h1, if_pos ⟨h2, .inl hr⟩]
        have h3 := updS_all V nl reach prim hr r (i + 1) (h + 1)
        rw [hif] at h3
        rw [e, if_pos h2]
        show h + ((_ + 1 : Nat) : Int) ≤ (updS V nl reach prim r (i + 1) (h + 1)).2 + _
        omega
      · have e : updS V nl reach prim (s :: r) i h = (s :: (updS V nl reach prim r (i + 1) h).1, (updS V nl reach prim r (i + 1) h).2) := by show (if (i : Int) = prim then _ else if _ then _ else _) = _; rw [if_neg h1, if_neg (fun e => h2 e.1)]
        have h3 := updS_all V nl reach prim hr r (i + 1) h
        rw [hif] at h3
        rw [e, if_neg h2]
        show h + ((_ + 0 : Nat) : Int) ≤ (updS V nl reach prim r (i + 1) h).2 + _
        omega
theorem submit_no {c : Cv} (hm : majN c.servers.length (countUp c.servers) = false) (data : List UInt8) (reach : Int) : (submitC c data reach).2.2 = 24 := by
  unfold submitC
  cases hp : primOf c with
  | none => rfl
  | some p =>
    dsimp only
    rw [if_pos hm]
theorem tick_still {c : Cv} (hm : majN c.servers.length (countUp c.servers) = false) : tickC c = c := by
  unfold tickC
  rw [if_pos (.inl hm)]
theorem submit_yes {c : Cv} {C : List En} (h : Inv c C) (hm : majN c.servers.length (countUp c.servers) = true) {p : Sv} (hp : primOf c = some p) (data : List UInt8) (hd : data.length ≤ 8198) (hl : p.log.length < 4096) :
    (submitC c data 0).2.2 = 0 ∧ (submitC c data 0).2.1 = p.log.length ∧ Inv (submitC c data 0).1 (p.log ++ [⟨c.view, data⟩]) := by
  obtain ⟨C', -, h1, h2⟩ := submit_inv h data 0
  have h3 : (submitC c data 0).2.2 = 0 := by
    unfold submitC
    rw [hp]
    dsimp only
    rw [if_neg (by rw [hm]; decide), if_neg (by omega)]
    obtain ⟨nl, hnl⟩ : ∃ nl, nl = p.log ++ [(⟨c.view, data⟩ : En)] := ⟨_, rfl⟩
    rw [← hnl]
    obtain ⟨h0, hpa⟩ := primOf_ge hp
    obtain ⟨hil, hpe⟩ := List.getElem?_eq_some_iff.1 hpa
    have h4 := updS_all c.view nl 0 c.primary (by decide) (c.servers.set c.primary.toNat ⟨p.up, p.view, nl⟩) 0 1
    rw [if_pos ⟨by omega, by rw [List.length_set]; have := h.p1; omega⟩] at h4
    have h5 := countP_mono (·.up) (·.up) c.servers (c.servers.set c.primary.toNat ⟨p.up, p.view, nl⟩) (by rw [List.length_set]) (fun j s t hs ht hu => by
      by_cases hj : c.primary.toNat = j
      · subst hj
        rw [List.getElem?_set_self hil] at ht
        injection ht with ht
        subst ht
        rw [hpa] at hs
        injection hs with hs
        subst hs
        exact hu
      · rw [List.getElem?_set_ne hj, hs] at ht
        injection ht with ht
        subst ht
        exact hu)
    have h6 := (majN_iff _ _).1 hm
    unfold countUp at h6
    rw [if_pos ((majN_iff _ _).2 (by omega))]
  obtain ⟨p', e1, e2, e3⟩ := h2 h3
  rw [hp] at e1
  injection e1 with e1
  subst e1
  exact ⟨h3, e2, e3 ▸ h1⟩
end Go.Proofs.Ytiapeenfggjpnaa
