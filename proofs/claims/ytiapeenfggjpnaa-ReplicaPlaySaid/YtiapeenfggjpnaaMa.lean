/- Replicated servers in plain words: what the calls compute, and what stays true of a cluster. -/
namespace Go.Proofs.Ytiapeenfggjpnaa
structure En where
  view : Int
  d : List UInt8
structure Sv where
  up : Bool
  view : Int
  log : List En
structure Cv where
  primary : Int
  view : Int
  commit : Int
  servers : List Sv
/-- is a ahead of b, which comes behind it -/
def aheadS (a b : Sv) : Bool := if a.view ≠ b.view then decide (b.view < a.view) else decide (b.log.length ≤ a.log.length)
def better (p : Sv → Bool) (b : Option (Nat × Sv)) (x : Sv) : Bool := p x && (match b with | none => true | some q => !aheadS q.2 x)
def grF (p : Sv → Bool) : List Sv → Nat → Option (Nat × Sv) → Option (Nat × Sv)
  | [], _, b => b
  | x :: r, i, b => grF p r (i + 1) (if better p b x then some (i, x) else b)
def idxO : Option (Nat × Sv) → Int
  | none => -1
  | some q => (q.1 : Int)
def greatS (p : Sv → Bool) (l : List Sv) : Option (Nat × Sv) := grF p l 0 none
def countUp (l : List Sv) : Nat := l.countP (·.up)
def majN (n k : Nat) : Bool := decide (n / 2 + 1 ≤ k)
def primOf (c : Cv) : Option Sv := if c.primary < 0 then none else c.servers[c.primary.toNat]?
/-- the error of an entry; the one ahead of it has the view p -/
def entE (view : Int) (b : Bool) (p : Int) (x : En) : Int := if x.view < 1 ∨ view < x.view then 2 else if b = true ∧ x.view < p then 1 else if 8198 < x.d.length then 3 else 0
def logE (view : Int) : List En → Bool → Int → Int
  | [], _, _ => 0
  | x :: r, b, p => if entE view b p x ≠ 0 then entE view b p x else logE view r true x.view
def serverE (V : Int) (s : Sv) : Int := if s.view < 1 ∨ V < s.view then 2 else if 4096 < s.log.length then 3 else logE s.view s.log false 0
def serversE (V : Int) : List Sv → Int
  | [] => 0
  | s :: r => if serverE V s ≠ 0 then serverE V s else serversE V r
def bestLog (c : Cv) : List En := match greatS (fun _ => true) c.servers with | none => [] | some q => q.2.log
def headE (c : Cv) : Bool := decide (c.servers.length < 1) || decide (7 < c.servers.length) || decide (c.primary < -1) || decide ((c.servers.length : Int) ≤ c.primary) || decide (c.view < 1) || decide (2147483647 < c.view)
def primE (c : Cv) : Bool := match primOf c with | none => false | some p => !p.up || decide (p.view ≠ c.view) || c.servers.any fun s => decide (s.view = p.view) && decide (p.log.length < s.log.length)
def validC (c : Cv) : Int := if headE c then 2 else if serversE c.view c.servers ≠ 0 then serversE c.view c.servers else if primE c then 1 else if c.commit < 0 ∨ ((bestLog c).length : Int) < c.commit then 1 else 0
def newC (n : Int) : Cv := ⟨0, 1, 0, List.replicate n.toNat ⟨true, 1, []⟩⟩
def noneC : Cv := ⟨0, 0, 0, []⟩
def newR (n : Int) : Cv × Int := if n < 1 ∨ 7 < n then (noneC, 2) else (newC n, 0)
def updS (V : Int) (nl : List En) (reach : Int) (prim : Int) : List Sv → Nat → Int → List Sv × Int
  | [], _, h => ([], h)
  | s :: r, i, h => if (i : Int) = prim then (s :: (updS V nl reach prim r (i + 1) h).1, (updS V nl reach prim r (i + 1) h).2) else if s.up = true ∧ (reach < 1 ∨ h < reach) then (⟨s.up, V, nl⟩ :: (updS V nl reach prim r (i + 1) (h + 1)).1, (updS V nl reach prim r (i + 1) (h + 1)).2) else (s :: (updS V nl reach prim r (i + 1) h).1, (updS V nl reach prim r (i + 1) h).2)
def submitC (c : Cv) (data : List UInt8) (reach : Int) : Cv × Int × Int :=
  match primOf c with
  | none => (c, 0, 24)
  | some p =>
    if majN c.servers.length (countUp c.servers) = false then (c, 0, 24) else if 8198 < data.length ∨ 4096 ≤ p.log.length then (c, 0, 3) else
    let nl := p.log ++ [⟨c.view, data⟩]
    let q := updS c.view nl reach c.primary (c.servers.set c.primary.toNat ⟨p.up, p.view, nl⟩) 0 1
    if majN c.servers.length q.2.toNat then (⟨c.primary, c.view, nl.length, q.1⟩, p.log.length, 0) else (⟨-1, c.view, c.commit, q.1.set c.primary.toNat ⟨false, p.view, nl⟩⟩, 0, 18)
def setUp (l : List Sv) (i : Nat) (b : Bool) : List Sv := match l[i]? with | none => l | some s => l.set i ⟨b, s.view, s.log⟩
def crashC (c : Cv) (i : Int) : Cv × Int :=
  if i < 0 ∨ (c.servers.length : Int) ≤ i then (c, 2) else
  match c.servers[i.toNat]? with
  | none => (c, 2)
  | some s => if s.up = false then (c, 25) else (⟨if c.primary = i then -1 else c.primary, c.view, c.commit, setUp c.servers i.toNat false⟩, 0)
def restartC (c : Cv) (i : Int) : Cv × Int :=
  if i < 0 ∨ (c.servers.length : Int) ≤ i then (c, 2) else
  match c.servers[i.toNat]? with
  | none => (c, 2)
  | some s => if s.up = true then (c, 10) else (⟨c.primary, c.view, c.commit, setUp c.servers i.toNat true⟩, 0)
def bringS (V : Int) (log : List En) (l : List Sv) : List Sv := l.map fun s => if s.up then ⟨true, V, log⟩ else s
def elected (c : Cv) : Cv := if c.primary < 0 then ⟨idxO (greatS (·.up) c.servers), c.view + 1, c.commit, c.servers⟩ else c
def tickC (c : Cv) : Cv :=
  if majN c.servers.length (countUp c.servers) = false ∨ (c.primary < 0 ∧ 2147483647 ≤ c.view) then c else
  match primOf (elected c) with
  | none => c
  | some p => ⟨(elected c).primary, (elected c).view, p.log.length, bringS (elected c).view p.log c.servers⟩
def committedC (c : Cv) : List (List UInt8) := ((bestLog c).take c.commit.toNat).map (·.d)
theorem majN_iff (n k : Nat) : majN n k = true ↔ n < 2 * k := by unfold majN; simp only [decide_eq_true_eq]; omega
/-- the key of s is not below (w, k) -/
def kle (w : Int) (k : Nat) (s : Sv) : Bool := decide (w < s.view) || (decide (w = s.view) && decide (k ≤ s.log.length))
theorem kle_iff (w : Int) (k : Nat) (s : Sv) : kle w k s = true ↔ w < s.view ∨ (w = s.view ∧ k ≤ s.log.length) := by
  unfold kle; simp
theorem ahead_iff (a b : Sv) : aheadS a b = true ↔ kle b.view b.log.length a = true := by
  rw [kle_iff]
  unfold aheadS
  split
  · rename_i h
    simp only [decide_eq_true_eq]
    constructor
    · exact .inl
    · rintro (h1 | ⟨h1, _⟩)
      · exact h1
      · exact absurd h1.symm h
  · rename_i h
    have h : a.view = b.view := Classical.not_not.1 h
    simp only [decide_eq_true_eq]
    constructor
    · exact fun h1 => .inr ⟨h.symm, h1⟩
    · rintro (h1 | ⟨_, h1⟩)
      · omega
      · exact h1
theorem kle_trans {w : Int} {k : Nat} {s t : Sv} (h1 : kle w k s = true) (h2 : kle s.view s.log.length t = true) : kle w k t = true := by
  rw [kle_iff] at *
  omega
theorem kle_refl (s : Sv) : kle s.view s.log.length s = true := by rw [kle_iff]; exact .inr ⟨rfl, Nat.le_refl _⟩
theorem kle_total (s t : Sv) : kle s.view s.log.length t = true ∨ kle t.view t.log.length s = true := by
  rw [kle_iff, kle_iff]
  omega
/-- what greatest finds -/
theorem grF_spec (p : Sv → Bool) : ∀ (l : List Sv) (i : Nat) (b : Option (Nat × Sv)) (L : List Sv), L.drop i = l →
    (∀ q, b = some q → L[q.1]? = some q.2 ∧ p q.2 = true) → (∀ j s, j < i → L[j]? = some s → p s = true → ∃ q, b = some q ∧ kle s.view s.log.length q.2 = true) →
    (∀ q, grF p l i b = some q → L[q.1]? = some q.2 ∧ p q.2 = true) ∧ (∀ s ∈ L, p s = true → ∃ q, grF p l i b = some q ∧ kle s.view s.log.length q.2 = true)
  | [], i, b, L, hd, h1, h2 => by
    have hl : L.length ≤ i := by have := congrArg List.length hd; simp at this; omega
    refine ⟨h1, fun s hs hp => ?_⟩
    obtain ⟨j, hj, rfl⟩ := List.getElem_of_mem hs
    exact h2 j _ (by omega) (List.getElem?_eq_getElem hj) hp
  | x :: r, i, b, L, hd, h1, h2 => by
    have hi : i < L.length := by
      have := congrArg List.length hd
      simp at this
      omega
    have hx : L[i]? = some x := by
      have : (L.drop i)[0]? = some x := by rw [hd]; rfl
      simpa using this
    have hr : L.drop (i + 1) = r := by
      have := List.drop_eq_getElem_cons hi
      rw [hd] at this
      injection this with _ this
      exact this.symm
    refine grF_spec p r (i + 1) _ L hr ?_ ?_
    · intro q hq
      split at hq
      · rename_i hb
        injection hq with hq
        subst hq
        unfold better at hb
        simp only [Bool.and_eq_true] at hb
        exact ⟨hx, hb.1⟩
      · exact h1 q hq
    · intro j s hj hs hp
      by_cases hji : j < i
      · obtain ⟨q, hq, hk⟩ := h2 j s hji hs hp
        subst hq
        split
        · rename_i hb
          unfold better at hb
          simp only [Bool.and_eq_true, Bool.not_eq_true'] at hb
          refine ⟨_, rfl, kle_trans hk ?_⟩
          rcases kle_total q.2 x with h | h
          · exact h
          · have := (ahead_iff q.2 x).2 h
            rw [hb.2] at this
            cases this
        · exact ⟨q, rfl, hk⟩
      · obtain rfl : j = i := by omega
        rw [hx] at hs
        injection hs with hs
        subst hs
        split
        · exact ⟨_, rfl, kle_refl _⟩
        · rename_i hb
          unfold better at hb
          rw [hp, Bool.true_and] at hb
          cases b with
          | none => exact absurd rfl hb
          | some q =>
            refine ⟨q, rfl, ?_⟩
            rw [← ahead_iff]
            simpa using hb
theorem great_some {p : Sv → Bool} {l : List Sv} {q : Nat × Sv} (h : greatS p l = some q) : l[q.1]? = some q.2 ∧ p q.2 = true :=
  (grF_spec p l 0 none l rfl (fun _ e => by cases e) (fun j _ hj => absurd hj (Nat.not_lt_zero j))).1 q h
theorem great_max {p : Sv → Bool} {l : List Sv} {s : Sv} (hs : s ∈ l) (hp : p s = true) : ∃ q, greatS p l = some q ∧ kle s.view s.log.length q.2 = true :=
  (grF_spec p l 0 none l rfl (fun _ e => by cases e) (fun j _ hj => absurd hj (Nat.not_lt_zero j))).2 s hs hp
theorem countP_mono (p q : Sv → Bool) : ∀ (l l' : List Sv), l.length = l'.length → (∀ (j : Nat) (s t : Sv), l[j]? = some s → l'[j]? = some t → p s = true → q t = true) → l.countP p ≤ l'.countP q
  | [], [], _, _ => Nat.le_refl _
  | [], _ :: _, h, _ => by simp at h
  | _ :: _, [], h, _ => by simp at h
  | s :: r, t :: r', h, hj => by
    have ih := countP_mono p q r r' (by simpa using h) (fun j s t h1 h2 => hj (j + 1) s t (by simpa using h1) (by simpa using h2))
    have h0 := hj 0 s t rfl rfl
    rw [List.countP_cons, List.countP_cons]
    by_cases hp : p s = true
    · rw [if_pos hp, if_pos (h0 hp)]; omega
    · rw [if_neg hp]; split <;> omega
theorem countP_meet (p q : Sv → Bool) : ∀ l : List Sv, l.countP p + l.countP q ≤ l.length + l.countP fun s => p s && q s
  | [] => by simp
  | s :: r => by
    have ih := countP_meet p q r
    rw [List.countP_cons, List.countP_cons, List.countP_cons, List.length_cons]
    cases hp : p s <;> cases hq : q s <;> simp <;> omega
theorem quorum_meet {p q : Sv → Bool} {l : List Sv} (h1 : l.length < 2 * l.countP p) (h2 : l.length < 2 * l.countP q) : ∃ s ∈ l, p s = true ∧ q s = true := by
  have h3 := countP_meet p q l
  have : 0 < l.countP fun s => p s && q s := by omega
  obtain ⟨s, hs, h⟩ := List.countP_pos_iff.1 this
  simp only [Bool.and_eq_true] at h
  exact ⟨s, hs, h⟩
/-- what stays true of a cluster; C: the entries that are committed -/
structure Inv (c : Cv) (C : List En) : Prop where
  n1 : 1 ≤ c.servers.length
  n7 : c.servers.length ≤ 7
  p0 : -1 ≤ c.primary
  p1 : c.primary < c.servers.length
  v1 : 1 ≤ c.view
  sv : ∀ s ∈ c.servers, 1 ≤ s.view ∧ s.view ≤ c.view
  cmp : ∀ s ∈ c.servers, ∀ t ∈ c.servers, s.view = t.view → s.log <+: t.log ∨ t.log <+: s.log
  prim : ∀ p, primOf c = some p → p.up = true ∧ p.view = c.view ∧ ∀ t ∈ c.servers, t.view = c.view → t.log.length ≤ p.log.length
  com : (C.length : Int) = c.commit
  q : ∃ w, w ≤ c.view ∧ c.servers.length < 2 * c.servers.countP (kle w C.length) ∧ ∀ s ∈ c.servers, kle w C.length s = true → C <+: s.log
theorem prefix_len {α : Type} {a b : List α} (h : a <+: b ∨ b <+: a) (hl : a.length ≤ b.length) : a <+: b := by
  rcases h with h | h
  · exact h
  · have := List.IsPrefix.eq_of_length_le h hl
    rw [this]
    exact List.prefix_rfl
theorem primOf_mem {c : Cv} {p : Sv} (h : primOf c = some p) : p ∈ c.servers := by
  unfold primOf at h
  split at h
  · cases h
  · exact List.mem_of_getElem? h
/-- servers that are brought up to date -/
theorem Inv.bring {c : Cv} {C : List En} (h : Inv c C) (V : Int) (L nl : List En) (l' : List Sv) (pr' : Int)
    (hV : (V = c.view ∧ ∃ p ∈ c.servers, p.view = c.view ∧ p.log = L ∧ ∀ t ∈ c.servers, t.view = c.view → t.log.length ≤ L.length) ∨ (V = c.view + 1 ∧ ∃ p ∈ c.servers, p.log = L ∧ c.servers.length < 2 * c.servers.countP (fun s => kle s.view s.log.length p)))
    (hnl : L <+: nl) (hlen : l'.length = c.servers.length)
    (hl : ∀ (j : Nat) (t : Sv), l'[j]? = some t → ∃ s, c.servers[j]? = some s ∧ ((t.view = s.view ∧ t.log = s.log) ∨ (t.view = V ∧ t.log = nl)))
    (hp0 : -1 ≤ pr') (hp1 : pr' < c.servers.length)
    (hpr : ∀ p, primOf ⟨pr', V, 0, l'⟩ = some p → p.up = true ∧ p.view = V ∧ p.log = nl) :
    C <+: L ∧ Inv ⟨pr', V, c.commit, l'⟩ C ∧ (c.servers.length < 2 * l'.countP (kle V nl.length) → Inv ⟨pr', V, nl.length, l'⟩ nl) := by
  obtain ⟨w, hw, hq, hC⟩ := h.q
  have hCL : C <+: L := by
    rcases hV with ⟨rfl, p, hp, hpv, rfl, hmax⟩ | ⟨rfl, p, hp, rfl, hmaj⟩
    · refine hC p hp ?_
      obtain ⟨s, hs, hks, _⟩ := quorum_meet hq hq
      rw [kle_iff] at hks ⊢
      rw [hpv]
      have h1 := (h.sv s hs).2
      rcases hks with h2 | ⟨h2, h3⟩
      · left; omega
      · by_cases hwv : w < c.view
        · exact .inl hwv
        · right
          refine ⟨by omega, ?_⟩
          have := hmax s hs (by omega)
          omega
    · obtain ⟨s, hs, hk1, hk2⟩ := quorum_meet hq hmaj
      exact hC p hp (kle_trans hk1 hk2)
  have hVv : c.view ≤ V := by rcases hV with ⟨rfl, _⟩ | ⟨rfl, _⟩ <;> omega
  have hold : ∀ s ∈ c.servers, s.view = V → s.log <+: L := by
    intro s hs hsv
    rcases hV with ⟨rfl, p, hp, hpv, rfl, hmax⟩ | ⟨rfl, _⟩
    · exact prefix_len (h.cmp s hs p hp (by rw [hsv, hpv])) (hmax s hs hsv)
    · have := (h.sv s hs).2; omega
  have hmem : ∀ t ∈ l', (∃ s ∈ c.servers, t.view = s.view ∧ t.log = s.log) ∨ (t.view = V ∧ t.log = nl) := by
    intro t ht
    obtain ⟨j, hj, rfl⟩ := List.getElem_of_mem ht
    obtain ⟨s, hs, h1⟩ := hl j _ (List.getElem?_eq_getElem hj)
    rcases h1 with h1 | h1
    · exact .inl ⟨s, List.mem_of_getElem? hs, h1⟩
    · exact .inr h1
  have hpre : ∀ t ∈ l', t.view = V → t.log <+: nl := by
    intro t ht htv
    rcases hmem t ht with ⟨s, hs, h1, h2⟩ | ⟨_, h2⟩
    · rw [h2]
      exact (hold s hs (by omega)).trans hnl
    · rw [h2]; exact List.prefix_rfl
  have hv1 := h.v1
  have hsv : ∀ t ∈ l', 1 ≤ t.view ∧ t.view ≤ V := by
    intro t ht
    rcases hmem t ht with ⟨s, hs, h1, _⟩ | ⟨h1, _⟩
    · have := h.sv s hs; omega
    · omega
  have hcmp : ∀ s ∈ l', ∀ t ∈ l', s.view = t.view → s.log <+: t.log ∨ t.log <+: s.log := by
    intro s hs t ht hst
    rcases hmem s hs with ⟨s0, hs0, a1, a2⟩ | ⟨a1, a2⟩
    · rcases hmem t ht with ⟨t0, ht0, b1, b2⟩ | ⟨b1, b2⟩
      · rw [a2, b2]
        exact h.cmp s0 hs0 t0 ht0 (by omega)
      · left
        rw [b2]
        exact hpre s hs (by omega)
    · right
      rw [a2]
      exact hpre t ht (by omega)
  have hprim : ∀ k p, primOf ⟨pr', V, k, l'⟩ = some p → p.up = true ∧ p.view = V ∧ ∀ t ∈ l', t.view = V → t.log.length ≤ p.log.length := by
    intro k p hp
    obtain ⟨a, b, e⟩ := hpr p hp
    refine ⟨a, b, fun t ht htv => ?_⟩
    rw [e]
    exact (hpre t ht htv).length_le
  have hkey : ∀ (j : Nat) (s t : Sv), c.servers[j]? = some s → l'[j]? = some t → kle s.view s.log.length t = true := by
    intro j s t hs ht
    obtain ⟨s', hs', h1⟩ := hl j t ht
    rw [hs] at hs'
    injection hs' with hs'
    subst hs'
    rw [kle_iff]
    have hm := List.mem_of_getElem? hs
    rcases h1 with ⟨h1, h2⟩ | ⟨h1, h2⟩
    · right; rw [h1, h2]; exact ⟨rfl, Nat.le_refl _⟩
    · rw [h1, h2]
      by_cases hsV : s.view = V
      · right
        exact ⟨hsV, ((hold s hm hsV).trans hnl).length_le⟩
      · left
        have := (h.sv s hm).2
        omega
  refine ⟨hCL, ⟨?_, ?_, hp0, by show pr' < (l'.length : Int); omega, by show 1 ≤ V; omega, hsv, hcmp, hprim _, h.com, w, by show w ≤ V; omega, ?_, ?_⟩, fun hmaj => ⟨?_, ?_, hp0, by show pr' < (l'.length : Int); omega, by show 1 ≤ V; omega, hsv, hcmp, hprim _, rfl, V, Int.le_refl _, ?_, ?_⟩⟩
  · show 1 ≤ l'.length; rw [hlen]; exact h.n1
  · show l'.length ≤ 7; rw [hlen]; exact h.n7
  · show l'.length < 2 * l'.countP _
    have := countP_mono (kle w C.length) (kle w C.length) c.servers l' hlen.symm (fun j s t hs ht hp => kle_trans hp (hkey j s t hs ht))
    omega
  · intro t ht hk
    rcases hmem t ht with ⟨s, hs, h1, h2⟩ | ⟨h1, h2⟩
    · rw [h2]
      refine hC s hs ?_
      rw [kle_iff] at hk ⊢
      rw [h1, h2] at hk
      exact hk
    · rw [h2]; exact hCL.trans hnl
  · show 1 ≤ l'.length; rw [hlen]; exact h.n1
  · show l'.length ≤ 7; rw [hlen]; exact h.n7
  · show l'.length < 2 * l'.countP _
    omega
  · intro t ht hk
    have hk' := (kle_iff _ _ _).1 hk
    have htv : t.view = V := by have := (hsv t ht).2; omega
    have h1 := hpre t ht htv
    have h2 : t.log = nl := h1.eq_of_length_le (by omega)
    rw [h2]
    exact List.prefix_rfl
end Go.Proofs.Ytiapeenfggjpnaa
