/- Orders: the mathematics: lists of orders, their validity, the calls; what the statements say of them. -/
set_option linter.unusedVariables false
set_option linter.unusedSimpArgs false
namespace Go.Proofs.Ytpejfnfhbpckiaa.Ord
structure O where
  id : Int
  conn : Int
  st : ByteArray
  fr : Int
  tt : Int
  state : Int
  notes : Int
theorem O.ext_ {a b : O} (h1 : a.id = b.id) (h2 : a.conn = b.conn) (h3 : a.st = b.st) (h4 : a.fr = b.fr) (h5 : a.tt = b.tt) (h6 : a.state = b.state) (h7 : a.notes = b.notes) : a = b := by
  cases a; cases b; simp at *; simp [*]
instance : DecidableEq O := fun a b =>
  if h : a.id = b.id ∧ a.conn = b.conn ∧ a.st = b.st ∧ a.fr = b.fr ∧ a.tt = b.tt ∧ a.state = b.state ∧ a.notes = b.notes then
    .isTrue (O.ext_ h.1 h.2.1 h.2.2.1 h.2.2.2.1 h.2.2.2.2.1 h.2.2.2.2.2.1 h.2.2.2.2.2.2)
  else .isFalse (by rintro rfl; exact h ⟨rfl, rfl, rfl, rfl, rfl, rfl, rfl⟩)
/-- planned or running -/
def act (o : O) : Bool := decide (o.state = 2) || decide (o.state = 3)
/-- the same connector -/
def near (a b : O) : Bool := decide (a.st = b.st) && (decide (a.conn = b.conn) || decide (a.conn = 0) || decide (b.conn = 0))
/-- some time is in both spans -/
def lap (a b : O) : Bool := decide (max a.fr b.fr < min a.tt b.tt)
def clash (a b : O) : Bool := near a b && lap a b
/-- an order with an index other than 'but' is in the way of o -/
def blk (but : Int) (o : O) : Nat → List O → Bool
  | _, [] => false
  | k, x :: r => (decide ((k : Int) ≠ but) && act x && clash x o) || blk but o (k + 1) r
def okSpan (f t : Int) : Bool := decide (0 ≤ f) && decide (f ≤ t) && decide (t ≤ 268435456)
section
variable (name : ByteArray → Bool)
/-- the error of the order o with the index i -/
def chk (l : List O) (i : Nat) (o : O) : Int :=
  if ¬ (1 ≤ o.id ∧ o.id ≤ 2147483647 ∧ 0 ≤ o.conn ∧ o.conn ≤ 32) then 2
  else if ¬ (1 ≤ o.state ∧ o.state ≤ 5 ∧ 0 ≤ o.notes ∧ o.notes ≤ 2147483647) then 2
  else if name o.st = false then 4
  else if 0 < i ∧ o.id ≤ ((l[i - 1]?).map (·.id)).getD 0 then 1
  else if okSpan o.fr o.tt = false then 2
  else if o.state = 1 ∧ ¬ (o.fr = 0 ∧ o.tt = 0) then 1
  else if (act o = true ∨ o.state = 4) ∧ o.fr = o.tt then 1
  else if act o = true ∧ blk (-1) o 0 (l.take i) = true then 1
  else 0
def chkAt (l : List O) (i : Nat) : Int := match l[i]? with | some o => chk name l i o | none => 0
def vF (l : List O) : Nat → Nat → Int
  | 0, _ => 0
  | f + 1, i => if chkAt name l i = 0 then vF l f (i + 1) else chkAt name l i
/-- the error of orders -/
def valid (l : List O) : Int := if 64 < l.length then 3 else vF name l l.length 0
end
def idx (id : Int) : Nat → List O → Int
  | _, [] => -1
  | k, x :: r => if x.id = id then k else idx id (k + 1) r
def enter (o : O) (s : Int) : O := { o with state := s, notes := if o.notes < 2147483647 then o.notes + 1 else o.notes }
def fresh (id conn : Int) (st : ByteArray) : O := ⟨id, conn, st, 0, 0, 1, 0⟩
def lastId (l : List O) : Int := (l.getLast?.map (·.id)).getD 0
def openF (name : ByteArray → Bool) (l : List O) (st : ByteArray) (conn : Int) : List O × Int × Int :=
  if name st = false then (l, 0, 4) else if conn < 0 ∨ 32 < conn then (l, 0, 2) else if 64 ≤ l.length then (l, 0, 3)
  else if 2147483647 ≤ lastId l then (l, 0, 3) else (l ++ [fresh (lastId l + 1) conn st], lastId l + 1, 0)
def spanned (o : O) (f t : Int) : O := { o with fr := f, tt := t }
def planO (o : O) (f t : Int) : O := if o.state = 1 then enter (spanned o f t) 2 else spanned o f t
def planF (l : List O) (id f t : Int) : List O × Int :=
  match l[(idx id 0 l).toNat]? with
  | none => (l, 8)
  | some o => if idx id 0 l < 0 then (l, 8) else if o.state ≠ 1 ∧ o.state ≠ 2 then (l, 10) else if okSpan f t = false ∨ f = t then (l, 2)
    else if blk (idx id 0 l) (spanned o f t) 0 l = true then (l, 16) else (l.set (idx id 0 l).toNat (planO o f t), 0)
def stepO (now : Int) (o : O) : O := if act o = true ∧ o.tt ≤ now then enter o 4 else if o.state = 2 ∧ o.fr ≤ now then enter o 3 else o
def stepF (l : List O) (now : Int) : List O := l.map (stepO now)
def closeF (l : List O) (id : Int) (done : Bool) : List O × Int :=
  match l[(idx id 0 l).toNat]? with
  | none => (l, 8)
  | some o => if idx id 0 l < 0 then (l, 8) else if o.state ≠ 3 ∧ (done = true ∨ (o.state ≠ 1 ∧ o.state ≠ 2)) then (l, 10)
    else (l.set (idx id 0 l).toNat (enter o (if done then 4 else 5)), 0)
def hit (st : ByteArray) (conn t : Int) (o : O) : Bool := act o && decide (o.st = st) && (decide (o.conn = conn) || decide (o.conn = 0)) && decide (o.fr ≤ t) && decide (t < o.tt)
def blocks (l : List O) (st : ByteArray) (conn t : Int) : Bool := l.any (hit st conn t)

/-! ## validity, taken apart -/
structure OkO (name : ByteArray → Bool) (o : O) : Prop where
  id1 : 1 ≤ o.id
  id2 : o.id ≤ 2147483647
  c1 : 0 ≤ o.conn
  c2 : o.conn ≤ 32
  s1 : 1 ≤ o.state
  s2 : o.state ≤ 5
  n1 : 0 ≤ o.notes
  n2 : o.notes ≤ 2147483647
  nm : name o.st = true
  f1 : 0 ≤ o.fr
  f2 : o.fr ≤ o.tt
  f3 : o.tt ≤ 268435456
  op : o.state = 1 → o.fr = 0 ∧ o.tt = 0
  ne : act o = true ∨ o.state = 4 → o.fr < o.tt
theorem blk_iff (but : Int) (o : O) : ∀ (l : List O) (k : Nat), blk but o k l = true ↔ ∃ i, ∃ h : i < l.length, ((k + i : Nat) : Int) ≠ but ∧ act l[i] = true ∧ clash l[i] o = true := by
  intro l
  induction l with
  | nil => intro k; simp [blk]
  | cons x r ih =>
    intro k
    simp only [blk, Bool.or_eq_true, Bool.and_eq_true, decide_eq_true_eq, ih]
    constructor
    · rintro (⟨⟨h1, h2⟩, h3⟩ | ⟨i, h, h1, h2⟩)
      · exact ⟨0, by simp, by simpa using h1, h2, h3⟩
      · exact ⟨i + 1, by simp; omega, by rw [show k + (i + 1) = k + 1 + i by omega]; exact h1, by simpa using h2⟩
    · rintro ⟨i, h, h1, h2, h3⟩
      cases i with
      | zero => exact .inl ⟨⟨by simpa using h1, h2⟩, h3⟩
      | succ i => exact .inr ⟨i, by simp at h; omega, by rw [show k + 1 + i = k + (i + 1) by omega]; exact h1, by simpa using h2, by simpa using h3⟩
theorem chk_zero {name : ByteArray → Bool} {l : List O} {i : Nat} {o : O} (h : chk name l i o = 0) :
    OkO name o ∧ (0 < i → ((l[i - 1]?).map (·.id)).getD 0 < o.id) ∧ (act o = true → blk (-1) o 0 (l.take i) = false) := by
  unfold chk at h
  split at h
  · cases h
  rename_i g1
  split at h
  · cases h
  rename_i g2
  split at h
  · cases h
  rename_i g3
  split at h
  · cases h
  rename_i g4
  split at h
  · cases h
  rename_i g5
  split at h
  · cases h
  rename_i g6
  split at h
  · cases h
  rename_i g7
  split at h
  · cases h
  rename_i g8
  simp only [Decidable.not_not] at g1 g2
  have g5' : 0 ≤ o.fr ∧ o.fr ≤ o.tt ∧ o.tt ≤ 268435456 := by simp [okSpan] at g5; omega
  refine ⟨⟨g1.1, g1.2.1, g1.2.2.1, g1.2.2.2, g2.1, g2.2.1, g2.2.2.1, g2.2.2.2, by simpa using g3, g5'.1, g5'.2.1, g5'.2.2, fun hs => ?_, fun hs => ?_⟩, fun hi => ?_, fun ha => ?_⟩
  · refine Decidable.byContradiction fun hn => g6 ⟨hs, hn⟩
  · have : o.fr ≠ o.tt := fun e => g7 ⟨hs, e⟩
    omega
  · refine Decidable.byContradiction fun hn => g4 ⟨hi, by omega⟩
  · cases hb : blk (-1) o 0 (l.take i) with
    | false => rfl
    | true => exact absurd ⟨ha, hb⟩ g8
theorem chk_mk {name : ByteArray → Bool} {l : List O} {i : Nat} {o : O} (k : OkO name o) (h1 : 0 < i → ((l[i - 1]?).map (·.id)).getD 0 < o.id) (h2 : act o = true → blk (-1) o 0 (l.take i) = false) : chk name l i o = 0 := by
  unfold chk
  have := k.id1; have := k.id2; have := k.c1; have := k.c2; have := k.s1; have := k.s2; have := k.n1; have := k.n2; have := k.f1; have := k.f2; have := k.f3
  rw [if_neg (by omega), if_neg (by omega), if_neg (by simp [k.nm]), if_neg (by rintro ⟨a, b⟩; have := h1 a; omega), if_neg (by simp [okSpan]; omega), if_neg (by rintro ⟨a, b⟩; exact b (k.op a)),
    if_neg (by rintro ⟨a, b⟩; have := k.ne a; omega), if_neg (by rintro ⟨a, b⟩; rw [h2 a] at b; cases b)]
theorem vF_zero {name : ByteArray → Bool} {l : List O} : ∀ (f i : Nat), vF name l f i = 0 ↔ ∀ j, i ≤ j → j < i + f → chkAt name l j = 0 := by
  intro f
  induction f with
  | zero => intro i; simp [vF]; omega
  | succ f ih =>
    intro i
    unfold vF
    split
    · rename_i h
      rw [ih]
      constructor
      · intro g j h1 h2
        by_cases e : j = i
        · subst e; exact h
        · exact g j (by omega) (by omega)
      · intro g j h1 h2; exact g j (by omega) (by omega)
    · rename_i h
      constructor
      · intro g; exact absurd g h
      · intro g; exact absurd (g i (by omega) (by omega)) h
/-- a valid list, taken apart -/
structure Vld (name : ByteArray → Bool) (l : List O) : Prop where
  len : l.length ≤ 64
  ok : ∀ i (h : i < l.length), OkO name l[i]
  asc : ∀ i j (h : i < j) (hj : j < l.length), (l[i]'(by omega)).id < l[j].id
  free : ∀ i j (h : i < j) (hj : j < l.length), act l[j] = true → act (l[i]'(by omega)) = true → clash (l[i]'(by omega)) l[j] = false
theorem chkAt_eq {name : ByteArray → Bool} {l : List O} {i : Nat} (h : i < l.length) : chkAt name l i = chk name l i l[i] := by simp [chkAt, List.getElem?_eq_getElem h]
theorem vld_of {name : ByteArray → Bool} {l : List O} (h : valid name l = 0) : Vld name l := by
  unfold valid at h
  split at h
  · cases h
  rename_i hl
  rw [vF_zero] at h
  have hc : ∀ i (hi : i < l.length), chk name l i l[i] = 0 := fun i hi => by rw [← chkAt_eq hi]; exact h i (Nat.zero_le _) (by omega)
  have step : ∀ i (hi : i + 1 < l.length), (l[i]'(by omega)).id < l[i + 1].id := fun i hi => by
    have := (chk_zero (hc (i + 1) hi)).2.1 (by omega)
    simpa [List.getElem?_eq_getElem (show i < l.length by omega)] using this
  refine ⟨by omega, fun i hi => (chk_zero (hc i hi)).1, fun i j hij hj => ?_, fun i j hij hj aj ai => ?_⟩
  · have : ∀ d (hd : i + 1 + d < l.length), (l[i]'(by omega)).id < (l[i + 1 + d]).id := by
      intro d
      induction d with
      | zero => intro hd; exact step i hd
      | succ d ih => intro hd; have := ih (by omega); have := step (i + 1 + d) (by omega); simp only [Nat.add_assoc] at *; omega
    have h2 := this (j - (i + 1)) (by omega)
    simpa [show i + 1 + (j - (i + 1)) = j by omega] using h2
  · have hb := (chk_zero (hc j hj)).2.2 aj
    cases hcl : clash (l[i]'(by omega)) l[j] with
    | false => rfl
    | true =>
      have : blk (-1) l[j] 0 (l.take j) = true := (blk_iff _ _ _ _).2 ⟨i, by simp; omega, by omega, by simpa using ai, by simpa using hcl⟩
      rw [hb] at this; cases this
theorem Vld.mk_ {name : ByteArray → Bool} {l : List O} (v : Vld name l) : valid name l = 0 := by
  unfold valid
  rw [if_neg (by have := v.len; omega), vF_zero]
  intro j _ hj
  have hj : j < l.length := by omega
  rw [chkAt_eq hj]
  refine chk_mk (v.ok j hj) (fun h0 => ?_) (fun ha => ?_)
  · have := v.asc (j - 1) j (by omega) hj
    simpa [List.getElem?_eq_getElem (show j - 1 < l.length by omega)] using this
  · cases hb : blk (-1) l[j] 0 (l.take j) with
    | false => rfl
    | true =>
      obtain ⟨i, hi, _, h2, h3⟩ := (blk_iff _ _ _ _).1 hb
      simp at hi h2 h3
      rw [v.free i j (by omega) hj ha h2] at h3
      cases h3

/-! ## the calls keep lists valid -/
theorem clash_of {a b a' b' : O} (ha : a'.st = a.st ∧ a'.conn = a.conn ∧ a'.fr = a.fr ∧ a'.tt = a.tt) (hb : b'.st = b.st ∧ b'.conn = b.conn ∧ b'.fr = b.fr ∧ b'.tt = b.tt) : clash a' b' = clash a b := by
  simp [clash, near, lap, ha, hb]
theorem clash_comm (a b : O) : clash a b = clash b a := by
  rw [Bool.eq_iff_iff]
  simp [clash, near, lap]
  constructor <;> (rintro ⟨⟨h1, h2⟩, h3⟩; refine ⟨⟨h1.symm, by omega⟩, by omega⟩)
theorem vld_nil (name : ByteArray → Bool) : Vld name [] := ⟨by simp, fun i h => by simp at h, fun i j _ h => by simp at h, fun i j _ h => by simp at h⟩
theorem Vld.open_ {name : ByteArray → Bool} {l : List O} (v : Vld name l) (st : ByteArray) (conn : Int) : Vld name (openF name l st conn).1 := by
  unfold openF
  split
  · exact v
  split
  · exact v
  split
  · exact v
  split
  · exact v
  rename_i h1 h2 h3 h4
  have hlast : ∀ i (h : i < l.length), (l[i]).id ≤ lastId l := fun i h => by
    have e : lastId l = (l[l.length - 1]'(by omega)).id := by simp [lastId, List.getLast?_eq_getElem?, List.getElem?_eq_getElem (show l.length - 1 < l.length by omega)]
    by_cases g : i = l.length - 1
    · subst g; omega
    · have := v.asc i (l.length - 1) (by omega) (by omega); omega
  have h0 : 0 ≤ lastId l := by
    by_cases g : l = []
    · subst g; simp [lastId]
    · have hp : 0 < l.length := List.length_pos_iff.2 g
      have := hlast 0 hp
      have := (v.ok 0 hp).id1
      omega
  refine ⟨by simp; omega, fun i h => ?_, fun i j hij hj => ?_, fun i j hij hj aj ai => ?_⟩
  · rw [List.getElem_append]
    split
    · exact v.ok i _
    · simp only [List.getElem_singleton, fresh]
      exact ⟨by simp; omega, by simp; omega, by simp; omega, by simp; omega, by simp, by simp, by simp, by simp, by simpa using h1, by simp, by simp, by simp, fun _ => ⟨rfl, rfl⟩, fun g => by simp [act] at g⟩
  · have hj' : j < l.length + 1 := by simpa using hj
    by_cases g : j < l.length
    · rw [List.getElem_append_left g, List.getElem_append_left (show i < l.length by omega)]
      exact v.asc i j hij g
    · obtain rfl : j = l.length := by omega
      rw [List.getElem_append_left (show i < l.length by omega)]
      have := hlast i (by omega)
      simp [fresh]; omega
  · have hj' : j < l.length + 1 := by simpa using hj
    by_cases g : j < l.length
    · rw [List.getElem_append_left g] at aj ⊢
      rw [List.getElem_append_left (show i < l.length by omega)] at ai ⊢
      exact v.free i j hij g aj ai
    · obtain rfl : j = l.length := by omega
      simp [fresh, act] at aj
/-- an order that takes the place of another one -/
theorem Vld.set_ {name : ByteArray → Bool} {l : List O} (v : Vld name l) (i : Nat) (o : O) (hk : ∀ h : i < l.length, OkO name o ∧ o.id = l[i].id ∧
    (act o = true → ∀ j (hj : j < l.length), j ≠ i → act l[j] = true → clash l[j] o = false)) : Vld name (l.set i o) := by
  have hid : ∀ j (hj : j < l.length), ((l.set i o)[j]'(by simpa using hj)).id = l[j].id := fun j hj => by
    rw [List.getElem_set]
    split
    · rename_i e; subst e; exact (hk hj).2.1
    · rfl
  refine ⟨by simpa using v.len, fun j h => ?_, fun a b hab hb => ?_, fun a b hab hb ab aa => ?_⟩
  · simp at h
    rw [List.getElem_set]
    split
    · rename_i e; subst e; exact (hk h).1
    · exact v.ok j h
  · simp at hb
    rw [hid a (by omega), hid b hb]
    exact v.asc a b hab hb
  · simp at hb
    rw [List.getElem_set] at aa ab ⊢
    rw [List.getElem_set]
    by_cases e1 : i = a
    · subst e1
      rw [if_pos rfl] at aa ⊢
      rw [if_neg (by omega)] at ab ⊢
      rw [clash_comm]
      exact (hk (by omega)).2.2 aa b hb (by omega) ab
    · rw [if_neg e1] at aa ⊢
      by_cases e2 : i = b
      · subst e2
        rw [if_pos rfl] at ab ⊢
        exact (hk hb).2.2 ab a (by omega) (by omega) aa
      · rw [if_neg e2] at ab ⊢
        exact v.free a b hab hb ab aa
theorem enter_ok {name : ByteArray → Bool} {o : O} (k : OkO name o) {s : Int} (h1 : 1 < s) (h2 : s ≤ 5) (h3 : s ≠ 5 → o.fr < o.tt) : OkO name (enter o s) := by
  have := k.n1; have := k.n2
  refine ⟨k.id1, k.id2, k.c1, k.c2, by simp [enter]; omega, by simp [enter]; omega, ?_, ?_, k.nm, k.f1, k.f2, k.f3, fun g => ?_, fun g => ?_⟩
  · simp only [enter]; split <;> omega
  · simp only [enter]; split <;> omega
  · simp [enter] at g; omega
  · apply h3; rintro rfl; simp [enter, act] at g
theorem stepO_ok {name : ByteArray → Bool} {o : O} (now : Int) (k : OkO name o) : OkO name (stepO now o) := by
  unfold stepO
  split
  · rename_i h; exact enter_ok k (by decide) (by decide) (fun _ => k.ne (.inl h.1))
  split
  · rename_i h; exact enter_ok k (by decide) (by decide) (fun _ => k.ne (.inl (by simp [act, h.1])))
  · exact k
theorem stepO_same (now : Int) (o : O) : (stepO now o).id = o.id ∧ (stepO now o).st = o.st ∧ (stepO now o).conn = o.conn ∧ (stepO now o).fr = o.fr ∧ (stepO now o).tt = o.tt := by
  unfold stepO enter
  split <;> (try split) <;> exact ⟨rfl, rfl, rfl, rfl, rfl⟩
theorem stepO_act (now : Int) (o : O) (h : act (stepO now o) = true) : act o = true := by
  unfold stepO at h
  split at h
  · simp [enter, act] at h
  split at h
  · rename_i g; simp [act, g.1]
  · exact h
theorem Vld.step_ {name : ByteArray → Bool} {l : List O} (v : Vld name l) (now : Int) : Vld name (stepF l now) := by
  unfold stepF
  refine ⟨by simpa using v.len, fun j h => ?_, fun a b hab hb => ?_, fun a b hab hb ab aa => ?_⟩
  · simp at h; simp; exact stepO_ok now (v.ok j h)
  · simp at hb; simp [stepO_same]; exact v.asc a b hab hb
  · simp at hb
    simp at aa ab ⊢
    obtain ⟨_, s1, s2, s3, s4⟩ := stepO_same now (l[a]'(by omega))
    obtain ⟨_, t1, t2, t3, t4⟩ := stepO_same now l[b]
    rw [clash_of ⟨s1, s2, s3, s4⟩ ⟨t1, t2, t3, t4⟩]
    exact v.free a b hab hb (stepO_act _ _ ab) (stepO_act _ _ aa)
theorem Vld.close_ {name : ByteArray → Bool} {l : List O} (v : Vld name l) (id : Int) (done : Bool) : Vld name (closeF l id done).1 := by
  unfold closeF
  split
  · exact v
  rename_i o ho
  split
  · exact v
  split
  · exact v
  rename_i h1 h2
  refine v.set_ _ _ fun h => ?_
  have e : o = l[(idx id 0 l).toNat] := by rw [List.getElem?_eq_getElem h] at ho; cases ho; rfl
  subst e
  have k := v.ok _ h
  refine ⟨enter_ok k (by cases done <;> simp) (by cases done <;> simp) (fun g => ?_), rfl, fun g => ?_⟩
  · cases done with
    | false => simp at g
    | true => exact k.ne (.inl (by simp only [true_or, and_true, Decidable.not_not] at h2; simp [act, h2]))
  · cases done <;> simp [enter, act] at g
theorem Vld.plan_ {name : ByteArray → Bool} {l : List O} (v : Vld name l) (id f t : Int) : Vld name (planF l id f t).1 := by
  unfold planF
  split
  · exact v
  rename_i o ho
  split
  · exact v
  split
  · exact v
  split
  · exact v
  split
  · exact v
  rename_i h0 h1 h2 h3
  refine v.set_ _ _ fun h => ?_
  have e : o = l[(idx id 0 l).toNat] := by rw [List.getElem?_eq_getElem h] at ho; cases ho; rfl
  have k := v.ok _ h
  rw [← e] at k
  have hs : (0 ≤ f ∧ f ≤ t ∧ t ≤ 268435456) ∧ f ≠ t := by simp [okSpan] at h2; omega
  obtain ⟨⟨g1, g2, g3⟩, g4⟩ := hs
  have hp : (planO o f t).id = o.id ∧ (planO o f t).st = o.st ∧ (planO o f t).conn = o.conn ∧ (planO o f t).fr = f ∧ (planO o f t).tt = t ∧ (planO o f t).state = 2 := by
    unfold planO spanned enter
    split
    · exact ⟨rfl, rfl, rfl, rfl, rfl, rfl⟩
    · exact ⟨rfl, rfl, rfl, rfl, rfl, by simp; omega⟩
  obtain ⟨p1, p2, p3, p4, p5, p6⟩ := hp
  refine ⟨⟨by rw [p1]; exact k.id1, by rw [p1]; exact k.id2, by rw [p3]; exact k.c1, by rw [p3]; exact k.c2, by omega, by omega, ?_, ?_, by rw [p2]; exact k.nm, by omega, by omega, by omega, fun g => by omega, fun _ => by omega⟩, by rw [p1, e], fun _ j hj hne aj => ?_⟩
  · have := k.n1
    unfold planO spanned enter
    split
    · simp only; split <;> omega
    · exact this
  · have := k.n2
    unfold planO spanned enter
    split
    · simp only; split <;> omega
    · exact this
  · cases hc : clash l[j] (planO o f t) with
    | false => rfl
    | true =>
      exfalso
      apply h3
      refine (blk_iff _ _ _ _).2 ⟨j, hj, by omega, aj, ?_⟩
      rw [← hc]
      exact clash_of ⟨rfl, rfl, rfl, rfl⟩ ⟨p2.symm, p3.symm, p4.symm, p5.symm⟩

/-! ## the reference's words -/
def movedO (o : O) (s : Int) : O := if o.state ≠ s then { o with state := s, notes := min (o.notes + 1) 2147483647 } else o
theorem moved_enter {name : ByteArray → Bool} {o : O} (k : OkO name o) {s : Int} (h : o.state ≠ s) : movedO o s = enter o s := by
  unfold movedO enter
  rw [if_pos h]
  have := k.n2
  congr 1
  split <;> omega
theorem moved_plan {name : ByteArray → Bool} {o : O} (k : OkO name o) (h : o.state = 1 ∨ o.state = 2) (f t : Int) : spanned (movedO o 2) f t = planO o f t := by
  unfold planO
  rcases h with h | h
  · rw [moved_enter k (by omega), if_pos h]; rfl
  · rw [if_neg (by omega), movedO, if_neg (by omega)]
theorem moved_step {name : ByteArray → Bool} {o : O} (k : OkO name o) (now : Int) : stepO now o = if act o = true then (if o.tt ≤ now then movedO o 4 else if o.fr ≤ now then movedO o 3 else o) else o := by
  unfold stepO
  by_cases a : act o = true
  · have hs : o.state = 2 ∨ o.state = 3 := by simpa [act] using a
    rw [if_pos a]
    by_cases h : o.tt ≤ now
    · rw [if_pos ⟨a, h⟩, if_pos h, moved_enter k (by omega)]
    · rw [if_neg (fun g => h g.2), if_neg h]
      by_cases h2 : o.fr ≤ now
      · rw [if_pos h2]
        rcases hs with hs | hs
        · rw [if_pos ⟨hs, h2⟩, moved_enter k (by omega)]
        · rw [if_neg (by omega), movedO, if_neg (by omega)]
      · rw [if_neg h2, if_neg (fun g => h2 g.2)]
  · have hs : ¬ (o.state = 2 ∨ o.state = 3) := by simpa [act] using a
    rw [if_neg a, if_neg (fun g => a g.1), if_neg (fun g => hs (.inl g.1))]

/-! ## at most one order blocks a connector -/
theorem hit_clash {name : ByteArray → Bool} {st : ByteArray} {conn t : Int} {a b : O} (h1 : 1 ≤ conn) (ha : hit st conn t a = true) (hb : hit st conn t b = true) : clash a b = true := by
  simp [hit] at ha hb
  obtain ⟨⟨⟨⟨_, a1⟩, a2⟩, a3⟩, a4⟩ := ha
  obtain ⟨⟨⟨⟨_, b1⟩, b2⟩, b3⟩, b4⟩ := hb
  simp [clash, near, lap, a1, b1]
  omega
theorem hit_one {name : ByteArray → Bool} {l : List O} (v : Vld name l) {st : ByteArray} {conn t : Int} (h1 : 1 ≤ conn) (h : blocks l st conn t = true) :
    ∃ i, ∃ hi : i < l.length, hit st conn t l[i] = true ∧ ∀ j (hj : j < l.length), hit st conn t l[j] = true → j = i := by
  simp only [blocks, List.any_eq_true] at h
  obtain ⟨x, hx, hh⟩ := h
  obtain ⟨i, hi, rfl⟩ := List.mem_iff_getElem.1 hx
  refine ⟨i, hi, hh, fun j hj hj2 => ?_⟩
  have aa : ∀ k (hk : k < l.length), hit st conn t l[k] = true → act l[k] = true := fun k hk g => by simp [hit] at g; exact g.1.1.1.1
  rcases Nat.lt_trichotomy i j with g | g | g
  · have := v.free i j g hj (aa j hj hj2) (aa i hi hh)
    rw [hit_clash (name := name) h1 hh hj2] at this; cases this
  · exact g.symm
  · have := v.free j i g hi (aa i hi hh) (aa j hj hj2)
    rw [hit_clash (name := name) h1 hj2 hh] at this; cases this
theorem idx_at : ∀ (l : List O) (k i : Nat) (hi : i < l.length), (∀ j (hj : j < i), (l[j]'(by omega)).id ≠ l[i].id) → idx l[i].id k l = k + i := by
  intro l
  induction l with
  | nil => intro k i hi; simp at hi
  | cons x r ih =>
    intro k i hi h
    cases i with
    | zero => simp [idx]
    | succ i =>
      have := h 0 (by omega)
      simp only [List.getElem_cons_zero, List.getElem_cons_succ] at this ⊢
      rw [idx, if_neg this, ih (k + 1) i (by simp at hi; omega) (fun j hj => by simpa using h (j + 1) (by omega))]
      omega
theorem idx_vld {name : ByteArray → Bool} {l : List O} (v : Vld name l) (i : Nat) (hi : i < l.length) : idx l[i].id 0 l = i := by
  rw [idx_at l 0 i hi (fun j hj => by have := v.asc j i hj hi; omega)]; simp
theorem idx_bd (id : Int) : ∀ (l : List O) (k : Nat), (idx id k l = -1 ∧ ∀ x ∈ l, x.id ≠ id) ∨ ∃ i, ∃ hi : i < l.length, idx id k l = k + i ∧ l[i].id = id := by
  intro l
  induction l with
  | nil => intro k; left; exact ⟨rfl, by simp⟩
  | cons x r ih =>
    intro k
    by_cases h : x.id = id
    · right; exact ⟨0, by simp, by simp [idx, h], h⟩
    · rcases ih (k + 1) with ⟨h1, h2⟩ | ⟨i, hi, h1, h2⟩
      · left; exact ⟨by rw [idx, if_neg h, h1], by simp [h]; exact h2⟩
      · right; exact ⟨i + 1, by simp; omega, by rw [idx, if_neg h, h1]; omega, by simpa using h2⟩
/-- closing an order other than the one that blocks leaves the connector blocked; closing that one frees it -/
def frees (l : List O) (st : ByteArray) (conn t : Int) (o : O) : Bool := decide ((closeF l o.id false).2 = 0) && !(blocks (closeF l o.id false).1 st conn t)
theorem frees_iff {name : ByteArray → Bool} {l : List O} (v : Vld name l) {st : ByteArray} {conn t : Int} (h1 : 1 ≤ conn) {i : Nat} (hi : i < l.length) (hh : hit st conn t l[i] = true)
    (hu : ∀ j (hj : j < l.length), hit st conn t l[j] = true → j = i) (j : Nat) (hj : j < l.length) : frees l st conn t l[j] = decide (j = i) := by
  have hx := idx_vld v j hj
  have hnat : (idx l[j].id 0 l).toNat = j := by omega
  by_cases e : j = i
  · subst e
    have ha : act l[j] = true := by simp [hit] at hh; exact hh.1.1.1.1
    have hs : l[j].state = 2 ∨ l[j].state = 3 := by simpa [act] using ha
    have hc : closeF l l[j].id false = (l.set j (enter l[j] 5), 0) := by
      unfold closeF
      rw [hnat, List.getElem?_eq_getElem hj]
      simp only [Bool.false_eq_true, false_or, if_false]
      rw [if_neg (by omega), if_neg (by omega)]
    have hb : blocks (l.set j (enter l[j] 5)) st conn t = false := by
      rw [Bool.eq_false_iff]
      intro hb
      simp only [blocks, List.any_eq_true] at hb
      obtain ⟨x, hx, hh2⟩ := hb
      obtain ⟨k, hk, rfl⟩ := List.mem_iff_getElem.1 hx
      simp at hk
      rw [List.getElem_set] at hh2
      split at hh2
      · simp [hit, enter, act] at hh2
      · rename_i ne; exact ne (hu k hk hh2).symm
    simp [frees, hc, hb]
  · have hb : blocks (closeF l l[j].id false).1 st conn t = true := by
      unfold closeF
      rw [hnat, List.getElem?_eq_getElem hj]
      have hold : blocks l st conn t = true := by simp only [blocks, List.any_eq_true]; exact ⟨_, List.getElem_mem hi, hh⟩
      simp only
      split
      · exact hold
      split
      · exact hold
      simp only [blocks, List.any_eq_true]
      refine ⟨l[i], ?_, hh⟩
      have : (l.set j (enter l[j] (if false = true then 4 else 5)))[i]'(by simpa using hi) = l[i] := by rw [List.getElem_set, if_neg e]
      rw [← this]
      exact List.getElem_mem _
    simp [frees, hb, e]
theorem count_frees {name : ByteArray → Bool} {l : List O} (v : Vld name l) {st : ByteArray} {conn t : Int} (h1 : 1 ≤ conn) (hb : blocks l st conn t = true) : (l.filter (frees l st conn t)).length = 1 := by
  obtain ⟨i, hi, hh, hu⟩ := hit_one v h1 hb
  have e : l = l.take i ++ [l[i]] ++ l.drop (i + 1) := by simp
  have h0 : ∀ x ∈ l.take i ++ l.drop (i + 1), frees l st conn t x = false := by
    intro x hx
    have : ∃ j, ∃ hj : j < l.length, j ≠ i ∧ l[j] = x := by
      rcases List.mem_append.1 hx with hx | hx
      · obtain ⟨j, hj, rfl⟩ := List.mem_iff_getElem.1 hx
        simp at hj
        exact ⟨j, by omega, by omega, by simp⟩
      · obtain ⟨j, hj, rfl⟩ := List.mem_iff_getElem.1 hx
        simp at hj
        exact ⟨i + 1 + j, by omega, by omega, by simp⟩
    obtain ⟨j, hj, hne, rfl⟩ := this
    rw [frees_iff v h1 hi hh hu j hj]
    simpa using hne
  have hi1 : frees l st conn t l[i] = true := by rw [frees_iff v h1 hi hh hu i hi]; simp
  have g1 : (l.take i).filter (frees l st conn t) = [] := List.filter_eq_nil_iff.2 fun x hx => by simp [h0 x (List.mem_append_left _ hx)]
  have g2 : (l.drop (i + 1)).filter (frees l st conn t) = [] := List.filter_eq_nil_iff.2 fun x hx => by simp [h0 x (List.mem_append_right _ hx)]
  have g3 : l.filter (frees l st conn t) = (l.take i ++ [l[i]] ++ l.drop (i + 1)).filter (frees l st conn t) := congrArg _ e
  rw [g3, List.filter_append, List.filter_append, g1, g2]
  simp [hi1]

/-! ## Step depends on the last time only -/
theorem step_idem (now : Int) (o : O) : stepO now (stepO now o) = stepO now o := by
  unfold stepO
  by_cases h : act o = true ∧ o.tt ≤ now
  · rw [if_pos h, if_neg (by simp [enter, act]), if_neg (by simp [enter])]
  · rw [if_neg h]
    by_cases g : o.state = 2 ∧ o.fr ≤ now
    · rw [if_pos g, if_neg (by rintro ⟨_, k⟩; exact h ⟨by simp [act, g.1], k⟩), if_neg (by simp [enter])]
    · rw [if_neg g, if_neg h, if_neg g]
theorem step_late (now later : Int) (hl : now ≤ later) (o : O) : (stepO later (stepO now o)).state = (stepO later o).state := by
  unfold stepO
  by_cases h : act o = true ∧ o.tt ≤ now
  · rw [if_pos h, if_neg (by simp [enter, act]), if_neg (by simp [enter]), if_pos ⟨h.1, by omega⟩]
  · rw [if_neg h]
    by_cases g : o.state = 2 ∧ o.fr ≤ now
    · have ha : act o = true := by simp [act, g.1]
      rw [if_pos g]
      by_cases k : o.tt ≤ later
      · rw [if_pos ⟨by simp [enter, act], k⟩, if_pos ⟨ha, k⟩]; rfl
      · rw [if_neg (fun x => k x.2), if_neg (by simp [enter]), if_neg (fun x => k x.2), if_pos ⟨g.1, by omega⟩]
    · rw [if_neg g]
end Go.Proofs.Ytpejfnfhbpckiaa.Ord
