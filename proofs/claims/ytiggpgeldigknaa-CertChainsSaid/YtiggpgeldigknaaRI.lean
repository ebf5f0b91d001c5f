/- A region that draws its order, by an invariant of the slots that have been written. -/
import Derived.Orders
import Derived.RegionTactic
set_option linter.unusedVariables false
namespace Go.Proofs.Ytiggpgeldigknaa.RI
open Go
def dstOf (ops : Array Oper) (i : Nat) : Option Tmp := (ops[i]?).bind (·.dst)
def inside (ops : Array Oper) (t : Tmp) : Bool := ops.toList.any fun o => o.dst == some t
def readsOf (o : Oper) : List Tmp := o.op.operands.toList.filterMap fun | .tmp t => some t | _ => none
/-- every slot that an operation reads is out of the region's slots, or written by one that it waits for -/
def depOk (ops : Array Oper) (o : Oper) : Bool :=
  o.guard.isNone && (readsOf o).all fun t => !inside ops t || o.after.toList.any fun e => Region.binds .any e && dstOf ops e.on == some t
def apart (ops : Array Oper) : Bool := (List.range ops.size).all fun i => (dstOf ops i).isSome && (List.range ops.size).all fun j => i == j || dstOf ops i != dstOf ops j
def early (ops : Array Oper) : Bool := (List.range ops.size).all fun i => ((ops[i]?).map fun o => o.after.toList.all fun e => !Region.binds .any e || decide (e.on < i)).getD false
def inSize (ops : Array Oper) (n : Nat) : Bool := ops.toList.all fun o => (o.dst.map fun d => decide (d < n)).getD false
theorem filter_len {α} (p q : α → Bool) (hpq : ∀ x, p x = true → q x = true) : ∀ l : List α, (l.filter p).length ≤ (l.filter q).length := by
  intro l
  induction l with
  | nil => simp
  | cons x l ih =>
    simp only [List.filter_cons]
    by_cases hp : p x = true
    · simp only [hp, hpq x hp, if_true, List.length_cons]; omega
    · by_cases hq : q x = true
      · simp only [hp, hq, if_true, List.length_cons]; simp; omega
      · simp only [hp, hq]; simpa using ih
theorem filter_lt {α} (p q : α → Bool) (hpq : ∀ x, p x = true → q x = true) (i : α) (hp : p i = false) (hq : q i = true) : ∀ l : List α, i ∈ l → (l.filter p).length < (l.filter q).length := by
  intro l
  induction l with
  | nil => intro h; cases h
  | cons x l ih =>
    intro h
    have hle := filter_len p q hpq l
    simp only [List.filter_cons]
    rcases List.mem_cons.1 h with rfl | h
    · simp only [hp, hq, if_true, List.length_cons]; simp; omega
    · have := ih h
      by_cases hp : p x = true
      · simp only [hp, hpq x hp, if_true, List.length_cons]; omega
      · by_cases hq : q x = true
        · simp only [hp, hq, if_true, List.length_cons]; simp; omega
        · simp only [hp, hq]; simpa using this
section
variable {P : Program} {ops : Array Oper} {Q : Exit → Act → World → Prop}
/-- what one operation must bring, for any order of the others -/
def OpOk (P : Program) (Q : Exit → Act → World → Prop) (F : Tmp → Value → World → Prop) (W : World → Prop) (R : World → World → Prop) (o : Oper) : Prop :=
  ∀ a w, W w → (∀ t, (readsOf o).contains t = true → F t (a.tmps[t]?.getD undef) w) →
    ∀ K : Act → World → Prop, (∀ d v w', o.dst = some d → F d v w' → W w' → R w w' → K (a.put (some d) v) w') → o.wp P a w K Q
structure Inv (ops : Array Oper) (F : Tmp → Value → World → Prop) (W : World → Prop) (a0 : Act) (listed : Array Bool) (a : Act) (w : World) : Prop where
  size : listed.size = ops.size
  df : a.defers = a0.defers
  ts : a.tmps.size = a0.tmps.size
  out : ∀ t : Tmp, inside ops t = false → a.tmps[t]? = a0.tmps[t]? ∧ F t (a.tmps[t]?.getD undef) w
  ww : W w
  got : ∀ i t, listed.getD i false = true → dstOf ops i = some t → F t (a.tmps[t]?.getD undef) w
theorem inside_of {i : Nat} {t : Tmp} (h : dstOf ops i = some t) : inside ops t = true := by
  unfold dstOf at h
  cases ho : ops[i]? with
  | none => simp [ho] at h
  | some o =>
    simp only [ho, Option.bind_some] at h
    unfold inside
    rw [List.any_eq_true]
    exact ⟨o, by simpa using Array.mem_of_getElem? ho, by simp [h]⟩
theorem apart_ne (h : apart ops = true) {i j : Nat} {d : Tmp} (hi : dstOf ops i = some d) (hj : dstOf ops j = some d) : i = j := by
  have si : i < ops.size := by
    unfold dstOf at hi; cases ho : ops[i]? with
    | none => simp [ho] at hi
    | some o => exact (Array.getElem?_eq_some_iff.1 ho).1
  have sj : j < ops.size := by
    unfold dstOf at hj; cases ho : ops[j]? with
    | none => simp [ho] at hj
    | some o => exact (Array.getElem?_eq_some_iff.1 ho).1
  unfold apart at h
  rw [List.all_eq_true] at h
  have h1 := h i (List.mem_range.2 si)
  rw [Bool.and_eq_true, List.all_eq_true] at h1
  have h2 := h1.2 j (List.mem_range.2 sj)
  rw [hi, hj] at h2
  simpa using h2
theorem step_inv {F : Tmp → Value → World → Prop} {W : World → Prop} {R : World → World → Prop} {a0 : Act}
    (hF : ∀ t v w w', R w w' → F t v w → F t v w')
    (hdep : ops.toList.all (depOk ops) = true) (hap : apart ops = true) (hsz : inSize ops a0.tmps.size = true)
    (hop : ∀ o ∈ ops.toList, OpOk P Q F W R o)
    {listed : Array Bool} {a : Act} {w : World} (hI : Inv ops F W a0 listed a w) {i : Nat} (hi : i ∈ Region.ready .any ops listed)
    {K : Act → World → Prop} (hK : ∀ a w, Inv ops F W a0 (listed.setIfInBounds i true) a w → K a w) : wpOp P ops Q i K a w := by
  unfold Region.ready at hi
  rw [List.mem_filter, List.mem_range, Bool.and_eq_true] at hi
  obtain ⟨hlt, hun, haf⟩ := hi
  have ho : ops[i]? = some ops[i] := Array.getElem?_eq_getElem hlt
  have hmem : ops[i] ∈ ops.toList := by simp
  have hd1 := List.all_eq_true.1 hdep _ hmem
  have hs1 := List.all_eq_true.1 hsz _ hmem
  have hk := hop _ hmem
  rw [ho] at haf
  simp only [Option.map_some, Option.getD_some] at haf
  generalize hoo : ops[i] = o at *
  unfold depOk at hd1
  rw [Bool.and_eq_true] at hd1
  obtain ⟨hg, hd2⟩ := hd1
  have hgn : o.guard = none := by cases hgg : o.guard <;> simp_all
  unfold wpOp
  rw [ho]
  show if Region.wanted o (yielded ops a.tmps) = true then _ else _
  rw [if_pos (by simp [Region.wanted, hgn])]
  refine .inl (hk a w hI.ww (fun t ht => ?_) K (fun d v w' hd hf hw hR => hK _ _ ?_))
  · have h2 := List.all_eq_true.1 hd2 t (by simpa using ht)
    cases hin : inside ops t with
    | false => exact (hI.out t hin).2
    | true =>
      rw [hin] at h2
      simp only [Bool.not_true, Bool.false_or, List.any_eq_true, Bool.and_eq_true, beq_iff_eq] at h2
      obtain ⟨e, he, hb, het⟩ := h2
      refine hI.got e.on t ?_ het
      have h3 : (!Region.binds .any e || listed.getD e.on false) = true := by
        have := Array.all_eq_true_iff_forall_mem.1 haf e (by simpa using he)
        exact this
      rw [hb] at h3
      simpa using h3
  · have hdi : dstOf ops i = some d := by unfold dstOf; rw [ho]; exact hd
    have hdlt : d < a.tmps.size := by
      rw [hI.ts]
      rw [hd] at hs1
      simpa using hs1
    refine ⟨by simpa using hI.size, hI.df, by show (a.tmps.setIfInBounds d v).size = _; simpa using hI.ts, fun t ht => ?_, hw, fun j t hj hjt => ?_⟩
    · have hne : d ≠ t := by
        rintro rfl
        rw [inside_of hdi] at ht; cases ht
      have : (a.put (some d) v).tmps[t]? = a.tmps[t]? := Array.getElem?_setIfInBounds_ne hne
      rw [this]
      exact ⟨(hI.out t ht).1, hF _ _ _ _ hR (hI.out t ht).2⟩
    · by_cases hij : j = i
      · subst hij
        rw [hdi] at hjt
        injection hjt with hjt
        subst hjt
        have : (a.put (some d) v).tmps[d]? = some v := by
          show (a.tmps.setIfInBounds d v)[d]? = _
          simp [hdlt]
        rw [this]
        exact hf
      · have hne : d ≠ t := by
          rintro rfl
          exact hij (apart_ne hap hjt hdi)
        have : (a.put (some d) v).tmps[t]? = a.tmps[t]? := Array.getElem?_setIfInBounds_ne hne
        rw [this]
        refine hF _ _ _ _ hR (hI.got j t ?_ hjt)
        have : (listed.setIfInBounds i true)[j]? = listed[j]? := Array.getElem?_setIfInBounds_ne (fun e => hij e.symm)
        simpa [Array.getD_eq_getD_getElem?, this] using hj
theorem all_of_ready (he : early ops = true) {listed : Array Bool} (hs : listed.size = ops.size) (hr : Region.ready .any ops listed = []) : ∀ i, i < ops.size → listed.getD i false = true := by
  intro i
  induction i using Nat.strongRecOn with
  | ind i ih =>
    intro hi
    cases hl : listed.getD i false with
    | true => rfl
    | false =>
      exfalso
      have hmem : i ∈ Region.ready .any ops listed := by
        unfold Region.ready
        rw [List.mem_filter, List.mem_range, Bool.and_eq_true]
        refine ⟨hi, ?_, ?_⟩
        · have : i < listed.size := by omega
          simp [Array.getD_eq_getD_getElem?, this] at hl ⊢
          exact hl
        · have h1 := List.all_eq_true.1 he i (List.mem_range.2 hi)
          rw [Array.getElem?_eq_getElem hi] at h1 ⊢
          simp only [Option.map_some, Option.getD_some] at h1 ⊢
          rw [Array.all_eq_true_iff_forall_mem]
          intro e hem
          have h2 := List.all_eq_true.1 h1 e (by simpa using hem)
          cases hb : Region.binds .any e with
          | false => rfl
          | true =>
            rw [hb] at h2
            have h2 : e.on < i := by simpa using h2
            rw [ih e.on h2 (by omega)]
            rfl
      rw [hr] at hmem
      cases hmem
theorem any_inv {F : Tmp → Value → World → Prop} {W : World → Prop} {R : World → World → Prop} {a0 : Act}
    (hF : ∀ t v w w', R w w' → F t v w → F t v w')
    (hdep : ops.toList.all (depOk ops) = true) (hap : apart ops = true) (hsz : inSize ops a0.tmps.size = true) (he : early ops = true)
    (hop : ∀ o ∈ ops.toList, OpOk P Q F W R o)
    (hQ : ∀ a w, a.defers = a0.defers → a.tmps.size = a0.tmps.size → W w → (∀ t : Tmp, inside ops t = false → a.tmps[t]? = a0.tmps[t]?) → (∀ t : Tmp, F t (a.tmps[t]?.getD undef) w) → Q .normal a w) :
    ∀ fuel listed a w, Inv ops F W a0 listed a w → ((List.range ops.size).filter fun i => !listed.getD i true).length ≤ fuel → wpAny P .any ops Q fuel listed a w := by
  have fin : ∀ listed a w, Inv ops F W a0 listed a w → Region.ready .any ops listed = [] → Q .normal a w := fun listed a w hI hr => by
    have hall := all_of_ready he hI.size hr
    refine hQ a w hI.df hI.ts hI.ww (fun t ht => (hI.out t ht).1) (fun t => ?_)
    cases hin : inside ops t with
    | false => exact (hI.out t hin).2
    | true =>
      unfold inside at hin
      obtain ⟨o, ho, hd⟩ := List.any_eq_true.1 hin
      obtain ⟨i, hi, rfl⟩ := List.getElem_of_mem ho
      have hi2 : i < ops.size := by simpa using hi
      refine hI.got i t (hall i hi2) ?_
      unfold dstOf
      rw [Array.getElem?_eq_getElem hi2]
      simpa using hd
  intro fuel
  induction fuel with
  | zero =>
    intro listed a w hI hl
    have hr : Region.ready .any ops listed = [] := by
      unfold Region.ready
      have h0 : ((List.range ops.size).filter fun i => !listed.getD i true) = [] := List.eq_nil_of_length_eq_zero (by omega)
      rw [List.filter_eq_nil_iff] at h0 ⊢
      intro i hi
      have := h0 i hi
      simp only [Bool.not_eq_true'] at this ⊢
      simp [this]
    exact ⟨hr, fin _ _ _ hI hr⟩
  | succ fuel ih =>
    intro listed a w hI hl
    refine ⟨fin _ _ _ hI, fun i hi => step_inv hF hdep hap hsz hop hI hi (fun a' w' hI' => ih _ _ _ hI' ?_)⟩
    have hi' := hi
    unfold Region.ready at hi'
    rw [List.mem_filter, List.mem_range, Bool.and_eq_true] at hi'
    have := filter_lt (fun j => !(listed.setIfInBounds i true).getD j true) (fun j => !listed.getD j true) (fun j hj => by
      by_cases hij : j = i
      · subst hij
        exact hi'.2.1
      · have e : (listed.setIfInBounds i true)[j]? = listed[j]? := Array.getElem?_setIfInBounds_ne (fun e => hij e.symm)
        simpa [Array.getD_eq_getD_getElem?, e] using hj) i (by
        have : i < listed.size := by have := hI.size; omega
        simp [Array.getD_eq_getD_getElem?, this]) hi'.2.1 (List.range ops.size) (List.mem_range.2 hi'.1)
    omega
/-- the region, for any order -/
theorem region {F : Tmp → Value → World → Prop} {W : World → Prop} {R : World → World → Prop} {id : Nat} {a : Act} {w : World} (hm : P.follows .mixedOrders = true)
    (hF : ∀ t v w w', R w w' → F t v w → F t v w')
    (hdep : ops.toList.all (depOk ops) = true) (hap : apart ops = true) (hsz : inSize ops a.tmps.size = true) (he : early ops = true)
    (h0 : W { w with drawn := w.drawn + 1 }) (hin : ∀ t : Tmp, inside ops t = false → F t (a.tmps[t]?.getD undef) { w with drawn := w.drawn + 1 })
    (hop : ∀ o ∈ ops.toList, OpOk P Q F W R o)
    (hQ : ∀ a' w', a'.defers = a.defers → a'.tmps.size = a.tmps.size → W w' → (∀ t : Tmp, inside ops t = false → a'.tmps[t]? = a.tmps[t]?) → (∀ t : Tmp, F t (a'.tmps[t]?.getD undef) w') → Q .normal a' w') :
    (Code.region id ops true).wp P Q a w := by
  refine wp_region_any hm (any_inv hF hdep hap hsz he hop hQ _ _ _ _ ⟨by simp, rfl, rfl, fun t ht => ⟨rfl, hin t ht⟩, h0, fun i t hi => ?_⟩ ?_)
  · exfalso
    simp [Array.getD_eq_getD_getElem?, Array.getElem?_replicate] at hi
    split at hi <;> simp_all
  · refine Nat.le_trans (List.length_filter_le _ _) ?_
    simp
end
end Go.Proofs.Ytiggpgeldigknaa.RI
