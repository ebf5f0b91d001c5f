/- A region that draws its order, by an invariant of the slots that have been written; new variables are stored to, once each; a guard is decided by what its slot holds; inside a fence; an operation may spoil what a slot holds that it alone reads (append onto a slice of the call's own). -/
import Derived.Orders
import Derived.RegionTactic
import Derived.OrdersIn
set_option linter.unusedVariables false
namespace Go.Proofs.YtbngclibfnnejaaDoor.RMI
open Go
def dstOf (ops : Array Oper) (i : Nat) : Option Tmp := (ops[i]?).bind (·.dst)
def inside (ops : Array Oper) (t : Tmp) : Bool := ops.toList.any fun o => o.dst == some t
def readsOf (o : Oper) : List Tmp := o.op.operands.toList.filterMap fun | .tmp t => some t | _ => none
/-- every slot that an operation reads is out of the region's slots, or written by one that it waits for -/
def guardOk (D : List Tmp) (ops : Array Oper) (o : Oper) : Bool :=
  match o.guard with
  | none => true
  | some (j, _) => (o.dst.map fun d => !D.contains d).getD false && ((dstOf ops j).isSome && o.after.toList.any fun e => Region.binds .any e && e.on == j)
def depOk (D : List Tmp) (ops : Array Oper) (o : Oper) : Bool :=
  guardOk D ops o && (readsOf o).all fun t => !inside ops t || o.after.toList.any fun e => Region.binds .any e && dstOf ops e.on == some t
def apart (ops : Array Oper) : Bool := (List.range ops.size).all fun i => (List.range ops.size).all fun j => i == j || (dstOf ops i).isNone || dstOf ops i != dstOf ops j
def tgOf (o : Oper) : Tmp := match o.op with | .store _ (.tmp p) _ => p | _ => 0
/-- the stores go to new variables, one each -/
def storesOk (D : List Tmp) (ops : Array Oper) : Bool :=
  (ops.toList.all fun o => o.dst.isSome || (D.contains (tgOf o) && ((readsOf o).contains (tgOf o) && inside ops (tgOf o)))) &&
  (List.range ops.size).all fun i => (List.range ops.size).all fun j => i == j || (((ops[i]?).map fun o => o.dst.isSome).getD true || (((ops[j]?).map fun o => o.dst.isSome).getD true || (ops[i]?).map tgOf != (ops[j]?).map tgOf))
def early (ops : Array Oper) : Bool := (List.range ops.size).all fun i => ((ops[i]?).map fun o => o.after.toList.all fun e => !Region.binds .any e || decide (e.on < i)).getD false
def inSize (ops : Array Oper) (n : Nat) : Bool := ops.toList.all fun o => (o.dst.map fun d => decide (d < n)).getD true
/-- what is spoilt is read by its spoiler alone, is no guard and no new variable -/
def spoilOk (C : List (Tmp × Tmp)) (D : List Tmp) (ops : Array Oper) : Bool :=
  C.all fun p => inside ops p.2 && (!D.contains p.2 && (p.1 != p.2 && ops.toList.all fun o => (!(readsOf o).contains p.2 || o.dst == some p.1) && (o.guard.map fun g => dstOf ops g.1 != some p.2).getD true))
theorem filter_len {α} (p q : α → Bool) (hpq : ∀ x, p x = true → q x = true) : ∀ l : List α, (l.filter p).length ≤ (l.filter q).length := by
  intro l
  induction l with
  | nil => simp
  | cons x l ih =>
    simp only [List.filter_cons]
    by_cases hp : p x = true
    · simp only [hp, hpq x hp, if_true, List.length_cons]; omega
    · by_cases hq : q x = true
      · simp only [hp, hq, if_true, List.length_cons]; simp; omega
      · simp only [hp, hq]; simpa using ih
theorem filter_lt {α} (p q : α → Bool) (hpq : ∀ x, p x = true → q x = true) (i : α) (hp : p i = false) (hq : q i = true) : ∀ l : List α, i ∈ l → (l.filter p).length < (l.filter q).length := by
  intro l
  induction l with
  | nil => intro h; cases h
  | cons x l ih =>
    intro h
    have hle := filter_len p q hpq l
    simp only [List.filter_cons]
    rcases List.mem_cons.1 h with rfl | h
    · simp only [hp, hq, if_true, List.length_cons]; simp; omega
    · have := ih h
      by_cases hp : p x = true
      · simp only [hp, hpq x hp, if_true, List.length_cons]; omega
      · by_cases hq : q x = true
        · simp only [hp, hq, if_true, List.length_cons]; simp; omega
        · simp only [hp, hq]; simpa using this
section
variable {Fe : Fence} {nn : Nat} {P : Program} {ops : Array Oper} {Q : Exit → Act → World → Prop}
/-- what one operation must bring, for any order of the others -/
def OpOk (Fe : Fence) (nn : Nat) (P : Program) (Q : Exit → Act → World → Prop) (F : Tmp → Value → World → Prop) (W : World → Prop) (R : Tmp → World → World → Prop) (D : List Tmp) (Gd : World → Prop) (o : Oper) : Prop :=
  ∀ a w, W w → Gd w → (∀ t, (readsOf o).contains t = true → F t (a.tmps[t]?.getD undef) w) →
    ∀ K : Act → World → Prop, (∀ d v w', o.dst = some d → F d v w' → W w' → R d w w' → (D.contains d = true → ∀ t u, t ≠ d → D.contains t = true → F t u w → v ≠ u) → K (a.put (some d) v) w') → o.wpIn Fe nn P a w K Q
def OpSt (Fe : Fence) (nn : Nat) (P : Program) (Q : Exit → Act → World → Prop) (F : Tmp → Value → World → Prop) (W : World → Prop) (S : Value → World → World → Prop) (G : Tmp → Value → World → Prop) (o : Oper) : Prop :=
  ∀ a w, W w → (∀ t, (readsOf o).contains t = true → F t (a.tmps[t]?.getD undef) w) →
    ∀ K : Act → World → Prop, (∀ v w', W w' → S (a.tmps[tgOf o]?.getD undef) w w' → G (tgOf o) (a.tmps[tgOf o]?.getD undef) w' → K (a.put none v) w') → o.wpIn Fe nn P a w K Q
/-- each operation brings what it must -/
def StepOk (Fe : Fence) (nn : Nat) (P : Program) (Q : Exit → Act → World → Prop) (F : Tmp → Value → World → Prop) (W : World → Prop) (R : Tmp → World → World → Prop) (S : Value → World → World → Prop) (G : Tmp → Value → World → Prop) (D : List Tmp) (ops : Array Oper) (o : Oper) : Prop :=
  match o.dst, o.guard with
  | none, _ => OpSt Fe nn P Q F W S G o
  | some _, none => OpOk Fe nn P Q F W R D (fun _ => True) o
  | some d, some (j, b) => match dstOf ops j with
    | some t => OpOk Fe nn P Q F W R D (F t (.bool b)) o ∧ ∀ v w, W w → F t v w → v ≠ .bool b → F d undef w
    | none => True
structure Inv (C : List (Tmp × Tmp)) (ops : Array Oper) (F : Tmp → Value → World → Prop) (W : World → Prop) (G : Tmp → Value → World → Prop) (D : List Tmp) (a0 : Act) (listed : Array Bool) (a : Act) (w : World) : Prop where
  size : listed.size = ops.size
  df : a.defers = a0.defers
  ts : a.tmps.size = a0.tmps.size
  out : ∀ t : Tmp, inside ops t = false → a.tmps[t]? = a0.tmps[t]? ∧ F t (a.tmps[t]?.getD undef) w
  ww : W w
  got : ∀ i t, listed.getD i false = true → dstOf ops i = some t → (∀ p ∈ C, p.2 = t → ∀ j, dstOf ops j = some p.1 → listed.getD j false = false) → F t (a.tmps[t]?.getD undef) w
  dis : ∀ i j t u, listed.getD i false = true → listed.getD j false = true → dstOf ops i = some t → dstOf ops j = some u → t ≠ u → D.contains t = true → D.contains u = true → a.tmps[t]?.getD undef ≠ a.tmps[u]?.getD undef
  gg : ∀ i o, listed.getD i false = true → ops[i]? = some o → o.dst = none → (∃ j, listed.getD j false = true ∧ dstOf ops j = some (tgOf o)) ∧ G (tgOf o) (a.tmps[tgOf o]?.getD undef) w
theorem inside_of {i : Nat} {t : Tmp} (h : dstOf ops i = some t) : inside ops t = true := by
  unfold dstOf at h
  cases ho : ops[i]? with
  | none => simp [ho] at h
  | some o =>
    simp only [ho, Option.bind_some] at h
    unfold inside
    rw [List.any_eq_true]
    exact ⟨o, by simpa using Array.mem_of_getElem? ho, by simp [h]⟩
theorem size_of {i : Nat} {d : Tmp} (hi : dstOf ops i = some d) : i < ops.size := by
  unfold dstOf at hi; cases ho : ops[i]? with
  | none => simp [ho] at hi
  | some o => exact (Array.getElem?_eq_some_iff.1 ho).1
theorem apart_ne (h : apart ops = true) {i j : Nat} {d : Tmp} (hi : dstOf ops i = some d) (hj : dstOf ops j = some d) : i = j := by
  have si := size_of hi
  have sj := size_of hj
  unfold apart at h
  rw [List.all_eq_true] at h
  have h1 := h i (List.mem_range.2 si)
  rw [List.all_eq_true] at h1
  have h2 := h1 j (List.mem_range.2 sj)
  rw [hi, hj] at h2
  simpa using h2
theorem stores_ne {D : List Tmp} (h : storesOk D ops = true) {i j : Nat} {o q : Oper} (hi : ops[i]? = some o) (hj : ops[j]? = some q) (ho : o.dst = none) (hq : q.dst = none) (hne : i ≠ j) : tgOf o ≠ tgOf q := by
  have si := (Array.getElem?_eq_some_iff.1 hi).1
  have sj := (Array.getElem?_eq_some_iff.1 hj).1
  unfold storesOk at h
  rw [Bool.and_eq_true] at h
  have h1 := List.all_eq_true.1 h.2 i (List.mem_range.2 si)
  have h2 := List.all_eq_true.1 h1 j (List.mem_range.2 sj)
  simp [hi, hj, ho, hq, hne] at h2
  exact h2
theorem step_inv {F : Tmp → Value → World → Prop} {W : World → Prop} {R : Tmp → World → World → Prop} {S : Value → World → World → Prop} {G : Tmp → Value → World → Prop} {C : List (Tmp × Tmp)} {D : List Tmp} {a0 : Act}
    (hF : ∀ d t v w w', R d w w' → t ≠ d → C.contains (d, t) = false → F t v w → F t v w') (hG : ∀ d t v w w', R d w w' → G t v w → G t v w')
    (hFS : ∀ u t v w w', S u w w' → F t v w → F t v w') (hGS : ∀ u t v w w', S u w w' → v ≠ u → G t v w → G t v w')
    (hdep : ops.toList.all (depOk D ops) = true) (hap : apart ops = true) (hsz : inSize ops a0.tmps.size = true) (hst : storesOk D ops = true)
    (hop : ∀ o ∈ ops.toList, StepOk Fe nn P Q F W R S G D ops o)
    (hC : spoilOk C D ops = true) (hfn : ∀ f, Fe.fn f)
    {listed : Array Bool} {a : Act} {w : World} (hI : Inv C ops F W G D a0 listed a w) {i : Nat} (hi : i ∈ Region.ready .any ops listed)
    {K : Act → World → Prop} (hK : ∀ a w, Inv C ops F W G D a0 (listed.setIfInBounds i true) a w → K a w) : wpOpIn Fe nn P ops Q i K a w := by
  unfold Region.ready at hi
  rw [List.mem_filter, List.mem_range, Bool.and_eq_true] at hi
  obtain ⟨hlt, hun, haf⟩ := hi
  have ho : ops[i]? = some ops[i] := Array.getElem?_eq_getElem hlt
  have hmem : ops[i] ∈ ops.toList := by simp
  have hd1 := List.all_eq_true.1 hdep _ hmem
  have hs1 := List.all_eq_true.1 hsz _ hmem
  have hst1 := List.all_eq_true.1 (by unfold storesOk at hst; rw [Bool.and_eq_true] at hst; exact hst.1) _ hmem
  have hk := hop _ hmem
  rw [ho] at haf
  simp only [Option.map_some, Option.getD_some] at haf
  generalize hoo : ops[i] = o at *
  unfold depOk at hd1
  rw [Bool.and_eq_true] at hd1
  obtain ⟨hg, hd2⟩ := hd1
  have oth : ∀ j, j ≠ i → (listed.setIfInBounds i true).getD j false = listed.getD j false := fun j hj => by
    have : (listed.setIfInBounds i true)[j]? = listed[j]? := Array.getElem?_setIfInBounds_ne (fun e => hj e.symm)
    simp [Array.getD_eq_getD_getElem?, this]
  have dep : ∀ t, (readsOf o).contains t = true → inside ops t = true → ∃ j, listed.getD j false = true ∧ dstOf ops j = some t := fun t ht hin => by
    have h2 := List.all_eq_true.1 hd2 t (by simpa using ht)
    rw [hin] at h2
    simp only [Bool.not_true, Bool.false_or, List.any_eq_true, Bool.and_eq_true, beq_iff_eq] at h2
    obtain ⟨e, he, hb, het⟩ := h2
    refine ⟨e.on, ?_, het⟩
    have h3 : (!Region.binds .any e || listed.getD e.on false) = true := Array.all_eq_true_iff_forall_mem.1 haf e (by simpa using he)
    rw [hb] at h3
    simpa using h3
  have reads : ∀ t, (readsOf o).contains t = true → F t (a.tmps[t]?.getD undef) w := fun t ht => by
    cases hin : inside ops t with
    | false => exact (hI.out t hin).2
    | true =>
      obtain ⟨j, hj, hjt⟩ := dep t ht hin
      refine hI.got j t hj hjt fun p hp hpt j' hj' => ?_
      have hc := List.all_eq_true.1 hC p hp
      simp only [Bool.and_eq_true] at hc
      have hco := List.all_eq_true.1 hc.2.2.2 o (by rw [← hoo]; simp)
      rw [Bool.and_eq_true, hpt, ht] at hco
      have hdp : o.dst = some p.1 := by simpa using hco.1
      have hdi : dstOf ops i = some p.1 := by unfold dstOf; rw [ho]; exact hdp
      rw [apart_ne hap hj' hdi]
      have h1 : listed.getD i true = false := by simpa using hun
      have h2 : i < listed.size := by have := hI.size; omega
      simp [Array.getD_eq_getD_getElem?, h2] at h1 ⊢
      exact h1
  have nog : o.guard = none → Region.wanted o (yielded ops a.tmps) = true := fun hgg => by unfold Region.wanted; rw [hgg]
  have gd : ∀ j b t, o.guard = some (j, b) → dstOf ops j = some t → F t (a.tmps[t]?.getD undef) w ∧ (Region.wanted o (yielded ops a.tmps) = true ↔ a.tmps[t]?.getD undef = .bool b) := fun j b t hgg hjt => by
    unfold guardOk at hg
    rw [hgg] at hg
    simp only [Bool.and_eq_true, List.any_eq_true, beq_iff_eq] at hg
    obtain ⟨_, hjd, e, he, hbd, hej⟩ := hg
    have h3 : (!Region.binds .any e || listed.getD e.on false) = true := Array.all_eq_true_iff_forall_mem.1 haf e (by simpa using he)
    rw [hbd, hej] at h3
    refine ⟨hI.got j t (by simpa using h3) hjt fun p hp hpt j' hj' => by
      have hc := List.all_eq_true.1 hC p hp
      simp only [Bool.and_eq_true] at hc
      have hco := List.all_eq_true.1 hc.2.2.2 o (by rw [← hoo]; simp)
      rw [Bool.and_eq_true, hgg] at hco
      have := hco.2
      simp [hjt, hpt] at this, ?_⟩
    have htl : t < a.tmps.size := by
      rw [hI.ts]
      have hj2 := size_of hjt
      have hs2 := List.all_eq_true.1 hsz ops[j] (by simp)
      unfold dstOf at hjt
      rw [Array.getElem?_eq_getElem hj2, Option.bind_some] at hjt
      rw [hjt] at hs2
      simpa using hs2
    have hy : yielded ops a.tmps j = match a.tmps[t]?.getD undef with | .bool c => some c | _ => none := by
      unfold yielded
      have hjt2 : (ops[j]?).bind (·.dst) = some t := hjt
      rw [hjt2, Option.bind_some, Array.getElem?_eq_getElem htl]
      simp only [Option.getD_some]
      split <;> split <;> simp_all
    unfold Region.wanted
    rw [hgg]
    simp only [hy]
    generalize a.tmps[t]?.getD undef = u
    cases u <;> first | simp | (rename_i c; cases c <;> cases b <;> simp)
  unfold wpOpIn
  rw [ho]
  show if Region.wanted o (yielded ops a.tmps) = true then _ else _
  unfold StepOk at hk
  cases hdst : o.dst with
  | none =>
    have hgn : o.guard = none := by
      cases hgg : o.guard with
      | none => rfl
      | some jb => unfold guardOk at hg; rw [hgg, hdst] at hg; simp at hg
    rw [if_pos (nog hgn)]
    rw [hdst] at hk hst1
    simp only [Option.isSome_none, Bool.false_or, Bool.and_eq_true] at hst1
    obtain ⟨hD, hrd, hins⟩ := hst1
    obtain ⟨jt, hjt1, hjt2⟩ := dep _ hrd hins
    have hdi : dstOf ops i = none := by unfold dstOf; rw [ho]; exact hdst
    have back : ∀ j t, (listed.setIfInBounds i true).getD j false = true → dstOf ops j = some t → listed.getD j false = true := fun j t hj hd => by
      by_cases hij : j = i
      · subst hij; rw [hdi] at hd; cases hd
      · rwa [oth j hij] at hj
    have keepL : ∀ j, listed.getD j false = true → (listed.setIfInBounds i true).getD j false = true := fun j hj => by
      by_cases hij : j = i
      · subst hij; rw [ho] at *; have hh := hI.size; simp [Array.getD_eq_getD_getElem?, hh, hlt]
      · rw [oth j hij]; exact hj
    refine (hk a w hI.ww reads K (fun v w' hw hS hg' => hK _ _ ?_))
    refine ⟨by simpa using hI.size, hI.df, hI.ts, fun t ht => ⟨(hI.out t ht).1, hFS _ _ _ _ _ hS (hI.out t ht).2⟩, hw, fun j t hj hd hp => hFS _ _ _ _ _ hS (hI.got j t (back j t hj hd) hd fun p hp1 hp2 j' hj' => by
      have := hp p hp1 hp2 j' hj'
      by_cases hij : j' = i
      · subst hij; rw [hdi] at hj'; cases hj'
      · rwa [oth j' hij] at this), fun j k t u hj hk2 h1 h2 => hI.dis j k t u (back j t hj h1) (back k u hk2 h2) h1 h2, fun j q hj hq hqd => ?_⟩
    by_cases hij : j = i
    · subst hij
      rw [ho] at hq
      injection hq with hq
      subst hq
      exact ⟨⟨jt, keepL _ hjt1, hjt2⟩, hg'⟩
    · have hj' : listed.getD j false = true := by rw [oth j hij] at hj; exact hj
      obtain ⟨⟨k, hk1, hk2⟩, hgq⟩ := hI.gg j q hj' hq hqd
      have hmq : q ∈ ops.toList := by simpa using Array.mem_of_getElem? hq
      have hstq := List.all_eq_true.1 (by unfold storesOk at hst; rw [Bool.and_eq_true] at hst; exact hst.1) _ hmq
      rw [hqd] at hstq
      simp only [Option.isSome_none, Bool.false_or, Bool.and_eq_true] at hstq
      refine ⟨⟨k, keepL _ hk1, hk2⟩, hGS _ _ _ _ _ hS ?_ hgq⟩
      exact hI.dis k jt _ _ hk1 hjt1 hk2 hjt2 (stores_ne hst hq ho hqd hdst hij) hstq.1 hD
  | some d0 =>
    rw [hdst] at hk
    have main : ∀ d v w', o.dst = some d → F d v w' → W w' → (∀ t u, t ≠ d → C.contains (d, t) = false → F t u w → F t u w') → (∀ t u, G t u w → G t u w') → (D.contains d = true → ∀ t u, t ≠ d → D.contains t = true → F t u w → v ≠ u) → Inv C ops F W G D a0 (listed.setIfInBounds i true) (a.put (some d) v) w' := by
     intro d v w' hd hf hw hF hG hfr
     have hdi : dstOf ops i = some d := by unfold dstOf; rw [ho]; exact hd
     have hdlt : d < a.tmps.size := by
       rw [hI.ts]
       rw [hd] at hs1
       simpa using hs1
     have own : (a.put (some d) v).tmps[d]? = some v := by
       show (a.tmps.setIfInBounds d v)[d]? = _
       simp [hdlt]
     have far : ∀ t, d ≠ t → (a.put (some d) v).tmps[t]? = a.tmps[t]? := fun t hne => Array.getElem?_setIfInBounds_ne hne
     have keepL : ∀ j, listed.getD j false = true → (listed.setIfInBounds i true).getD j false = true := fun j hj => by
       by_cases hij : j = i
       · subst hij; have hh := hI.size; simp [Array.getD_eq_getD_getElem?, hh, hlt]
       · rw [oth j hij]; exact hj
     have nod : ∀ j t, j ≠ i → dstOf ops j = some t → d ≠ t := fun j t hij hjt => by
       rintro rfl
       exact hij (apart_ne hap hjt hdi)
     refine ⟨by simpa using hI.size, hI.df, by show (a.tmps.setIfInBounds d v).size = _; simpa using hI.ts, fun t ht => ?_, hw, fun j t hj hjt hp => ?_, fun j k t u hj hk2 h1 h2 hne hDt hDu => ?_, fun j q hj hq hqd => ?_⟩
     · have hne : d ≠ t := by
         rintro rfl
         rw [inside_of hdi] at ht; cases ht
       rw [far t hne]
       refine ⟨(hI.out t ht).1, hF _ _ (fun e => hne e.symm) ?_ (hI.out t ht).2⟩
       cases hcc : C.contains (d, t) with
       | false => rfl
       | true =>
         have hc := List.all_eq_true.1 hC (d, t) (by simpa using hcc)
         simp [ht] at hc
     · by_cases hij : j = i
       · subst hij
         rw [hdi] at hjt
         injection hjt with hjt
         subst hjt
         rw [own]
         exact hf
       · rw [far t (nod j t hij hjt)]
         refine hF _ _ (fun e => nod j t hij hjt e.symm) ?_ (hI.got j t (by rwa [oth j hij] at hj) hjt fun p hp1 hp2 j' hj' => ?_)
         · cases hcc : C.contains (d, t) with
           | false => rfl
           | true =>
             have := hp (d, t) (by simpa using hcc) rfl i hdi
             have h2 : i < listed.size := by have := hI.size; omega
             simp [Array.getD_eq_getD_getElem?, h2] at this
         · have := hp p hp1 hp2 j' hj'
           by_cases hij2 : j' = i
           · subst hij2
             have h2 : j' < listed.size := by have := hI.size; omega
             simp [Array.getD_eq_getD_getElem?, h2] at this
           · rwa [oth j' hij2] at this
     · by_cases hji : j = i
       · subst hji
         rw [hdi] at h1
         injection h1 with h1
         subst h1
         have hki : k ≠ j := by
           rintro rfl
           rw [hdi] at h2; injection h2 with h2; exact hne h2
         rw [own, far u (nod k u hki h2)]
         exact hfr hDt u _ (fun e => hne e.symm) hDu (hI.got k u (by rwa [oth k hki] at hk2) h2 (fun p hp hpt j' hj' => by
           have hc := List.all_eq_true.1 hC p hp
           simp only [hpt, hDu, Bool.not_true, Bool.false_and, Bool.and_false] at hc; cases hc))
       · by_cases hki : k = i
         · subst hki
           rw [hdi] at h2
           injection h2 with h2
           subst h2
           rw [own, far t (nod j t hji h1)]
           exact fun e => hfr hDu t _ hne hDt (hI.got j t (by rwa [oth j hji] at hj) h1 (fun p hp hpt j' hj' => by
           have hc := List.all_eq_true.1 hC p hp
           simp only [hpt, hDt, Bool.not_true, Bool.false_and, Bool.and_false] at hc; cases hc)) e.symm
         · rw [far t (nod j t hji h1), far u (nod k u hki h2)]
           exact hI.dis j k t u (by rwa [oth j hji] at hj) (by rwa [oth k hki] at hk2) h1 h2 hne hDt hDu
     · have hij : j ≠ i := by
         rintro rfl
         rw [ho] at hq
         injection hq with hq
         subst hq
         rw [hd] at hqd; cases hqd
       obtain ⟨⟨k, hk1, hk2⟩, hgq⟩ := hI.gg j q (by rwa [oth j hij] at hj) hq hqd
       have hki : k ≠ i := by
         rintro rfl
         have h1 : listed.getD k true = false := by simpa using hun
         have h2 : k < listed.size := by have := hI.size; omega
         simp [Array.getD_eq_getD_getElem?, h2] at h1 hk1
         rw [h1] at hk1; cases hk1
       refine ⟨⟨k, keepL _ hk1, hk2⟩, ?_⟩
       rw [far _ (nod k _ hki hk2)]
       exact hG _ _ hgq
    have go : ∀ Gd : World → Prop, Gd w → OpOk Fe nn P Q F W R D Gd o → o.wpIn Fe nn P a w K Q := fun Gd hGd hk => hk a w hI.ww hGd reads K (fun d v w' hd hf hw hR hfr => hK _ _ (main d v w' (by rw [hdst]; rw [hdst] at hd; exact hd) hf hw (fun t u => hF _ t u _ _ hR) (fun t u => hG _ t u _ _ hR) hfr))
    cases hgg : o.guard with
    | none =>
      rw [hgg] at hk
      rw [if_pos (nog hgg)]
      exact (go _ trivial hk)
    | some jb =>
      obtain ⟨j, b⟩ := jb
      rw [hgg] at hk
      cases hjt : dstOf ops j with
      | none => unfold guardOk at hg; rw [hgg] at hg; simp [hjt] at hg
      | some t =>
        simp only [hjt] at hk
        obtain ⟨hFt, hwt⟩ := gd j b t hgg hjt
        by_cases hw : Region.wanted o (yielded ops a.tmps) = true
        · rw [if_pos hw]
          rw [hwt.1 hw] at hFt
          exact (go _ hFt hk.1)
        · rw [if_neg hw]
          refine ⟨fun f _ => hfn f, ?_⟩
          refine hK _ _ (main d0 undef w hdst (hk.2 _ w hI.ww hFt fun e => hw (hwt.2 e)) hI.ww (fun _ _ _ _ h => h) (fun _ _ h => h) (fun hDd => ?_))
          unfold guardOk at hg
          rw [hgg, hdst] at hg
          simp only [Option.map_some, Option.getD_some, hDd, Bool.not_true, Bool.false_and] at hg
          cases hg
theorem all_of_ready (he : early ops = true) {listed : Array Bool} (hs : listed.size = ops.size) (hr : Region.ready .any ops listed = []) : ∀ i, i < ops.size → listed.getD i false = true := by
  intro i
  induction i using Nat.strongRecOn with
  | ind i ih =>
    intro hi
    cases hl : listed.getD i false with
    | true => rfl
    | false =>
      exfalso
      have hmem : i ∈ Region.ready .any ops listed := by
        unfold Region.ready
        rw [List.mem_filter, List.mem_range, Bool.and_eq_true]
        refine ⟨hi, ?_, ?_⟩
        · have : i < listed.size := by omega
          simp [Array.getD_eq_getD_getElem?, this] at hl ⊢
          exact hl
        · have h1 := List.all_eq_true.1 he i (List.mem_range.2 hi)
          rw [Array.getElem?_eq_getElem hi] at h1 ⊢
          simp only [Option.map_some, Option.getD_some] at h1 ⊢
          rw [Array.all_eq_true_iff_forall_mem]
          intro e hem
          have h2 := List.all_eq_true.1 h1 e (by simpa using hem)
          cases hb : Region.binds .any e with
          | false => rfl
          | true =>
            rw [hb] at h2
            have h2 : e.on < i := by simpa using h2
            rw [ih e.on h2 (by omega)]
            rfl
      rw [hr] at hmem
      cases hmem
theorem any_inv {F : Tmp → Value → World → Prop} {W : World → Prop} {R : Tmp → World → World → Prop} {S : Value → World → World → Prop} {G : Tmp → Value → World → Prop} {C : List (Tmp × Tmp)} {D : List Tmp} {a0 : Act}
    (hF : ∀ d t v w w', R d w w' → t ≠ d → C.contains (d, t) = false → F t v w → F t v w') (hG : ∀ d t v w w', R d w w' → G t v w → G t v w')
    (hFS : ∀ u t v w w', S u w w' → F t v w → F t v w') (hGS : ∀ u t v w w', S u w w' → v ≠ u → G t v w → G t v w')
    (hdep : ops.toList.all (depOk D ops) = true) (hap : apart ops = true) (hsz : inSize ops a0.tmps.size = true) (he : early ops = true) (hst : storesOk D ops = true)
    (hop : ∀ o ∈ ops.toList, StepOk Fe nn P Q F W R S G D ops o)
    (hC : spoilOk C D ops = true) (hfn : ∀ f, Fe.fn f)
    (hQ : ∀ a w, a.defers = a0.defers → a.tmps.size = a0.tmps.size → W w → (∀ t : Tmp, inside ops t = false → a.tmps[t]? = a0.tmps[t]?) → (∀ t : Tmp, C.all (fun p => p.2 != t) = true → F t (a.tmps[t]?.getD undef) w) → (∀ o ∈ ops.toList, o.dst = none → G (tgOf o) (a.tmps[tgOf o]?.getD undef) w) → Q .normal a w) :
    ∀ fuel listed a w, Inv C ops F W G D a0 listed a w → ((List.range ops.size).filter fun i => !listed.getD i true).length ≤ fuel → wpAnyIn Fe nn P .any ops Q fuel listed a w := by
  have fin : ∀ listed a w, Inv C ops F W G D a0 listed a w → Region.ready .any ops listed = [] → Q .normal a w := fun listed a w hI hr => by
    have hall := all_of_ready he hI.size hr
    refine hQ a w hI.df hI.ts hI.ww (fun t ht => (hI.out t ht).1) (fun t hCt => ?_) (fun o ho hd => ?_)
    rotate_left
    · obtain ⟨i, hi, rfl⟩ := List.getElem_of_mem ho
      have hi2 : i < ops.size := by simpa using hi
      exact (hI.gg i _ (hall i hi2) (by rw [Array.getElem?_eq_getElem hi2]; simp) hd).2
    cases hin : inside ops t with
    | false => exact (hI.out t hin).2
    | true =>
      unfold inside at hin
      obtain ⟨o, ho, hd⟩ := List.any_eq_true.1 hin
      obtain ⟨i, hi, rfl⟩ := List.getElem_of_mem ho
      have hi2 : i < ops.size := by simpa using hi
      refine hI.got i t (hall i hi2) ?_ (fun p hp hpt => absurd hpt (by have := List.all_eq_true.1 hCt p hp; simpa using this))
      unfold dstOf
      rw [Array.getElem?_eq_getElem hi2]
      simpa using hd
  intro fuel
  induction fuel with
  | zero =>
    intro listed a w hI hl
    have hr : Region.ready .any ops listed = [] := by
      unfold Region.ready
      have h0 : ((List.range ops.size).filter fun i => !listed.getD i true) = [] := List.eq_nil_of_length_eq_zero (by omega)
      rw [List.filter_eq_nil_iff] at h0 ⊢
      intro i hi
      have := h0 i hi
      simp only [Bool.not_eq_true'] at this ⊢
      simp [this]
    exact ⟨hr, fin _ _ _ hI hr⟩
  | succ fuel ih =>
    intro listed a w hI hl
    refine ⟨fin _ _ _ hI, fun i hi => step_inv hF hG hFS hGS hdep hap hsz hst hop hC hfn hI hi (fun a' w' hI' => ih _ _ _ hI' ?_)⟩
    have hi' := hi
    unfold Region.ready at hi'
    rw [List.mem_filter, List.mem_range, Bool.and_eq_true] at hi'
    have := filter_lt (fun j => !(listed.setIfInBounds i true).getD j true) (fun j => !listed.getD j true) (fun j hj => by
      by_cases hij : j = i
      · subst hij
        exact hi'.2.1
      · have e : (listed.setIfInBounds i true)[j]? = listed[j]? := Array.getElem?_setIfInBounds_ne (fun e => hij e.symm)
        simpa [Array.getD_eq_getD_getElem?, e] using hj) i (by
        have : i < listed.size := by have := hI.size; omega
        simp [Array.getD_eq_getD_getElem?, this]) hi'.2.1 (List.range ops.size) (List.mem_range.2 hi'.1)
    omega
/-- the region, for any order -/
theorem region {F : Tmp → Value → World → Prop} {W : World → Prop} {R : Tmp → World → World → Prop} {S : Value → World → World → Prop} {G : Tmp → Value → World → Prop} (C : List (Tmp × Tmp)) (D : List Tmp) {id : Nat} {a : Act} {w : World} (hm : P.follows .mixedOrders = true)
    (hF : ∀ d t v w w', R d w w' → t ≠ d → C.contains (d, t) = false → F t v w → F t v w') (hG : ∀ d t v w w', R d w w' → G t v w → G t v w')
    (hFS : ∀ u t v w w', S u w w' → F t v w → F t v w') (hGS : ∀ u t v w w', S u w w' → v ≠ u → G t v w → G t v w')
    (hdep : ops.toList.all (depOk D ops) = true) (hap : apart ops = true) (hsz : inSize ops a.tmps.size = true) (he : early ops = true) (hst : storesOk D ops = true)
    (h0 : W { w with drawn := w.drawn + 1 }) (hin : ∀ t : Tmp, inside ops t = false → F t (a.tmps[t]?.getD undef) { w with drawn := w.drawn + 1 })
    (hop : ∀ o ∈ ops.toList, StepOk Fe nn P Q F W R S G D ops o)
    (hC : spoilOk C D ops = true) (hfn : ∀ f, Fe.fn f)
    (hQ : ∀ a' w', a'.defers = a.defers → a'.tmps.size = a.tmps.size → W w' → (∀ t : Tmp, inside ops t = false → a'.tmps[t]? = a.tmps[t]?) → (∀ t : Tmp, C.all (fun p => p.2 != t) = true → F t (a'.tmps[t]?.getD undef) w') → (∀ o ∈ ops.toList, o.dst = none → G (tgOf o) (a'.tmps[tgOf o]?.getD undef) w') → Q .normal a' w') :
    (Code.region id ops true).wpIn Fe nn P Q a w := by
  refine wpIn_region_any hm (any_inv hF hG hFS hGS hdep hap hsz he hst hop hC hfn hQ _ _ _ _ ⟨by simp, rfl, rfl, fun t ht => ⟨rfl, hin t ht⟩, h0, fun i t hi => ?_, fun i j t u hi => ?_, fun i o hi => ?_⟩ ?_)
  · exact absurd hi (by simp [Array.getD_eq_getD_getElem?, Array.getElem?_replicate]; split <;> simp)
  · exact absurd hi (by simp [Array.getD_eq_getD_getElem?, Array.getElem?_replicate]; split <;> simp)
  · exact absurd hi (by simp [Array.getD_eq_getD_getElem?, Array.getElem?_replicate]; split <;> simp)
  · refine Nat.le_trans (List.length_filter_le _ _) ?_
    simp
end
end Go.Proofs.YtbngclibfnnejaaDoor.RMI
