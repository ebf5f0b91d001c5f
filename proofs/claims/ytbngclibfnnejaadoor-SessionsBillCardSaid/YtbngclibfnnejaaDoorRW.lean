/- A region that draws its order and ends in operations that each wait for all before them (the assignments of a statement): one store stands among the others: an invariant of the slots ahead of the store, and one behind it. -/
import Derived.Test.YtbngclibfnnejaaDoorRM
set_option linter.unusedVariables false
namespace Go.Proofs.YtbngclibfnnejaaDoor.RW
open Go Go.Proofs.YtbngclibfnnejaaDoor.RM
def reachD (ops : Array Oper) : Nat → List Nat → List Nat
  | 0, l => l
  | i + 1, l => reachD ops i (if l.contains i then l ++ ((ops[i]?).map fun o => (o.after.toList.filter fun e => Region.binds .any e).map (·.on)).getD [] else l)
def tailOk (ops : Array Oper) (m s : Nat) : Bool :=
  decide (m ≤ ops.size) && (((List.range m).all fun i => i == s || (dstOf ops i).isSome) && ((List.range ops.size).all fun i => decide (i < m) || (List.range i).all fun j => (reachD ops ops.size [i]).contains j))
def depM (D : List Tmp) (ops : Array Oper) (m : Nat) : Bool := (List.range m).all fun i => ((ops[i]?).map fun o => depOk D ops o).getD true
/-- the store at place s waits for place i -/
def ahead (ops : Array Oper) (s i : Nat) : Bool := (reachD ops ops.size [s]).contains i
section
variable {P : Program} {ops : Array Oper} {Q : Exit → Act → World → Prop}
def StepOk (P : Program) (Q : Exit → Act → World → Prop) (F : Tmp → Value → World → Prop) (W : World → Prop) (R : Tmp → World → World → Prop) (D : List Tmp) (ops : Array Oper) (o : Oper) : Prop :=
  match o.dst, o.guard with
  | none, _ => True
  | some _, none => OpOk P Q F W R D (fun _ => True) o
  | some d, some (j, b) => match dstOf ops j with
    | some t => OpOk P Q F W R D (F t (.bool b)) o ∧ ∀ v w, W w → F t v w → v ≠ .bool b → F d undef w
    | none => True
structure Inv (C : List (Tmp × Tmp)) (ops : Array Oper) (F : Tmp → Value → World → Prop) (W : World → Prop) (D : List Tmp) (m s : Nat) (ph : Bool) (a0 : Act) (listed : Array Bool) (a : Act) (w : World) : Prop where
  size : listed.size = ops.size
  df : a.defers = a0.defers
  ts : a.tmps.size = a0.tmps.size
  out : ∀ t : Tmp, inside ops t = false → a.tmps[t]? = a0.tmps[t]? ∧ F t (a.tmps[t]?.getD undef) w
  ww : W w
  got : ∀ i t, listed.getD i false = true → dstOf ops i = some t → (∀ p ∈ C, p.2 = t → ∀ j, dstOf ops j = some p.1 → listed.getD j false = false) → F t (a.tmps[t]?.getD undef) w
  dis : ∀ i j t u, listed.getD i false = true → listed.getD j false = true → dstOf ops i = some t → dstOf ops j = some u → t ≠ u → D.contains t = true → D.contains u = true → a.tmps[t]?.getD undef ≠ a.tmps[u]?.getD undef
  ord : ∀ i o, listed.getD i false = true → ops[i]? = some o → ∀ e ∈ o.after.toList, Region.binds .any e = true → listed.getD e.on false = true
  nl : ∀ t, m ≤ t → t < ops.size → listed.getD t true = false
  hp : listed.getD s false = ph
theorem step_inv {F : Tmp → Value → World → Prop} {W : World → Prop} {R : Tmp → World → World → Prop} {C : List (Tmp × Tmp)} {D : List Tmp} {m s : Nat} {ph : Bool} {a0 : Act}
    (hF : ∀ d t v w w', R d w w' → t ≠ d → C.contains (d, t) = false → F t v w → F t v w')
    (hdep : depM D ops m = true) (hap : apart ops = true) (hsz : inSize ops a0.tmps.size = true)
        (hC : spoilOk C D ops = true)
    {listed : Array Bool} {a : Act} {w : World} (hI : Inv C ops F W D m s ph a0 listed a w) {i : Nat} (hi : i ∈ Region.ready .any ops listed) (hin0 : i < m) (hds : dstOf ops i ≠ none) (his : i ≠ s) (hop : ∀ o, ops[i]? = some o → StepOk P Q F W R D ops o)
    {K : Act → World → Prop} (hK : ∀ a w, Inv C ops F W D m s ph a0 (listed.setIfInBounds i true) a w → K a w) : wpOp P ops Q i K a w := by
  unfold Region.ready at hi
  rw [List.mem_filter, List.mem_range, Bool.and_eq_true] at hi
  obtain ⟨hlt, hun, haf⟩ := hi
  have ho : ops[i]? = some ops[i] := Array.getElem?_eq_getElem hlt
  have hmem : ops[i] ∈ ops.toList := by simp
  have hd1 : depOk D ops ops[i] = true := by
    have := List.all_eq_true.1 hdep i (List.mem_range.2 hin0)
    rw [ho] at this
    simpa using this
  have hs1 := List.all_eq_true.1 hsz _ hmem
  have hk := hop _ ho
  rw [ho] at haf
  simp only [Option.map_some, Option.getD_some] at haf
  generalize hoo : ops[i] = o at *
  have hdo : o.dst ≠ none := fun e => hds (by unfold dstOf; rw [ho]; exact e)
  unfold depOk at hd1
  rw [Bool.and_eq_true] at hd1
  obtain ⟨hg, hd2⟩ := hd1
  have oth : ∀ j, j ≠ i → (listed.setIfInBounds i true).getD j false = listed.getD j false := fun j hj => by
    have : (listed.setIfInBounds i true)[j]? = listed[j]? := Array.getElem?_setIfInBounds_ne (fun e => hj e.symm)
    simp [Array.getD_eq_getD_getElem?, this]
  have dep : ∀ t, (readsOf o).contains t = true → inside ops t = true → ∃ j, listed.getD j false = true ∧ dstOf ops j = some t := fun t ht hin => by
    have h2 := List.all_eq_true.1 hd2 t (by simpa using ht)
    rw [hin] at h2
    simp only [Bool.not_true, Bool.false_or, List.any_eq_true, Bool.and_eq_true, beq_iff_eq] at h2
    obtain ⟨e, he, hb, het⟩ := h2
    refine ⟨e.on, ?_, het⟩
    have h3 : (!Region.binds .any e || listed.getD e.on false) = true := Array.all_eq_true_iff_forall_mem.1 haf e (by simpa using he)
    rw [hb] at h3
    simpa using h3
  have reads : ∀ t, (readsOf o).contains t = true → F t (a.tmps[t]?.getD undef) w := fun t ht => by
    cases hin : inside ops t with
    | false => exact (hI.out t hin).2
    | true =>
      obtain ⟨j, hj, hjt⟩ := dep t ht hin
      refine hI.got j t hj hjt fun p hp hpt j' hj' => ?_
      have hc := List.all_eq_true.1 hC p hp
      simp only [Bool.and_eq_true] at hc
      have hco := List.all_eq_true.1 hc.2.2.2 o (by rw [← hoo]; simp)
      rw [Bool.and_eq_true, hpt, ht] at hco
      have hdp : o.dst = some p.1 := by simpa using hco.1
      have hdi : dstOf ops i = some p.1 := by unfold dstOf; rw [ho]; exact hdp
      rw [apart_ne hap hj' hdi]
      have h1 : listed.getD i true = false := by simpa using hun
      have h2 : i < listed.size := by have := hI.size; omega
      simp [Array.getD_eq_getD_getElem?, h2] at h1 ⊢
      exact h1
  have nog : o.guard = none → Region.wanted o (yielded ops a.tmps) = true := fun hgg => by unfold Region.wanted; rw [hgg]
  have gd : ∀ j b t, o.guard = some (j, b) → dstOf ops j = some t → F t (a.tmps[t]?.getD undef) w ∧ (Region.wanted o (yielded ops a.tmps) = true ↔ a.tmps[t]?.getD undef = .bool b) := fun j b t hgg hjt => by
    unfold guardOk at hg
    rw [hgg] at hg
    simp only [Bool.and_eq_true, List.any_eq_true, beq_iff_eq] at hg
    obtain ⟨_, hjd, e, he, hbd, hej⟩ := hg
    have h3 : (!Region.binds .any e || listed.getD e.on false) = true := Array.all_eq_true_iff_forall_mem.1 haf e (by simpa using he)
    rw [hbd, hej] at h3
    refine ⟨hI.got j t (by simpa using h3) hjt fun p hp hpt j' hj' => by
      have hc := List.all_eq_true.1 hC p hp
      simp only [Bool.and_eq_true] at hc
      have hco := List.all_eq_true.1 hc.2.2.2 o (by rw [← hoo]; simp)
      rw [Bool.and_eq_true, hgg] at hco
      have := hco.2
      simp [hjt, hpt] at this, ?_⟩
    have htl : t < a.tmps.size := by
      rw [hI.ts]
      have hj2 := size_of hjt
      have hs2 := List.all_eq_true.1 hsz ops[j] (by simp)
      unfold dstOf at hjt
      rw [Array.getElem?_eq_getElem hj2, Option.bind_some] at hjt
      rw [hjt] at hs2
      simpa using hs2
    have hy : yielded ops a.tmps j = match a.tmps[t]?.getD undef with | .bool c => some c | _ => none := by
      unfold yielded
      have hjt2 : (ops[j]?).bind (·.dst) = some t := hjt
      rw [hjt2, Option.bind_some, Array.getElem?_eq_getElem htl]
      simp only [Option.getD_some]
      split <;> split <;> simp_all
    unfold Region.wanted
    rw [hgg]
    simp only [hy]
    generalize a.tmps[t]?.getD undef = u
    cases u <;> first | simp | (rename_i c; cases c <;> cases b <;> simp)
  unfold wpOp
  rw [ho]
  show if Region.wanted o (yielded ops a.tmps) = true then _ else _
  unfold StepOk at hk
  cases hdst : o.dst with
  | none => exact absurd hdst hdo
  | some d0 =>
    rw [hdst] at hk
    have main : ∀ d v w', o.dst = some d → F d v w' → W w' → (∀ t u, t ≠ d → C.contains (d, t) = false → F t u w → F t u w') → (D.contains d = true → ∀ t u, t ≠ d → D.contains t = true → F t u w → v ≠ u) → Inv C ops F W D m s ph a0 (listed.setIfInBounds i true) (a.put (some d) v) w' := by
     intro d v w' hd hf hw hF hfr
     have hdi : dstOf ops i = some d := by unfold dstOf; rw [ho]; exact hd
     have hdlt : d < a.tmps.size := by
       rw [hI.ts]
       rw [hd] at hs1
       simpa using hs1
     have own : (a.put (some d) v).tmps[d]? = some v := by
       show (a.tmps.setIfInBounds d v)[d]? = _
       simp [hdlt]
     have far : ∀ t, d ≠ t → (a.put (some d) v).tmps[t]? = a.tmps[t]? := fun t hne => Array.getElem?_setIfInBounds_ne hne
     have keepL : ∀ j, listed.getD j false = true → (listed.setIfInBounds i true).getD j false = true := fun j hj => by
       by_cases hij : j = i
       · subst hij; have hh := hI.size; simp [Array.getD_eq_getD_getElem?, hh, hlt]
       · rw [oth j hij]; exact hj
     have nod : ∀ j t, j ≠ i → dstOf ops j = some t → d ≠ t := fun j t hij hjt => by
       rintro rfl
       exact hij (apart_ne hap hjt hdi)
     refine ⟨by simpa using hI.size, hI.df, by show (a.tmps.setIfInBounds d v).size = _; simpa using hI.ts, fun t ht => ?_, hw, fun j t hj hjt hp => ?_, fun j k t u hj hk2 h1 h2 hne hDt hDu => ?_, fun j q hj hq e he hb => ?_, ?_, ?_⟩
     · have hne : d ≠ t := by
         rintro rfl
         rw [inside_of hdi] at ht; cases ht
       rw [far t hne]
       refine ⟨(hI.out t ht).1, hF _ _ (fun e => hne e.symm) ?_ (hI.out t ht).2⟩
       cases hcc : C.contains (d, t) with
       | false => rfl
       | true =>
         have hc := List.all_eq_true.1 hC (d, t) (by simpa using hcc)
         simp [ht] at hc
     · by_cases hij : j = i
       · subst hij
         rw [hdi] at hjt
         injection hjt with hjt
         subst hjt
         rw [own]
         exact hf
       · rw [far t (nod j t hij hjt)]
         refine hF _ _ (fun e => nod j t hij hjt e.symm) ?_ (hI.got j t (by rwa [oth j hij] at hj) hjt fun p hp1 hp2 j' hj' => ?_)
         · cases hcc : C.contains (d, t) with
           | false => rfl
           | true =>
             have := hp (d, t) (by simpa using hcc) rfl i hdi
             have h2 : i < listed.size := by have := hI.size; omega
             simp [Array.getD_eq_getD_getElem?, h2] at this
         · have := hp p hp1 hp2 j' hj'
           by_cases hij2 : j' = i
           · subst hij2
             have h2 : j' < listed.size := by have := hI.size; omega
             simp [Array.getD_eq_getD_getElem?, h2] at this
           · rwa [oth j' hij2] at this
     · by_cases hji : j = i
       · subst hji
         rw [hdi] at h1
         injection h1 with h1
         subst h1
         have hki : k ≠ j := by
           rintro rfl
           rw [hdi] at h2; injection h2 with h2; exact hne h2
         rw [own, far u (nod k u hki h2)]
         exact hfr hDt u _ (fun e => hne e.symm) hDu (hI.got k u (by rwa [oth k hki] at hk2) h2 (fun p hp hpt j' hj' => by
           have hc := List.all_eq_true.1 hC p hp
           simp only [hpt, hDu, Bool.not_true, Bool.false_and, Bool.and_false] at hc; cases hc))
       · by_cases hki : k = i
         · subst hki
           rw [hdi] at h2
           injection h2 with h2
           subst h2
           rw [own, far t (nod j t hji h1)]
           exact fun e => hfr hDu t _ hne hDt (hI.got j t (by rwa [oth j hji] at hj) h1 (fun p hp hpt j' hj' => by
           have hc := List.all_eq_true.1 hC p hp
           simp only [hpt, hDt, Bool.not_true, Bool.false_and, Bool.and_false] at hc; cases hc)) e.symm
         · rw [far t (nod j t hji h1), far u (nod k u hki h2)]
           exact hI.dis j k t u (by rwa [oth j hji] at hj) (by rwa [oth k hki] at hk2) h1 h2 hne hDt hDu
     · by_cases hij : j = i
       · subst hij
         rw [ho] at hq
         injection hq with hq
         subst hq
         have h3 : (!Region.binds .any e || listed.getD e.on false) = true := Array.all_eq_true_iff_forall_mem.1 haf e (by simpa using he)
         rw [hb] at h3
         exact keepL _ (by simpa using h3)
       · exact keepL _ (hI.ord j q (by rwa [oth j hij] at hj) hq e he hb)
     · intro t h1 h2
       have := hI.nl t h1 h2
       have e : (listed.setIfInBounds i true)[t]? = listed[t]? := Array.getElem?_setIfInBounds_ne (fun e => by omega)
       simpa [Array.getD_eq_getD_getElem?, e] using this
     · have := hI.hp
       rwa [oth s (fun e => his e.symm)]
    have go : ∀ Gd : World → Prop, Gd w → OpOk P Q F W R D Gd o → o.wp P a w K Q := fun Gd hGd hk => hk a w hI.ww hGd reads K (fun d v w' hd hf hw hR hfr => hK _ _ (main d v w' (by rw [hdst]; rw [hdst] at hd; exact hd) hf hw (fun t u => hF _ t u _ _ hR) hfr))
    cases hgg : o.guard with
    | none =>
      rw [hgg] at hk
      rw [if_pos (nog hgg)]
      exact .inl (go _ trivial hk)
    | some jb =>
      obtain ⟨j, b⟩ := jb
      rw [hgg] at hk
      cases hjt : dstOf ops j with
      | none => unfold guardOk at hg; rw [hgg] at hg; simp [hjt] at hg
      | some t =>
        simp only [hjt] at hk
        obtain ⟨hFt, hwt⟩ := gd j b t hgg hjt
        by_cases hw : Region.wanted o (yielded ops a.tmps) = true
        · rw [if_pos hw]
          rw [hwt.1 hw] at hFt
          exact .inl (go _ hFt hk.1)
        · rw [if_neg hw]
          refine hK _ _ (main d0 undef w hdst (hk.2 _ w hI.ww hFt fun e => hw (hwt.2 e)) hI.ww (fun _ _ _ _ h => h) (fun hDd => ?_))
          unfold guardOk at hg
          rw [hgg, hdst] at hg
          simp only [Option.map_some, Option.getD_some, hDd, Bool.not_true, Bool.false_and] at hg
          cases hg
theorem reach_listed {listed : Array Bool} (t : Nat) (hord : ∀ i o, listed.getD i false = true → ops[i]? = some o → ∀ e ∈ o.after.toList, Region.binds .any e = true → listed.getD e.on false = true) : ∀ (i : Nat) (l : List Nat), (∀ j ∈ l, j = t ∨ listed.getD j false = true) → (∀ o, ops[t]? = some o → ∀ e ∈ o.after.toList, Region.binds .any e = true → listed.getD e.on false = true) → ∀ j ∈ reachD ops i l, j = t ∨ listed.getD j false = true := by
  intro i
  induction i with
  | zero => intro l hl _ j hj; exact hl j hj
  | succ i ih =>
    intro l hl hlast j hj
    unfold reachD at hj
    refine ih _ (fun j hj => ?_) hlast j hj
    by_cases hc : l.contains i = true
    · rw [if_pos hc] at hj
      rcases List.mem_append.1 hj with h | h
      · exact hl j h
      · cases ho : ops[i]? with
        | none => rw [ho] at h; simp at h
        | some o =>
          rw [ho] at h
          simp only [Option.map_some, Option.getD_some, List.mem_map, List.mem_filter] at h
          obtain ⟨e, ⟨he, hb⟩, rfl⟩ := h
          rcases hl i (by simpa using hc) with hi | hi
          · subst hi; exact .inr (hlast o ho e he hb)
          · exact .inr (hord i o hi ho e he hb)
    · rw [if_neg hc] at hj
      exact hl j hj
theorem any_done (fuel : Nat) (listed : Array Bool) (a : Act) (w : World) (hl : ∀ i, i < ops.size → listed.getD i true = true) (hq : Q .normal a w) : wpAny P .any ops Q fuel listed a w := by
  have hr : Region.ready .any ops listed = [] := by
    unfold Region.ready
    rw [List.filter_eq_nil_iff]
    intro i hi
    rw [List.mem_range] at hi
    simp [hl i hi]
  cases fuel with
  | zero => exact ⟨hr, hq⟩
  | succ n => exact ⟨fun _ => hq, fun i hi => by rw [hr] at hi; cases hi⟩
theorem ready_mem {listed : Array Bool} {i : Nat} (h : i ∈ Region.ready .any ops listed) : i < ops.size ∧ listed.getD i true = false ∧ ∀ o, ops[i]? = some o → ∀ e ∈ o.after.toList, Region.binds .any e = true → listed.getD e.on false = true := by
  unfold Region.ready at h
  rw [List.mem_filter, List.mem_range, Bool.and_eq_true] at h
  obtain ⟨h1, h2, h3⟩ := h
  refine ⟨h1, by simpa using h2, fun o ho e he hb => ?_⟩
  rw [ho] at h3
  simp only [Option.map_some, Option.getD_some] at h3
  have h4 : (!Region.binds .any e || listed.getD e.on false) = true := Array.all_eq_true_iff_forall_mem.1 h3 e (by simpa using he)
  rw [hb] at h4
  simpa using h4
theorem before (ops : Array Oper) (m s : Nat) (ht : tailOk ops m s = true) {listed : Array Bool} (hord : ∀ i o, listed.getD i false = true → ops[i]? = some o → ∀ e ∈ o.after.toList, Region.binds .any e = true → listed.getD e.on false = true) {i : Nat} (hi : i ∈ Region.ready .any ops listed) (hm : m ≤ i) : ∀ j, j < i → listed.getD j false = true := by
  intro j hj
  obtain ⟨h1, h2, h3⟩ := ready_mem hi
  unfold tailOk at ht
  simp only [Bool.and_eq_true, decide_eq_true_eq] at ht
  have h4 := List.all_eq_true.1 ht.2.2 i (List.mem_range.2 h1)
  rw [Bool.or_eq_true] at h4
  have h4 := h4.resolve_left (by simpa using hm)
  have h5 := List.all_eq_true.1 h4 j (List.mem_range.2 hj)
  exact (reach_listed i hord ops.size [i] (fun k hk => .inl (by simpa using hk)) h3 j (by simpa using h5)).resolve_left (by omega)
theorem any_tail (m s : Nat) (ht : tailOk ops m s = true) (he : RM.early ops = true) : ∀ (r i : Nat), i + r = ops.size → m ≤ i → ∀ (fuel : Nat) (listed : Array Bool) (a : Act) (w : World), listed.size = ops.size → (∀ j, j < i → listed.getD j false = true) → (∀ j, i ≤ j → j < ops.size → listed.getD j true = false) → r ≤ fuel → wpList P ops Q (ops.toList.drop i) a w → wpAny P .any ops Q fuel listed a w := by
  intro r
  induction r with
  | zero =>
    intro i hi _ fuel listed a w hs hl _ _ h
    rw [List.drop_eq_nil_of_le (by simp; omega)] at h
    refine any_done fuel listed a w (fun j hj => ?_) h
    have h1 := hl j (by omega)
    have h2 : j < listed.size := by omega
    simp [Array.getD_eq_getD_getElem?, h2] at h1 ⊢
    exact h1
  | succ r ih =>
    intro i hi hm fuel listed a w hs hl hu hf h
    obtain ⟨f, rfl⟩ : ∃ f, fuel = f + 1 := ⟨fuel - 1, by omega⟩
    have hlt : i < ops.size := by omega
    have hord : ∀ k o, listed.getD k false = true → ops[k]? = some o → ∀ e ∈ o.after.toList, Region.binds .any e = true → listed.getD e.on false = true := fun k o hk ho e hem hb => by
      have hks : k < ops.size := (Array.getElem?_eq_some_iff.1 ho).1
      have hki : k < i := by
        rcases Nat.lt_or_ge k i with q | q
        · exact q
        · have h8 := hu k q hks
          have h9 : k < listed.size := by omega
          simp [Array.getD_eq_getD_getElem?, h9] at h8 hk
          rw [h8] at hk; cases hk
      have h1 := List.all_eq_true.1 he k (List.mem_range.2 hks)
      rw [ho] at h1
      simp only [Option.map_some, Option.getD_some] at h1
      have h2 := List.all_eq_true.1 h1 e hem
      rw [hb] at h2
      have h2 : e.on < k := by simpa using h2
      exact hl e.on (by omega)
    refine ⟨fun hr => ?_, fun k hk => ?_⟩
    · have h1 := all_of_ready he hs hr i hlt
      have h2 := hu i (Nat.le_refl _) hlt
      have h3 : i < listed.size := by omega
      simp [Array.getD_eq_getD_getElem?, h3] at h1 h2
      rw [h1] at h2; cases h2
    · obtain ⟨k1, k2, k3⟩ := ready_mem hk
      have hki : k = i := by
        rcases Nat.lt_trichotomy k i with q | q | q
        · have h1 := hl k q
          have h3 : k < listed.size := by omega
          simp [Array.getD_eq_getD_getElem?, h3] at h1 k2
          rw [h1] at k2; cases k2
        · exact q
        · have h1 := before ops m s ht hord hk (by omega) i q
          have h2 := hu i (Nat.le_refl _) hlt
          have h3 : i < listed.size := by omega
          simp [Array.getD_eq_getD_getElem?, h3] at h1 h2
          rw [h1] at h2; cases h2
      subst hki
      rw [List.drop_eq_getElem_cons (by simpa using hlt)] at h
      have hgo : ∀ a w, wpList P ops Q (ops.toList.drop (k + 1)) a w → wpAny P .any ops Q f (listed.setIfInBounds k true) a w := fun a w h => by
        refine ih (k + 1) (by omega) (by omega) f _ a w (by simpa using hs) (fun j hj => ?_) (fun j h1 h2 => ?_) (by omega) h
        · by_cases hjk : j = k
          · subst hjk
            have h3 : j < listed.size := by omega
            simp [Array.getD_eq_getD_getElem?, h3]
          · have e : (listed.setIfInBounds k true)[j]? = listed[j]? := Array.getElem?_setIfInBounds_ne (fun e => hjk e.symm)
            have h1 := hl j (by omega)
            rw [Array.getD_eq_getD_getElem?] at h1 ⊢
            rw [e]; exact h1
        · have e : (listed.setIfInBounds k true)[j]? = listed[j]? := Array.getElem?_setIfInBounds_ne (fun e => by omega)
          have h3 := hu j (by omega) h2
          rw [Array.getD_eq_getD_getElem?] at h3 ⊢
          rw [e]; exact h3
      unfold wpOp
      rw [Array.getElem?_eq_getElem hlt]
      simp only [Array.getElem_toList] at h
      unfold wpList at h
      show if Region.wanted ops[k] (yielded ops a.tmps) = true then _ else _
      split at h
      · rename_i hw
        rw [if_pos hw]
        exact h.imp (Oper.wp_mono hgo) id
      · rename_i hw
        rw [if_neg hw]
        exact hgo _ _ h
theorem any_inv {F : Bool → Tmp → Value → World → Prop} {W : Bool → World → Prop} {R : Tmp → World → World → Prop} {C : List (Tmp × Tmp)} {D : List Tmp} {m s : Nat} {a0 : Act}
    (hF : ∀ ph d t v w w', R d w w' → t ≠ d → C.contains (d, t) = false → F ph t v w → F ph t v w')
    (hdep : depM D ops m = true) (hap : apart ops = true) (hsz : inSize ops a0.tmps.size = true) (he : RM.early ops = true) (hla : tailOk ops m s = true)
    (hs : s < m) (hsd : dstOf ops s = none) (hsg : ((ops[s]?).map fun o => o.guard.isNone) = some true)
    (hop : ∀ ph i o, i < m → i ≠ s → (ph = true → ahead ops s i = false) → ops[i]? = some o → StepOk P Q (F ph) (W ph) R D ops o)
    (hst : ∀ o, ops[s]? = some o → ∀ a w, W false w → (∀ t, (readsOf o).contains t = true → F false t (a.tmps[t]?.getD undef) w) → ∀ K : Act → World → Prop, (∀ v w', W true w' → (∀ t u, F false t u w → F true t u w') → K (a.put none v) w') → o.wp P a w K Q)
    (hC : spoilOk C D ops = true)
    (hQ : ∀ a w, a.defers = a0.defers → a.tmps.size = a0.tmps.size → W true w → (∀ t : Tmp, inside ops t = false → a.tmps[t]? = a0.tmps[t]?) → (∀ i t, i < m → dstOf ops i = some t → C.all (fun p => p.2 != t) = true → F true t (a.tmps[t]?.getD undef) w) → wpList P ops Q (ops.toList.drop m) a w) :
    ∀ fuel ph listed a w, Inv C ops (F ph) (W ph) D m s ph a0 listed a w → ((List.range ops.size).filter fun i => !listed.getD i true).length ≤ fuel → wpAny P .any ops Q fuel listed a w := by
  have hla2 := hla
  unfold tailOk at hla2
  simp only [Bool.and_eq_true, decide_eq_true_eq] at hla2
  obtain ⟨hpos, hrs, -⟩ := hla2
  intro fuel
  induction fuel with
  | zero =>
    intro ph listed a w hI hl
    have h0 : ((List.range ops.size).filter fun i => !listed.getD i true) = [] := List.eq_nil_of_length_eq_zero (by omega)
    rw [List.filter_eq_nil_iff] at h0
    by_cases hms : m < ops.size
    · have := h0 m (List.mem_range.2 hms)
      rw [hI.nl m (Nat.le_refl _) hms] at this
      simp at this
    · have hall : ∀ j, j < m → listed.getD j false = true := fun j hj => by
        have h1 := h0 j (List.mem_range.2 (by omega))
        have h3 : j < listed.size := by have := hI.size; omega
        simp [Array.getD_eq_getD_getElem?, h3] at h1 ⊢
        exact h1
      obtain rfl : true = ph := by rw [← hI.hp, hall s hs]
      exact any_tail m s hla he (ops.size - m) m (by omega) (Nat.le_refl _) _ listed a w hI.size hall hI.nl (by omega) (hQ a w hI.df hI.ts hI.ww (fun t ht => (hI.out t ht).1) (fun i t hi hd hCt => hI.got i t (hall i hi) hd (fun p hp hpt => absurd hpt (by have := List.all_eq_true.1 hCt p hp; simpa using this))))
  | succ fuel ih =>
    intro ph listed a w hI hl
    by_cases hall : ∀ j, j < m → listed.getD j false = true
    · obtain rfl : true = ph := by rw [← hI.hp, hall s hs]
      refine any_tail m s hla he (ops.size - m) m (by omega) (Nat.le_refl _) _ listed a w hI.size hall hI.nl ?_ (hQ a w hI.df hI.ts hI.ww (fun t ht => (hI.out t ht).1) (fun i t hi hd hCt => hI.got i t (hall i hi) hd (fun p hp hpt => absurd hpt (by have := List.all_eq_true.1 hCt p hp; simpa using this))))
      refine Nat.le_trans ?_ hl
      have h1 : ((List.range ops.size).filter fun i => decide (m ≤ i)).length ≤ ((List.range ops.size).filter fun i => !listed.getD i true).length := by
        have h5 : ((List.range ops.size).filter fun i => decide (m ≤ i)) = ((List.range ops.size).filter fun i => decide (m ≤ i) && !listed.getD i true) := by
          refine List.filter_congr (fun i hi => ?_)
          rw [List.mem_range] at hi
          by_cases hm : m ≤ i
          · simp [hm, hI.nl i hm hi]
          · simp [hm]
        rw [h5]
        exact filter_len _ _ (fun x hx => by rw [Bool.and_eq_true] at hx; exact hx.2) _
      refine Nat.le_trans ?_ h1
      have h2 : (List.range ops.size).filter (fun i => decide (m ≤ i)) = (List.range' m (ops.size - m)) := by
        have : List.range ops.size = List.range m ++ List.range' m (ops.size - m) := by
          rw [List.range_eq_range', List.range_eq_range']
          have h8 := @List.range'_append_1 0 m (ops.size - m)
          rw [Nat.zero_add, show m + (ops.size - m) = ops.size by omega] at h8
          exact h8.symm
        rw [this, List.filter_append, List.filter_eq_nil_iff.2 (by intro i hi; simp at hi ⊢; omega), List.nil_append, List.filter_eq_self.2 (by intro i hi; simp at hi ⊢; omega)]
      rw [h2]
      simp
    · refine ⟨fun hr => ?_, fun i hi => ?_⟩
      · exact absurd (fun j hj => all_of_ready he hI.size hr j (by omega)) hall
      · obtain ⟨h1, h2, h3⟩ := ready_mem hi
        have him : i < m := by
          rcases Nat.lt_or_ge i m with q | q
          · exact q
          · exact absurd (fun j hj => before ops m s hla hI.ord hi q j (by omega)) hall
        have hlen : ((List.range ops.size).filter fun j => !(listed.setIfInBounds i true).getD j true).length < ((List.range ops.size).filter fun j => !listed.getD j true).length := filter_lt (fun j => !(listed.setIfInBounds i true).getD j true) (fun j => !listed.getD j true) (fun j hj => by
          by_cases hij : j = i
          · subst hij
            simp [h2]
          · have e : (listed.setIfInBounds i true)[j]? = listed[j]? := Array.getElem?_setIfInBounds_ne (fun e => hij e.symm)
            simpa [Array.getD_eq_getD_getElem?, e] using hj) i (by
          have : i < listed.size := by have := hI.size; omega
          simp [Array.getD_eq_getD_getElem?, this]) (by simp [h2]) (List.range ops.size) (List.mem_range.2 h1)
        by_cases his : i = s
        · subst his
          have hlt : i < listed.size := by have := hI.size; omega
          have hun : listed.getD i false = false := by
            simp [Array.getD_eq_getD_getElem?, hlt] at h2 ⊢
            exact h2
          obtain rfl : false = ph := by rw [← hI.hp, hun]
          have ho : ops[i]? = some ops[i] := Array.getElem?_eq_getElem h1
          have hg : ops[i].guard = none := by rw [ho] at hsg; simpa using hsg
          have hmm := hst _ ho
          have hdp : depOk D ops ops[i] = true := by
            have := List.all_eq_true.1 hdep i (List.mem_range.2 him)
            rw [ho] at this
            simpa using this
          generalize hoo : ops[i] = o at *
          have oth : ∀ j, j ≠ i → (listed.setIfInBounds i true).getD j false = listed.getD j false := fun j hj => by
            have : (listed.setIfInBounds i true)[j]? = listed[j]? := Array.getElem?_setIfInBounds_ne (fun e => hj e.symm)
            simp [Array.getD_eq_getD_getElem?, this]
          have keepL : ∀ j, listed.getD j false = true → (listed.setIfInBounds i true).getD j false = true := fun j hj => by
            by_cases hij : j = i
            · subst hij; rw [hun] at hj; cases hj
            · rw [oth j hij]; exact hj
          have back : ∀ j t, (listed.setIfInBounds i true).getD j false = true → dstOf ops j = some t → listed.getD j false = true := fun j t hj hd => by
            by_cases hij : j = i
            · subst hij; rw [hsd] at hd; cases hd
            · rwa [oth j hij] at hj
          have reads : ∀ t, (readsOf o).contains t = true → F false t (a.tmps[t]?.getD undef) w := fun t ht => by
            cases hin : inside ops t with
            | false => exact (hI.out t hin).2
            | true =>
              unfold depOk at hdp
              rw [Bool.and_eq_true] at hdp
              have h5 := List.all_eq_true.1 hdp.2 t (by simpa using ht)
              rw [hin] at h5
              simp only [Bool.not_true, Bool.false_or, List.any_eq_true, Bool.and_eq_true, beq_iff_eq] at h5
              obtain ⟨e, he5, hb, het⟩ := h5
              have h6 := h3 _ ho e he5 hb
              refine hI.got e.on t h6 het fun p hp hpt j' hj' => ?_
              have hc := List.all_eq_true.1 hC p hp
              simp only [Bool.and_eq_true] at hc
              have hco := List.all_eq_true.1 hc.2.2.2 o (by rw [← hoo]; simp)
              rw [Bool.and_eq_true, hpt, ht] at hco
              have hdp : o.dst = some p.1 := by simpa using hco.1
              have : dstOf ops i = some p.1 := by unfold dstOf; rw [ho]; exact hdp
              rw [hsd] at this; cases this
          unfold wpOp
          rw [ho]
          show if Region.wanted o (yielded ops a.tmps) = true then _ else _
          rw [if_pos (by unfold Region.wanted; rw [hg])]
          refine .inl (hmm a w hI.ww reads _ (fun v w' hw' hFF => ih true _ _ _ ⟨by simpa using hI.size, hI.df, hI.ts, fun t ht => ⟨(hI.out t ht).1, hFF _ _ (hI.out t ht).2⟩, hw', fun j t hj hd hp => hFF _ _ (hI.got j t (back j t hj hd) hd fun p hp1 hp2 j' hj' => ?_), fun j k t u hj hk2 q1 q2 => hI.dis j k t u (back j t hj q1) (back k u hk2 q2) q1 q2, fun j q hj hq e he hb => ?_, fun t q1 q2 => ?_, ?_⟩ ?_))
          · have := hp p hp1 hp2 j' hj'
            by_cases hij : j' = i
            · subst hij; rw [hsd] at hj'; cases hj'
            · rwa [oth j' hij] at this
          · by_cases hij : j = i
            · subst hij
              exact keepL _ (h3 q hq e he hb)
            · exact keepL _ (hI.ord j q (by rwa [oth j hij] at hj) hq e he hb)
          · have := hI.nl t q1 q2
            have e : (listed.setIfInBounds i true)[t]? = listed[t]? := Array.getElem?_setIfInBounds_ne (fun e => by omega)
            simpa [Array.getD_eq_getD_getElem?, e] using this
          · simp [Array.getD_eq_getD_getElem?, hlt]
          · omega
        · have hds : dstOf ops i ≠ none := by
            have h1 := List.all_eq_true.1 hrs i (List.mem_range.2 him)
            rw [Bool.or_eq_true] at h1
            have h1 := h1.resolve_left (by simpa using his)
            intro e; rw [e] at h1; simp at h1
          refine step_inv (hF ph) hdep hap hsz hC hI hi him hds his (hop ph i · him his (fun hpt => ?_)) (fun a' w' hI' => ih _ _ _ _ hI' (by omega))
          cases hah : ahead ops s i with
          | false => rfl
          | true =>
            exfalso
            have hsl : listed.getD s false = true := by rw [hI.hp, hpt]
            have hso : s < ops.size := by omega
            have h7 := reach_listed s hI.ord ops.size [s] (fun k hk => .inl (by simpa using hk)) (fun o ho e he hb => hI.ord s o hsl ho e he hb) i (by unfold ahead at hah; simpa using hah)
            rcases h7 with h7 | h7
            · exact his h7
            · have hlt : i < listed.size := by have := hI.size; omega
              simp [Array.getD_eq_getD_getElem?, hlt] at h2 h7
              rw [h2] at h7; cases h7
/-- the region, for any order; its last operations, from place m on, come in their order -/
theorem region {F : Bool → Tmp → Value → World → Prop} {W : Bool → World → Prop} {R : Tmp → World → World → Prop} (C : List (Tmp × Tmp)) (D : List Tmp) (m s : Nat) {id : Nat} {a : Act} {w : World} (hm : P.follows .mixedOrders = true)
    (hF : ∀ ph d t v w w', R d w w' → t ≠ d → C.contains (d, t) = false → F ph t v w → F ph t v w')
    (hdep : depM D ops m = true) (hap : apart ops = true) (hsz : inSize ops a.tmps.size = true) (he : RM.early ops = true) (hla : tailOk ops m s = true) (hC : spoilOk C D ops = true)
    (hs : s < m) (hsd : dstOf ops s = none) (hsg : ((ops[s]?).map fun o => o.guard.isNone) = some true)
    (h0 : W false { w with drawn := w.drawn + 1 }) (hin : ∀ t : Tmp, inside ops t = false → F false t (a.tmps[t]?.getD undef) { w with drawn := w.drawn + 1 })
    (hop : ∀ ph i o, i < m → i ≠ s → (ph = true → ahead ops s i = false) → ops[i]? = some o → StepOk P Q (F ph) (W ph) R D ops o)
    (hst : ∀ o, ops[s]? = some o → ∀ a w, W false w → (∀ t, (readsOf o).contains t = true → F false t (a.tmps[t]?.getD undef) w) → ∀ K : Act → World → Prop, (∀ v w', W true w' → (∀ t u, F false t u w → F true t u w') → K (a.put none v) w') → o.wp P a w K Q)
    (hQ : ∀ a' w', a'.defers = a.defers → a'.tmps.size = a.tmps.size → W true w' → (∀ t : Tmp, inside ops t = false → a'.tmps[t]? = a.tmps[t]?) → (∀ i t, i < m → dstOf ops i = some t → C.all (fun p => p.2 != t) = true → F true t (a'.tmps[t]?.getD undef) w') → wpList P ops Q (ops.toList.drop m) a' w') :
    (Code.region id ops true).wp P Q a w := by
  have hpos : m ≤ ops.size := by unfold tailOk at hla; simp only [Bool.and_eq_true, decide_eq_true_eq] at hla; exact hla.1
  refine wp_region_any hm (any_inv hF hdep hap hsz he hla hs hsd hsg hop hst hC hQ _ false _ _ _ ⟨by simp, rfl, rfl, fun t ht => ⟨rfl, hin t ht⟩, h0, fun i t hi => ?_, fun i j t u hi => ?_, fun i o hi => ?_, fun t h1 h2 => ?_, ?_⟩ ?_)
  · exact absurd hi (by simp [Array.getD_eq_getD_getElem?, Array.getElem?_replicate]; split <;> simp)
  · exact absurd hi (by simp [Array.getD_eq_getD_getElem?, Array.getElem?_replicate]; split <;> simp)
  · exact absurd hi (by simp [Array.getD_eq_getD_getElem?, Array.getElem?_replicate]; split <;> simp)
  · simp [Array.getD_eq_getD_getElem?, h2]
  · simp [Array.getD_eq_getD_getElem?, Array.getElem?_replicate]; split <;> simp
  · refine Nat.le_trans (List.length_filter_le _ _) ?_
    simp
end
end Go.Proofs.YtbngclibfnnejaaDoor.RW
