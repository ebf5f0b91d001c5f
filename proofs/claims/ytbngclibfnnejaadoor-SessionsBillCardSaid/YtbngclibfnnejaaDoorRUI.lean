/- (inside a fence) A region that draws its order and ends in operations that each wait for all before them (the assignments of a statement): by an invariant of the slots that the others have written; the last ones are walked in their order, of what all the others left. -/
import Derived.Test.YtbngclibfnnejaaDoorRM
import Derived.Test.YtbngclibfnnejaaDoorRMI
import Derived.OrdersIn
import Derived.TacticsIn
set_option linter.unusedVariables false
namespace Go.Proofs.YtbngclibfnnejaaDoor.RUI
open Go Go.Proofs.YtbngclibfnnejaaDoor.RM
def reachD (ops : Array Oper) : Nat → List Nat → List Nat
  | 0, l => l
  | i + 1, l => reachD ops i (if l.contains i then l ++ ((ops[i]?).map fun o => (o.after.toList.filter fun e => Region.binds .any e).map (·.on)).getD [] else l)
def tailOk (ops : Array Oper) (m : Nat) : Bool :=
  decide (m < ops.size) && (((List.range m).all fun i => (dstOf ops i).isSome) && ((List.range ops.size).all fun i => decide (i < m) || (List.range i).all fun j => (reachD ops ops.size [i]).contains j))
def depM (D : List Tmp) (ops : Array Oper) (m : Nat) : Bool := (List.range m).all fun i => ((ops[i]?).map fun o => depOk D ops o).getD true
section
variable {Fe : Fence} {nn : Nat} {P : Program} {ops : Array Oper} {Q : Exit → Act → World → Prop}
def StepOk (Fe : Fence) (nn : Nat) (P : Program) (Q : Exit → Act → World → Prop) (F : Tmp → Value → World → Prop) (W : World → Prop) (R : Tmp → World → World → Prop) (D : List Tmp) (ops : Array Oper) (o : Oper) : Prop :=
  match o.dst, o.guard with
  | none, _ => True
  | some _, none => RMI.OpOk Fe nn P Q F W R D (fun _ => True) o
  | some d, some (j, b) => match dstOf ops j with
    | some t => RMI.OpOk Fe nn P Q F W R D (F t (.bool b)) o ∧ ∀ v w, W w → F t v w → v ≠ .bool b → F d undef w
    | none => True
structure Inv (C : List (Tmp × Tmp)) (ops : Array Oper) (F : Tmp → Value → World → Prop) (W : World → Prop) (D : List Tmp) (m : Nat) (a0 : Act) (listed : Array Bool) (a : Act) (w : World) : Prop where
  size : listed.size = ops.size
  df : a.defers = a0.defers
  ts : a.tmps.size = a0.tmps.size
  out : ∀ t : Tmp, inside ops t = false → a.tmps[t]? = a0.tmps[t]? ∧ F t (a.tmps[t]?.getD undef) w
  ww : W w
  got : ∀ i t, listed.getD i false = true → dstOf ops i = some t → (∀ p ∈ C, p.2 = t → ∀ j, dstOf ops j = some p.1 → listed.getD j false = false) → F t (a.tmps[t]?.getD undef) w
  dis : ∀ i j t u, listed.getD i false = true → listed.getD j false = true → dstOf ops i = some t → dstOf ops j = some u → t ≠ u → D.contains t = true → D.contains u = true → a.tmps[t]?.getD undef ≠ a.tmps[u]?.getD undef
  ord : ∀ i o, listed.getD i false = true → ops[i]? = some o → ∀ e ∈ o.after.toList, Region.binds .any e = true → listed.getD e.on false = true
  nl : ∀ t, m ≤ t → t < ops.size → listed.getD t true = false
theorem step_inv {F : Tmp → Value → World → Prop} {W : World → Prop} {R : Tmp → World → World → Prop} {C : List (Tmp × Tmp)} {D : List Tmp} {m : Nat} {a0 : Act}
    (hF : ∀ d t v w w', R d w w' → t ≠ d → C.contains (d, t) = false → F t v w → F t v w')
    (hdep : depM D ops m = true) (hap : apart ops = true) (hsz : inSize ops a0.tmps.size = true)
    (hop : ∀ i o, i < m → ops[i]? = some o → StepOk Fe nn P Q F W R D ops o)
    (hC : spoilOk C D ops = true) (hfn : ∀ f, Fe.fn f)
    {listed : Array Bool} {a : Act} {w : World} (hI : Inv C ops F W D m a0 listed a w) {i : Nat} (hi : i ∈ Region.ready .any ops listed) (hin0 : i < m) (hds : dstOf ops i ≠ none)
    {K : Act → World → Prop} (hK : ∀ a w, Inv C ops F W D m a0 (listed.setIfInBounds i true) a w → K a w) : wpOpIn Fe nn P ops Q i K a w := by
  unfold Region.ready at hi
  rw [List.mem_filter, List.mem_range, Bool.and_eq_true] at hi
  obtain ⟨hlt, hun, haf⟩ := hi
  have ho : ops[i]? = some ops[i] := Array.getElem?_eq_getElem hlt
  have hmem : ops[i] ∈ ops.toList := by simp
  have hd1 : depOk D ops ops[i] = true := by
    have := List.all_eq_true.1 hdep i (List.mem_range.2 hin0)
    rw [ho] at this
    simpa using this
  have hs1 := List.all_eq_true.1 hsz _ hmem
  have hk := hop i _ hin0 ho
  rw [ho] at haf
  simp only [Option.map_some, Option.getD_some] at haf
  generalize hoo : ops[i] = o at *
  have hdo : o.dst ≠ none := fun e => hds (by unfold dstOf; rw [ho]; exact e)
  unfold depOk at hd1
  rw [Bool.and_eq_true] at hd1
  obtain ⟨hg, hd2⟩ := hd1
  have oth : ∀ j, j ≠ i → (listed.setIfInBounds i true).getD j false = listed.getD j false := fun j hj => by
    have : (listed.setIfInBounds i true)[j]? = listed[j]? := Array.getElem?_setIfInBounds_ne (fun e => hj e.symm)
    simp [Array.getD_eq_getD_getElem?, this]
  have dep : ∀ t, (readsOf o).contains t = true → inside ops t = true → ∃ j, listed.getD j false = true ∧ dstOf ops j = some t := fun t ht hin => by
    have h2 := List.all_eq_true.1 hd2 t (by simpa using ht)
    rw [hin] at h2
    simp only [Bool.not_true, Bool.false_or, List.any_eq_true, Bool.and_eq_true, beq_iff_eq] at h2
    obtain ⟨e, he, hb, het⟩ := h2
    refine ⟨e.on, ?_, het⟩
    have h3 : (!Region.binds .any e || listed.getD e.on false) = true := Array.all_eq_true_iff_forall_mem.1 haf e (by simpa using he)
    rw [hb] at h3
    simpa using h3
  have reads : ∀ t, (readsOf o).contains t = true → F t (a.tmps[t]?.getD undef) w := fun t ht => by
    cases hin : inside ops t with
    | false => exact (hI.out t hin).2
    | true =>
      obtain ⟨j, hj, hjt⟩ := dep t ht hin
      refine hI.got j t hj hjt fun p hp hpt j' hj' => ?_
      have hc := List.all_eq_true.1 hC p hp
      simp only [Bool.and_eq_true] at hc
      have hco := List.all_eq_true.1 hc.2.2.2 o (by rw [← hoo]; simp)
      rw [Bool.and_eq_true, hpt, ht] at hco
      have hdp : o.dst = some p.1 := by simpa using hco.1
      have hdi : dstOf ops i = some p.1 := by unfold dstOf; rw [ho]; exact hdp
      rw [apart_ne hap hj' hdi]
      have h1 : listed.getD i true = false := by simpa using hun
      have h2 : i < listed.size := by have := hI.size; omega
      simp [Array.getD_eq_getD_getElem?, h2] at h1 ⊢
      exact h1
  have nog : o.guard = none → Region.wanted o (yielded ops a.tmps) = true := fun hgg => by unfold Region.wanted; rw [hgg]
  have gd : ∀ j b t, o.guard = some (j, b) → dstOf ops j = some t → F t (a.tmps[t]?.getD undef) w ∧ (Region.wanted o (yielded ops a.tmps) = true ↔ a.tmps[t]?.getD undef = .bool b) := fun j b t hgg hjt => by
    unfold guardOk at hg
    rw [hgg] at hg
    simp only [Bool.and_eq_true, List.any_eq_true, beq_iff_eq] at hg
    obtain ⟨_, hjd, e, he, hbd, hej⟩ := hg
    have h3 : (!Region.binds .any e || listed.getD e.on false) = true := Array.all_eq_true_iff_forall_mem.1 haf e (by simpa using he)
    rw [hbd, hej] at h3
    refine ⟨hI.got j t (by simpa using h3) hjt fun p hp hpt j' hj' => by
      have hc := List.all_eq_true.1 hC p hp
      simp only [Bool.and_eq_true] at hc
      have hco := List.all_eq_true.1 hc.2.2.2 o (by rw [← hoo]; simp)
      rw [Bool.and_eq_true, hgg] at hco
      have := hco.2
      simp [hjt, hpt] at this, ?_⟩
    have htl : t < a.tmps.size := by
      rw [hI.ts]
      have hj2 := size_of hjt
      have hs2 := List.all_eq_true.1 hsz ops[j] (by simp)
      unfold dstOf at hjt
      rw [Array.getElem?_eq_getElem hj2, Option.bind_some] at hjt
      rw [hjt] at hs2
      simpa using hs2
    have hy : yielded ops a.tmps j = match a.tmps[t]?.getD undef with | .bool c => some c | _ => none := by
      unfold yielded
      have hjt2 : (ops[j]?).bind (·.dst) = some t := hjt
      rw [hjt2, Option.bind_some, Array.getElem?_eq_getElem htl]
      simp only [Option.getD_some]
      split <;> split <;> simp_all
    unfold Region.wanted
    rw [hgg]
    simp only [hy]
    generalize a.tmps[t]?.getD undef = u
    cases u <;> first | simp | (rename_i c; cases c <;> cases b <;> simp)
  unfold wpOpIn
  rw [ho]
  show if Region.wanted o (yielded ops a.tmps) = true then _ else _
  unfold StepOk at hk
  cases hdst : o.dst with
  | none => exact absurd hdst hdo
  | some d0 =>
    rw [hdst] at hk
    have main : ∀ d v w', o.dst = some d → F d v w' → W w' → (∀ t u, t ≠ d → C.contains (d, t) = false → F t u w → F t u w') → (D.contains d = true → ∀ t u, t ≠ d → D.contains t = true → F t u w → v ≠ u) → Inv C ops F W D m a0 (listed.setIfInBounds i true) (a.put (some d) v) w' := by
     intro d v w' hd hf hw hF hfr
     have hdi : dstOf ops i = some d := by unfold dstOf; rw [ho]; exact hd
     have hdlt : d < a.tmps.size := by
       rw [hI.ts]
       rw [hd] at hs1
       simpa using hs1
     have own : (a.put (some d) v).tmps[d]? = some v := by
       show (a.tmps.setIfInBounds d v)[d]? = _
       simp [hdlt]
     have far : ∀ t, d ≠ t → (a.put (some d) v).tmps[t]? = a.tmps[t]? := fun t hne => Array.getElem?_setIfInBounds_ne hne
     have keepL : ∀ j, listed.getD j false = true → (listed.setIfInBounds i true).getD j false = true := fun j hj => by
       by_cases hij : j = i
       · subst hij; have hh := hI.size; simp [Array.getD_eq_getD_getElem?, hh, hlt]
       · rw [oth j hij]; exact hj
     have nod : ∀ j t, j ≠ i → dstOf ops j = some t → d ≠ t := fun j t hij hjt => by
       rintro rfl
       exact hij (apart_ne hap hjt hdi)
     refine ⟨by simpa using hI.size, hI.df, by show (a.tmps.setIfInBounds d v).size = _; simpa using hI.ts, fun t ht => ?_, hw, fun j t hj hjt hp => ?_, fun j k t u hj hk2 h1 h2 hne hDt hDu => ?_, fun j q hj hq e he hb => ?_, ?_⟩
     · have hne : d ≠ t := by
         rintro rfl
         rw [inside_of hdi] at ht; cases ht
       rw [far t hne]
       refine ⟨(hI.out t ht).1, hF _ _ (fun e => hne e.symm) ?_ (hI.out t ht).2⟩
       cases hcc : C.contains (d, t) with
       | false => rfl
       | true =>
         have hc := List.all_eq_true.1 hC (d, t) (by simpa using hcc)
         simp [ht] at hc
     · by_cases hij : j = i
       · subst hij
         rw [hdi] at hjt
         injection hjt with hjt
         subst hjt
         rw [own]
         exact hf
       · rw [far t (nod j t hij hjt)]
         refine hF _ _ (fun e => nod j t hij hjt e.symm) ?_ (hI.got j t (by rwa [oth j hij] at hj) hjt fun p hp1 hp2 j' hj' => ?_)
         · cases hcc : C.contains (d, t) with
           | false => rfl
           | true =>
             have := hp (d, t) (by simpa using hcc) rfl i hdi
             have h2 : i < listed.size := by have := hI.size; omega
             simp [Array.getD_eq_getD_getElem?, h2] at this
         · have := hp p hp1 hp2 j' hj'
           by_cases hij2 : j' = i
           · subst hij2
             have h2 : j' < listed.size := by have := hI.size; omega
             simp [Array.getD_eq_getD_getElem?, h2] at this
           · rwa [oth j' hij2] at this
     · by_cases hji : j = i
       · subst hji
         rw [hdi] at h1
         injection h1 with h1
         subst h1
         have hki : k ≠ j := by
           rintro rfl
           rw [hdi] at h2; injection h2 with h2; exact hne h2
         rw [own, far u (nod k u hki h2)]
         exact hfr hDt u _ (fun e => hne e.symm) hDu (hI.got k u (by rwa [oth k hki] at hk2) h2 (fun p hp hpt j' hj' => by
           have hc := List.all_eq_true.1 hC p hp
           simp only [hpt, hDu, Bool.not_true, Bool.false_and, Bool.and_false] at hc; cases hc))
       · by_cases hki : k = i
         · subst hki
           rw [hdi] at h2
           injection h2 with h2
           subst h2
           rw [own, far t (nod j t hji h1)]
           exact fun e => hfr hDu t _ hne hDt (hI.got j t (by rwa [oth j hji] at hj) h1 (fun p hp hpt j' hj' => by
           have hc := List.all_eq_true.1 hC p hp
           simp only [hpt, hDt, Bool.not_true, Bool.false_and, Bool.and_false] at hc; cases hc)) e.symm
         · rw [far t (nod j t hji h1), far u (nod k u hki h2)]
           exact hI.dis j k t u (by rwa [oth j hji] at hj) (by rwa [oth k hki] at hk2) h1 h2 hne hDt hDu
     · by_cases hij : j = i
       · subst hij
         rw [ho] at hq
         injection hq with hq
         subst hq
         have h3 : (!Region.binds .any e || listed.getD e.on false) = true := Array.all_eq_true_iff_forall_mem.1 haf e (by simpa using he)
         rw [hb] at h3
         exact keepL _ (by simpa using h3)
       · exact keepL _ (hI.ord j q (by rwa [oth j hij] at hj) hq e he hb)
     · intro t h1 h2
       have := hI.nl t h1 h2
       have e : (listed.setIfInBounds i true)[t]? = listed[t]? := Array.getElem?_setIfInBounds_ne (fun e => by omega)
       simpa [Array.getD_eq_getD_getElem?, e] using this
    have go : ∀ Gd : World → Prop, Gd w → RMI.OpOk Fe nn P Q F W R D Gd o → o.wpIn Fe nn P a w K Q := fun Gd hGd hk => hk a w hI.ww hGd reads K (fun d v w' hd hf hw hR hfr => hK _ _ (main d v w' (by rw [hdst]; rw [hdst] at hd; exact hd) hf hw (fun t u => hF _ t u _ _ hR) hfr))
    cases hgg : o.guard with
    | none =>
      rw [hgg] at hk
      rw [if_pos (nog hgg)]
      exact (go _ trivial hk)
    | some jb =>
      obtain ⟨j, b⟩ := jb
      rw [hgg] at hk
      cases hjt : dstOf ops j with
      | none => unfold guardOk at hg; rw [hgg] at hg; simp [hjt] at hg
      | some t =>
        simp only [hjt] at hk
        obtain ⟨hFt, hwt⟩ := gd j b t hgg hjt
        by_cases hw : Region.wanted o (yielded ops a.tmps) = true
        · rw [if_pos hw]
          rw [hwt.1 hw] at hFt
          exact (go _ hFt hk.1)
        · rw [if_neg hw]
          refine ⟨fun f _ => hfn f, ?_⟩
          refine hK _ _ (main d0 undef w hdst (hk.2 _ w hI.ww hFt fun e => hw (hwt.2 e)) hI.ww (fun _ _ _ _ h => h) (fun hDd => ?_))
          unfold guardOk at hg
          rw [hgg, hdst] at hg
          simp only [Option.map_some, Option.getD_some, hDd, Bool.not_true, Bool.false_and] at hg
          cases hg
theorem reach_listed {listed : Array Bool} (t : Nat) (hord : ∀ i o, listed.getD i false = true → ops[i]? = some o → ∀ e ∈ o.after.toList, Region.binds .any e = true → listed.getD e.on false = true) : ∀ (i : Nat) (l : List Nat), (∀ j ∈ l, j = t ∨ listed.getD j false = true) → (∀ o, ops[t]? = some o → ∀ e ∈ o.after.toList, Region.binds .any e = true → listed.getD e.on false = true) → ∀ j ∈ reachD ops i l, j = t ∨ listed.getD j false = true := by
  intro i
  induction i with
  | zero => intro l hl _ j hj; exact hl j hj
  | succ i ih =>
    intro l hl hlast j hj
    unfold reachD at hj
    refine ih _ (fun j hj => ?_) hlast j hj
    by_cases hc : l.contains i = true
    · rw [if_pos hc] at hj
      rcases List.mem_append.1 hj with h | h
      · exact hl j h
      · cases ho : ops[i]? with
        | none => rw [ho] at h; simp at h
        | some o =>
          rw [ho] at h
          simp only [Option.map_some, Option.getD_some, List.mem_map, List.mem_filter] at h
          obtain ⟨e, ⟨he, hb⟩, rfl⟩ := h
          rcases hl i (by simpa using hc) with hi | hi
          · subst hi; exact .inr (hlast o ho e he hb)
          · exact .inr (hord i o hi ho e he hb)
    · rw [if_neg hc] at hj
      exact hl j hj
theorem any_done (fuel : Nat) (listed : Array Bool) (a : Act) (w : World) (hl : ∀ i, i < ops.size → listed.getD i true = true) (hq : Q .normal a w) : wpAnyIn Fe nn P .any ops Q fuel listed a w := by
  have hr : Region.ready .any ops listed = [] := by
    unfold Region.ready
    rw [List.filter_eq_nil_iff]
    intro i hi
    rw [List.mem_range] at hi
    simp [hl i hi]
  cases fuel with
  | zero => exact ⟨hr, hq⟩
  | succ n => exact ⟨fun _ => hq, fun i hi => by rw [hr] at hi; cases hi⟩
theorem ready_mem {listed : Array Bool} {i : Nat} (h : i ∈ Region.ready .any ops listed) : i < ops.size ∧ listed.getD i true = false ∧ ∀ o, ops[i]? = some o → ∀ e ∈ o.after.toList, Region.binds .any e = true → listed.getD e.on false = true := by
  unfold Region.ready at h
  rw [List.mem_filter, List.mem_range, Bool.and_eq_true] at h
  obtain ⟨h1, h2, h3⟩ := h
  refine ⟨h1, by simpa using h2, fun o ho e he hb => ?_⟩
  rw [ho] at h3
  simp only [Option.map_some, Option.getD_some] at h3
  have h4 : (!Region.binds .any e || listed.getD e.on false) = true := Array.all_eq_true_iff_forall_mem.1 h3 e (by simpa using he)
  rw [hb] at h4
  simpa using h4
theorem before (ops : Array Oper) (m : Nat) (ht : tailOk ops m = true) {listed : Array Bool} (hord : ∀ i o, listed.getD i false = true → ops[i]? = some o → ∀ e ∈ o.after.toList, Region.binds .any e = true → listed.getD e.on false = true) {i : Nat} (hi : i ∈ Region.ready .any ops listed) (hm : m ≤ i) : ∀ j, j < i → listed.getD j false = true := by
  intro j hj
  obtain ⟨h1, h2, h3⟩ := ready_mem hi
  unfold tailOk at ht
  simp only [Bool.and_eq_true, decide_eq_true_eq] at ht
  have h4 := List.all_eq_true.1 ht.2.2 i (List.mem_range.2 h1)
  rw [Bool.or_eq_true] at h4
  have h4 := h4.resolve_left (by simpa using hm)
  have h5 := List.all_eq_true.1 h4 j (List.mem_range.2 hj)
  exact (reach_listed i hord ops.size [i] (fun k hk => .inl (by simpa using hk)) h3 j (by simpa using h5)).resolve_left (by omega)
theorem any_tail (m : Nat) (ht : tailOk ops m = true) (he : RM.early ops = true) : ∀ (r i : Nat), i + r = ops.size → m ≤ i → ∀ (fuel : Nat) (listed : Array Bool) (a : Act) (w : World), listed.size = ops.size → (∀ j, j < i → listed.getD j false = true) → (∀ j, i ≤ j → j < ops.size → listed.getD j true = false) → r ≤ fuel → wpListIn Fe nn P ops Q (ops.toList.drop i) a w → wpAnyIn Fe nn P .any ops Q fuel listed a w := by
  intro r
  induction r with
  | zero =>
    intro i hi _ fuel listed a w hs hl _ _ h
    rw [List.drop_eq_nil_of_le (by simp; omega)] at h
    refine any_done fuel listed a w (fun j hj => ?_) h
    have h1 := hl j (by omega)
    have h2 : j < listed.size := by omega
    simp [Array.getD_eq_getD_getElem?, h2] at h1 ⊢
    exact h1
  | succ r ih =>
    intro i hi hm fuel listed a w hs hl hu hf h
    obtain ⟨f, rfl⟩ : ∃ f, fuel = f + 1 := ⟨fuel - 1, by omega⟩
    have hlt : i < ops.size := by omega
    have hord : ∀ k o, listed.getD k false = true → ops[k]? = some o → ∀ e ∈ o.after.toList, Region.binds .any e = true → listed.getD e.on false = true := fun k o hk ho e hem hb => by
      have hks : k < ops.size := (Array.getElem?_eq_some_iff.1 ho).1
      have hki : k < i := by
        rcases Nat.lt_or_ge k i with q | q
        · exact q
        · have h8 := hu k q hks
          have h9 : k < listed.size := by omega
          simp [Array.getD_eq_getD_getElem?, h9] at h8 hk
          rw [h8] at hk; cases hk
      have h1 := List.all_eq_true.1 he k (List.mem_range.2 hks)
      rw [ho] at h1
      simp only [Option.map_some, Option.getD_some] at h1
      have h2 := List.all_eq_true.1 h1 e hem
      rw [hb] at h2
      have h2 : e.on < k := by simpa using h2
      exact hl e.on (by omega)
    refine ⟨fun hr => ?_, fun k hk => ?_⟩
    · have h1 := all_of_ready he hs hr i hlt
      have h2 := hu i (Nat.le_refl _) hlt
      have h3 : i < listed.size := by omega
      simp [Array.getD_eq_getD_getElem?, h3] at h1 h2
      rw [h1] at h2; cases h2
    · obtain ⟨k1, k2, k3⟩ := ready_mem hk
      have hki : k = i := by
        rcases Nat.lt_trichotomy k i with q | q | q
        · have h1 := hl k q
          have h3 : k < listed.size := by omega
          simp [Array.getD_eq_getD_getElem?, h3] at h1 k2
          rw [h1] at k2; cases k2
        · exact q
        · have h1 := before ops m ht hord hk (by omega) i q
          have h2 := hu i (Nat.le_refl _) hlt
          have h3 : i < listed.size := by omega
          simp [Array.getD_eq_getD_getElem?, h3] at h1 h2
          rw [h1] at h2; cases h2
      subst hki
      rw [List.drop_eq_getElem_cons (by simpa using hlt)] at h
      have hgo : ∀ a w, wpListIn Fe nn P ops Q (ops.toList.drop (k + 1)) a w → wpAnyIn Fe nn P .any ops Q f (listed.setIfInBounds k true) a w := fun a w h => by
        refine ih (k + 1) (by omega) (by omega) f _ a w (by simpa using hs) (fun j hj => ?_) (fun j h1 h2 => ?_) (by omega) h
        · by_cases hjk : j = k
          · subst hjk
            have h3 : j < listed.size := by omega
            simp [Array.getD_eq_getD_getElem?, h3]
          · have e : (listed.setIfInBounds k true)[j]? = listed[j]? := Array.getElem?_setIfInBounds_ne (fun e => hjk e.symm)
            have h1 := hl j (by omega)
            rw [Array.getD_eq_getD_getElem?] at h1 ⊢
            rw [e]; exact h1
        · have e : (listed.setIfInBounds k true)[j]? = listed[j]? := Array.getElem?_setIfInBounds_ne (fun e => by omega)
          have h3 := hu j (by omega) h2
          rw [Array.getD_eq_getD_getElem?] at h3 ⊢
          rw [e]; exact h3
      unfold wpOpIn
      rw [Array.getElem?_eq_getElem hlt]
      simp only [Array.getElem_toList] at h
      unfold wpListIn at h
      show if Region.wanted ops[k] (yielded ops a.tmps) = true then _ else _
      split at h
      · rename_i hw
        rw [if_pos hw]
        exact Oper.wpIn_mono hgo h
      · rename_i hw
        rw [if_neg hw]
        exact ⟨h.1, hgo _ _ h.2⟩
theorem any_inv {F : Tmp → Value → World → Prop} {W : World → Prop} {R : Tmp → World → World → Prop} {C : List (Tmp × Tmp)} {D : List Tmp} {m : Nat} {a0 : Act}
    (hF : ∀ d t v w w', R d w w' → t ≠ d → C.contains (d, t) = false → F t v w → F t v w')
    (hdep : depM D ops m = true) (hap : apart ops = true) (hsz : inSize ops a0.tmps.size = true) (he : RM.early ops = true) (hla : tailOk ops m = true)
    (hop : ∀ i o, i < m → ops[i]? = some o → StepOk Fe nn P Q F W R D ops o)
    (hC : spoilOk C D ops = true) (hfn : ∀ f, Fe.fn f)
    (hQ : ∀ a w, a.defers = a0.defers → a.tmps.size = a0.tmps.size → W w → (∀ t : Tmp, inside ops t = false → a.tmps[t]? = a0.tmps[t]?) → (∀ i t, i < m → dstOf ops i = some t → C.all (fun p => p.2 != t) = true → F t (a.tmps[t]?.getD undef) w) → wpListIn Fe nn P ops Q (ops.toList.drop m) a w) :
    ∀ fuel listed a w, Inv C ops F W D m a0 listed a w → ((List.range ops.size).filter fun i => !listed.getD i true).length ≤ fuel → wpAnyIn Fe nn P .any ops Q fuel listed a w := by
  have hla2 := hla
  unfold tailOk at hla2
  simp only [Bool.and_eq_true, decide_eq_true_eq] at hla2
  obtain ⟨hpos, hrs, -⟩ := hla2
  intro fuel
  induction fuel with
  | zero =>
    intro listed a w hI hl
    have h0 : ((List.range ops.size).filter fun i => !listed.getD i true) = [] := List.eq_nil_of_length_eq_zero (by omega)
    rw [List.filter_eq_nil_iff] at h0
    have := h0 m (List.mem_range.2 hpos)
    rw [hI.nl m (Nat.le_refl _) hpos] at this
    simp at this
  | succ fuel ih =>
    intro listed a w hI hl
    by_cases hall : ∀ j, j < m → listed.getD j false = true
    · refine any_tail m hla he (ops.size - m) m (by omega) (Nat.le_refl _) _ listed a w hI.size hall hI.nl ?_ (hQ a w hI.df hI.ts hI.ww (fun t ht => (hI.out t ht).1) (fun i t hi hd hCt => hI.got i t (hall i hi) hd (fun p hp hpt => absurd hpt (by have := List.all_eq_true.1 hCt p hp; simpa using this))))
      refine Nat.le_trans ?_ hl
      have h1 : ((List.range ops.size).filter fun i => decide (m ≤ i)).length ≤ ((List.range ops.size).filter fun i => !listed.getD i true).length := by
        have h5 : ((List.range ops.size).filter fun i => decide (m ≤ i)) = ((List.range ops.size).filter fun i => decide (m ≤ i) && !listed.getD i true) := by
          refine List.filter_congr (fun i hi => ?_)
          rw [List.mem_range] at hi
          by_cases hm : m ≤ i
          · simp [hm, hI.nl i hm hi]
          · simp [hm]
        rw [h5]
        exact filter_len _ _ (fun x hx => by rw [Bool.and_eq_true] at hx; exact hx.2) _
      refine Nat.le_trans ?_ h1
      have h2 : (List.range ops.size).filter (fun i => decide (m ≤ i)) = (List.range' m (ops.size - m)) := by
        have : List.range ops.size = List.range m ++ List.range' m (ops.size - m) := by
          rw [List.range_eq_range', List.range_eq_range']
          have h8 := @List.range'_append_1 0 m (ops.size - m)
          rw [Nat.zero_add, show m + (ops.size - m) = ops.size by omega] at h8
          exact h8.symm
        rw [this, List.filter_append, List.filter_eq_nil_iff.2 (by intro i hi; simp at hi ⊢; omega), List.nil_append, List.filter_eq_self.2 (by intro i hi; simp at hi ⊢; omega)]
      rw [h2]
      simp
    · refine ⟨fun hr => ?_, fun i hi => ?_⟩
      · exact absurd (fun j hj => all_of_ready he hI.size hr j (by omega)) hall
      · obtain ⟨h1, h2, h3⟩ := ready_mem hi
        have him : i < m := by
          rcases Nat.lt_or_ge i m with q | q
          · exact q
          · exact absurd (fun j hj => before ops m hla hI.ord hi q j (by omega)) hall
        have hds : dstOf ops i ≠ none := by
          have h1 := List.all_eq_true.1 hrs i (List.mem_range.2 him)
          intro e; rw [e] at h1; simp at h1
        refine step_inv hF hdep hap hsz hop hC hfn hI hi him hds (fun a' w' hI' => ih _ _ _ hI' ?_)
        have := filter_lt (fun j => !(listed.setIfInBounds i true).getD j true) (fun j => !listed.getD j true) (fun j hj => by
          by_cases hij : j = i
          · subst hij
            simp [h2]
          · have e : (listed.setIfInBounds i true)[j]? = listed[j]? := Array.getElem?_setIfInBounds_ne (fun e => hij e.symm)
            simpa [Array.getD_eq_getD_getElem?, e] using hj) i (by
          have : i < listed.size := by have := hI.size; omega
          simp [Array.getD_eq_getD_getElem?, this]) (by simp [h2]) (List.range ops.size) (List.mem_range.2 h1)
        omega
/-- the region, for any order; its last operations, from place m on, come in their order -/
theorem region {F : Tmp → Value → World → Prop} {W : World → Prop} {R : Tmp → World → World → Prop} (C : List (Tmp × Tmp)) (D : List Tmp) (m : Nat) {id : Nat} {a : Act} {w : World} (hm : P.follows .mixedOrders = true)
    (hF : ∀ d t v w w', R d w w' → t ≠ d → C.contains (d, t) = false → F t v w → F t v w')
    (hdep : depM D ops m = true) (hap : apart ops = true) (hsz : inSize ops a.tmps.size = true) (he : RM.early ops = true) (hla : tailOk ops m = true) (hC : spoilOk C D ops = true) (hfn : ∀ f, Fe.fn f)
    (h0 : W { w with drawn := w.drawn + 1 }) (hin : ∀ t : Tmp, inside ops t = false → F t (a.tmps[t]?.getD undef) { w with drawn := w.drawn + 1 })
    (hop : ∀ i o, i < m → ops[i]? = some o → StepOk Fe nn P Q F W R D ops o)
    (hQ : ∀ a' w', a'.defers = a.defers → a'.tmps.size = a.tmps.size → W w' → (∀ t : Tmp, inside ops t = false → a'.tmps[t]? = a.tmps[t]?) → (∀ i t, i < m → dstOf ops i = some t → C.all (fun p => p.2 != t) = true → F t (a'.tmps[t]?.getD undef) w') → wpListIn Fe nn P ops Q (ops.toList.drop m) a' w') :
    (Code.region id ops true).wpIn Fe nn P Q a w := by
  have hpos : m < ops.size := by unfold tailOk at hla; simp only [Bool.and_eq_true, decide_eq_true_eq] at hla; exact hla.1
  refine wpIn_region_any hm (any_inv hF hdep hap hsz he hla hop hC hfn hQ _ _ _ _ ⟨by simp, rfl, rfl, fun t ht => ⟨rfl, hin t ht⟩, h0, fun i t hi => ?_, fun i j t u hi => ?_, fun i o hi => ?_, fun t h1 h2 => ?_⟩ ?_)
  · exact absurd hi (by simp [Array.getD_eq_getD_getElem?, Array.getElem?_replicate]; split <;> simp)
  · exact absurd hi (by simp [Array.getD_eq_getD_getElem?, Array.getElem?_replicate]; split <;> simp)
  · exact absurd hi (by simp [Array.getD_eq_getD_getElem?, Array.getElem?_replicate]; split <;> simp)
  · simp [Array.getD_eq_getD_getElem?, h2]
  · refine Nat.le_trans (List.length_filter_le _ _) ?_
    simp
end
end Go.Proofs.YtbngclibfnnejaaDoor.RUI
