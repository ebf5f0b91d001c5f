/- Rows of structs of the call's own: copy onto them, a store of a struct into them, append from a list. -/
import Derived.Test.YtbngclibfnnejaaDoorFlat
import Derived.Laws.CopyRow
import Derived.Laws.IdiomCopy
import Derived.Laws.OwnMore
set_option linter.unusedVariables false
namespace Go.Proofs.YtbngclibfnnejaaDoor
open Go.RowKit
section
variable {P : Program}
theorem run_copy_reads (w : World) (dT sT ty elem : TypeId) (i : TypeInfo) (size g dLen dCap B : Nat) (A : Option Addr) (sLen sCap : Nat) (cur : Array Value) (t : TypeId) (xs : List Value)
    (hu : P.underlying dT = some (.slice elem)) (hi : P.info? elem = some i) (hs : i.size = size)
    (hg : w.heap[g]? = some (.cells cur t (0, 0))) (hr : Reads w B size A sLen xs) (hle : sLen ≤ dLen) (hfit : sLen * size ≤ cur.size) (h1 : ∀ v ∈ xs, v.oneCell' = true) :
    (Builtin.copy_ #[dT, sT] ty #[.slice (some ⟨g, 0, none⟩) dLen dCap, .slice A sLen sCap]).run P w =
      .ok (goInt sLen) (w.setRow g (xs ++ cur.toList.drop (sLen * size)).toArray) := by
  subst hs
  have hmin : Nat.min sLen dLen = sLen := Nat.min_eq_left hle
  rcases A with _ | ad
  · have hm : sLen = 0 := by
      rcases Nat.eq_zero_or_pos sLen with h0 | h0
      · exact h0
      · obtain ⟨ad, h, _⟩ := hr.2 h0
        cases h
    subst hm
    have hn : xs = [] := List.eq_nil_of_length_eq_zero (by simpa using hr.1)
    subst hn
    have := setRow_self w g cur t (0, 0) hg
    simp [Builtin.copy_, run_underlying hu, Builtin.lenOf, Builtin.firstCells, sizeOf, typeInfo, hi, storeCells, this]
  · have hcells : ∀ j u, xs[j]? = some u → w.cell? (ad.add j) = some u := by
      intro j u hu
      rcases Nat.eq_zero_or_pos sLen with h0 | h0
      · subst h0
        have hn : xs = [] := List.eq_nil_of_length_eq_zero (by simpa using hr.1)
        subst hn
        simp at hu
      · obtain ⟨ad', h, _, hc⟩ := hr.2 h0
        injection h with h
        subst h
        exact hc j u hu
    have hl := run_loadCells_list (P := P) w ad xs hcells
    have hst := run_storeCells_at P g 0 t xs 0 cur w hg (by rw [hr.1]; simpa using hfit) h1
    rw [hr.1] at hl
    simp [Builtin.copy_, run_underlying hu, Builtin.lenOf, Builtin.firstCells, sizeOf, typeInfo, hi, hmin, hl, hst, hr.1]
theorem wpList_copy_reads {w : World} {ops : Array Oper} {rest : List Oper} {o : Oper} {a : Act} {Q : Exit → Act → World → Prop} (hgd : o.guard = none) (d s : Operand) (dT sT : TypeId)
    (ho : o.op = .call { callee := .builtin .copy, args := #[d, s], argTypes := #[dT, sT] }) (elem : TypeId) (i : TypeInfo) (size : Nat) (hu : P.underlying dT = some (.slice elem)) (hi : P.info? elem = some i) (hs : i.size = size)
    (g dLen dCap : Nat) (A : Option Addr) (sLen sCap : Nat) (hd : a.eval d = .slice (some ⟨g, 0, none⟩) dLen dCap) (hsv : a.eval s = .slice A sLen sCap)
    (cur : Array Value) (t : TypeId) (hg : w.heap[g]? = some (.cells cur t (0, 0))) (B : Nat) (xs : List Value) (hr : Reads w B size A sLen xs) (hle : sLen ≤ dLen) (hfit : sLen * size ≤ cur.size) (h1 : ∀ v ∈ xs, v.oneCell' = true)
    (h : ∀ w', w'.heap[g]? = some (.cells (xs ++ cur.toList.drop (sLen * size)).toArray t (0, 0)) → w.grownBy w' (some g) → wpList P ops Q rest (a.put o.dst (goInt sLen)) w') : wpList P ops Q (o :: rest) a w := by
  refine wpList_plain hgd fun K hK => ?_
  have hrun := run_copy_reads (P := P) w dT sT o.type elem i size g dLen dCap B A sLen sCap cur t xs hu hi hs hg hr hle hfit h1
  unfold Oper.wp
  simp [execOp, ho, resolve, invoke, builtin, hd, hsv, hrun, Result.andThen]
  exact hK _ _ (h _ (setRow_heap w g cur _ t _ hg) ⟨rfl, rfl, rfl, by simp, fun k _ hk => setRow_other w g k _ (fun e => hk (by simp [e]))⟩)
/-- a row that is made: n elements, room for c -/
theorem made_row (w : World) (t e : TypeId) (i : TypeInfo) (z : Value) (size : Nat) (ht : P.underlying t = some (.slice e)) (hi : P.info? e = some i) (hz : i.zero = some z) (hs : i.size = size) (n c : Nat) (l r : Int) (hl : l = n) (hr : r = c) (hnc : n ≤ c) (hb : i.bytes * c ≤ 281474976710656) (h63 : c ≤ 9223372036854775807) :
    (Instr.makeSlice t (.int .i64 l) (.int .i64 r)).run P w = .ok (.slice (some ⟨w.heap.size, 0, none⟩) n c) (w.alloc (.cells (madeCells z.cells (c * size)) e)) := by
  subst hl; subst hr; subst hs
  have hb' : (i.bytes : Int) * (c : Int) ≤ 281474976710656 := by
    have h : ((i.bytes * c : Nat) : Int) ≤ 281474976710656 := by omega
    rwa [Int.natCast_mul] at h
  have h := run_make (P := P) w t e i z ht hi hz .i64 .i64 n c (by omega) (by omega) hb' (by omega)
  simpa only [Int.toNat_natCast] using h
end
/-- a list with cells put into it, one by one -/
def setL (xs : List Value) : Nat → List Value → List Value
  | _, [] => xs
  | o, v :: r => setL (xs.set o v) (o + 1) r
theorem setL_eq : ∀ (vs : List Value) (o : Nat) (xs : List Value), o + vs.length ≤ xs.length → setL xs o vs = xs.take o ++ (vs ++ xs.drop (o + vs.length)) := by
  intro vs
  induction vs with
  | nil => intro o xs h; simp [setL]
  | cons v r ih =>
    intro o xs h
    rw [setL, ih (o + 1) (xs.set o v) (by simp at h ⊢; omega)]
    have hl : o < xs.length := by simp at h; omega
    have e1 : (xs.set o v).take (o + 1) = xs.take o ++ [v] := by
      rw [List.take_succ_eq_append_getElem (by simpa using hl)]
      simp [List.take_set_of_le]
    have e2 : (xs.set o v).drop (o + 1 + r.length) = xs.drop (o + (r.length + 1)) := by
      rw [List.drop_set_of_lt (by omega)]
      congr 1
      omega
    rw [e1, e2]
    simp
theorem setL_get : ∀ (vs : List Value) (o : Nat) (xs : List Value), o + vs.length ≤ xs.length → ∀ i, (setL xs o vs)[i]? = if o ≤ i ∧ i < o + vs.length then vs[i - o]? else xs[i]? := by
  intro vs
  induction vs with
  | nil => intro o xs h i; rw [if_neg (by simp only [List.length_nil]; omega)]; rfl
  | cons v r ih =>
    intro o xs h i
    rw [setL, ih (o + 1) (xs.set o v) (by simp at h ⊢; omega)]
    simp only [List.length_cons] at h ⊢
    by_cases h1 : i = o
    · subst h1
      rw [if_neg (by omega), if_pos (by omega), List.getElem?_set_self (by omega)]
      simp
    · by_cases h2 : o + 1 ≤ i ∧ i < o + 1 + r.length
      · rw [if_pos h2, if_pos (by omega), show i - o = (i - (o + 1)) + 1 by omega, List.getElem?_cons_succ]
      · rw [if_neg h2, if_neg (by omega), List.getElem?_set_ne (by omega)]
theorem own_setCells {base : Nat} {e : TypeId} {size g n cap : Nat} : ∀ (vs : List Value) (o : Nat) (w : World) (xs : List Value), w.ownsRow base e size (.slice (some ⟨g, 0, none⟩) n cap) n xs →
    (w.setCells g o vs).ownsRow base e size (.slice (some ⟨g, 0, none⟩) n cap) n (setL xs o vs) ∧ w.grownBy (w.setCells g o vs) (some g) := by
  intro vs
  induction vs with
  | nil => intro o w xs h; exact ⟨h, World.grownBy.refl _ _⟩
  | cons v r ih =>
    intro o w xs h
    obtain ⟨h1, h2⟩ := h.stored o v
    obtain ⟨h3, h4⟩ := ih (o + 1) _ _ h1
    exact ⟨h3, h4.os.trans h2.os, h4.tape.trans h2.tape, h4.output.trans h2.output, Nat.le_trans h2.size h4.size, fun k hk hne => (h4.block k (Nat.lt_of_lt_of_le hk h2.size) hne).trans (h2.block k hk hne)⟩
section
variable {α : Type} {f : α → List Value} {s : Nat}
theorem flat_set (hf : ∀ a, (f a).length = s) (l : List α) (k : Nat) (h : k < l.length) (x : α) : setL (flat f l) (k * s) (f x) = flat f (l.set k x) := by
  have hle : k * s + s ≤ l.length * s := by rw [← Nat.succ_mul]; exact Nat.mul_le_mul_right _ h
  rw [setL_eq _ _ _ (by rw [flat_len hf, hf]; exact hle), hf, flat_take hf, show k * s + s = (k + 1) * s by rw [Nat.succ_mul], flat_drop hf]
  rw [List.set_eq_take_append_cons_drop, if_pos h]
  simp [flat]
theorem flat_setp (hf : ∀ a, (f a).length = s) (l : List α) (k : Nat) (h : k < l.length) (x : α) (o : Nat) (vs : List Value) (ho : o + vs.length ≤ s)
    (hx : ∀ j, j < s → (f x)[j]? = if o ≤ j ∧ j < o + vs.length then vs[j - o]? else (f l[k])[j]?) : setL (flat f l) (k * s + o) vs = flat f (l.set k x) := by
  have hle : k * s + s ≤ l.length * s := by rw [← Nat.succ_mul]; exact Nat.mul_le_mul_right _ h
  rw [← flat_set hf l k h x]
  apply List.ext_getElem?
  intro i
  rw [setL_get _ _ _ (by rw [flat_len hf]; omega), setL_get _ _ _ (by rw [flat_len hf, hf]; omega), hf]
  by_cases h1 : k * s ≤ i ∧ i < k * s + s
  · obtain ⟨j, rfl⟩ : ∃ j, i = k * s + j := ⟨i - k * s, by omega⟩
    rw [if_pos h1, show k * s + j - k * s = j by omega, hx j (by omega), flat_at hf l k h j (by omega)]
    by_cases h2 : o ≤ j ∧ j < o + vs.length
    · rw [if_pos h2, if_pos (by omega), show k * s + j - (k * s + o) = j - o by omega]
    · rw [if_neg h2, if_neg (by omega)]
  · rw [if_neg h1, if_neg (by omega)]
variable {w w' : World} {base : Nat} {e : TypeId} {g n cap : Nat} {l : List α}
theorem LOwn.storep (h : LOwn f s e w base (.slice (some ⟨g, 0, none⟩) n cap) l) (hn : n = l.length) {k : Nat} (hk : k < l.length) (x : α) (o : Nat) (vs : List Value) (ho : o + vs.length ≤ s)
    (hx : ∀ j, j < s → (f x)[j]? = if o ≤ j ∧ j < o + vs.length then vs[j - o]? else (f l[k])[j]?) :
    LOwn f s e (w.setCells g (k * s + o) vs) base (.slice (some ⟨g, 0, none⟩) n cap) (l.set k x) ∧ w.grownBy (w.setCells g (k * s + o) vs) (some g) := by
  subst hn
  obtain ⟨h1, h2⟩ := own_setCells vs (k * s + o) w (flat f l) h.2
  rw [flat_setp h.1 l k hk x o vs ho hx] at h1
  exact ⟨⟨h.1, by simpa using h1⟩, h2⟩
theorem LOwn.store (h : LOwn f s e w base (.slice (some ⟨g, 0, none⟩) n cap) l) (hn : n = l.length) {k : Nat} (hk : k < l.length) (x : α) :
    LOwn f s e (w.setCells g (k * s) (f x)) base (.slice (some ⟨g, 0, none⟩) n cap) (l.set k x) ∧ w.grownBy (w.setCells g (k * s) (f x)) (some g) := by
  subst hn
  obtain ⟨h1, h2⟩ := own_setCells (f x) (k * s) w (flat f l) h.2
  rw [flat_set h.1 l k hk] at h1
  exact ⟨⟨h.1, by simpa using h1⟩, h2⟩
theorem LOwn.cellAt (h : LOwn f s e w base (.slice (some ⟨g, 0, none⟩) n cap) l) (hn : n = l.length) {k : Nat} (hk : k < l.length) {j : Nat} (hj : j < s) : w.cell? ⟨g, k * s + j, none⟩ = (f l[k])[j]? := by
  subst hn
  have hle : k * s + s ≤ l.length * s := by rw [← Nat.succ_mul]; exact Nat.mul_le_mul_right _ hk
  rw [h.2.cellAt _ (by omega), flat_at h.1 l k hk j hj]
theorem LOwn.frozenAt (h : LOwn f s e w base (.slice (some ⟨g, 0, none⟩) n cap) l) (hn : n = l.length) (j : Nat) : w.frozen? ⟨g, j, none⟩ = false := by
  subst hn
  exact h.2.frozenAt j
theorem LOwn.reads (h : LOwn f s e w base (.slice (some ⟨g, 0, none⟩) n cap) l) (hn : n = l.length) : LAt f s w w.heap.size (some ⟨g, 0, none⟩) n l := by
  subst hn
  exact ⟨⟨rfl, h.1⟩, Reads.of_own h.2⟩
theorem LOwn.grown_base (h : LOwn f s e w base (.slice (some ⟨g, 0, none⟩) n cap) l) (hn : n = l.length) : base ≤ g ∧ g < w.heap.size := by
  subst hn
  exact World.ownsRow.lt h.2 g rfl
/-- a copy onto a row that was made for it -/
theorem copied_own (hf : ∀ a, (f a).length = s) {cs : Array Value} {c : Nat} (hh : w.heap[g]? = some (.cells cs e (0, 0))) (hs : cs.toList.take (l.length * s) = flat f l) (hsz : cs.size = c * s) (hb : base ≤ g) (hc : l.length ≤ c) (hm : c ≤ maxLen) :
    LOwn f s e w base (.slice (some ⟨g, 0, none⟩) l.length c) l :=
  ⟨hf, flat_len hf l, .inr ⟨g, c, cs, rfl, hb, hh, hc, hm, hsz, hs⟩⟩
end
theorem below_grown {g : Nat} {w0 w w' : World} (h : Below w0.heap.size w0 w) (hg : w.grownBy w' (some g)) (hB : w0.heap.size ≤ g) : Below w0.heap.size w0 w' := h.grown hg h.size (fun k hk => by cases hk; exact hB)
end Go.Proofs.YtbngclibfnnejaaDoor
