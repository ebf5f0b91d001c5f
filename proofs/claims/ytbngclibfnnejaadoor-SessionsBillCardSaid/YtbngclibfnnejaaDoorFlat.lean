/- Rows of structs: a slice of structs reads as a list; a row of the call's own; small laws of worlds. -/
import Derived.Test.YtbngclibfnnejaaDoorRows
import Derived.Test.YtbngclibfnnejaaDoorWords
import Derived.WalkKit
import Derived.ProofKit
import Derived.OpenShut
import Derived.Lib.Hide
import Derived.Outline
import Derived.StillTailTactics
import Derived.Deep.QuietTactic
import Derived.BigQuiet
import Derived.Laws.CopyOwn
import Derived.Laws.MakeOwn
set_option linter.unusedVariables false
namespace Go.Proofs.YtbngclibfnnejaaDoor
open Go.RowKit
theorem ret_int {k : IntKind} {a b : Int} (h : a = b) : Ending.returned (.int k a) = .returned (.int k b) := by rw [h]
theorem ret_bool {a b : Bool} (h : a = b) : Ending.returned (.bool a) = .returned (.bool b) := by rw [h]
theorem wp_world {P : Program} {c : Code} {Q : Exit → Act → World → Prop} {a : Act} {w : World} (p : World → Prop) (hp : p w) (h : ∀ w2, p w2 → c.wp P Q a w2) : c.wp P Q a w := h _ hp
theorem region_st {P : Program} {id : Nat} {Q : Exit → Act → World → Prop} {a : Act} {w : World} {l : List Oper} (p : World → Prop) (n : Nat) (hm : P.follows .mixedOrders = true)
    (hB : Region.lexTailB .any l.toArray n = true) (hp : p w.drew)
    (h : ∀ w2, p w2 → wpStill P l.toArray w2 (fun a' => wpList P l.toArray Q (l.drop n) a' w2) (l.take n) a) : (Code.region id l.toArray true).wp P Q a w :=
  wp_region_still_tail n hm hB (h _ hp)
theorem lt_of_heap {w : World} {g : Nat} {o : Obj} (h : w.heap[g]? = some o) : g < w.heap.size := by
  rcases Nat.lt_or_ge g w.heap.size with hlt | hge
  · exact hlt
  · rw [Array.getElem?_eq_none hge] at h; cases h
theorem lt_of_cell {w : World} {a : Addr} {v : Value} (h : w.cell? a = some v) : a.block < w.heap.size := by
  rcases Nat.lt_or_ge a.block w.heap.size with hlt | hge
  · exact hlt
  · simp [World.cell?, Array.getElem?_eq_none hge] at h
theorem add_next (ad : Addr) (k j : Nat) : ad.add (k + (j + 1)) = ⟨(ad.add k).block, (ad.add k).off + (j + 1), none⟩ := by
  unfold Addr.add
  by_cases h : k = 0
  · subst h; simp
  · simp [h]; omega
theorem add_block (ad : Addr) (k : Nat) : (ad.add k).block = ad.block := by unfold Addr.add; split <;> rfl
theorem add_row (g k : Nat) : (⟨g, 0, none⟩ : Addr).add k = ⟨g, k, none⟩ := by unfold Addr.add; split <;> simp_all
theorem below_drewN {B : Nat} {a w : World} (h : Below B a w) (n : Nat) : Below B a (w.drewN n) := ⟨h.os, h.tape, h.output, h.size, h.block⟩
theorem cell_alloc {w : World} {p : Addr} {v : Value} (h : w.cell? p = some v) (o : Obj) : (w.alloc o).cell? p = some v := by
  rw [World.cell?_alloc_lt w o p (lt_of_cell h)]; exact h
theorem b1 {w w' : World} {o : Obj} (h : Below (w.heap.size + 1) (w.alloc o) w') : Below w.heap.size w w' :=
  ((Below.refl _ w).alloc (Nat.le_refl _) o).trans (h.mono (Nat.le_succ _))
theorem a1 (w : World) (o : Obj) : Below w.heap.size w (w.alloc o) := (Below.refl _ w).alloc (Nat.le_refl _) o
theorem below_a {w w' : World} {o : Obj} (h : Below (w.alloc o).heap.size (w.alloc o) w') : Below w.heap.size w w' := (a1 w o).trans (h.mono (by simp))
theorem below_set {B g : Nat} {a w : World} (h : Below B a w) (hg : B ≤ g) (o : Nat) (v : Value) : Below B a (w.setCell ⟨g, o, none⟩ v) := h.setCell hg v
theorem below_new {a w : World} (h : Below a.heap.size a w) (o : Obj) : Below a.heap.size a (w.alloc o) := h.alloc h.size o
theorem below_dr {B : Nat} {a w : World} (h : Below B a w) : Below B a w.drew := h.drew
theorem only_drewN {a w : World} {row : Option Nat} (h : a.grownBy w row) (n : Nat) : a.grownBy (w.drewN n) row := ⟨h.os, h.tape, h.output, h.size, h.block⟩
theorem only_drew {a w : World} {row : Option Nat} (h : a.grownBy w row) : a.grownBy w.drew row := ⟨h.os, h.tape, h.output, h.size, h.block⟩
theorem only_alloc {a w : World} {row : Option Nat} (h : a.grownBy w row) (o : Obj) : a.grownBy (w.alloc o) row :=
  ⟨h.os, h.tape, h.output, Nat.le_trans h.size (by simp), fun i hi hne => (Below.heap_alloc w o i (Nat.lt_of_lt_of_le hi h.size)).trans (h.block i hi hne)⟩
theorem only_set {a w : World} {g : Nat} (h : a.grownBy w (some g)) (o : Nat) (u : Value) : a.grownBy (w.setCell ⟨g, o, none⟩ u) (some g) :=
  ⟨h.os, h.tape, h.output, by simpa [World.setCell] using h.size, fun i hi hne => (Below.heap_setCell w ⟨g, o, none⟩ u i (by
    rintro rfl
    exact hne rfl)).trans (h.block i hi hne)⟩
theorem only_of_below {a w : World} (h : Below a.heap.size a w) (row : Option Nat) : a.grownBy w row := ⟨h.os, h.tape, h.output, h.size, fun i hi _ => h.block i hi⟩
theorem bcell {W w1 : World} (hb : Below W.heap.size W w1) : (∀ b o, b < W.heap.size → w1.cell? ⟨b, o, none⟩ = W.cell? ⟨b, o, none⟩) ∧ (∀ b o, b < W.heap.size → w1.frozen? ⟨b, o, none⟩ = W.frozen? ⟨b, o, none⟩) :=
  ⟨fun b o h => hb.cell (p := ⟨b, o, none⟩) h, fun b o h => hb.frozen (p := ⟨b, o, none⟩) h⟩
theorem byte_lt (c : UInt8) : 0 ≤ (c.toNat : Int) ∧ (c.toNat : Int) ≤ 255 := by have := c.toNat_lt; omega
section
variable {α : Type} {f : α → List Value} {s : Nat}
/-- the cells of structs, one behind the other -/
def flat (f : α → List Value) (l : List α) : List Value := l.flatMap f
theorem flat_len (hf : ∀ a, (f a).length = s) (l : List α) : (flat f l).length = l.length * s := by
  induction l with
  | nil => simp [flat]
  | cons x r ih => simp only [flat, List.flatMap_cons, List.length_append, List.length_cons, hf] at ih ⊢; rw [ih, Nat.add_mul]; omega
theorem flat_append (a b : List α) : flat f (a ++ b) = flat f a ++ flat f b := by simp [flat]
theorem flat_one (a : α) : flat f [a] = f a := by simp [flat]
theorem flat_drop (hf : ∀ a, (f a).length = s) (l : List α) : ∀ k, (flat f l).drop (k * s) = flat f (l.drop k) := by
  induction l with
  | nil => intro k; simp [flat]
  | cons x r ih =>
    intro k
    cases k with
    | zero => simp
    | succ k =>
      have := ih k
      simp only [flat, List.flatMap_cons, List.drop_succ_cons] at this ⊢
      rw [← this, Nat.add_mul, Nat.one_mul, Nat.add_comm, ← List.drop_drop, List.drop_left' (hf x)]
theorem flat_take (hf : ∀ a, (f a).length = s) (l : List α) : ∀ k, (flat f l).take (k * s) = flat f (l.take k) := by
  induction l with
  | nil => intro k; simp [flat]
  | cons x r ih =>
    intro k
    cases k with
    | zero => simp [flat]
    | succ k =>
      have := ih k
      simp only [flat, List.flatMap_cons, List.take_succ_cons] at this ⊢
      rw [← this, Nat.add_mul, Nat.one_mul, Nat.add_comm, List.take_append, hf, List.take_of_length_le (by rw [hf]; omega)]
      congr 2
      omega
theorem flat_at (hf : ∀ a, (f a).length = s) (l : List α) (k : Nat) (h : k < l.length) (j : Nat) (hj : j < s) : (flat f l)[k * s + j]? = (f l[k])[j]? := by
  have e : (flat f l)[k * s + j]? = ((flat f l).drop (k * s))[j]? := by rw [List.getElem?_drop]
  rw [e, flat_drop hf, List.drop_eq_getElem_cons h]
  simp only [flat, List.flatMap_cons]
  rw [List.getElem?_append_left (by rw [hf]; exact hj)]
/-- the slice 'A', of n structs, reads as l, and lies below block B -/
def LAt (f : α → List Value) (s : Nat) (w : World) (B : Nat) (A : Option Addr) (n : Nat) (l : List α) : Prop := (l.length = n ∧ ∀ a, (f a).length = s) ∧ Reads w B s A n (flat f l)
variable {w w' : World} {B B' n : Nat} {A : Option Addr} {l : List α}
theorem LAt.len (h : LAt f s w B A n l) : l.length = n := h.1.1
theorem LAt.at_ (h : LAt f s w B A n l) {k : Nat} (hk : k < n) :
    ∃ ad, A = some ad ∧ ad.block < B ∧ ∀ j u, (f (l[k]'(by rw [h.len]; exact hk)))[j]? = some u → w.cell? (ad.add (k * s + j)) = some u := by
  obtain ⟨ad, rfl, hb, hc⟩ := h.2.2 (by omega)
  have hl : k < l.length := by rw [h.len]; exact hk
  refine ⟨ad, rfl, hb, fun j u hu => hc _ _ ?_⟩
  have hj : j < s := by
    rcases Nat.lt_or_ge j s with g | g
    · exact g
    · rw [List.getElem?_eq_none (by rw [h.1.2]; exact g)] at hu; cases hu
  rw [flat_at h.1.2 l k hl j hj]; exact hu
theorem LAt.below (h : LAt f s w B A n l) (hb : Below B' w w') (hB : B ≤ B') : LAt f s w' B A n l :=
  ⟨h.1, Reads.keep h.2 fun p hp => hb.cell (Nat.lt_of_lt_of_le hp hB)⟩
theorem LAt.more (h : LAt f s w w.heap.size A n l) (hb : Below w.heap.size w w') : LAt f s w' w'.heap.size A n l :=
  ⟨h.1, Reads.more (h.below hb (Nat.le_refl _)).2 hb.size⟩
theorem LAt.drew (h : LAt f s w B A n l) : LAt f s w.drew B A n l := h
theorem LAt.drewN (h : LAt f s w B A n l) (k : Nat) : LAt f s (w.drewN k) B A n l := h
theorem LAt.nil (hf : ∀ a, (f a).length = s) (w : World) (B : Nat) : LAt f s w B none 0 [] := ⟨⟨rfl, hf⟩, by simpa [flat] using (Reads.none_ : Reads w B s none 0 [])⟩
theorem LAt.mono (h : LAt f s w B A n l) (hB : B ≤ B') : LAt f s w B' A n l := ⟨h.1, Reads.more h.2 hB⟩
theorem LAt.cut (h : LAt f s w B A n l) {k cap : Nat} (hk : k ≤ n) (hc : n ≤ cap) :
    LAt f s w B (if cap = k then A else A.map (·.add (k * s))) (n - k) (l.drop k) := by
  have := Reads.cut (size := s) h.2 hk hc
  rw [flat_drop h.1.2] at this
  exact ⟨⟨by simp [h.len], h.1.2⟩, this⟩
theorem LAt.take (h : LAt f s w B A n l) {k : Nat} (hk : k ≤ n) : LAt f s w B A k (l.take k) := by
  refine ⟨⟨by simp [h.len]; omega, h.1.2⟩, by rw [flat_len h.1.2]; simp [h.len, Nat.min_eq_left hk], fun hn => ?_⟩
  obtain ⟨ad, rfl, hb, hc⟩ := h.2.2 (by omega)
  refine ⟨ad, rfl, hb, fun j u hu => hc j u ?_⟩
  rw [← flat_take h.1.2] at hu
  rw [List.getElem?_take] at hu
  split at hu
  · exact hu
  · cases hu
/-- a slice of the call's own that reads as l -/
def LOwn (f : α → List Value) (s : Nat) (e : TypeId) (w : World) (base : Nat) (v : Value) (l : List α) : Prop := (∀ a, (f a).length = s) ∧ w.ownsRow base e s v l.length (flat f l)
variable {e : TypeId} {base base' : Nat} {v : Value}
theorem LOwn.nil (hf : ∀ a, (f a).length = s) (w : World) (base : Nat) : LOwn f s e w base (.slice none 0 0) [] := ⟨hf, World.ownsRow_nil _ _ _ _⟩
theorem LOwn.form (h : LOwn f s e w base v l) : ∃ A cap, v = .slice A l.length cap ∧ l.length ≤ cap ∧ cap ≤ maxLen ∧ (∀ ad, A = some ad → ad = ⟨ad.block, 0, none⟩ ∧ base ≤ ad.block ∧ ad.block < w.heap.size) ∧ LAt f s w w.heap.size A l.length l := by
  rcases h.2.2 with ⟨rfl, hl⟩ | ⟨g, c, cur, rfl, h1, h2, h3, h4, h5⟩
  · obtain rfl : l = [] := List.eq_nil_of_length_eq_zero hl
    exact ⟨none, 0, rfl, Nat.le_refl _, Nat.zero_le _, fun _ h => (by cases h), LAt.nil h.1 _ _⟩
  · exact ⟨_, c, rfl, h3, h4, fun ad h => by cases h; exact ⟨rfl, h1, lt_of_heap h2⟩, ⟨rfl, h.1⟩, Reads.of_own h.2⟩
theorem LOwn.kept (h : LOwn f s e w base v l) (hb : Below w.heap.size w w') : LOwn f s e w' base v l := by
  rcases h.2.2 with ⟨rfl, hl⟩ | ⟨g, c, cur, rfl, h1, h2, h3, h4, h5, h6⟩
  · exact ⟨h.1, h.2.1, .inl ⟨rfl, hl⟩⟩
  · exact ⟨h.1, h.2.1, .inr ⟨g, c, cur, rfl, h1, (hb.block g (lt_of_heap h2)).trans h2, h3, h4, h5, h6⟩⟩
theorem LOwn.mono (h : LOwn f s e w base v l) (hb : base' ≤ base) : LOwn f s e w base' v l := by
  rcases h.2.2 with ⟨rfl, hl⟩ | ⟨g, c, cur, rfl, h1, h2⟩
  · exact ⟨h.1, h.2.1, .inl ⟨rfl, hl⟩⟩
  · exact ⟨h.1, h.2.1, .inr ⟨g, c, cur, rfl, by omega, h2⟩⟩
theorem LOwn.drew (h : LOwn f s e w base v l) : LOwn f s e w.drew base v l := h
theorem LOwn.drewN (h : LOwn f s e w base v l) (k : Nat) : LOwn f s e (w.drewN k) base v l := h
theorem LOwn.alloc (h : LOwn f s e w base v l) (o : Obj) : LOwn f s e (w.alloc o) base v l := ⟨h.1, h.2.alloc o⟩
theorem LOwn.far (h : LOwn f s e w base v l) (hg : w.grownBy w' (some B)) (hlt : B < base) : LOwn f s e w' base v l :=
  ⟨h.1, World.ownsRow.kept h.2 hg (by
    cases e : v.ownBlock with
    | none => exact Or.inl rfl
    | some k => refine Or.inr (fun hk => ?_); cases hk; have := (World.ownsRow.lt h.2 _ e).1; omega)⟩
/-- a literal laid into a block of its own reads as its list -/
theorem lit_own (hf : ∀ a, (f a).length = s) (w : World) (l : List α) (cs : Array Value) (hc : cs.toList = flat f l) (hl : l.length ≤ maxLen) : LOwn f s e (w.alloc (.cells cs e)) w.heap.size (.slice (some ⟨w.heap.size, 0, none⟩) l.length l.length) l := by
  have hs : cs.size = l.length * s := by rw [← flat_len hf l, ← hc]; simp
  exact ⟨hf, flat_len hf l, .inr ⟨w.heap.size, l.length, cs, rfl, Nat.le_refl _, heap_alloc_new w _, Nat.le_refl _, hl, hs, by rw [hc, List.take_of_length_le (by rw [flat_len hf l]; omega)]⟩⟩
theorem lit_at (hf : ∀ a, (f a).length = s) (w : World) (l : List α) (cs : Array Value) (hc : cs.toList = flat f l) : LAt f s (w.alloc (.cells cs e)) (w.heap.size + 1) (some ⟨w.heap.size, 0, none⟩) l.length l := by
  refine ⟨⟨rfl, hf⟩, flat_len hf l, fun _ => ⟨_, rfl, by simp, fun j u hu => ?_⟩⟩
  rw [add_row, cell_of_row _ _ j cs e _ (heap_alloc_new w _), ← Array.getElem?_toList, hc]
  exact hu
end
end Go.Proofs.YtbngclibfnnejaaDoor
