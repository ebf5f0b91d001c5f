/- New variables and literals in a region that draws its order: what a slot holds, and what keeps it. -/
import Derived.Test.YtbngclibfnnejaaDoorRM
import Derived.Test.YtbngclibfnnejaaDoorFlat
set_option linter.unusedVariables false
namespace Go.Proofs.YtbngclibfnnejaaDoor
open Go.RowKit
/-- a new variable of n cells -/
def Var (ty : TypeId) (n base : Nat) (v : Value) (w : World) : Prop := ∃ g, v = .pointer (some ⟨g, 0, none⟩) ∧ base ≤ g ∧ ∃ cs, Blk w g ty cs ∧ cs.size = n
/-- a new variable that holds these cells -/
def VarIs (ty : TypeId) (base : Nat) (cs : Array Value) (v : Value) (w : World) : Prop := ∃ g, v = .pointer (some ⟨g, 0, none⟩) ∧ base ≤ g ∧ Blk w g ty cs
/-- a literal slice of m elements -/
def LitIs (ty : TypeId) (base m : Nat) (cs : Array Value) (v : Value) (w : World) : Prop := ∃ g, v = .slice (some ⟨g, 0, none⟩) m m ∧ base ≤ g ∧ Blk w g ty cs
/-- a store to a new variable -/
def St (ty : TypeId) (base : Nat) (u : Value) (w w' : World) : Prop := ∃ g cs cs', u = .pointer (some ⟨g, 0, none⟩) ∧ base ≤ g ∧ w.grownBy w' (some g) ∧ Blk w g ty cs ∧ Blk w' g ty cs' ∧ cs.size = cs'.size
variable {ty ty' : TypeId} {n m base : Nat} {cs : Array Value} {u v : Value} {w w' : World}
theorem Var.more (h : Var ty n base v w) (hb : Below w.heap.size w w') : Var ty n base v w' := by
  obtain ⟨g, rfl, h1, c, h2, h3⟩ := h
  exact ⟨g, rfl, h1, c, h2.below hb h2.lt, h3⟩
theorem VarIs.more (h : VarIs ty base cs v w) (hb : Below w.heap.size w w') : VarIs ty base cs v w' := by
  obtain ⟨g, rfl, h1, h2⟩ := h
  exact ⟨g, rfl, h1, h2.below hb h2.lt⟩
theorem LitIs.more (h : LitIs ty base m cs v w) (hb : Below w.heap.size w w') : LitIs ty base m cs v w' := by
  obtain ⟨g, rfl, h1, h2⟩ := h
  exact ⟨g, rfl, h1, h2.below hb h2.lt⟩
theorem Var.st (h : Var ty n base v w) (hs : St ty' base u w w') : Var ty n base v w' := by
  obtain ⟨g, rfl, h1, c, h2, h3⟩ := h
  obtain ⟨g', c1, c2, rfl, _, hg, k1, k2, k3⟩ := hs
  by_cases hgg : g = g'
  · subst hgg
    unfold Blk at *
    rw [h2] at k1
    cases k1
    exact ⟨g, rfl, h1, c2, k2, by omega⟩
  · exact ⟨g, rfl, h1, c, h2.grown hg (by intro e; injection e with e; exact hgg e), h3⟩
theorem VarIs.st (h : VarIs ty base cs v w) (hs : St ty' base u w w') (hne : v ≠ u) : VarIs ty base cs v w' := by
  obtain ⟨g, rfl, h1, h2⟩ := h
  obtain ⟨g', c1, c2, rfl, _, hg, k1, k2, k3⟩ := hs
  refine ⟨g, rfl, h1, h2.grown hg ?_⟩
  intro e
  injection e with e
  subst e
  exact hne rfl
theorem LitIs.st (h : LitIs ty base m cs v w) (hs : St ty' base u w w') (hne : ty ≠ ty') : LitIs ty base m cs v w' := by
  obtain ⟨g, rfl, h1, h2⟩ := h
  obtain ⟨g', c1, c2, rfl, _, hg, k1, k2, k3⟩ := hs
  refine ⟨g, rfl, h1, h2.grown hg ?_⟩
  intro e
  injection e with e
  subst e
  unfold Blk at *
  rw [h2] at k1
  cases k1
  exact hne rfl
/-- a new variable is none that there was -/
theorem Var.fresh (h : Var ty n base u w) {g : Nat} (hg : w.heap.size ≤ g) : Value.pointer (some ⟨g, 0, none⟩) ≠ u := by
  obtain ⟨g', rfl, _, c, h2, _⟩ := h
  intro e
  have := h2.lt
  injection e with e
  injection e with e
  injection e with e
  omega
theorem Var.made (w : World) (cs : Array Value) (hb : base ≤ w.heap.size) (hn : cs.size = n) : Var ty n base (.pointer (some ⟨w.heap.size, 0, none⟩)) (w.alloc (.cells cs ty)) := ⟨_, rfl, hb, cs, Blk.new w ty cs, hn⟩
theorem LitIs.made (w : World) (cs : Array Value) (hb : base ≤ w.heap.size) (m : Nat) : LitIs ty base m cs (.slice (some ⟨w.heap.size, 0, none⟩) m m) (w.alloc (.cells cs ty)) := ⟨_, rfl, hb, Blk.new w ty cs⟩
theorem arr2 {cs : Array Value} (h : cs.size = 2) : ∃ a b, cs = #[a, b] := by
  obtain ⟨l⟩ := cs
  match l, h with
  | [a, b], _ => exact ⟨a, b, rfl⟩
theorem arr8 {cs : Array Value} (h : cs.size = 8) : ∃ a b c d e f g i, cs = #[a, b, c, d, e, f, g, i] := by
  obtain ⟨l⟩ := cs
  match l, h with
  | [a, b, c, d, e, f, g, i], _ => exact ⟨a, b, c, d, e, f, g, i, rfl⟩
theorem St.below {B : Nat} {a : World} (hs : St ty base u w w') (h : Below B a w) (hB : B ≤ base) : Below B a w' := by
  obtain ⟨g', c1, c2, rfl, h1, hg, k1, _⟩ := hs
  have := k1.lt
  exact h.grown hg (by omega) (fun k hk => by injection hk with hk; omega)
end Go.Proofs.YtbngclibfnnejaaDoor
