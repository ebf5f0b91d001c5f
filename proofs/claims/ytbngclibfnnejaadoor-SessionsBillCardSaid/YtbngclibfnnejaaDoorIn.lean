/- append in place: onto a row of the call's own that has room; a row that is made empty. -/
import Derived.Test.YtbngclibfnnejaaDoorOwn
import Derived.Test.YtbngclibfnnejaaDoorRA
set_option linter.unusedVariables false
namespace Go.Proofs.YtbngclibfnnejaaDoor
open Go.RowKit
section
variable {P : Program} (w : World)
theorem run_append_in {α : Type} {f : α → List Value} {l ys : List α} (base : Nat) (t ty e : TypeId) (i : TypeInfo) (size : Nat) (ht : P.underlying t = some (.slice e)) (hi : P.info? e = some i) (hsize : i.size = size)
    (g n cap : Nat) (hown : LOwn f size e w base (.slice (some ⟨g, 0, none⟩) n cap) l) (hn : n = l.length)
    (B : Nat) (A : Option Addr) (m c : Nat) (hr : Reads w B size A m (flat f ys)) (hm : m = ys.length) (h1 : ∀ u ∈ flat f ys, u.oneCell' = true) (hroom : n + m ≤ cap) :
    ∃ w', (Builtin.append_ #[t, t] ty #[.slice (some ⟨g, 0, none⟩) n cap, .slice A m c]).run P w = .ok (.slice (some ⟨g, 0, none⟩) (n + m) cap) w' ∧ LOwn f size e w' base (.slice (some ⟨g, 0, none⟩) (n + m) cap) (l ++ ys) ∧ w.grownBy w' (some g) := by
  subst hn
  by_cases h0 : m = 0
  · subst h0
    obtain rfl : ys = [] := List.eq_nil_of_length_eq_zero hm.symm
    refine ⟨w, run_append_zero w t ty e i ht hi _ _ _ (by omega) A c, ?_, World.grownBy.refl _ _⟩
    simpa using hown
  · obtain ⟨ad, rfl, _, hcells⟩ := hr.2 (by omega)
    obtain ⟨w', h2, h3, h4⟩ := run_append_fits (P := P) w base t ty e i size ht hi hsize g l.length cap (flat f l) hown.2 ad m c (flat f ys) hr.1 hcells h1 hroom
    refine ⟨w', h2, ⟨hown.1, ?_⟩, h4⟩
    rw [List.length_append, flat_append, ← hm]
    exact h3
theorem wpList_append_in {α : Type} {f : α → List Value} {l ys : List α} {ops : Array Oper} {rest : List Oper} {o : Oper} {a : Act} {Q : Exit → Act → World → Prop} (hgd : o.guard = none) (s x : Operand) (t : TypeId)
    (ho : o.op = .call { callee := .builtin .append, args := #[s, x], argTypes := #[t, t] })
    (base : Nat) (e : TypeId) (i : TypeInfo) (size : Nat) (ht : P.underlying t = some (.slice e)) (hi : P.info? e = some i) (hsize : i.size = size)
    (g n cap : Nat) (hs : a.eval s = .slice (some ⟨g, 0, none⟩) n cap) (hown : LOwn f size e w base (.slice (some ⟨g, 0, none⟩) n cap) l) (hn : n = l.length)
    (B : Nat) (A : Option Addr) (m c : Nat) (hx : a.eval x = .slice A m c) (hr : Reads w B size A m (flat f ys)) (hm : m = ys.length) (h1 : ∀ u ∈ flat f ys, u.oneCell' = true) (hroom : n + m ≤ cap)
    (h : ∀ w', LOwn f size e w' base (.slice (some ⟨g, 0, none⟩) (n + m) cap) (l ++ ys) → w.grownBy w' (some g) → wpList P ops Q rest (a.put o.dst (.slice (some ⟨g, 0, none⟩) (n + m) cap)) w') : wpList P ops Q (o :: rest) a w := by
  refine wpList_plain hgd fun K hK => ?_
  obtain ⟨w', hrun, h2, h3⟩ := run_append_in (P := P) w base t o.type e i size ht hi hsize g n cap hown hn B A m c hr hm h1 hroom
  unfold Oper.wp execOp
  simp only [ho, resolve, invoke, builtin, Sem.run_bind, Sem.run_pure, Result.andThen_ok, List.map_toArray, List.map_cons, List.map_nil, hs, hx, hrun]
  exact hK _ _ (h w' h2 h3)
theorem wp_append_in {α : Type} {f : α → List Value} {l ys : List α} {o : Oper} {a : Act} {K : Act → World → Prop} {Q : Exit → Act → World → Prop} (s x : Operand) (t : TypeId)
    (ho : o.op = .call { callee := .builtin .append, args := #[s, x], argTypes := #[t, t] })
    (base : Nat) (e : TypeId) (i : TypeInfo) (size : Nat) (ht : P.underlying t = some (.slice e)) (hi : P.info? e = some i) (hsize : i.size = size)
    (g n cap : Nat) (hs : a.eval s = .slice (some ⟨g, 0, none⟩) n cap) (hown : LOwn f size e w base (.slice (some ⟨g, 0, none⟩) n cap) l) (hn : n = l.length)
    (B : Nat) (A : Option Addr) (m c : Nat) (hx : a.eval x = .slice A m c) (hr : Reads w B size A m (flat f ys)) (hm : m = ys.length) (h1 : ∀ u ∈ flat f ys, u.oneCell' = true) (hroom : n + m ≤ cap)
    (h : ∀ w', LOwn f size e w' base (.slice (some ⟨g, 0, none⟩) (n + m) cap) (l ++ ys) → w.grownBy w' (some g) → K (a.put o.dst (.slice (some ⟨g, 0, none⟩) (n + m) cap)) w') : o.wp P a w K Q := by
  obtain ⟨w', hrun, h2, h3⟩ := run_append_in (P := P) w base t o.type e i size ht hi hsize g n cap hown hn B A m c hr hm h1 hroom
  unfold Oper.wp execOp
  simp only [ho, resolve, invoke, builtin, Sem.run_bind, Sem.run_pure, Result.andThen_ok, List.map_toArray, List.map_cons, List.map_nil, hs, hx, hrun]
  exact h w' h2 h3
/-- a row that is made without elements, with room -/
theorem made_nil {α : Type} {f : α → List Value} {s : Nat} (hf : ∀ a, (f a).length = s) (e : TypeId) (w : World) (M : Array Value) (c : Nat) (hM : M.size = c * s) (hc : c ≤ maxLen) : LOwn f s e (w.alloc (.cells M e)) w.heap.size (.slice (some ⟨w.heap.size, 0, none⟩) 0 c) [] :=
  copied_own (w := w.alloc (.cells M e)) (base := w.heap.size) (g := w.heap.size) (l := []) hf (heap_alloc_new w (.cells M e)) (by simp [flat]) hM (Nat.le_refl _) (Nat.zero_le _) hc
end
end Go.Proofs.YtbngclibfnnejaaDoor
