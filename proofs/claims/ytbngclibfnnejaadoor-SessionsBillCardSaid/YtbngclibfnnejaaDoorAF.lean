/- append onto a slice that came in and has no room: a new row of the call's own. -/
import Derived.Test.YtbngclibfnnejaaDoorRA
import Derived.Test.YtbngclibfnnejaaDoorFlat
import Derived.Maps.AppendAt
set_option linter.unusedVariables false
namespace Go.Proofs.YtbngclibfnnejaaDoor
open Go.RowKit
section
variable {P : Program} (w : World)
theorem run_append_full {α : Type} {f : α → List Value} {l ys : List α} (t ty e : TypeId) (i : TypeInfo) (z : Value) (size bytes : Nat) (ht : P.underlying t = some (.slice e)) (hi : P.info? e = some i) (hz : i.zero = some z)
    (hsize : i.size = size) (hby : i.bytes = bytes) (hzs : z.cells.size = size)
    (B : Nat) (A : Option Addr) (n : Nat) (hl : LAt f size w B A n l)
    (B2 : Nat) (A2 : Option Addr) (m c : Nat) (hr : Reads w B2 size A2 m (flat f ys)) (hm : m = ys.length) (hpos : 0 < m)
    (h63 : n + m ≤ maxLen) (hbytes : (n + m) * bytes ≤ 140737488355328) :
    ∃ v' w', (Builtin.append_ #[t, t] ty #[.slice A n n, .slice A2 m c]).run P w = .ok v' w' ∧ LOwn f size e w' w.heap.size v' (l ++ ys) ∧ Below w.heap.size w w' := by
  subst hsize
  subst hby
  have hfm : maxLen ≤ 9223372036854775807 := by simp only [maxLen]; omega
  have hln : l.length = n := hl.len
  have hxs : (flat f l).length = n * i.size := by rw [flat_len hl.1.2, hln]
  have hlen : (flat f l ++ flat f ys).length = (n + m) * i.size := by rw [List.length_append, hxs, hr.1, Nat.add_mul]
  obtain ⟨ad2, rfl, _, hcells⟩ := hr.2 hpos
  have grown : ∀ (old : Nat), old < n + m →
      LOwn f i.size e (w.drew.alloc (.cells ((flat f l).toArray ++ (flat f ys).toArray ++ Builtin.zeroCells z.cells (grownCap w (n + m) old e - (n + m))) e)) w.heap.size
        (.slice (some ⟨w.heap.size, 0, none⟩) (n + m) (grownCap w (n + m) old e)) (l ++ ys) := by
    intro old ho
    have hge := grownCap_ge w (n + m) old e
    have hcm : grownCap w (n + m) old e ≤ maxLen := grownCap_le_maxLen w (n + m) old e h63
    refine ⟨hl.1.2, ?_⟩
    rw [List.length_append, hln, ← hm, flat_append]
    refine ⟨hlen, .inr ⟨w.heap.size, _, _, rfl, Nat.le_refl _, heap_alloc_new w.drew _, hge, hcm, ?_, ?_⟩⟩
    · simp only [Array.size_append, List.size_toArray, size_zeroCells, hzs, hxs, hr.1, ← Nat.add_mul]
      congr 1
      omega
    · simp only [Array.toList_append, List.append_assoc]
      rw [← List.append_assoc, ← hlen]
      exact List.take_left
  cases A with
  | none =>
    have h0 : n = 0 := by
      rcases Nat.eq_zero_or_pos n with h0 | h0
      · exact h0
      · obtain ⟨ad, e, _⟩ := hl.at_ h0; cases e
    subst h0
    obtain rfl : l = [] := List.eq_nil_of_length_eq_zero hln
    have h := run_append_nil (P := P) w t ty e i z ht hi hz ad2 m c (flat f ys) hr.1 hcells (by omega) (by omega) (by have hb := hbytes; simp only [Nat.zero_add] at hb; omega)
    have hg := grown 0 (by omega)
    simp only [Nat.zero_add, List.nil_append, Array.empty_append, flat, List.flatMap_nil] at hg h ⊢
    exact ⟨_, _, h, hg, (Below.refl _ _).drew.alloc (Nat.le_refl _) _⟩
  | some ad =>
    have holds : ∀ j u, (flat f l)[j]? = some u → w.cell? (ad.add j) = some u := fun j u hu => by
      by_cases h0 : 0 < n
      · obtain ⟨ad', e, _, hc⟩ := hl.2.2 h0
        injection e with e
        subst e
        exact hc j u hu
      · obtain rfl : l = [] := List.eq_nil_of_length_eq_zero (by omega)
        simp [flat] at hu
    have h := run_append_grow (P := P) w t ty e i z ht hi hz ad n n (flat f l) hxs holds ad2 m c (flat f ys) hr.1 hcells (by omega) (by omega) (growslice_fits (by omega) hbytes)
    exact ⟨_, _, h, grown n (by omega), (Below.refl _ _).drew.alloc (Nat.le_refl _) _⟩
theorem wp_append_full {α : Type} {f : α → List Value} {l ys : List α} {o : Oper} {a : Act} {K : Act → World → Prop} {Q : Exit → Act → World → Prop} (s x : Operand) (t : TypeId)
    (ho : o.op = .call { callee := .builtin .append, args := #[s, x], argTypes := #[t, t] })
    (e : TypeId) (i : TypeInfo) (z : Value) (size bytes : Nat) (ht : P.underlying t = some (.slice e)) (hi : P.info? e = some i) (hz : i.zero = some z)
    (hsize : i.size = size) (hby : i.bytes = bytes) (hzs : z.cells.size = size)
    (B : Nat) (A : Option Addr) (n : Nat) (hs : a.eval s = .slice A n n) (hl : LAt f size w B A n l)
    (B2 : Nat) (A2 : Option Addr) (m c : Nat) (hx : a.eval x = .slice A2 m c) (hr : Reads w B2 size A2 m (flat f ys)) (hm : m = ys.length) (hpos : 0 < m)
    (h63 : n + m ≤ maxLen) (hbytes : (n + m) * bytes ≤ 140737488355328)
    (h : ∀ v' w', LOwn f size e w' w.heap.size v' (l ++ ys) → Below w.heap.size w w' → K (a.put o.dst v') w') : o.wp P a w K Q := by
  obtain ⟨v', w', hrun, h2, h3⟩ := run_append_full (P := P) w t o.type e i z size bytes ht hi hz hsize hby hzs B A n hl B2 A2 m c hr hm hpos h63 hbytes
  unfold Oper.wp execOp
  simp only [ho, resolve, invoke, builtin, Sem.run_bind, Sem.run_pure, Result.andThen_ok, List.map_toArray, List.map_cons, List.map_nil, hs, hx, hrun]
  exact h v' w' h2 h3
theorem wpList_append_full {α : Type} {f : α → List Value} {l ys : List α} {ops : Array Oper} {rest : List Oper} {o : Oper} {a : Act} {Q : Exit → Act → World → Prop} (hgd : o.guard = none) (s x : Operand) (t : TypeId)
    (ho : o.op = .call { callee := .builtin .append, args := #[s, x], argTypes := #[t, t] })
    (e : TypeId) (i : TypeInfo) (z : Value) (size bytes : Nat) (ht : P.underlying t = some (.slice e)) (hi : P.info? e = some i) (hz : i.zero = some z)
    (hsize : i.size = size) (hby : i.bytes = bytes) (hzs : z.cells.size = size)
    (B : Nat) (A : Option Addr) (n : Nat) (hs : a.eval s = .slice A n n) (hl : LAt f size w B A n l)
    (B2 : Nat) (A2 : Option Addr) (m c : Nat) (hx : a.eval x = .slice A2 m c) (hr : Reads w B2 size A2 m (flat f ys)) (hm : m = ys.length) (hpos : 0 < m)
    (h63 : n + m ≤ maxLen) (hbytes : (n + m) * bytes ≤ 140737488355328)
    (h : ∀ v' w', LOwn f size e w' w.heap.size v' (l ++ ys) → Below w.heap.size w w' → wpList P ops Q rest (a.put o.dst v') w') : wpList P ops Q (o :: rest) a w :=
  wpList_plain hgd fun _ hK => wp_append_full w s x t ho e i z size bytes ht hi hz hsize hby hzs B A n hs hl B2 A2 m c hx hr hm hpos h63 hbytes fun v' w' h2 h3 => hK _ _ (h v' w' h2 h3)
end
end Go.Proofs.YtbngclibfnnejaaDoor
