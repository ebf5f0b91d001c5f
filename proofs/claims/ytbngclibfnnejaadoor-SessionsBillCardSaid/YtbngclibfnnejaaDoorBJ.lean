/- The sums of a session: a map with at most one key. -/
import Derived.Test.YtbngclibfnnejaaDoorBI
import Derived.WideKeyEntry
import Derived.DeepKeys4
import Derived.ChangeMaps4
set_option linter.unusedVariables false
set_option linter.unusedSimpArgs false
set_option maxRecDepth 100000
namespace Go.Proofs.YtbngclibfnnejaaDoor
open Go.RowKit
theorem laidOut_ : laidOutB Tryd.prog = true := by kernel_rfl
theorem row81 : (81 : TypeId) < Tryd.prog.types.size := of_decide_eq_true (by kernel_rfl)
theorem wide81 : (match Tryd.prog.underlying 81 with | some (.array _ _) | some (.struct _) => true | _ => false) = true := by rw [Tryd.underlying81]
theorem law81 : WideMaps.KeyLaw Tryd.prog 81 := deep_law_laid laidOut_ (m := 2) (by omega) row81 (by kernel_rfl) wide81
def plK (j : Int) : Value := .agg #[Value.int .i64 0, Value.int .i64 j]
theorem key_of1 : ∃ l, keyOf Tryd.prog 81 (plK 1) = some l := Option.isSome_iff_exists.1 (by kernel_rfl)
theorem key_of2 : ∃ l, keyOf Tryd.prog 81 (plK 2) = some l := Option.isSome_iff_exists.1 (by kernel_rfl)
theorem key_of3 : ∃ l, keyOf Tryd.prog 81 (plK 3) = some l := Option.isSome_iff_exists.1 (by kernel_rfl)
theorem key_of4 : ∃ l, keyOf Tryd.prog 81 (plK 4) = some l := Option.isSome_iff_exists.1 (by kernel_rfl)
theorem zero3 (w : World) : (zeroValue 3).run Tryd.prog w = .ok (.int .i64 0) w := by kernel_rfl
/-- the map holds S at the key of energy, and nothing else -/
def MapSt (w : World) (b : Nat) (S : Int) : Prop := (S = 0 ∧ ∃ c, w.heap[b]? = some (.map #[] c)) ∨ ∃ c st, w.heap[b]? = some (.map #[⟨plK 2, .int .i64 S, st⟩] c)
theorem MapSt.same {w w' : World} {b : Nat} {S : Int} (h : MapSt w b S) (hh : w'.heap[b]? = w.heap[b]?) : MapSt w' b S := by unfold MapSt at *; rw [hh]; exact h
theorem MapSt.lt {w : World} {b : Nat} {S : Int} (h : MapSt w b S) : b < w.heap.size := by
  rcases h with ⟨-, c, h⟩ | ⟨c, st, h⟩ <;> exact lt_of_heap h
theorem look_hit {w : World} {b : Nat} {S : Int} (h : MapSt w b S) : (Instr.lookup 79 (.map (some b)) (plK 2) false).run Tryd.prog w = .ok (.int .i64 S) w := by
  obtain ⟨l, hl⟩ := key_of2
  rcases h with ⟨rfl, c, h⟩ | ⟨c, st, h⟩
  · rcases law81.find w hl [] (fun e he => by simp at he) with ⟨h1, -⟩ | ⟨j, e, -, h2, -⟩
    · simp [Instr.lookup, run_underlying Tryd.underlying79, MapKept.run_getObj_map h, law81.check w _ hl, h1, zero3, Result.andThen]
    · simp at h2
  · rcases law81.find w hl [⟨plK 2, .int .i64 S, st⟩] (fun e he => by simp at he; subst he; exact ⟨l, hl⟩) with ⟨-, h1⟩ | ⟨j, e, h1, h2, -⟩
    · exact absurd rfl (h1 _ (List.mem_singleton.2 rfl))
    · have he : e = ⟨plK 2, .int .i64 S, st⟩ := by
        have := List.mem_of_getElem? h2
        simpa using this
      subst he
      simp [Instr.lookup, run_underlying Tryd.underlying79, MapKept.run_getObj_map h, law81.check w _ hl, h1, Result.andThen]
theorem look_miss {w : World} {b : Nat} {S : Int} {k : Int} (h : MapSt w b S) (hk : ∃ l, keyOf Tryd.prog 81 (plK k) = some l) (hne : plK 2 ≠ plK k) : (Instr.lookup 79 (.map (some b)) (plK k) false).run Tryd.prog w = .ok (.int .i64 0) w := by
  obtain ⟨l2, hl2⟩ := key_of2
  obtain ⟨l, hl⟩ := hk
  rcases h with ⟨rfl, c, h⟩ | ⟨c, st, h⟩
  · rcases law81.find w hl [] (fun e he => by simp at he) with ⟨h1, -⟩ | ⟨j, e, -, h2, -⟩
    · simp [Instr.lookup, run_underlying Tryd.underlying79, MapKept.run_getObj_map h, law81.check w _ hl, h1, zero3, Result.andThen]
    · simp at h2
  · rcases law81.find w hl [⟨plK 2, .int .i64 S, st⟩] (fun e he => by simp at he; subst he; exact ⟨l2, hl2⟩) with ⟨h1, -⟩ | ⟨j, e, -, h2, h3⟩
    · simp [Instr.lookup, run_underlying Tryd.underlying79, MapKept.run_getObj_map h, law81.check w _ hl, h1, zero3, Result.andThen]
    · have he : e = ⟨plK 2, .int .i64 S, st⟩ := by
        have := List.mem_of_getElem? h2
        simpa using this
      subst he
      exact absurd h3 hne
/-- the entry of energy lies in the map -/
def EntSt (w : World) (b : Nat) (S : Int) (st : Nat) : Prop := ∃ c, w.heap[b]? = some (.map #[⟨plK 2, .int .i64 S, st⟩] c)
theorem EntSt.st {w : World} {b st : Nat} {S : Int} (h : EntSt w b S st) : MapSt w b S := .inr (by obtain ⟨c, h⟩ := h; exact ⟨c, st, h⟩)
theorem grown_setBlock {w : World} {b : Nat} {o : Obj} : w.grownBy (ChangeMaps.setBlock w b o) (some b) :=
  ⟨rfl, rfl, rfl, by simp [ChangeMaps.setBlock], fun i hi hne => by simp only [ChangeMaps.setBlock]; exact Array.getElem?_setIfInBounds_ne (fun e => hne (by rw [e]))⟩
theorem entry_run {w : World} {b : Nat} {S : Int} (h : MapSt w b S) : ∃ (v0 : Value) (st : Nat) (w1 : World), (Instr.mapEntry 79 (.map (some b)) (plK 2)).run Tryd.prog w = .ok (.tuple #[v0, .int .i64 st]) w1 ∧ EntSt w1 b S st ∧ w.grownBy w1 (some b) ∧ ∀ st2, EntSt w b S st2 → w1 = w ∧ st = st2 := by
  obtain ⟨l, hl⟩ := key_of2
  have hlt := h.lt
  rcases h with ⟨rfl, c, h⟩ | ⟨c, st, h⟩
  · rcases law81.find w hl [] (fun e he => by simp at he) with ⟨h1, -⟩ | ⟨j, e, -, h2, -⟩
    · refine ⟨.int .i64 0, c, ChangeMaps.setBlock w b (.map #[⟨plK 2, .int .i64 0, c⟩] (c + 1)), ?_, ⟨c + 1, ?_⟩, grown_setBlock, fun st2 ⟨c2, h9⟩ => ?_⟩
      · simp [Instr.mapEntry, run_underlying Tryd.underlying79, MapKept.run_getObj_map h, law81.check w _ hl, h1, zero3, MapKept.run_setObj_map _ h, Result.andThen, ChangeMaps.setBlock, goInt]
      · simp [ChangeMaps.setBlock, hlt]
      · rw [h] at h9; simp at h9
    · simp at h2
  · rcases law81.find w hl [⟨plK 2, .int .i64 S, st⟩] (fun e he => by simp at he; subst he; exact ⟨l, hl⟩) with ⟨-, h1⟩ | ⟨j, e, h1, h2, -⟩
    · exact absurd rfl (h1 _ (List.mem_singleton.2 rfl))
    · have hj : j = 0 := by
        rcases Nat.eq_zero_or_pos j with hj | hj
        · exact hj
        · rw [List.getElem?_eq_none (by simp; omega)] at h2; cases h2
      subst hj
      have he : e = ⟨plK 2, .int .i64 S, st⟩ := by simpa using h2.symm
      subst he
      have hself : ChangeMaps.setBlock w b (.map #[⟨plK 2, .int .i64 S, st⟩] c) = w := by
        unfold ChangeMaps.setBlock
        have : w.heap.setIfInBounds b (.map #[⟨plK 2, .int .i64 S, st⟩] c) = w.heap := by
          apply Array.ext_getElem?
          intro i
          by_cases hi : i = b
          · subst hi; rw [Array.getElem?_setIfInBounds_self_of_lt hlt]; exact h.symm
          · exact Array.getElem?_setIfInBounds_ne (fun e => hi e.symm)
        rw [this]
      refine ⟨.int .i64 S, st, w, ?_, ⟨c, h⟩, World.grownBy.refl _ _, fun st2 ⟨c2, h9⟩ => ⟨rfl, ?_⟩⟩
      · have hst : (MapEntry.mk (plK 2) (.int .i64 S) st).key = plK 2 := rfl
        simp [Instr.mapEntry, run_underlying Tryd.underlying79, MapKept.run_getObj_map h, law81.check w _ hl, h1, law81.stays w hl, MapKept.run_setObj_map _ h, Result.andThen, goInt]
        unfold ChangeMaps.setBlock at hself
        exact hself
      · rw [h] at h9
        simp at h9
        exact h9.1
theorem store_run {w : World} {b st : Nat} {S S2 : Int} (h : EntSt w b S st) : ∃ w1, (Instr.entryStore 79 (.map (some b)) (.int .i64 st) (.int .i64 S2)).run Tryd.prog w = .ok () w1 ∧ MapSt w1 b S2 ∧ w.grownBy w1 (some b) := by
  obtain ⟨c, h⟩ := h
  have hlt := lt_of_heap h
  refine ⟨ChangeMaps.setBlock w b (.map #[⟨plK 2, .int .i64 S2, st⟩] c), ?_, .inr ⟨c, st, by simp [ChangeMaps.setBlock, hlt]⟩, grown_setBlock⟩
  simp [Instr.entryStore, MapKept.run_getObj_map h, asInt, asIntOf, MapKept.run_setObj_map _ h, Result.andThen, ChangeMaps.setBlock]
end Go.Proofs.YtbngclibfnnejaaDoor
