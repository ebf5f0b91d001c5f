/- Series: how slices of steps lie in memory; small laws of worlds. -/
import Derived.Test.YtljagdfgfgpdbaaRows
import Derived.Test.YtljagdfgfgpdbaaWords
import Derived.Test.YtljagdfgfgpdbaaMath
import Derived.WalkKit
import Derived.ProofKit
import Derived.OpenShut
import Derived.Lib.Hide
import Derived.Outline
import Derived.StillTailTactics
import Derived.Deep.QuietTactic
import Derived.BigQuiet
set_option linter.unusedVariables false
namespace Go.Proofs.Ytljagdfgfgpdbaa
open Go.RowKit
theorem ret_int {k : IntKind} {a b : Int} (h : a = b) : Ending.returned (.int k a) = .returned (.int k b) := by rw [h]
theorem wp_world {P : Program} {c : Code} {Q : Exit → Act → World → Prop} {a : Act} {w : World} (p : World → Prop) (hp : p w) (h : ∀ w2, p w2 → c.wp P Q a w2) : c.wp P Q a w := h _ hp
theorem lt_of_heap {w : World} {g : Nat} {o : Obj} (h : w.heap[g]? = some o) : g < w.heap.size := by
  rcases Nat.lt_or_ge g w.heap.size with hlt | hge
  · exact hlt
  · rw [Array.getElem?_eq_none hge] at h; cases h
theorem lt_of_cell {w : World} {a : Addr} {v : Value} (h : w.cell? a = some v) : a.block < w.heap.size := by
  rcases Nat.lt_or_ge a.block w.heap.size with hlt | hge
  · exact hlt
  · simp [World.cell?, Array.getElem?_eq_none hge] at h
theorem reads_new (w : World) (cs : List Value) (t : TypeId) (sz n B : Nat) (h : cs.length = n * sz) (hB : w.heap.size < B) : Reads (w.alloc (.cells cs.toArray t)) B sz (some ⟨w.heap.size, 0, none⟩) n cs := by
  refine ⟨h, fun _ => ⟨_, rfl, hB, fun j u hj => ?_⟩⟩
  have e : (⟨w.heap.size, 0, none⟩ : Addr).add j = ⟨w.heap.size, j, none⟩ := by unfold Addr.add; split <;> simp_all
  rw [e, World.cell?_alloc_new]
  simpa using hj
/-- the cells of steps -/
def scells (l : List Ser.Step) : List Value := l.flatMap fun s => [.int .i64 s.1, .int .i64 s.2]
theorem scells_length (l : List Ser.Step) : (scells l).length = l.length * 2 := by
  induction l with
  | nil => rfl
  | cons s r ih => simp only [scells, List.flatMap_cons, List.length_append, List.length_cons, List.length_nil] at ih ⊢; omega
theorem scells_append (a b : List Ser.Step) : scells (a ++ b) = scells a ++ scells b := by simp [scells]
theorem scells_drop (l : List Ser.Step) : ∀ k, (scells l).drop (k * 2) = scells (l.drop k) := by
  induction l with
  | nil => intro k; simp [scells]
  | cons s r ih =>
    intro k
    cases k with
    | zero => simp
    | succ k =>
      have := ih k
      simp only [scells, List.flatMap_cons, List.drop_succ_cons] at this ⊢
      rw [show (k + 1) * 2 = k * 2 + 2 by omega]
      simpa using this
theorem scells_at (l : List Ser.Step) : ∀ k (h : k < l.length), (scells l)[k * 2]? = some (.int .i64 (l[k]'h).1) ∧ (scells l)[k * 2 + 1]? = some (.int .i64 (l[k]'h).2) := by
  induction l with
  | nil => intro k h; simp at h
  | cons s r ih =>
    intro k h
    cases k with
    | zero => simp [scells]
    | succ k =>
      have := ih k (by simpa using h)
      simp only [scells, List.flatMap_cons] at this ⊢
      rw [show (k + 1) * 2 = k * 2 + 1 + 1 by omega]
      simpa using this
theorem scells_one (l : List Ser.Step) : ∀ u ∈ scells l, u.oneCell' = true := by
  intro u hu
  simp only [scells, List.mem_flatMap] at hu
  obtain ⟨s, _, h⟩ := hu
  simp at h
  rcases h with rfl | rfl <;> rfl
/-- the slice 'A', of n steps, reads as l, and lies below block B -/
def SAt (w : World) (B : Nat) (A : Option Addr) (n : Nat) (l : List Ser.Step) : Prop := Reads w B 2 A n (scells l)
theorem SAt.len {w : World} {B : Nat} {A : Option Addr} {n : Nat} {l : List Ser.Step} (h : SAt w B A n l) : l.length = n := by
  have := h.1; rw [scells_length] at this; omega
theorem add_next (ad : Addr) (k j : Nat) : ad.add (k + (j + 1)) = ⟨(ad.add k).block, (ad.add k).off + (j + 1), none⟩ := by
  unfold Addr.add
  by_cases h : k = 0
  · subst h; simp
  · simp [h]; omega
theorem below_drewN {B : Nat} {a w : World} (h : Below B a w) (n : Nat) : Below B a (w.drewN n) := ⟨h.os, h.tape, h.output, h.size, h.block⟩
theorem add_block (ad : Addr) (k : Nat) : (ad.add k).block = ad.block := by unfold Addr.add; split <;> rfl
theorem cell_alloc {w : World} {p : Addr} {v : Value} (h : w.cell? p = some v) (o : Obj) : (w.alloc o).cell? p = some v := by
  rw [World.cell?_alloc_lt w o p (lt_of_cell h)]; exact h
theorem SAt.at_ {w : World} {B : Nat} {A : Option Addr} {n : Nat} {l : List Ser.Step} (h : SAt w B A n l) {k : Nat} (hk : k < n) :
    ∃ ad, A = some ad ∧ ad.block < B ∧ w.cell? (ad.add (k * 2)) = some (.int .i64 (l[k]'(by rw [h.len]; exact hk)).1) ∧ w.cell? ⟨(ad.add (k * 2)).block, (ad.add (k * 2)).off + 1, none⟩ = some (.int .i64 (l[k]'(by rw [h.len]; exact hk)).2) := by
  obtain ⟨ad, rfl, hb, hc⟩ := h.2 (by omega)
  have hl : k < l.length := by rw [h.len]; exact hk
  obtain ⟨h1, h2⟩ := scells_at l k hl
  exact ⟨ad, rfl, hb, hc _ _ h1, by rw [← add_next ad (k * 2) 0]; exact hc _ _ h2⟩
theorem SAt.below {w w' : World} {B B' : Nat} {A : Option Addr} {n : Nat} {l : List Ser.Step} (h : SAt w B A n l) (hb : Below B' w w') (hB : B ≤ B') : SAt w' B A n l :=
  Reads.keep h fun p hp => hb.cell (Nat.lt_of_lt_of_le hp hB)
theorem SAt.more {w w' : World} {A : Option Addr} {n : Nat} {l : List Ser.Step} (h : SAt w w.heap.size A n l) (hb : Below w.heap.size w w') : SAt w' w'.heap.size A n l :=
  Reads.more (h.below hb (Nat.le_refl _)) hb.size
theorem SAt.nil (w : World) (B : Nat) : SAt w B none 0 [] := Reads.none_
theorem SAt.cut {w : World} {B : Nat} {A : Option Addr} {n : Nat} {l : List Ser.Step} (h : SAt w B A n l) {k cap : Nat} (hk : k ≤ n) (hc : n ≤ cap) :
    SAt w B (if cap = k then A else A.map (·.add (k * 2))) (n - k) (l.drop k) := by
  have := Reads.cut (size := 2) h hk hc
  rwa [scells_drop] at this
end Go.Proofs.Ytljagdfgfgpdbaa
