/- Seal: rounds of the hash, walked. -/
import Derived.Test.YtiggpgeldigknaaFlat
import Derived.WalkKit
import Derived.ProofKit
import Derived.OpenShut
import Derived.Lib.Hide
import Derived.Outline
import Derived.StillTailTactics
set_option linter.unusedVariables false
namespace Go.Proofs.Ytiggpgeldigknaa
open Go.RowKit
def M : Int := 18446744073709551616
structure Sip.St where
  a : Int
  b : Int
  c : Int
  d : Int
def Sip.add (x y : Int) : Int := IntKind.u64.wrap (x + y)
def Sip.xor (x y : Int) : Int := bits .xor .u64 x y
def Sip.rot (x n : Int) : Int := bits .or .u64 (IntKind.u64.wrap (x * 2 ^ n.toNat)) (x / 2 ^ (64 - n).toNat)
def Sip.in (x : Int) : Prop := 0 ≤ x ∧ x < 18446744073709551616
theorem Sip.wrap_in (x : Int) : 0 ≤ IntKind.u64.wrap x ∧ IntKind.u64.wrap x < 18446744073709551616 := by
  simp only [IntKind.wrap, IntKind.bits, IntKind.signed]
  simp
  omega
theorem Sip.bits_in (o : BinOp) (x y : Int) : 0 ≤ bits o .u64 x y ∧ bits o .u64 x y < 18446744073709551616 := by
  unfold bits; exact Sip.wrap_in _
theorem Sip.rot_in (x n : Int) : 0 ≤ Sip.rot x n ∧ Sip.rot x n < 18446744073709551616 := Sip.bits_in _ _ _
set_option maxHeartbeats 400000 in
theorem turn_any (x n : Int) (w : World) (h1 : 1 ≤ n) (h2 : n ≤ 63) :
    Calls Try.prog 118 #[.int .u64 x, .int .u64 n] w fun e w' => e = .returned (.int .u64 (Sip.rot x n)) ∧ w' = w := by
  go_enter Try.func118, Try.ntmps118
  go_wp2
  go_ret
  exact ⟨rfl, rfl⟩
set_option maxHeartbeats 400000 in
theorem rot_any (x n : Int) (w : World) (h1 : 1 ≤ n) (h2 : n ≤ 63) (hn : bits .and .u64 n 63 = n) :
    Calls Try.prog 117 #[.int .u64 x, .int .i64 n] w fun e w' => e = .returned (.int .u64 (Sip.rot x n)) ∧ w' = w := by
  go_enter Try.func117, Try.ntmps117
  go_wp2
  go_ret
  exact ⟨rfl, rfl⟩


def SB (t : TypeId) (w0 : World) (g : Nat) (a b c d : Int) (w : World) : Prop :=
  w.heap[g]? = some (.cells #[.int .u64 a, .int .u64 b, .int .u64 c, .int .u64 d] t (0,0)) ∧ w0.grownBy w (some g)
section
variable {t : TypeId} {w0 w : World} {g : Nat} {a b c d : Int}
theorem SB.facts (h : SB t w0 g a b c d w) : w.cell? ⟨g, 0, none⟩ = some (.int .u64 a) ∧ w.cell? ⟨g, 1, none⟩ = some (.int .u64 b) ∧ w.cell? ⟨g, 2, none⟩ = some (.int .u64 c) ∧
    w.cell? ⟨g, 3, none⟩ = some (.int .u64 d) ∧ ∀ i, w.frozen? ⟨g, i, none⟩ = false := by
  have h0 := h.1
  refine ⟨?_, ?_, ?_, ?_, fun i => ?_⟩ <;> simp [World.cell?, World.frozen?, h0]
theorem SB.drew (h : SB t w0 g a b c d w) : SB t w0 g a b c d w.drew := ⟨h.1, ⟨h.2.os, h.2.tape, h.2.output, h.2.size, h.2.block⟩⟩
theorem grown_set {a w : World} {g : Nat} (h : a.grownBy w (some g)) (i : Nat) (u : Value) : a.grownBy (w.setCell ⟨g, i, none⟩ u) (some g) :=
  ⟨h.os, h.tape, h.output, by simpa [World.setCell] using h.size, fun k hk hne => (Below.heap_setCell w ⟨g, i, none⟩ u k (by rintro rfl; exact hne rfl)).trans (h.block k hk hne)⟩
theorem SB.set0 (h : SB t w0 g a b c d w) (v : Int) : SB t w0 g v b c d (w.setCell ⟨g, 0, none⟩ (.int .u64 v)) :=
  ⟨by have h0 := h.1; simp [World.setCell, Array.getElem?_modify, h0], grown_set h.2 _ _⟩
theorem SB.set1 (h : SB t w0 g a b c d w) (v : Int) : SB t w0 g a v c d (w.setCell ⟨g, 1, none⟩ (.int .u64 v)) :=
  ⟨by have h0 := h.1; simp [World.setCell, Array.getElem?_modify, h0], grown_set h.2 _ _⟩
theorem SB.set2 (h : SB t w0 g a b c d w) (v : Int) : SB t w0 g a b v d (w.setCell ⟨g, 2, none⟩ (.int .u64 v)) :=
  ⟨by have h0 := h.1; simp [World.setCell, Array.getElem?_modify, h0], grown_set h.2 _ _⟩
theorem SB.set3 (h : SB t w0 g a b c d w) (v : Int) : SB t w0 g a b c v (w.setCell ⟨g, 3, none⟩ (.int .u64 v)) :=
  ⟨by have h0 := h.1; simp [World.setCell, Array.getElem?_modify, h0], grown_set h.2 _ _⟩
end
def Sip.rnd (s : Sip.St) : Sip.St :=
  let a1 := Sip.add s.a s.b
  let b1 := Sip.xor (Sip.rot s.b 13) a1
  let a2 := Sip.rot a1 32
  let c1 := Sip.add s.c s.d
  let d1 := Sip.xor (Sip.rot s.d 16) c1
  let a3 := Sip.add a2 d1
  let d2 := Sip.xor (Sip.rot d1 21) a3
  let c2 := Sip.add c1 b1
  let b2 := Sip.xor (Sip.rot b1 17) c2
  let c3 := Sip.rot c2 32
  ⟨a3, b2, c3, d2⟩
def Sip.rnds (s : Sip.St) : Nat → Sip.St
  | 0 => s
  | k + 1 => Sip.rnd (Sip.rnds s k)
set_option maxRecDepth 100000 in
set_option maxHeartbeats 1000000 in
theorem rounds_any (n : Nat) (hn : n ≤ 4) (w : World) (g : Nat) (s : Sip.St) (h0 : SB 136 w g s.a s.b s.c s.d w) : Calls Try.prog 112 #[.pointer (some ⟨g, 0, none⟩), .int .i64 n] w fun e w' => e = .returned (.tuple #[]) ∧ SB 136 w g (Sip.rnds s n).a (Sip.rnds s n).b (Sip.rnds s n).c (Sip.rnds s n).d w' := by
  have H0 := Lib.hid h0; clear h0
  go_enter Try.func112, Try.ntmps112
  go_wp2
  go_loopw [5] (fun i wr => ∃ (k : Nat), k ≤ n ∧ i = .int .i64 k ∧ SB 136 w g (Sip.rnds s k).a (Sip.rnds s k).b (Sip.rnds s k).c (Sip.rnds s k).d wr) (fun i _ => n - (intOf i).toNat)
  case atStart => exact ⟨0, Nat.zero_le _, rfl, H0.out⟩
  case round =>
    obtain ⟨k, hk, rfl, h1⟩ := hrel
    clear H0
    replace h1 := Lib.hid h1
    generalize hs : Sip.rnds s k = sk at h1
    replace hs := Lib.hid hs
    obtain ⟨a, b, c, d⟩ := sk
    simp only at h1
    by_cases hlt : k < n
    · go_wp2
      refine region_st _ 11 (by kernel_rfl) (by kernel_rfl) h1.out.drew ?_
      clear h1; intro w1 h1
      obtain ⟨c0, c1, c2, c3, f0⟩ := h1.facts; replace h1 := Lib.hid h1
      simp only [List.take_succ_cons, List.take_zero, List.drop_succ_cons, List.drop_zero]
      repeat still_step
      refine wpStill_nil ?_
      go_wp2_with fail
      refine wp_world _ (h1.out.set0 _) ?_
      clear c0 c1 c2 c3 f0 h1; intro w1 h1; replace h1 := Lib.hid h1
      refine region_st _ 13 (by kernel_rfl) (by kernel_rfl) h1.out.drew ?_
      clear h1; intro w1 h1
      obtain ⟨c0, c1, c2, c3, f0⟩ := h1.facts; replace h1 := Lib.hid h1
      simp only [List.take_succ_cons, List.take_zero, List.drop_succ_cons, List.drop_zero]
      repeat still_step
      still_call (rot_any _ 13 _ (by decide) (by decide) (by decide +kernel))
      repeat still_step
      refine wpStill_nil ?_
      go_wp2_with (go_at_call 117; refine (rot_any _ 32 _ (by decide) (by decide) (by decide +kernel)).mono ?_; rintro e w' ⟨rfl, rfl⟩)
      refine wp_world _ ((h1.out.set1 _).set0 _) ?_
      clear c0 c1 c2 c3 f0 h1; intro w1 h1; replace h1 := Lib.hid h1
      refine region_st _ 11 (by kernel_rfl) (by kernel_rfl) h1.out.drew ?_
      clear h1; intro w1 h1
      obtain ⟨c0, c1, c2, c3, f0⟩ := h1.facts; replace h1 := Lib.hid h1
      simp only [List.take_succ_cons, List.take_zero, List.drop_succ_cons, List.drop_zero]
      repeat still_step
      refine wpStill_nil ?_
      go_wp2_with fail
      refine wp_world _ (h1.out.set2 _) ?_
      clear c0 c1 c2 c3 f0 h1; intro w1 h1; replace h1 := Lib.hid h1
      refine region_st _ 13 (by kernel_rfl) (by kernel_rfl) h1.out.drew ?_
      clear h1; intro w1 h1
      obtain ⟨c0, c1, c2, c3, f0⟩ := h1.facts; replace h1 := Lib.hid h1
      simp only [List.take_succ_cons, List.take_zero, List.drop_succ_cons, List.drop_zero]
      repeat still_step
      still_call (rot_any _ 16 _ (by decide) (by decide) (by decide +kernel))
      repeat still_step
      refine wpStill_nil ?_
      go_wp2_with fail
      refine wp_world _ (h1.out.set3 _) ?_
      clear c0 c1 c2 c3 f0 h1; intro w1 h1; replace h1 := Lib.hid h1
      refine region_st _ 11 (by kernel_rfl) (by kernel_rfl) h1.out.drew ?_
      clear h1; intro w1 h1
      obtain ⟨c0, c1, c2, c3, f0⟩ := h1.facts; replace h1 := Lib.hid h1
      simp only [List.take_succ_cons, List.take_zero, List.drop_succ_cons, List.drop_zero]
      repeat still_step
      refine wpStill_nil ?_
      go_wp2_with fail
      refine wp_world _ (h1.out.set0 _) ?_
      clear c0 c1 c2 c3 f0 h1; intro w1 h1; replace h1 := Lib.hid h1
      refine region_st _ 13 (by kernel_rfl) (by kernel_rfl) h1.out.drew ?_
      clear h1; intro w1 h1
      obtain ⟨c0, c1, c2, c3, f0⟩ := h1.facts; replace h1 := Lib.hid h1
      simp only [List.take_succ_cons, List.take_zero, List.drop_succ_cons, List.drop_zero]
      repeat still_step
      still_call (rot_any _ 21 _ (by decide) (by decide) (by decide +kernel))
      repeat still_step
      refine wpStill_nil ?_
      go_wp2_with fail
      refine wp_world _ (h1.out.set3 _) ?_
      clear c0 c1 c2 c3 f0 h1; intro w1 h1; replace h1 := Lib.hid h1
      refine region_st _ 11 (by kernel_rfl) (by kernel_rfl) h1.out.drew ?_
      clear h1; intro w1 h1
      obtain ⟨c0, c1, c2, c3, f0⟩ := h1.facts; replace h1 := Lib.hid h1
      simp only [List.take_succ_cons, List.take_zero, List.drop_succ_cons, List.drop_zero]
      repeat still_step
      refine wpStill_nil ?_
      go_wp2_with fail
      refine wp_world _ (h1.out.set2 _) ?_
      clear c0 c1 c2 c3 f0 h1; intro w1 h1; replace h1 := Lib.hid h1
      refine region_st _ 13 (by kernel_rfl) (by kernel_rfl) h1.out.drew ?_
      clear h1; intro w1 h1
      obtain ⟨c0, c1, c2, c3, f0⟩ := h1.facts; replace h1 := Lib.hid h1
      simp only [List.take_succ_cons, List.take_zero, List.drop_succ_cons, List.drop_zero]
      repeat still_step
      still_call (rot_any _ 17 _ (by decide) (by decide) (by decide +kernel))
      repeat still_step
      refine wpStill_nil ?_
      go_wp2_with (go_at_call 117; refine (rot_any _ 32 _ (by decide) (by decide) (by decide +kernel)).mono ?_; rintro e w' ⟨rfl, rfl⟩)
      go_roundw
      case rel => exact ⟨k + 1, by omega, by go_num, by show SB 136 w g (Sip.rnd (Sip.rnds s k)).a _ _ _ _; simp only [Sip.rnds]; rw [hs.out]; exact (h1.out.set1 _).set2 _⟩
      case measure => simp [intOf]; omega
    · go_wp2
      go_end0
      obtain rfl : k = n := by omega
      exact ⟨rfl, by rw [hs.out]; exact h1.out⟩
end Go.Proofs.Ytiggpgeldigknaa
