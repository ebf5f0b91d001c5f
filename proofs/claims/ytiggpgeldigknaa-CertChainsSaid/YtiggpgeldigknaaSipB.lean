/- Seal: the reference's rounds, walked. -/
import Derived.Test.YtiggpgeldigknaaSipA
set_option linter.unusedVariables false
namespace Go.Proofs.Ytiggpgeldigknaa
open Go.RowKit
theorem heap_two (w : World) (o o' : Obj) : ((w.alloc o).alloc o').heap[w.heap.size + 1]? = some o' := by
  have h := heap_alloc_new (w.alloc o) o'
  have e : (w.alloc o).heap.size = w.heap.size + 1 := by simp
  rwa [e] at h
theorem below_of_grown {B g : Nat} {a w w' : World} (h : Below B a w) (hg : w.grownBy w' (some g)) (hB : B ≤ g) (hw : g < w.heap.size) : Below B a w' :=
  h.grown hg (by omega) (fun k hk => by cases hk; exact hB)
set_option maxRecDepth 100000 in
set_option maxHeartbeats 1000000 in
theorem rrounds_any (n : Nat) (hn : n ≤ 4) (w : World) (s : Sip.St) : Calls Try.prog 114 #[.agg #[.int .u64 s.a, .int .u64 s.b, .int .u64 s.c, .int .u64 s.d], .int .i64 n] w fun e w' => e = .returned (.agg #[.int .u64 (Sip.rnds s n).a, .int .u64 (Sip.rnds s n).b, .int .u64 (Sip.rnds s n).c, .int .u64 (Sip.rnds s n).d]) ∧ Below w.heap.size w w' := by
  go_enter Try.func114, Try.ntmps114
  go_wp2
  refine wp_world (fun w1 => SB 141 w1 w.heap.size s.a s.b s.c s.d w1 ∧ w1.heap[w.heap.size + 1]? = some (.cells #[.int .u64 0, .int .u64 0, .int .u64 0, .int .u64 0] 141 (0, 0)) ∧ Below w.heap.size w w1) ⟨⟨(Below.heap_alloc _ _ _ (by simp)).trans (heap_alloc_new _ _), World.grownBy.refl _ _⟩, heap_two _ _ _, ((Below.refl _ _).alloc (Nat.le_refl _) _).alloc (by simp) _⟩ ?_
  intro W1 hW; replace hW := Lib.hid hW
  generalize hG : w.heap.size = G at *
  go_loopw [5] (fun i wr => ∃ (k : Nat), k ≤ n ∧ i = .int .i64 k ∧ SB 141 W1 G (Sip.rnds s k).a (Sip.rnds s k).b (Sip.rnds s k).c (Sip.rnds s k).d wr) (fun i _ => n - (intOf i).toNat)
  case atStart => exact ⟨0, Nat.zero_le _, rfl, hW.out.1⟩
  case round =>
    obtain ⟨k, hk, rfl, h1⟩ := hrel
    replace h1 := Lib.hid h1
    generalize hs : Sip.rnds s k = sk at h1
    replace hs := Lib.hid hs
    obtain ⟨a, b, c, d⟩ := sk
    simp only at h1
    by_cases hlt : k < n
    · obtain ⟨c0, c1, c2, c3, f0⟩ := h1.out.facts
      go_wp2_with fail
      refine wp_world _ (h1.out.set0 _) ?_
      clear c0 c1 c2 c3 f0 h1; intro w1 h1; replace h1 := Lib.hid h1
      refine region_st _ 7 (by kernel_rfl) (by kernel_rfl) h1.out.drew ?_
      clear h1; intro w1 h1
      obtain ⟨c0, c1, c2, c3, f0⟩ := h1.facts; replace h1 := Lib.hid h1
      simp only [List.take_succ_cons, List.take_zero, List.drop_succ_cons, List.drop_zero]
      repeat still_step
      still_call (turn_any _ 13 _ (by decide) (by decide))
      repeat still_step
      refine wpStill_nil ?_
      go_wp2_with (go_at_call 118; refine (turn_any _ 32 _ (by decide) (by decide)).mono ?_; rintro e w' ⟨rfl, rfl⟩)
      refine wp_world _ (((h1.out.set1 _).set0 _).set2 _) ?_
      clear c0 c1 c2 c3 f0 h1; intro w1 h1; replace h1 := Lib.hid h1
      refine region_st _ 7 (by kernel_rfl) (by kernel_rfl) h1.out.drew ?_
      clear h1; intro w1 h1
      obtain ⟨c0, c1, c2, c3, f0⟩ := h1.facts; replace h1 := Lib.hid h1
      simp only [List.take_succ_cons, List.take_zero, List.drop_succ_cons, List.drop_zero]
      repeat still_step
      still_call (turn_any _ 16 _ (by decide) (by decide))
      repeat still_step
      refine wpStill_nil ?_
      go_wp2_with (go_at_call 118; refine (turn_any _ 32 _ (by decide) (by decide)).mono ?_; rintro e w' ⟨rfl, rfl⟩)
      refine wp_world _ ((h1.out.set3 _).set0 _) ?_
      clear c0 c1 c2 c3 f0 h1; intro w1 h1; replace h1 := Lib.hid h1
      refine region_st _ 7 (by kernel_rfl) (by kernel_rfl) h1.out.drew ?_
      clear h1; intro w1 h1
      obtain ⟨c0, c1, c2, c3, f0⟩ := h1.facts; replace h1 := Lib.hid h1
      simp only [List.take_succ_cons, List.take_zero, List.drop_succ_cons, List.drop_zero]
      repeat still_step
      still_call (turn_any _ 21 _ (by decide) (by decide))
      repeat still_step
      refine wpStill_nil ?_
      go_wp2_with (go_at_call 118; refine (turn_any _ 32 _ (by decide) (by decide)).mono ?_; rintro e w' ⟨rfl, rfl⟩)
      refine wp_world _ ((h1.out.set3 _).set2 _) ?_
      clear c0 c1 c2 c3 f0 h1; intro w1 h1; replace h1 := Lib.hid h1
      refine region_st _ 7 (by kernel_rfl) (by kernel_rfl) h1.out.drew ?_
      clear h1; intro w1 h1
      obtain ⟨c0, c1, c2, c3, f0⟩ := h1.facts; replace h1 := Lib.hid h1
      simp only [List.take_succ_cons, List.take_zero, List.drop_succ_cons, List.drop_zero]
      repeat still_step
      still_call (turn_any _ 17 _ (by decide) (by decide))
      repeat still_step
      refine wpStill_nil ?_
      go_wp2_with (go_at_call 118; refine (turn_any _ 32 _ (by decide) (by decide)).mono ?_; rintro e w' ⟨rfl, rfl⟩)

      go_roundw
      case rel => exact ⟨k + 1, by omega, by go_num, by show SB 141 W1 G (Sip.rnd (Sip.rnds s k)).a _ _ _ _; simp only [Sip.rnds]; rw [hs.out]; exact ((h1.out.set1 _).set2 _)⟩
      case measure => simp [intOf]; omega
    · obtain ⟨c0, c1, c2, c3, f0⟩ := h1.out.facts
      have hz : wr.heap[G + 1]? = some (.cells #[.int .u64 0, .int .u64 0, .int .u64 0, .int .u64 0] 141 (0, 0)) := by
        rw [← hW.out.2.1]; exact h1.out.2.block (G + 1) (lt_of_heap hW.out.2.1) (by simp)
      have h2 : SB 141 wr (G + 1) 0 0 0 0 wr := ⟨hz, World.grownBy.refl _ _⟩
      obtain ⟨z0, z1, z2, z3, e0⟩ := h2.facts
      replace h2 := Lib.hid h2; clear hz
      go_wp2
      have h3 := (((h2.out.set0 a).set1 b).set2 c).set3 d
      obtain ⟨q0, q1, q2, q3, _⟩ := h3.facts
      obtain rfl : k = n := by omega
      have hb : Below G w wr := below_of_grown hW.out.2.2 h1.out.2 (Nat.le_refl _) (lt_of_heap hW.out.1.1)
      refine bodyPost_ret (v := .agg #[.int .u64 a, .int .u64 b, .int .u64 c, .int .u64 d]) (by simp [results, Try.results114, go_sem, q0, q1, q2, q3]) rfl ⟨by rw [hs.out], ?_⟩
      rw [hG]
      exact below_of_grown hb h3.2 (by omega) (lt_of_heap h2.out.1)
end Go.Proofs.Ytiggpgeldigknaa
