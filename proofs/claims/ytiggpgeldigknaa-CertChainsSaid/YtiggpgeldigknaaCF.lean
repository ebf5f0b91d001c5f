/- Certs: does a span hold a time, of both. -/
import Derived.Test.YtiggpgeldigknaaCE
set_option linter.unusedVariables false
set_option linter.unusedSimpArgs false
namespace Go.Proofs.Ytiggpgeldigknaa
open Go.RowKit
def spanH (f t n : Int) : Bool := decide (f ≤ n) && decide (n < t)
theorem span_box (w : World) (f t : Int) : (w.alloc (.cells #[Value.int .i64 f, Value.int .i64 t] 49)).cell? ⟨w.heap.size, 0, none⟩ = some (.int .i64 f) ∧ (w.alloc (.cells #[Value.int .i64 f, Value.int .i64 t] 49)).cell? ⟨w.heap.size, 1, none⟩ = some (.int .i64 t) := by
  have q := Blk.new w 49 #[Value.int .i64 f, Value.int .i64 t]
  exact ⟨q.cell 0, q.cell 1⟩
set_option maxRecDepth 100000 in
set_option maxHeartbeats 2000000 in
theorem contains_any (f t n : Int) (w : World) : Calls Try.prog 87 #[.agg #[.int .i64 f, .int .i64 t], .int .i64 n] w fun e w' => e = .returned (.bool (spanH f t n)) ∧ Below w.heap.size w w' := by
  have hb := Lib.hid (a1 w (.cells #[Value.int .i64 f, Value.int .i64 t] 49))
  have hS : Hid (spanH f t n = (decide (f ≤ n) && decide (n < t))) := rfl
  obtain ⟨k0, k1⟩ := span_box w f t
  go_enter Try.func87, Try.ntmps87
  by_cases h1 : f ≤ n
  · by_cases h2 : n < t
    · go_wp2_with fail
      go_ret
      exact ⟨by rw [hS.out]; simp [h1, h2], hb.out⟩
    · go_wp2_with fail
      go_ret
      exact ⟨by rw [hS.out]; simp [h1, h2], hb.out⟩
  · go_wp2_with fail
    go_ret
    exact ⟨by rw [hS.out]; simp [show ¬ f ≤ n by omega], hb.out⟩
set_option maxRecDepth 100000 in
set_option maxHeartbeats 2000000 in
theorem holds_any (f t n : Int) (w : World) : Calls Try.prog 61 #[.agg #[.int .i64 f, .int .i64 t], .int .i64 n] w fun e w' => e = .returned (.bool (spanH f t n)) ∧ Below w.heap.size w w' := by
  have hb := Lib.hid (a1 w (.cells #[Value.int .i64 f, Value.int .i64 t] 49))
  have hS : Hid (spanH f t n = (decide (f ≤ n) && decide (n < t))) := rfl
  obtain ⟨k0, k1⟩ := span_box w f t
  go_enter Try.func61, Try.ntmps61
  by_cases h1 : f ≤ n
  · by_cases h2 : n < t
    · go_wp2_with fail
      go_ret
      exact ⟨by rw [hS.out]; simp [h1, h2], hb.out⟩
    · go_wp2_with fail
      go_ret
      exact ⟨by rw [hS.out]; simp [h1, h2], hb.out⟩
  · go_wp2_with fail
    go_ret
    exact ⟨by rw [hS.out]; simp [show ¬ f ≤ n by omega], hb.out⟩
end Go.Proofs.Ytiggpgeldigknaa
