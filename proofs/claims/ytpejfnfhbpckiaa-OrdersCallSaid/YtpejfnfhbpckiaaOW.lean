/- Orders: the reference's Plan, whole. -/
import Derived.Test.YtpejfnfhbpckiaaOVa
import Derived.Test.YtpejfnfhbpckiaaOVb
import Derived.Test.YtpejfnfhbpckiaaOVc
import Derived.Test.YtpejfnfhbpckiaaOVd
import Derived.Test.YtpejfnfhbpckiaaOS
set_option linter.unusedVariables false
set_option linter.unusedSimpArgs false
namespace Go.Proofs.Ytpejfnfhbpckiaa
open Go.RowKit Go.Proofs.Ytpejfnfhbpckiaa.Ord
theorem rplan_any (A : Option Addr) (l : List O) (n cap : Nat) (id f t : Int) (w : World) (h : OAt w w.heap.size A n l) (hc : n ≤ cap) (hm : cap ≤ maxLen) (v : Vld nameB l) :
    Calls Try.prog 29 #[.slice A n cap, .int .i64 id, .agg #[.int .i64 f, .int .i64 t]] w fun e w' => ∃ v, e = .returned (.tuple #[v, .int .i64 (planF l id f t).2]) ∧ OutV w w' (planF l id f t).1 v := by
  have h1 : n ≤ 1000 := by have := v.len; have := h.len; omega
  rcases idx_bd id l 0 with ⟨hid, _⟩ | ⟨i, hi, hid, _⟩
  · have e : planF l id f t = (l, 8) := by
      unfold planF
      split
      · rfl
      · rw [if_pos (by rw [hid]; decide)]
    rw [e]
    exact rplan_none A l n cap id f t w h hc hm hid
  · have hid' : idx id 0 l = i := by simpa using hid
    have k := v.ok i hi
    have e : planF l id f t = if l[i].state ≠ 1 ∧ l[i].state ≠ 2 then (l, 10) else if okSpan f t = false ∨ f = t then (l, 2) else if blk i (spanned l[i] f t) 0 l = true then (l, 16) else (l.set i (planO l[i] f t), 0) := by
      unfold planF
      rw [hid', Int.toNat_natCast, List.getElem?_eq_getElem hi]
      simp only
      rw [if_neg (by omega)]
    rw [e]
    by_cases h1' : l[i].state ≠ 1 ∧ l[i].state ≠ 2
    · rw [if_pos h1']
      exact rplan_bad A l n cap id f t 10 w h hc hm h1 i hi hid' (.inl ⟨h1'.1, h1'.2, rfl⟩)
    · rw [if_neg h1']
      have hs : l[i].state = 1 ∨ l[i].state = 2 := by omega
      by_cases h2 : okSpan f t = false ∨ f = t
      · rw [if_pos h2]
        refine rplan_bad A l n cap id f t 2 w h hc hm h1 i hi hid' (.inr ⟨hs, ?_, rfl⟩)
        simp [okSpan] at h2
        omega
      · rw [if_neg h2]
        have h3 : 0 ≤ f ∧ f < t ∧ t ≤ 268435456 := by simp [okSpan] at h2; omega
        cases hbk : blk i (spanned l[i] f t) 0 l with
        | true =>
          rcases hs with hs | hs
          · simpa using rplan_busy1 A l n cap id f t w h hc hm h1 i hi hid' hs h3.1 h3.2.1 h3.2.2 hbk
          · simpa using rplan_busy2 A l n cap id f t w h hc hm h1 i hi hid' hs h3.1 h3.2.1 h3.2.2 hbk
        | false =>
          have : Calls Try.prog 29 #[.slice A n cap, .int .i64 id, .agg #[.int .i64 f, .int .i64 t]] w fun e w' => ∃ v, e = .returned (.tuple #[v, .int .i64 0]) ∧ OutV w w' (l.set i (spanned (movedO l[i] 2) f t)) v := by
            rcases hs with hs | hs
            · exact rplan_ok1 A l n cap id f t w h hc hm h1 (hno_of v) i hi hid' hs h3.1 h3.2.1 h3.2.2 hbk
            · exact rplan_ok2 A l n cap id f t w h hc hm h1 (hno_of v) i hi hid' hs h3.1 h3.2.1 h3.2.2 hbk
          rw [moved_plan k hs f t] at this
          simpa using this
end Go.Proofs.Ytpejfnfhbpckiaa
