/- Authorization: the law of Remember, walked. -/
import Derived.Test.YtiggpgeldigknaaR1
set_option linter.unusedVariables false
set_option linter.unusedSimpArgs false
namespace Go.Proofs.Ytiggpgeldigknaa
open Go.RowKit
set_option maxRecDepth 100000 in
theorem remember_err (A : Option Addr) (n cap : Nat) (t : Tk) (room : Int) (w : World) (hv : tvalid t ≠ 0) :
    Calls Try.prog 30 #[.slice A n cap, tkV t, .int .i64 room] w fun e w' => e = .returned (.tuple #[.slice A n cap, .int .i64 (tvalid t)]) ∧ Below w.heap.size w w' := by
  have hvt : Hid (tkV t = .agg #[.string t.id, .string t.group, .string t.contract, .int .i64 t.kind, .int .i64 t.status, .int .i64 t.expiry]) := rfl
  have hd : (tvalid t != 0) = true := by simpa using hv
  generalize htv : tvalid t = tv at *
  replace htv := Lib.hid htv
  replace hv := Lib.hid hv
  rw [hvt.out]
  go_enter Try.func30, Try.ntmps30
  go_wp2_with fail
  rw [← hvt.out]
  refine (tvalid_any _ _).mono ?_; rintro e w0 ⟨rfl, hb0⟩
  rw [htv.out]
  replace hb0 := Lib.hid (below_a hb0)
  go_wp2_with fail
  go_ret2
  exact ⟨rfl, hb0.out⟩
set_option maxRecDepth 100000 in
theorem remember_room (A : Option Addr) (n cap : Nat) (t : Tk) (room : Int) (w : World) (hv : tvalid t = 0) (hr : room < 1 ∨ 128 < room) :
    Calls Try.prog 30 #[.slice A n cap, tkV t, .int .i64 room] w fun e w' => e = .returned (.tuple #[.slice A n cap, .int .i64 2]) ∧ Below w.heap.size w w' := by
  have hvt : Hid (tkV t = .agg #[.string t.id, .string t.group, .string t.contract, .int .i64 t.kind, .int .i64 t.status, .int .i64 t.expiry]) := rfl
  replace hv := Lib.hid hv
  rw [hvt.out]
  rcases (show room < 1 ∨ (¬ room < 1 ∧ 128 < room) by omega) with h | ⟨g, h⟩
  all_goals
    clear hr
    go_enter Try.func30, Try.ntmps30
    go_wp2_with fail
    rw [← hvt.out]
    refine (tvalid_any _ _).mono ?_; rintro e w0 ⟨rfl, hb0⟩
    rw [hv.out]
    replace hb0 := Lib.hid (below_a hb0)
    go_wp2_with fail
    go_ret2
    exact ⟨rfl, hb0.out⟩
set_option maxRecDepth 100000 in
theorem rremember_err (A : Option Addr) (n cap : Nat) (t : Tk) (room : Int) (w : World) (hv : tvalid t ≠ 0) :
    Calls Try.prog 31 #[.slice A n cap, tkV t, .int .i64 room] w fun e w' => e = .returned (.tuple #[.slice A n cap, .int .i64 (tvalid t)]) ∧ Below w.heap.size w w' := by
  have hvt : Hid (tkV t = .agg #[.string t.id, .string t.group, .string t.contract, .int .i64 t.kind, .int .i64 t.status, .int .i64 t.expiry]) := rfl
  have hd : (tvalid t != 0) = true := by simpa using hv
  generalize htv : tvalid t = tv at *
  replace htv := Lib.hid htv
  replace hv := Lib.hid hv
  rw [hvt.out]
  go_enter Try.func31, Try.ntmps31
  go_wp2_with fail
  rw [← hvt.out]
  refine (rtvalid_any _ _).mono ?_; rintro e w0 ⟨rfl, hb0⟩
  rw [htv.out]
  replace hb0 := Lib.hid (below_a hb0)
  go_wp2_with fail
  go_ret2
  exact ⟨rfl, hb0.out⟩
set_option maxRecDepth 100000 in
theorem rremember_room (A : Option Addr) (n cap : Nat) (t : Tk) (room : Int) (w : World) (hv : tvalid t = 0) (hr : room < 1 ∨ 128 < room) :
    Calls Try.prog 31 #[.slice A n cap, tkV t, .int .i64 room] w fun e w' => e = .returned (.tuple #[.slice A n cap, .int .i64 2]) ∧ Below w.heap.size w w' := by
  have hvt : Hid (tkV t = .agg #[.string t.id, .string t.group, .string t.contract, .int .i64 t.kind, .int .i64 t.status, .int .i64 t.expiry]) := rfl
  replace hv := Lib.hid hv
  rw [hvt.out]
  rcases (show room < 1 ∨ (¬ room < 1 ∧ 128 < room) by omega) with h | ⟨g, h⟩
  all_goals
    clear hr
    go_enter Try.func31, Try.ntmps31
    go_wp2_with fail
    rw [← hvt.out]
    refine (rtvalid_any _ _).mono ?_; rintro e w0 ⟨rfl, hb0⟩
    rw [hv.out]
    replace hb0 := Lib.hid (below_a hb0)
    go_wp2_with fail
    go_ret2
    exact ⟨rfl, hb0.out⟩
set_option maxRecDepth 100000 in
set_option maxHeartbeats 1000000 in
theorem sameTokens_self (A1 A2 : Option Addr) (l : List Tk) (n c1 c2 : Nat) (w : World) (ha : TAt w w.heap.size A1 n l) (hb : TAt w w.heap.size A2 n l) (h1 : n ≤ maxLen) :
    Calls Try.prog 32 #[.slice A1 n c1, .slice A2 n c2] w fun e w' => e = .returned (.bool true) ∧ Below w.heap.size w w' := by
  unfold maxLen at h1
  have la := Lib.hid ha.len
  replace ha := Lib.hid ha
  replace hb := Lib.hid hb
  go_enter Try.func32, Try.ntmps32
  go_wp2_with fail
  go_loopw [13] (fun i wr => ∃ k m : Nat, k ≤ n ∧ i = .int .i64 k ∧ wr = w.drewN m) (fun i _ => n - (intOf i).toNat)
  case atStart => exact ⟨0, 0, Nat.zero_le _, rfl, rfl⟩
  case round =>
    obtain ⟨k, m, hk, rfl, rfl⟩ := hrel
    by_cases hlt : k < n
    · obtain ⟨ad1, hA1, _, c0, c1, c2, c3, c4, c5⟩ := TAt.cell ha.out hlt
      obtain ⟨ad2, hA2, _, d0, d1, d2, d3, d4, d5⟩ := TAt.cell hb.out hlt
      subst hA1
      subst hA2
      have hka : k < l.length := by have := la.out; omega
      generalize l[k] = t at *
      obtain ⟨t0, t1, t2, t3, t4, t5⟩ := t
      simp only at c0 c1 c2 c3 c4 c5 d0 d1 d2 d3 d4 d5
      have hlt0 : (0 : Int) ≤ k := by omega
      have hlt1 : (k : Int) < n := by omega
      go_wp2_with fail
      go_quiet (fail)
      go_wp2_with fail
      go_roundw
      case rel => exact ⟨k + 1, _, by omega, by go_num, rfl⟩
      case measure => simp [intOf]; omega
    · go_wp2_with fail
      go_ret
      exact ⟨rfl, by first | exact below_drewN (Below.refl _ _) _ | exact below_drewN (below_drewN (Below.refl _ _) _) _⟩
set_option maxRecDepth 100000 in
set_option maxHeartbeats 2000000 in
theorem lawRemembers (A : Option Addr) (l : List Tk) (n c : Nat) (t : Tk) (room : Int) (w : World) (h : TAt w w.heap.size A n l) (hm : n ≤ maxLen) (ht : TkOk t) :
    Calls Try.prog 7 #[.slice A n c, tkV t, .int .i64 room] w fun e w' => e = .returned (.bool true) ∧ Below w.heap.size w w' := by
  have hv : Hid (tkV t = .agg #[.string t.id, .string t.group, .string t.contract, .int .i64 t.kind, .int .i64 t.status, .int .i64 t.expiry]) := rfl
  rw [hv.out]
  obtain ⟨t0, t1, t2, t3, t4, t5⟩ := t
  have hT0 := Lib.hid (Blk.new w 33 #[.string t0, .string t1, .string t2, .int .i64 t3, .int .i64 t4, .int .i64 t5])
  have kq : Hid (∀ wz, Below (w.alloc (.cells #[.string t0, .string t1, .string t2, .int .i64 t3, .int .i64 t4, .int .i64 t5] 33)).heap.size (w.alloc (.cells #[.string t0, .string t1, .string t2, .int .i64 t3, .int .i64 t4, .int .i64 t5] 33)) wz → wz.cell? ⟨w.heap.size, 0, none⟩ = some (.string t0) ∧ wz.cell? ⟨w.heap.size, 1, none⟩ = some (.string t1) ∧ wz.cell? ⟨w.heap.size, 2, none⟩ = some (.string t2) ∧ wz.cell? ⟨w.heap.size, 3, none⟩ = some (.int .i64 t3) ∧ wz.cell? ⟨w.heap.size, 4, none⟩ = some (.int .i64 t4) ∧ wz.cell? ⟨w.heap.size, 5, none⟩ = some (.int .i64 t5)) := fun wz h => by
    have q0 := hT0.out.below h (lt_of_heap hT0.out)
    exact ⟨q0.cell 0, q0.cell 1, q0.cell 2, q0.cell 3, q0.cell 4, q0.cell 5⟩
  have hbw := Lib.hid (a1 w (.cells #[.string t0, .string t1, .string t2, .int .i64 t3, .int .i64 t4, .int .i64 t5] 33))
  have h' := Lib.hid (h.more (a1 w (.cells #[.string t0, .string t1, .string t2, .int .i64 t3, .int .i64 t4, .int .i64 t5] 33)))
  have ln := Lib.hid h.len
  clear h
  cases hs : smallT l with
  | false =>
    replace hs := Lib.hid hs
    go_enter Try.func7, Try.ntmps7
    go_wp2_with fail
    refine (small_any A l n c _ h'.out hm).mono ?_; rintro e w1 ⟨rfl, hb1⟩
    rw [hs.out]
    replace hb1 := Lib.hid (hbw.out.trans (hb1.mono hbw.out.size))
    go_wp2_with fail
    refine (example_any _).mono ?_; rintro e w2 ⟨rfl, hb2⟩
    go_wp2_with fail
    go_ret
    exact ⟨rfl, hb1.out.trans (hb2.mono hb1.out.size)⟩
  | true =>
    have hok := Lib.hid (tk_ok hs)
    replace hs := Lib.hid hs
    rcases (show tvalid ⟨t0, t1, t2, t3, t4, t5⟩ ≠ 0 ∨ (tvalid ⟨t0, t1, t2, t3, t4, t5⟩ = 0 ∧ (room < 1 ∨ 128 < room)) ∨ (tvalid ⟨t0, t1, t2, t3, t4, t5⟩ = 0 ∧ 1 ≤ room ∧ room ≤ 128) by omega) with hx | ⟨hx, hr⟩ | ⟨hx, hr1, hr2⟩
    · replace hx := Lib.hid hx
      go_enter Try.func7, Try.ntmps7
      go_wp2_with fail
      refine (small_any A l n c _ h'.out hm).mono ?_; rintro e w1 ⟨rfl, hb1⟩
      rw [hs.out]
      obtain ⟨c0, c1, c2, c3, c4, c5⟩ := kq.out _ hb1
      replace hb1 := Lib.hid hb1
      go_wp2_with fail
      rw [← hv.out]
      refine (remember_err A n c ⟨t0, t1, t2, t3, t4, t5⟩ room _ hx.out).mono ?_; rintro e w2 ⟨rfl, hb2⟩
      clear c0 c1 c2 c3 c4 c5
      replace hb2 : Hid (Below (w.alloc (.cells #[.string t0, .string t1, .string t2, .int .i64 t3, .int .i64 t4, .int .i64 t5] 33)).heap.size (w.alloc (.cells #[.string t0, .string t1, .string t2, .int .i64 t3, .int .i64 t4, .int .i64 t5] 33)) w2) := hb1.out.trans (hb2.mono hb1.out.size)
      obtain ⟨c0, c1, c2, c3, c4, c5⟩ := kq.out _ hb2.out

      go_wp2_with fail
      rw [← hv.out]
      refine (rremember_err A n c ⟨t0, t1, t2, t3, t4, t5⟩ room _ hx.out).mono ?_; rintro e w3 ⟨rfl, hb3⟩
      clear c0 c1 c2 c3 c4 c5
      replace hb3 : Hid (Below (w.alloc (.cells #[.string t0, .string t1, .string t2, .int .i64 t3, .int .i64 t4, .int .i64 t5] 33)).heap.size (w.alloc (.cells #[.string t0, .string t1, .string t2, .int .i64 t3, .int .i64 t4, .int .i64 t5] 33)) w3) := hb2.out.trans (hb3.mono hb2.out.size)
      generalize tvalid ⟨t0, t1, t2, t3, t4, t5⟩ = tv at *
      go_wp2_with fail
      refine (sameTokens_self A A l n c c _ (h'.out.more hb3.out) (h'.out.more hb3.out) hm).mono ?_; rintro e w4 ⟨rfl, hb4⟩
      go_wp2_with fail
      go_ret
      exact ⟨ret_bool (by simp), (below_a hb3.out).trans (hb4.mono (below_a hb3.out).size)⟩
    · replace hx := Lib.hid hx
      replace hr := Lib.hid hr
      go_enter Try.func7, Try.ntmps7
      go_wp2_with fail
      refine (small_any A l n c _ h'.out hm).mono ?_; rintro e w1 ⟨rfl, hb1⟩
      rw [hs.out]
      obtain ⟨c0, c1, c2, c3, c4, c5⟩ := kq.out _ hb1
      replace hb1 := Lib.hid hb1
      go_wp2_with fail
      rw [← hv.out]
      refine (remember_room A n c ⟨t0, t1, t2, t3, t4, t5⟩ room _ hx.out hr.out).mono ?_; rintro e w2 ⟨rfl, hb2⟩
      clear c0 c1 c2 c3 c4 c5
      replace hb2 : Hid (Below (w.alloc (.cells #[.string t0, .string t1, .string t2, .int .i64 t3, .int .i64 t4, .int .i64 t5] 33)).heap.size (w.alloc (.cells #[.string t0, .string t1, .string t2, .int .i64 t3, .int .i64 t4, .int .i64 t5] 33)) w2) := hb1.out.trans (hb2.mono hb1.out.size)
      obtain ⟨c0, c1, c2, c3, c4, c5⟩ := kq.out _ hb2.out

      go_wp2_with fail
      rw [← hv.out]
      refine (rremember_room A n c ⟨t0, t1, t2, t3, t4, t5⟩ room _ hx.out hr.out).mono ?_; rintro e w3 ⟨rfl, hb3⟩
      clear c0 c1 c2 c3 c4 c5
      replace hb3 : Hid (Below (w.alloc (.cells #[.string t0, .string t1, .string t2, .int .i64 t3, .int .i64 t4, .int .i64 t5] 33)).heap.size (w.alloc (.cells #[.string t0, .string t1, .string t2, .int .i64 t3, .int .i64 t4, .int .i64 t5] 33)) w3) := hb2.out.trans (hb3.mono hb2.out.size)
      generalize tvalid ⟨t0, t1, t2, t3, t4, t5⟩ = tv at *
      go_wp2_with fail
      refine (sameTokens_self A A l n c c _ (h'.out.more hb3.out) (h'.out.more hb3.out) hm).mono ?_; rintro e w4 ⟨rfl, hb4⟩
      go_wp2_with fail
      go_ret
      exact ⟨ret_bool (by simp), (below_a hb3.out).trans (hb4.mono (below_a hb3.out).size)⟩
    · replace hx := Lib.hid hx
      go_enter Try.func7, Try.ntmps7
      go_wp2_with fail
      refine (small_any A l n c _ h'.out hm).mono ?_; rintro e w1 ⟨rfl, hb1⟩
      rw [hs.out]
      obtain ⟨c0, c1, c2, c3, c4, c5⟩ := kq.out _ hb1
      replace hb1 := Lib.hid hb1
      go_wp2_with fail
      rw [← hv.out]
      refine (remember_ok A l n c ⟨t0, t1, t2, t3, t4, t5⟩ room _ (h'.out.more hb1.out) hm hok.out ht hx.out hr1 hr2).mono ?_; rintro e w2 ⟨v1, rfl, ho1, hb2⟩
      clear c0 c1 c2 c3 c4 c5
      replace hb2 : Hid (Below (w.alloc (.cells #[.string t0, .string t1, .string t2, .int .i64 t3, .int .i64 t4, .int .i64 t5] 33)).heap.size (w.alloc (.cells #[.string t0, .string t1, .string t2, .int .i64 t3, .int .i64 t4, .int .i64 t5] 33)) w2) := hb1.out.trans (hb2.mono hb1.out.size)
      obtain ⟨c0, c1, c2, c3, c4, c5⟩ := kq.out _ hb2.out
      replace ho1 := Lib.hid ho1
      go_wp2_with fail
      rw [← hv.out]
      refine (rremember_ok A l n c ⟨t0, t1, t2, t3, t4, t5⟩ room _ (h'.out.more hb2.out) hm hok.out ht hx.out hr1 hr2).mono ?_; rintro e w3 ⟨v2, rfl, ho2, hb3⟩
      clear c0 c1 c2 c3 c4 c5
      obtain ⟨A1, p1, rfl, q1, m1, _, hat1⟩ := (ho1.out.kept hb3).form
      obtain ⟨A2, p2, rfl, q2, m2, _, hat2⟩ := ho2.form
      replace hat1 := Lib.hid hat1
      replace hat2 := Lib.hid hat2
      replace hb3 : Hid (Below (w.alloc (.cells #[.string t0, .string t1, .string t2, .int .i64 t3, .int .i64 t4, .int .i64 t5] 33)).heap.size (w.alloc (.cells #[.string t0, .string t1, .string t2, .int .i64 t3, .int .i64 t4, .int .i64 t5] 33)) w3) := hb2.out.trans (hb3.mono hb2.out.size)
      clear ho1 ho2
      have hml := Nat.le_trans q1 m1
      clear q1 q2 m1 m2
      generalize remL room ⟨t0, t1, t2, t3, t4, t5⟩ [⟨t0, t1, t2, t3, t4, t5⟩] l = R at *
      go_wp2_with fail
      refine (sameTokens_self A1 A2 R R.length p1 p2 _ hat1.out hat2.out hml).mono ?_; rintro e w4 ⟨rfl, hb4⟩
      go_wp2_with fail
      go_ret
      exact ⟨ret_bool (by simp), (below_a hb3.out).trans (hb4.mono (below_a hb3.out).size)⟩
end Go.Proofs.Ytiggpgeldigknaa
