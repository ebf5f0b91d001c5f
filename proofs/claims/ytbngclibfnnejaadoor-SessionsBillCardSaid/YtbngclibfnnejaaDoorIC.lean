/- Invoices: small questions and sums, walked. -/
import Derived.Test.YtbngclibfnnejaaDoorIB
import Derived.Laws.Externs
set_option linter.unusedVariables false
set_option linter.unusedSimpArgs false
namespace Go.Proofs.YtbngclibfnnejaaDoor
open Go.RowKit
set_option maxRecDepth 100000 in
set_option maxHeartbeats 4000000 in
theorem credited_any (A : Option Addr) (n c : Nat) (L : List Im) (num : Int) (m : Nat) (w : World) (h : LAt ivC 9 w w.heap.size A n L) (hm : m ≤ n) (hc : n ≤ c) (hn : n ≤ 100000) : Calls Tryd.prog 36 #[.agg #[Value.slice A n c], .int .i64 num, .int .i64 m] w fun e w' => e = .returned (.bool (credited num ((L.map Im.val).take m))) ∧ Below w.heap.size w w' := by
  have hl := Lib.hid h.len
  replace h := Lib.hid h
  have hx0 := Lib.hid (Blk.new w 95 #[Value.slice A n c])
  have hb0 : Hid (Below w.heap.size w (w.alloc (.cells #[Value.slice A n c] 95))) := a1 w _
  have k0 : ((w.alloc (.cells #[Value.slice A n c] 95))).cell? ⟨w.heap.size, 0, none⟩ = some (Value.slice A n c) := (hx0.out).cell 0
  have hmc : (m : Int) ≤ c := by omega
  have hm0 : (0 : Int) ≤ m := by omega
  go_enter Tryd.func36, Tryd.ntmps36
  go_wp2_with fail
  generalize (w.alloc (.cells #[Value.slice A n c] 95)) = w0 at *
  go_loopw [15] (fun i wr => ∃ k : Nat, k ≤ m ∧ i = .int .i64 k ∧ Hid (credited num ((L.map Im.val).take k) = false) ∧ Hid (Below w.heap.size w wr)) (fun i _ => m - (intOf i).toNat)
  case atStart => exact ⟨0, Nat.zero_le _, rfl, by show _ = _; simp [credited], hb0.out⟩
  case round =>
    obtain ⟨k, hkm, rfl, hx, hb⟩ := hrel
    by_cases hlt : k < m
    · have hkn : k < n := by omega
      have hkl : k < L.length := by have := hl.out; omega
      have hk0 : (0 : Int) ≤ k := by omega
      have hk1 : (k : Int) < m := by omega
      obtain ⟨ad, hA, -, e0, e1, e2, e3, e4, e5, e6, e7, e8⟩ := iv_cells (h.out.below hb.out (Nat.le_refl _)) hkn
      have hst : Hid (credited num ((L.map Im.val).take (k + 1)) = decide (L[k].credits = num)) := by
        show _ = _
        rw [credited_take (v := L[k].val) num (by rw [List.getElem?_map, List.getElem?_eq_getElem hkl]; rfl), hx.out, Bool.false_or]
        rfl
      have hall : Hid (credited num ((L.map Im.val).take (k + 1)) = true → credited num ((L.map Im.val).take m) = true) := fun hh => by
        unfold credited at hh ⊢
        rw [List.any_eq_true] at hh ⊢
        obtain ⟨x, hx1, hx2⟩ := hh
        exact ⟨x, (List.take_subset_take_left _ (by omega)) hx1, hx2⟩
      generalize L[k] = x at *
      obtain ⟨num2, cust, cur, at2, iA, iN, iC2, its, net, vat, gross, cr⟩ := x
      simp only at e0 e1 e2 e3 e4 e5 e6 e7 e8 hst
      subst hA
      have hb2 : Hid (Below w.heap.size w (wr.alloc (.cells #[Value.int .i64 num2, Value.string cust, Value.string cur, Value.int .i64 at2, Value.slice iA iN iC2, Value.int .i64 net, Value.int .i64 vat, Value.int .i64 gross, Value.int .i64 cr] 100))) := hb.out.alloc hb.out.size _
      have hy := Lib.hid (Blk.new wr 100 #[Value.int .i64 num2, Value.string cust, Value.string cur, Value.int .i64 at2, Value.slice iA iN iC2, Value.int .i64 net, Value.int .i64 vat, Value.int .i64 gross, Value.int .i64 cr])
      obtain ⟨m0, m1, m2, m3, m4, m5, m6, m7, m8⟩ := cells9 ((wr.alloc (.cells #[Value.int .i64 num2, Value.string cust, Value.string cur, Value.int .i64 at2, Value.slice iA iN iC2, Value.int .i64 net, Value.int .i64 vat, Value.int .i64 gross, Value.int .i64 cr] 100))) (wr.heap.size) (Value.int .i64 num2) (Value.string cust) (Value.string cur) (Value.int .i64 at2) (Value.slice iA iN iC2) (Value.int .i64 net) (Value.int .i64 vat) (Value.int .i64 gross) (Value.int .i64 cr) (hy.out)
      by_cases hq : cr = num
      · have hF : Hid (credited num ((L.map Im.val).take m) = true) := hall.out (by rw [hst.out]; simpa using hq)
        have hd : (cr == num) = true := by simpa using hq
        replace hq := Lib.hid hq
        go_wp2_with fail
        go_ret
        exact ⟨by rw [hF.out]; rfl, hb2.out⟩
      · have hd : (cr == num) = false := by simpa using hq
        have hx2 : Hid (credited num ((L.map Im.val).take (k + 1)) = false) := by show _ = _; rw [hst.out]; simpa using hq
        replace hq := Lib.hid hq
        go_wp2_with fail
        go_roundw
        case rel => exact ⟨k + 1, by omega, by go_num, hx2.out, hb2.out⟩
        case measure => simp [intOf]; omega
    · have hk : k = m := by omega
      subst hk
      go_wp2_with fail
      go_ret
      exact ⟨by rw [hx.out]; rfl, hb.out⟩
theorem small_step (l : List It) (k : Nat) (hk : k < l.length) : smallI (l.drop k) = (itemB l[k] && smallI (l.drop (k + 1))) := by
  unfold smallI
  rw [List.drop_eq_getElem_cons hk, List.all_cons]
/-- the parts of an item from the j-th on are small -/
def okN (x : It) : Nat → Bool
  | 0 => itemB x
  | 1 => partB x.net && partB x.vat && partB x.gross
  | 2 => partB x.vat && partB x.gross
  | 3 => partB x.gross
  | _ => true
theorem okN0 (x : It) : okN x 0 = (partB x.price && okN x 1) := by unfold okN itemB; simp only [Bool.and_assoc]
theorem okN1 (x : It) : okN x 1 = (partB x.net && okN x 2) := by unfold okN; simp only [Bool.and_assoc]
theorem okN2 (x : It) : okN x 2 = (partB x.vat && okN x 3) := rfl
theorem okN3 (x : It) : okN x 3 = (partB x.gross && okN x 4) := by unfold okN; simp
set_option maxRecDepth 100000 in
set_option maxHeartbeats 4000000 in
theorem small_any (A : Option Addr) (n c : Nat) (l : List It) (w : World) (h : ItAt w A n l) (hn : n ≤ 100000) : Calls Tryd.prog 30 #[.slice A n c] w fun e w' => e = .returned (.bool (smallI l)) ∧ Below w.heap.size w w' := by
  have hl := Lib.hid h.len
  replace h := Lib.hid h
  go_enter Tryd.func30, Tryd.ntmps30
  go_wp2_with fail
  go_loopw [9] (fun i wr => ∃ k : Nat, k ≤ n ∧ i = .int .i64 k ∧ Hid (smallI l = smallI (l.drop k)) ∧ Hid (Below w.heap.size w wr)) (fun i _ => n - (intOf i).toNat)
  case atStart => exact ⟨0, Nat.zero_le _, rfl, rfl, Below.refl _ _⟩
  case round =>
    obtain ⟨k, hkn, rfl, hx, hb⟩ := hrel
    by_cases hlt : k < n
    · have hkl : k < l.length := by have := hl.out; omega
      have hk0 : (0 : Int) ≤ k := by omega
      have hk1 : (k : Int) < n := by omega
      obtain ⟨ad, hA, -, e0, e1, e2, e3, e4, e5, e6⟩ := it_cells (h.out.below hb.out (Nat.le_refl _)) hlt
      have hst : Hid (smallI l = (itemB l[k] && smallI (l.drop (k + 1)))) := by show _ = _; rw [hx.out]; exact small_step l k hkl
      generalize l[k] = x at *
      obtain ⟨kind, price, tax, qty, net, vat, gross⟩ := x
      simp only at e0 e1 e2 e3 e4 e5 e6
      subst hA
      have hy := Lib.hid ((Blk.new wr 90 #[Value.int .i64 kind, Value.int .i64 price, Value.int .i64 tax, Value.int .i64 qty, Value.int .i64 net, Value.int .i64 vat, Value.int .i64 gross]))
      have hb2 : Hid (Below w.heap.size w (wr.alloc (.cells #[Value.int .i64 kind, Value.int .i64 price, Value.int .i64 tax, Value.int .i64 qty, Value.int .i64 net, Value.int .i64 vat, Value.int .i64 gross] 90))) := hb.out.alloc hb.out.size _
      have hy1 := Blk.new wr 90 #[Value.int .i64 kind, Value.int .i64 price, Value.int .i64 tax, Value.int .i64 qty, Value.int .i64 net, Value.int .i64 vat, Value.int .i64 gross]
      obtain ⟨m0, m1, m2, m3, m4, m5, m6⟩ := cells7 ((wr.alloc (.cells #[Value.int .i64 kind, Value.int .i64 price, Value.int .i64 tax, Value.int .i64 qty, Value.int .i64 net, Value.int .i64 vat, Value.int .i64 gross] 90))) (wr.heap.size) (Value.int .i64 kind) (Value.int .i64 price) (Value.int .i64 tax) (Value.int .i64 qty) (Value.int .i64 net) (Value.int .i64 vat) (Value.int .i64 gross) (hy1)
      clear hy1
      go_wp2_with fail
      generalize (wr.alloc (.cells #[Value.int .i64 kind, Value.int .i64 price, Value.int .i64 tax, Value.int .i64 qty, Value.int .i64 net, Value.int .i64 vat, Value.int .i64 gross] 90)) = w0 at *
      clear hx hb
      go_loopw [22] (fun i wr => ∃ j : Nat, j ≤ 4 ∧ i = .int .i64 j ∧ Hid (smallI l = (okN ⟨kind, price, tax, qty, net, vat, gross⟩ j && smallI (l.drop (k + 1)))) ∧ Hid (Below w.heap.size w wr)) (fun i _ => 4 - (intOf i).toNat)
      case atStart => exact ⟨0, by decide, rfl, hst.out, hb2.out⟩
      case round =>
        clear hst hb2 
        obtain ⟨j, hj4, rfl, hx, hb⟩ := hrel
        rcases (show j = 0 ∨ j = 1 ∨ j = 2 ∨ j = 3 ∨ j = 4 by omega) with rfl | rfl | rfl | rfl | rfl
        · skip
          have i0 : ∀ w, (Instr.index 114 (.agg #[Value.int .i64 price, Value.int .i64 net, Value.int .i64 vat, Value.int .i64 gross]) (.int .i64 0)).run Tryd.prog w = .ok (.int .i64 price) w := fun _ => by kernel_rfl
          by_cases q1 : -35184372088832 ≤ price
          · have d1 : decide (price < -35184372088832) = false := by simp; omega
            by_cases q2 : price ≤ 35184372088832
            · have d2 : decide (35184372088832 < price) = false := by simp; omega
              have hx2 : Hid (smallI l = (okN ⟨kind, price, tax, qty, net, vat, gross⟩ 1 && smallI (l.drop (k + 1)))) := by
                show _ = _
                rw [hx.out]
                have : partB price = true := by unfold partB; simp [q1, q2]
                rw [okN0]; simp [this]
              replace q1 := Lib.hid q1
              replace q2 := Lib.hid q2
              go_wp2_with fail
              go_roundw
              case rel => exact ⟨1, by decide, by go_num, hx2.out, hb.out⟩
              case measure => simp [intOf]
            · have d2 : decide (35184372088832 < price) = true := by simp; omega
              have hF : Hid (smallI l = false) := by
                show _ = _
                rw [hx.out]
                have : partB price = false := by unfold partB; simp [q2]
                rw [okN0]; simp [this]
              replace q1 := Lib.hid q1
              replace q2 := Lib.hid q2
              go_wp2_with fail
              go_ret
              exact ⟨by rw [hF.out]; rfl, hb.out⟩
          · have d1 : decide (price < -35184372088832) = true := by simp; omega
            have hF : Hid (smallI l = false) := by
              show _ = _
              rw [hx.out]
              have : partB price = false := by unfold partB; simp [q1]
              rw [okN0]; simp [this]
            replace q1 := Lib.hid q1
            go_wp2_with fail
            go_ret
            exact ⟨by rw [hF.out]; rfl, hb.out⟩
        · skip
          have i0 : ∀ w, (Instr.index 114 (.agg #[Value.int .i64 price, Value.int .i64 net, Value.int .i64 vat, Value.int .i64 gross]) (.int .i64 1)).run Tryd.prog w = .ok (.int .i64 net) w := fun _ => by kernel_rfl
          by_cases q1 : -35184372088832 ≤ net
          · have d1 : decide (net < -35184372088832) = false := by simp; omega
            by_cases q2 : net ≤ 35184372088832
            · have d2 : decide (35184372088832 < net) = false := by simp; omega
              have hx2 : Hid (smallI l = (okN ⟨kind, price, tax, qty, net, vat, gross⟩ 2 && smallI (l.drop (k + 1)))) := by
                show _ = _
                rw [hx.out]
                have : partB net = true := by unfold partB; simp [q1, q2]
                rw [okN1]; simp [this]
              replace q1 := Lib.hid q1
              replace q2 := Lib.hid q2
              go_wp2_with fail
              go_roundw
              case rel => exact ⟨2, by decide, by go_num, hx2.out, hb.out⟩
              case measure => simp [intOf]
            · have d2 : decide (35184372088832 < net) = true := by simp; omega
              have hF : Hid (smallI l = false) := by
                show _ = _
                rw [hx.out]
                have : partB net = false := by unfold partB; simp [q2]
                rw [okN1]; simp [this]
              replace q1 := Lib.hid q1
              replace q2 := Lib.hid q2
              go_wp2_with fail
              go_ret
              exact ⟨by rw [hF.out]; rfl, hb.out⟩
          · have d1 : decide (net < -35184372088832) = true := by simp; omega
            have hF : Hid (smallI l = false) := by
              show _ = _
              rw [hx.out]
              have : partB net = false := by unfold partB; simp [q1]
              rw [okN1]; simp [this]
            replace q1 := Lib.hid q1
            go_wp2_with fail
            go_ret
            exact ⟨by rw [hF.out]; rfl, hb.out⟩
        · skip
          have i0 : ∀ w, (Instr.index 114 (.agg #[Value.int .i64 price, Value.int .i64 net, Value.int .i64 vat, Value.int .i64 gross]) (.int .i64 2)).run Tryd.prog w = .ok (.int .i64 vat) w := fun _ => by kernel_rfl
          by_cases q1 : -35184372088832 ≤ vat
          · have d1 : decide (vat < -35184372088832) = false := by simp; omega
            by_cases q2 : vat ≤ 35184372088832
            · have d2 : decide (35184372088832 < vat) = false := by simp; omega
              have hx2 : Hid (smallI l = (okN ⟨kind, price, tax, qty, net, vat, gross⟩ 3 && smallI (l.drop (k + 1)))) := by
                show _ = _
                rw [hx.out]
                have : partB vat = true := by unfold partB; simp [q1, q2]
                rw [okN2]; simp [this]
              replace q1 := Lib.hid q1
              replace q2 := Lib.hid q2
              go_wp2_with fail
              go_roundw
              case rel => exact ⟨3, by decide, by go_num, hx2.out, hb.out⟩
              case measure => simp [intOf]
            · have d2 : decide (35184372088832 < vat) = true := by simp; omega
              have hF : Hid (smallI l = false) := by
                show _ = _
                rw [hx.out]
                have : partB vat = false := by unfold partB; simp [q2]
                rw [okN2]; simp [this]
              replace q1 := Lib.hid q1
              replace q2 := Lib.hid q2
              go_wp2_with fail
              go_ret
              exact ⟨by rw [hF.out]; rfl, hb.out⟩
          · have d1 : decide (vat < -35184372088832) = true := by simp; omega
            have hF : Hid (smallI l = false) := by
              show _ = _
              rw [hx.out]
              have : partB vat = false := by unfold partB; simp [q1]
              rw [okN2]; simp [this]
            replace q1 := Lib.hid q1
            go_wp2_with fail
            go_ret
            exact ⟨by rw [hF.out]; rfl, hb.out⟩
        · skip
          have i0 : ∀ w, (Instr.index 114 (.agg #[Value.int .i64 price, Value.int .i64 net, Value.int .i64 vat, Value.int .i64 gross]) (.int .i64 3)).run Tryd.prog w = .ok (.int .i64 gross) w := fun _ => by kernel_rfl
          by_cases q1 : -35184372088832 ≤ gross
          · have d1 : decide (gross < -35184372088832) = false := by simp; omega
            by_cases q2 : gross ≤ 35184372088832
            · have d2 : decide (35184372088832 < gross) = false := by simp; omega
              have hx2 : Hid (smallI l = (okN ⟨kind, price, tax, qty, net, vat, gross⟩ 4 && smallI (l.drop (k + 1)))) := by
                show _ = _
                rw [hx.out]
                have : partB gross = true := by unfold partB; simp [q1, q2]
                rw [okN3]; simp [this]
              replace q1 := Lib.hid q1
              replace q2 := Lib.hid q2
              go_wp2_with fail
              go_roundw
              case rel => exact ⟨4, by decide, by go_num, hx2.out, hb.out⟩
              case measure => simp [intOf]
            · have d2 : decide (35184372088832 < gross) = true := by simp; omega
              have hF : Hid (smallI l = false) := by
                show _ = _
                rw [hx.out]
                have : partB gross = false := by unfold partB; simp [q2]
                rw [okN3]; simp [this]
              replace q1 := Lib.hid q1
              replace q2 := Lib.hid q2
              go_wp2_with fail
              go_ret
              exact ⟨by rw [hF.out]; rfl, hb.out⟩
          · have d1 : decide (gross < -35184372088832) = true := by simp; omega
            have hF : Hid (smallI l = false) := by
              show _ = _
              rw [hx.out]
              have : partB gross = false := by unfold partB; simp [q1]
              rw [okN3]; simp [this]
            replace q1 := Lib.hid q1
            go_wp2_with fail
            go_ret
            exact ⟨by rw [hF.out]; rfl, hb.out⟩
        · have hx2 : Hid (smallI l = smallI (l.drop (k + 1))) := by show _ = _; rw [hx.out]; rfl
          go_wp2_with fail
          go_roundw
          case rel => exact ⟨k + 1, by omega, by go_num, hx2.out, hb.out⟩
          case measure => simp [intOf]; omega
    · have hF : Hid (smallI l = true) := by show _ = _; rw [hx.out, List.drop_eq_nil_of_le (by have := hl.out; omega)]; rfl
      go_wp2_with fail
      go_ret
      exact ⟨by rw [hF.out]; rfl, hb.out⟩
set_option maxRecDepth 100000 in
set_option maxHeartbeats 4000000 in
theorem equal_any (A1 A2 : Option Addr) (n c1 c2 : Nat) (l : List It) (w : World) (h1 : ItAt w A1 n l) (h2 : ItAt w A2 n l) (hn : n ≤ 100000) : Calls Tryd.prog 61 #[.slice A1 n c1, .slice A2 n c2] w fun e w' => e = .returned (.bool true) ∧ Below w.heap.size w w' := by
  have hl := Lib.hid h1.len
  replace h1 := Lib.hid h1
  replace h2 := Lib.hid h2
  go_enter Tryd.func61, Tryd.ntmps61
  go_wp2_with fail
  go_loopw [13] (fun i wr => ∃ k : Nat, k ≤ n ∧ i = .int .i64 k ∧ Hid (Below w.heap.size w wr)) (fun i _ => n - (intOf i).toNat)
  case atStart => exact ⟨0, Nat.zero_le _, rfl, Below.refl _ _⟩
  case round =>
    obtain ⟨k, hkn, rfl, hb⟩ := hrel
    by_cases hlt : k < n
    · have hk0 : (0 : Int) ≤ k := by omega
      have hk1 : (k : Int) < n := by omega
      have hkl : k < l.length := by have := hl.out; omega
      obtain ⟨ad, hA, -, e0, e1, e2, e3, e4, e5, e6⟩ := it_cells (h1.out.below hb.out (Nat.le_refl _)) hlt
      obtain ⟨ad2, hA2, -, t0, t1, t2, t3, t4, t5, t6⟩ := it_cells (h2.out.below hb.out (Nat.le_refl _)) hlt
      generalize l[k] = x at *
      obtain ⟨kind, price, tax, qty, net, vat, gross⟩ := x
      simp only at e0 e1 e2 e3 e4 e5 e6 t0 t1 t2 t3 t4 t5 t6
      subst hA
      subst hA2
      go_wp2_with fail
      go_quiet (fail)
      go_wp2_with fail
      go_roundw
      case rel => exact ⟨k + 1, by omega, by go_num, below_drewN hb.out _⟩
      case measure => simp [intOf]; omega
    · go_wp2_with fail
      go_ret
      exact ⟨rfl, hb.out⟩
theorem add64_0 (x y : Int) (hx : 0 ≤ x) (hy : 0 ≤ y) (w : World) : (callFunc 53 #[.int .u64 x, .int .u64 y, .int .u64 0]).run Tryd.prog w =
    .ok (.value (.tuple #[.int .u64 ((x + y) % 18446744073709551616), .int .u64 ((x + y) / 18446744073709551616)])) w := by
  rw [run_callFunc_extern (P := Tryd.prog) (f := 53) (fn := Tryd.f53) (by kernel_rfl) (by kernel_rfl) (by kernel_rfl) (by kernel_rfl) (e := add64Entry) (by kernel_rfl), run_add64 x y 0 hx hy (by omega) (by omega)]
  simp [Result.andThen]
def lowS (s : Int) : Int := s % 18446744073709551616
theorem low_in (s : Int) : 0 ≤ lowS s ∧ lowS s < 18446744073709551616 := by unfold lowS; omega
theorem hi_in (s : Int) : 0 ≤ hiS s ∧ hiS s < 18446744073709551616 := by unfold hiS; split <;> omega
theorem int_cells {w : World} {B n k : Nat} {A : Option Addr} {xs : List Int} (h : LAt iC 1 w B A n xs) (hk : k < n) : ∃ ad, A = some ad ∧ ad.block < B ∧ w.cell? (ad.add k) = some (Value.int .i64 (xs[k]'(by rw [h.len]; exact hk))) := by
  obtain ⟨ad, rfl, hb, hc⟩ := h.at_ hk
  refine ⟨ad, rfl, hb, ?_⟩
  have := hc 0 _ rfl
  rwa [Nat.mul_one, Nat.add_zero] at this
theorem wrap_u64 (n : Int) : IntKind.u64.wrap n = n % 18446744073709551616 := by simp [IntKind.wrap, IntKind.bits, IntKind.signed]
theorem wrap_i64 (n : Int) : IntKind.i64.wrap n = (n + 9223372036854775808) % 18446744073709551616 - 9223372036854775808 := by
  simp only [IntKind.wrap, IntKind.bits, IntKind.signed]
  simp
  try omega
set_option maxRecDepth 100000 in
set_option maxHeartbeats 4000000 in
theorem sum_any (A : Option Addr) (n c : Nat) (xs : List Int) (w : World) (h : LAt iC 1 w w.heap.size A n xs) (hn : n ≤ 64) (hs : ∀ x ∈ xs, p45 x) : Calls Tryd.prog 47 #[.slice A n c] w fun e w' => e = .returned (.tuple #[.int .i64 xs.sum, .int .i64 0]) ∧ Below w.heap.size w w' := by
  have hl := Lib.hid h.len
  have hsm : Hid (∀ k, -2251799813685248 ≤ (xs.take k).sum ∧ (xs.take k).sum ≤ 2251799813685248) := sum_take_small xs hs (by have := hl.out; omega)
  replace h := Lib.hid h
  replace hs := Lib.hid hs
  go_enter Tryd.func47, Tryd.ntmps47
  go_wp2_with fail
  go_loopw [11, 4, 5] (fun i vh vl wr => ∃ (k : Nat) (s : Int), k ≤ n ∧ i = .int .i64 k ∧ vh = .int .u64 (hiS s) ∧ vl = .int .u64 (lowS s) ∧ Hid (s = (xs.take k).sum) ∧ Hid (Below w.heap.size w wr)) (fun i _ _ _ => n - (intOf i).toNat)
  case atStart => exact ⟨0, 0, Nat.zero_le _, rfl, rfl, rfl, rfl, Below.refl _ _⟩
  case round =>
    obtain ⟨k, s, hkn, rfl, rfl, rfl, hse, hb⟩ := hrel
    have hsb : -2251799813685248 ≤ s ∧ s ≤ 2251799813685248 := by rw [hse.out]; exact hsm.out k
    obtain ⟨hlo1, hlo2⟩ := low_in s
    obtain ⟨hhi1, hhi2⟩ := hi_in s
    have hlse : Hid (lowS s = s % 18446744073709551616) := rfl
    have hhse : Hid (hiS s = if s < 0 then 18446744073709551615 else 0) := rfl
    by_cases hlt : k < n
    · have hkl : k < xs.length := by have := hl.out; omega
      have hk0 : (0 : Int) ≤ k := by omega
      have hk1 : (k : Int) < n := by omega
      obtain ⟨ad, hA, -, e0⟩ := int_cells (h.out.below hb.out (Nat.le_refl _)) hlt
      have hst : Hid (s + xs[k] = (xs.take (k + 1)).sum) := by show _ = _; rw [sum_take xs k hkl, hse.out]
      have hxb : p45 xs[k] := hs.out _ (List.getElem_mem hkl)
      generalize xs[k] = x at *
      unfold p45 at hxb
      subst hA
      generalize lowS s = lo at *
      generalize hiS s = hi at *
      by_cases q : s ≥ 0 ∧ x ≥ 0
      · have hh : hi = 0 := by rw [hhse.out]; split <;> omega
        have hh2 : hiS (s + x) = 0 := by unfold hiS; split <;> omega
        have hl0 : lo = s := by rw [hlse.out]; omega
        have hux : IntKind.u64.wrap x = x := by rw [wrap_u64]; omega
        obtain ⟨u, hu⟩ : ∃ u, u = IntKind.u64.wrap x := ⟨_, rfl⟩
        have hu0 : 0 ≤ u := by rw [hu, hux]; omega
        have hc1 : ∀ w, (callFunc 53 #[.int .u64 lo, .int .u64 (IntKind.u64.wrap x), .int .u64 0]).run Tryd.prog w = .ok (.value (.tuple #[.int .u64 (lowS (s + x)), .int .u64 0])) w := fun w => by
          rw [← hu, add64_0 lo u hlo1 hu0 w, show (lo + u) % 18446744073709551616 = lowS (s + x) by unfold lowS; rw [hl0, hu, hux]; (try omega), show (lo + u) / 18446744073709551616 = 0 by rw [hl0, hu, hux]; omega]
        have hc2 := hc1; rw [hux] at hc2
        have dx : decide (x < 0) = false := by simp; omega
        obtain ⟨lo3, hlo3⟩ : ∃ lo3, lo3 = lowS (s + x) := ⟨_, rfl⟩
        rw [← hlo3] at hc1 hc2
        have hlo4 := low_in (s + x)
        rw [← hlo3] at hlo4
        obtain ⟨hlo5, hlo6⟩ := hlo4
        replace hh2 := Lib.hid hh2
        replace hlo3 := Lib.hid hlo3
        replace hux := Lib.hid hux
        replace hu := Lib.hid hu
        replace hl0 := Lib.hid hl0
        replace q := Lib.hid q
        replace hhse := Lib.hid True.intro
        subst hh
        go_wp2_with (first | simp only [hc1] | simp only [hc2])
        go_roundw
        case rel => exact ⟨k + 1, s + x, by omega, by go_num, by rw [hh2.out]; first | done | rfl, by rw [hlo3.out], hst.out, hb.out⟩
        case measure => simp [intOf]; omega
      by_cases q : s ≥ 0 ∧ x < 0 ∧ s + x ≥ 0
      · have hh : hi = 0 := by rw [hhse.out]; split <;> omega
        have hh2 : hiS (s + x) = 0 := by unfold hiS; split <;> omega
        have hl0 : lo = s := by rw [hlse.out]; omega
        have hux : IntKind.u64.wrap x = x + 18446744073709551616 := by rw [wrap_u64]; omega
        obtain ⟨u, hu⟩ : ∃ u, u = IntKind.u64.wrap x := ⟨_, rfl⟩
        have hu0 : 0 ≤ u := by rw [hu, hux]; omega
        have hc1 : ∀ w, (callFunc 53 #[.int .u64 lo, .int .u64 (IntKind.u64.wrap x), .int .u64 0]).run Tryd.prog w = .ok (.value (.tuple #[.int .u64 (lowS (s + x)), .int .u64 1])) w := fun w => by
          rw [← hu, add64_0 lo u hlo1 hu0 w, show (lo + u) % 18446744073709551616 = lowS (s + x) by unfold lowS; rw [hl0, hu, hux]; (try omega), show (lo + u) / 18446744073709551616 = 1 by rw [hl0, hu, hux]; omega]
        have hc2 := hc1
        have dx : decide (x < 0) = true := by simp; omega
        obtain ⟨lo3, hlo3⟩ : ∃ lo3, lo3 = lowS (s + x) := ⟨_, rfl⟩
        rw [← hlo3] at hc1 hc2
        have hlo4 := low_in (s + x)
        rw [← hlo3] at hlo4
        obtain ⟨hlo5, hlo6⟩ := hlo4
        replace hh2 := Lib.hid hh2
        replace hlo3 := Lib.hid hlo3
        replace hux := Lib.hid hux
        replace hu := Lib.hid hu
        replace hl0 := Lib.hid hl0
        replace q := Lib.hid q
        replace hhse := Lib.hid True.intro
        subst hh
        go_wp2_with (first | simp only [hc1] | simp only [hc2])
        go_roundw
        case rel => exact ⟨k + 1, s + x, by omega, by go_num, by rw [hh2.out]; first | done | rfl, by rw [hlo3.out], hst.out, hb.out⟩
        case measure => simp [intOf]; omega
      by_cases q : s ≥ 0 ∧ x < 0 ∧ s + x < 0
      · have hh : hi = 0 := by rw [hhse.out]; split <;> omega
        have hh2 : hiS (s + x) = 18446744073709551615 := by unfold hiS; split <;> omega
        have hl0 : lo = s := by rw [hlse.out]; omega
        have hux : IntKind.u64.wrap x = x + 18446744073709551616 := by rw [wrap_u64]; omega
        obtain ⟨u, hu⟩ : ∃ u, u = IntKind.u64.wrap x := ⟨_, rfl⟩
        have hu0 : 0 ≤ u := by rw [hu, hux]; omega
        have hc1 : ∀ w, (callFunc 53 #[.int .u64 lo, .int .u64 (IntKind.u64.wrap x), .int .u64 0]).run Tryd.prog w = .ok (.value (.tuple #[.int .u64 (lowS (s + x)), .int .u64 0])) w := fun w => by
          rw [← hu, add64_0 lo u hlo1 hu0 w, show (lo + u) % 18446744073709551616 = lowS (s + x) by unfold lowS; rw [hl0, hu, hux]; (try omega), show (lo + u) / 18446744073709551616 = 0 by rw [hl0, hu, hux]; omega]
        have hc2 := hc1
        have dx : decide (x < 0) = true := by simp; omega
        obtain ⟨lo3, hlo3⟩ : ∃ lo3, lo3 = lowS (s + x) := ⟨_, rfl⟩
        rw [← hlo3] at hc1 hc2
        have hlo4 := low_in (s + x)
        rw [← hlo3] at hlo4
        obtain ⟨hlo5, hlo6⟩ := hlo4
        replace hh2 := Lib.hid hh2
        replace hlo3 := Lib.hid hlo3
        replace hux := Lib.hid hux
        replace hu := Lib.hid hu
        replace hl0 := Lib.hid hl0
        replace q := Lib.hid q
        replace hhse := Lib.hid True.intro
        subst hh
        go_wp2_with (first | simp only [hc1] | simp only [hc2])
        go_roundw
        case rel => exact ⟨k + 1, s + x, by omega, by go_num, by rw [hh2.out]; first | done | rfl, by rw [hlo3.out], hst.out, hb.out⟩
        case measure => simp [intOf]; omega
      by_cases q : s < 0 ∧ x ≥ 0 ∧ s + x ≥ 0
      · have hh : hi = 18446744073709551615 := by rw [hhse.out]; split <;> omega
        have hh2 : hiS (s + x) = 0 := by unfold hiS; split <;> omega
        have hl0 : lo = s + 18446744073709551616 := by rw [hlse.out]; omega
        have hux : IntKind.u64.wrap x = x := by rw [wrap_u64]; omega
        obtain ⟨u, hu⟩ : ∃ u, u = IntKind.u64.wrap x := ⟨_, rfl⟩
        have hu0 : 0 ≤ u := by rw [hu, hux]; omega
        have hc1 : ∀ w, (callFunc 53 #[.int .u64 lo, .int .u64 (IntKind.u64.wrap x), .int .u64 0]).run Tryd.prog w = .ok (.value (.tuple #[.int .u64 (lowS (s + x)), .int .u64 1])) w := fun w => by
          rw [← hu, add64_0 lo u hlo1 hu0 w, show (lo + u) % 18446744073709551616 = lowS (s + x) by unfold lowS; rw [hl0, hu, hux]; (try omega), show (lo + u) / 18446744073709551616 = 1 by rw [hl0, hu, hux]; omega]
        have hc2 := hc1; rw [hux] at hc2
        have dx : decide (x < 0) = false := by simp; omega
        obtain ⟨lo3, hlo3⟩ : ∃ lo3, lo3 = lowS (s + x) := ⟨_, rfl⟩
        rw [← hlo3] at hc1 hc2
        have hlo4 := low_in (s + x)
        rw [← hlo3] at hlo4
        obtain ⟨hlo5, hlo6⟩ := hlo4
        replace hh2 := Lib.hid hh2
        replace hlo3 := Lib.hid hlo3
        replace hux := Lib.hid hux
        replace hu := Lib.hid hu
        replace hl0 := Lib.hid hl0
        replace q := Lib.hid q
        replace hhse := Lib.hid True.intro
        subst hh
        go_wp2_with (first | simp only [hc1] | simp only [hc2])
        go_roundw
        case rel => exact ⟨k + 1, s + x, by omega, by go_num, by rw [hh2.out]; first | done | rfl, by rw [hlo3.out], hst.out, hb.out⟩
        case measure => simp [intOf]; omega
      by_cases q : s < 0 ∧ x ≥ 0 ∧ s + x < 0
      · have hh : hi = 18446744073709551615 := by rw [hhse.out]; split <;> omega
        have hh2 : hiS (s + x) = 18446744073709551615 := by unfold hiS; split <;> omega
        have hl0 : lo = s + 18446744073709551616 := by rw [hlse.out]; omega
        have hux : IntKind.u64.wrap x = x := by rw [wrap_u64]; omega
        obtain ⟨u, hu⟩ : ∃ u, u = IntKind.u64.wrap x := ⟨_, rfl⟩
        have hu0 : 0 ≤ u := by rw [hu, hux]; omega
        have hc1 : ∀ w, (callFunc 53 #[.int .u64 lo, .int .u64 (IntKind.u64.wrap x), .int .u64 0]).run Tryd.prog w = .ok (.value (.tuple #[.int .u64 (lowS (s + x)), .int .u64 0])) w := fun w => by
          rw [← hu, add64_0 lo u hlo1 hu0 w, show (lo + u) % 18446744073709551616 = lowS (s + x) by unfold lowS; rw [hl0, hu, hux]; (try omega), show (lo + u) / 18446744073709551616 = 0 by rw [hl0, hu, hux]; omega]
        have hc2 := hc1; rw [hux] at hc2
        have dx : decide (x < 0) = false := by simp; omega
        obtain ⟨lo3, hlo3⟩ : ∃ lo3, lo3 = lowS (s + x) := ⟨_, rfl⟩
        rw [← hlo3] at hc1 hc2
        have hlo4 := low_in (s + x)
        rw [← hlo3] at hlo4
        obtain ⟨hlo5, hlo6⟩ := hlo4
        replace hh2 := Lib.hid hh2
        replace hlo3 := Lib.hid hlo3
        replace hux := Lib.hid hux
        replace hu := Lib.hid hu
        replace hl0 := Lib.hid hl0
        replace q := Lib.hid q
        replace hhse := Lib.hid True.intro
        subst hh
        go_wp2_with (first | simp only [hc1] | simp only [hc2])
        go_roundw
        case rel => exact ⟨k + 1, s + x, by omega, by go_num, by rw [hh2.out]; first | done | rfl, by rw [hlo3.out], hst.out, hb.out⟩
        case measure => simp [intOf]; omega
      by_cases q : s < 0 ∧ x < 0
      · have hh : hi = 18446744073709551615 := by rw [hhse.out]; split <;> omega
        have hh2 : hiS (s + x) = 18446744073709551615 := by unfold hiS; split <;> omega
        have hl0 : lo = s + 18446744073709551616 := by rw [hlse.out]; omega
        have hux : IntKind.u64.wrap x = x + 18446744073709551616 := by rw [wrap_u64]; omega
        obtain ⟨u, hu⟩ : ∃ u, u = IntKind.u64.wrap x := ⟨_, rfl⟩
        have hu0 : 0 ≤ u := by rw [hu, hux]; omega
        have hc1 : ∀ w, (callFunc 53 #[.int .u64 lo, .int .u64 (IntKind.u64.wrap x), .int .u64 0]).run Tryd.prog w = .ok (.value (.tuple #[.int .u64 (lowS (s + x)), .int .u64 1])) w := fun w => by
          rw [← hu, add64_0 lo u hlo1 hu0 w, show (lo + u) % 18446744073709551616 = lowS (s + x) by unfold lowS; rw [hl0, hu, hux]; (try omega), show (lo + u) / 18446744073709551616 = 1 by rw [hl0, hu, hux]; omega]
        have hc2 := hc1
        have dx : decide (x < 0) = true := by simp; omega
        obtain ⟨lo3, hlo3⟩ : ∃ lo3, lo3 = lowS (s + x) := ⟨_, rfl⟩
        rw [← hlo3] at hc1 hc2
        have hlo4 := low_in (s + x)
        rw [← hlo3] at hlo4
        obtain ⟨hlo5, hlo6⟩ := hlo4
        replace hh2 := Lib.hid hh2
        replace hlo3 := Lib.hid hlo3
        replace hux := Lib.hid hux
        replace hu := Lib.hid hu
        replace hl0 := Lib.hid hl0
        replace q := Lib.hid q
        replace hhse := Lib.hid True.intro
        subst hh
        go_wp2_with (first | simp only [hc1] | simp only [hc2])
        go_roundw
        case rel => exact ⟨k + 1, s + x, by omega, by go_num, by rw [hh2.out]; first | done | rfl, by rw [hlo3.out], hst.out, hb.out⟩
        case measure => simp [intOf]; omega
      omega
    · have hk : k = n := by omega
      subst hk
      have hF : Hid (s = xs.sum) := by show _ = _; rw [hse.out, List.take_of_length_le (by have := hl.out; omega)]
      by_cases q : s < 0
      · have hh : hiS s = 18446744073709551615 := by unfold hiS; rw [if_pos q]
        have hl0 : lowS s = s + 18446744073709551616 := by unfold lowS; omega
        rw [hh]
        have hcv : IntKind.i64.wrap (lowS s) = s := by rw [wrap_i64, hl0]; omega
        obtain ⟨lo, hlo⟩ : ∃ lo, lo = lowS s := ⟨_, rfl⟩
        rw [← hlo] at hcv hlo1 hlo2 ⊢
        replace hlo := Lib.hid hlo
        replace hh := Lib.hid hh
        replace hl0 := Lib.hid hl0
        have dq : decide (0 ≤ s) = false := by simp; omega
        have dq2 : decide (s < 0) = true := by simp; omega
        clear hhi1 hhi2
        replace q := Lib.hid q
        go_wp2_with fail
        exact bodyPost_ret (v := .tuple #[.int .i64 s, .int .i64 0]) (by simp [results, Tryd.results47, go_sem]) rfl ⟨by rw [hF.out], hb.out⟩
      · have hh : hiS s = 0 := by unfold hiS; rw [if_neg q]
        have hl0 : lowS s = s := by unfold lowS; omega
        rw [hh, hl0]
        have dq : decide (0 ≤ s) = true := by simp; omega
        have dq2 : decide (s < 0) = false := by simp; omega
        replace hh := Lib.hid hh
        replace hl0 := Lib.hid hl0
        clear hhi1 hhi2
        replace q := Lib.hid q
        go_wp2_with fail
        exact bodyPost_ret (v := .tuple #[.int .i64 s, .int .i64 0]) (by simp [results, Tryd.results47, go_sem]) rfl ⟨by rw [hF.out], hb.out⟩
end Go.Proofs.YtbngclibfnnejaaDoor
