/- Invoices: sums of items, walked. -/
import Derived.Test.YtadgdbakgmjekaaIC
set_option linter.unusedVariables false
set_option linter.unusedSimpArgs false
namespace Go.Proofs.Ytadgdbakgmjekaa
open Go.RowKit
set_option maxRecDepth 100000 in
set_option maxHeartbeats 4000000 in
theorem rsum_any (A : Option Addr) (n c : Nat) (xs : List Int) (w : World) (h : LAt iC 1 w w.heap.size A n xs) (hn : n ≤ 64) (hs : ∀ x ∈ xs, p45 x) : Calls Try.prog 33 #[.slice A n c] w fun e w' => e = .returned (.tuple #[.int .i64 xs.sum, .int .i64 0]) ∧ Below w.heap.size w w' := by
  have hl := Lib.hid h.len
  have hsm : Hid (∀ k, -2251799813685248 ≤ (xs.take k).sum ∧ (xs.take k).sum ≤ 2251799813685248) := sum_take_small xs hs (by have := hl.out; omega)
  replace h := Lib.hid h
  replace hs := Lib.hid hs
  go_enter Try.func33, Try.ntmps33
  go_wp2_with fail
  go_loopw [6, 4, 5] (fun i vh vl wr => ∃ (k : Nat) (s : Int), k ≤ n ∧ i = .int .i64 k ∧ vh = .int .u64 (hiS s) ∧ vl = .int .u64 (lowS s) ∧ Hid (s = (xs.take k).sum) ∧ Hid (Below w.heap.size w wr)) (fun i _ _ _ => n - (intOf i).toNat)
  case atStart => exact ⟨0, 0, Nat.zero_le _, rfl, rfl, rfl, rfl, Below.refl _ _⟩
  case round =>
    obtain ⟨k, s, hkn, rfl, rfl, rfl, hse, hb⟩ := hrel
    have hsb : -2251799813685248 ≤ s ∧ s ≤ 2251799813685248 := by rw [hse.out]; exact hsm.out k
    obtain ⟨hlo1, hlo2⟩ := low_in s
    obtain ⟨hhi1, hhi2⟩ := hi_in s
    have hlse : Hid (lowS s = s % 18446744073709551616) := rfl
    have hhse : Hid (hiS s = if s < 0 then 18446744073709551615 else 0) := rfl
    by_cases hlt : k < n
    · have hkl : k < xs.length := by have := hl.out; omega
      have hk0 : (0 : Int) ≤ k := by omega
      have hk1 : (k : Int) < n := by omega
      obtain ⟨ad, hA, -, e0⟩ := int_cells (h.out.below hb.out (Nat.le_refl _)) hlt
      have hst : Hid (s + xs[k] = (xs.take (k + 1)).sum) := by show _ = _; rw [sum_take xs k hkl, hse.out]
      have hxb : p45 xs[k] := hs.out _ (List.getElem_mem hkl)
      generalize xs[k] = x at *
      unfold p45 at hxb
      subst hA
      generalize lowS s = lo at *
      generalize hiS s = hi at *
      by_cases q : s ≥ 0 ∧ x ≥ 0
      · have hh : hi = 0 := by rw [hhse.out]; split <;> omega
        have hh2 : hiS (s + x) = 0 := by unfold hiS; split <;> omega
        have hl0 : lo = s := by rw [hlse.out]; omega
        have hux : IntKind.u64.wrap x = x := by rw [wrap_u64]; omega
        obtain ⟨lo3, hlo3⟩ : ∃ lo3, lo3 = lowS (s + x) := ⟨_, rfl⟩
        have hlo4 := low_in (s + x)
        rw [← hlo3] at hlo4
        obtain ⟨hlo5, hlo6⟩ := hlo4
        have ha1 : IntKind.u64.wrap (lo + IntKind.u64.wrap x) = lo3 := by rw [wrap_u64, hlo3, hl0, hux]; unfold lowS; omega
        have ha2 := ha1; rw [hux] at ha2
        have dc : decide (lo3 < IntKind.u64.wrap x) = false := by rw [hux, hlo3]; unfold lowS; simp; omega
        have dc2 := dc; rw [hux] at dc2
        have dx : decide (x < 0) = false := by simp; omega
        replace hh2 := Lib.hid hh2
        replace hlo3 := Lib.hid hlo3
        replace hux := Lib.hid hux
        replace hl0 := Lib.hid hl0
        replace q := Lib.hid q
        replace hhse := Lib.hid True.intro
        subst hh
        go_wp2_with fail
        go_roundw
        case rel => exact ⟨k + 1, s + x, by omega, by go_num, by rw [hh2.out]; first | done | rfl, by rw [hlo3.out], hst.out, hb.out⟩
        case measure => simp [intOf]; omega
      by_cases q : s ≥ 0 ∧ x < 0 ∧ s + x ≥ 0
      · have hh : hi = 0 := by rw [hhse.out]; split <;> omega
        have hh2 : hiS (s + x) = 0 := by unfold hiS; split <;> omega
        have hl0 : lo = s := by rw [hlse.out]; omega
        have hux : IntKind.u64.wrap x = x + 18446744073709551616 := by rw [wrap_u64]; omega
        obtain ⟨lo3, hlo3⟩ : ∃ lo3, lo3 = lowS (s + x) := ⟨_, rfl⟩
        have hlo4 := low_in (s + x)
        rw [← hlo3] at hlo4
        obtain ⟨hlo5, hlo6⟩ := hlo4
        have ha1 : IntKind.u64.wrap (lo + IntKind.u64.wrap x) = lo3 := by rw [wrap_u64, hlo3, hl0, hux]; unfold lowS; omega
        skip
        have dc : decide (lo3 < IntKind.u64.wrap x) = true := by rw [hux, hlo3]; unfold lowS; simp; omega
        skip
        have dx : decide (x < 0) = true := by simp; omega
        replace hh2 := Lib.hid hh2
        replace hlo3 := Lib.hid hlo3
        replace hux := Lib.hid hux
        replace hl0 := Lib.hid hl0
        replace q := Lib.hid q
        replace hhse := Lib.hid True.intro
        subst hh
        go_wp2_with fail
        go_roundw
        case rel => exact ⟨k + 1, s + x, by omega, by go_num, by rw [hh2.out]; first | done | rfl, by rw [hlo3.out], hst.out, hb.out⟩
        case measure => simp [intOf]; omega
      by_cases q : s ≥ 0 ∧ x < 0 ∧ s + x < 0
      · have hh : hi = 0 := by rw [hhse.out]; split <;> omega
        have hh2 : hiS (s + x) = 18446744073709551615 := by unfold hiS; split <;> omega
        have hl0 : lo = s := by rw [hlse.out]; omega
        have hux : IntKind.u64.wrap x = x + 18446744073709551616 := by rw [wrap_u64]; omega
        obtain ⟨lo3, hlo3⟩ : ∃ lo3, lo3 = lowS (s + x) := ⟨_, rfl⟩
        have hlo4 := low_in (s + x)
        rw [← hlo3] at hlo4
        obtain ⟨hlo5, hlo6⟩ := hlo4
        have ha1 : IntKind.u64.wrap (lo + IntKind.u64.wrap x) = lo3 := by rw [wrap_u64, hlo3, hl0, hux]; unfold lowS; omega
        skip
        have dc : decide (lo3 < IntKind.u64.wrap x) = false := by rw [hux, hlo3]; unfold lowS; simp; omega
        skip
        have dx : decide (x < 0) = true := by simp; omega
        replace hh2 := Lib.hid hh2
        replace hlo3 := Lib.hid hlo3
        replace hux := Lib.hid hux
        replace hl0 := Lib.hid hl0
        replace q := Lib.hid q
        replace hhse := Lib.hid True.intro
        subst hh
        go_wp2_with fail
        go_roundw
        case rel => exact ⟨k + 1, s + x, by omega, by go_num, by rw [hh2.out]; first | done | rfl, by rw [hlo3.out], hst.out, hb.out⟩
        case measure => simp [intOf]; omega
      by_cases q : s < 0 ∧ x ≥ 0 ∧ s + x ≥ 0
      · have hh : hi = 18446744073709551615 := by rw [hhse.out]; split <;> omega
        have hh2 : hiS (s + x) = 0 := by unfold hiS; split <;> omega
        have hl0 : lo = s + 18446744073709551616 := by rw [hlse.out]; omega
        have hux : IntKind.u64.wrap x = x := by rw [wrap_u64]; omega
        obtain ⟨lo3, hlo3⟩ : ∃ lo3, lo3 = lowS (s + x) := ⟨_, rfl⟩
        have hlo4 := low_in (s + x)
        rw [← hlo3] at hlo4
        obtain ⟨hlo5, hlo6⟩ := hlo4
        have ha1 : IntKind.u64.wrap (lo + IntKind.u64.wrap x) = lo3 := by rw [wrap_u64, hlo3, hl0, hux]; unfold lowS; omega
        have ha2 := ha1; rw [hux] at ha2
        have dc : decide (lo3 < IntKind.u64.wrap x) = true := by rw [hux, hlo3]; unfold lowS; simp; omega
        have dc2 := dc; rw [hux] at dc2
        have dx : decide (x < 0) = false := by simp; omega
        replace hh2 := Lib.hid hh2
        replace hlo3 := Lib.hid hlo3
        replace hux := Lib.hid hux
        replace hl0 := Lib.hid hl0
        replace q := Lib.hid q
        replace hhse := Lib.hid True.intro
        subst hh
        go_wp2_with fail
        go_roundw
        case rel => exact ⟨k + 1, s + x, by omega, by go_num, by rw [hh2.out]; first | done | rfl, by rw [hlo3.out], hst.out, hb.out⟩
        case measure => simp [intOf]; omega
      by_cases q : s < 0 ∧ x ≥ 0 ∧ s + x < 0
      · have hh : hi = 18446744073709551615 := by rw [hhse.out]; split <;> omega
        have hh2 : hiS (s + x) = 18446744073709551615 := by unfold hiS; split <;> omega
        have hl0 : lo = s + 18446744073709551616 := by rw [hlse.out]; omega
        have hux : IntKind.u64.wrap x = x := by rw [wrap_u64]; omega
        obtain ⟨lo3, hlo3⟩ : ∃ lo3, lo3 = lowS (s + x) := ⟨_, rfl⟩
        have hlo4 := low_in (s + x)
        rw [← hlo3] at hlo4
        obtain ⟨hlo5, hlo6⟩ := hlo4
        have ha1 : IntKind.u64.wrap (lo + IntKind.u64.wrap x) = lo3 := by rw [wrap_u64, hlo3, hl0, hux]; unfold lowS; omega
        have ha2 := ha1; rw [hux] at ha2
        have dc : decide (lo3 < IntKind.u64.wrap x) = false := by rw [hux, hlo3]; unfold lowS; simp; omega
        have dc2 := dc; rw [hux] at dc2
        have dx : decide (x < 0) = false := by simp; omega
        replace hh2 := Lib.hid hh2
        replace hlo3 := Lib.hid hlo3
        replace hux := Lib.hid hux
        replace hl0 := Lib.hid hl0
        replace q := Lib.hid q
        replace hhse := Lib.hid True.intro
        subst hh
        go_wp2_with fail
        go_roundw
        case rel => exact ⟨k + 1, s + x, by omega, by go_num, by rw [hh2.out]; first | done | rfl, by rw [hlo3.out], hst.out, hb.out⟩
        case measure => simp [intOf]; omega
      by_cases q : s < 0 ∧ x < 0
      · have hh : hi = 18446744073709551615 := by rw [hhse.out]; split <;> omega
        have hh2 : hiS (s + x) = 18446744073709551615 := by unfold hiS; split <;> omega
        have hl0 : lo = s + 18446744073709551616 := by rw [hlse.out]; omega
        have hux : IntKind.u64.wrap x = x + 18446744073709551616 := by rw [wrap_u64]; omega
        obtain ⟨lo3, hlo3⟩ : ∃ lo3, lo3 = lowS (s + x) := ⟨_, rfl⟩
        have hlo4 := low_in (s + x)
        rw [← hlo3] at hlo4
        obtain ⟨hlo5, hlo6⟩ := hlo4
        have ha1 : IntKind.u64.wrap (lo + IntKind.u64.wrap x) = lo3 := by rw [wrap_u64, hlo3, hl0, hux]; unfold lowS; omega
        skip
        have dc : decide (lo3 < IntKind.u64.wrap x) = true := by rw [hux, hlo3]; unfold lowS; simp; omega
        skip
        have dx : decide (x < 0) = true := by simp; omega
        replace hh2 := Lib.hid hh2
        replace hlo3 := Lib.hid hlo3
        replace hux := Lib.hid hux
        replace hl0 := Lib.hid hl0
        replace q := Lib.hid q
        replace hhse := Lib.hid True.intro
        subst hh
        go_wp2_with fail
        go_roundw
        case rel => exact ⟨k + 1, s + x, by omega, by go_num, by rw [hh2.out]; first | done | rfl, by rw [hlo3.out], hst.out, hb.out⟩
        case measure => simp [intOf]; omega
      omega
    · have hk : k = n := by omega
      subst hk
      have hF : Hid (s = xs.sum) := by show _ = _; rw [hse.out, List.take_of_length_le (by have := hl.out; omega)]
      by_cases q : s < 0
      · have hh : hiS s = 18446744073709551615 := by unfold hiS; rw [if_pos q]
        have hl0 : lowS s = s + 18446744073709551616 := by unfold lowS; omega
        rw [hh]
        have hcv : IntKind.i64.wrap (lowS s) = s := by rw [wrap_i64, hl0]; omega
        obtain ⟨lo, hlo⟩ : ∃ lo, lo = lowS s := ⟨_, rfl⟩
        rw [← hlo] at hcv hlo1 hlo2 ⊢
        replace hlo := Lib.hid hlo
        replace hh := Lib.hid hh
        replace hl0 := Lib.hid hl0
        have dq : decide (0 ≤ s) = false := by simp; omega
        have dq2 : decide (s < 0) = true := by simp; omega
        clear hhi1 hhi2
        replace q := Lib.hid q
        go_wp2_with fail
        exact bodyPost_ret (v := .tuple #[.int .i64 s, .int .i64 0]) (by simp [results, Try.results33, go_sem]) rfl ⟨by rw [hF.out], hb.out⟩
      · have hh : hiS s = 0 := by unfold hiS; rw [if_neg q]
        have hl0 : lowS s = s := by unfold lowS; omega
        rw [hh, hl0]
        have dq : decide (0 ≤ s) = true := by simp; omega
        have dq2 : decide (s < 0) = false := by simp; omega
        replace hh := Lib.hid hh
        replace hl0 := Lib.hid hl0
        clear hhi1 hhi2
        replace q := Lib.hid q
        go_wp2_with fail
        exact bodyPost_ret (v := .tuple #[.int .i64 s, .int .i64 0]) (by simp [results, Try.results33, go_sem]) rfl ⟨by rw [hF.out], hb.out⟩
theorem partN_any (x : It) (w : World) : Calls Try.prog 47 #[itV x] w fun e w' => e = .returned (.int .i64 x.net) ∧ Below w.heap.size w w' := by
  obtain ⟨kind, price, tax, qty, net, vat, gross⟩ := x
  simp only [itV]
  have hx := Lib.hid (Blk.new w 39 #[Value.int .i64 kind, Value.int .i64 price, Value.int .i64 tax, Value.int .i64 qty, Value.int .i64 net, Value.int .i64 vat, Value.int .i64 gross])
  have hb : Hid (Below w.heap.size w (w.alloc (.cells #[Value.int .i64 kind, Value.int .i64 price, Value.int .i64 tax, Value.int .i64 qty, Value.int .i64 net, Value.int .i64 vat, Value.int .i64 gross] 39))) := a1 w _
  obtain ⟨k0, k1, k2, k3, k4, k5, k6⟩ := cells7 ((w.alloc (.cells #[Value.int .i64 kind, Value.int .i64 price, Value.int .i64 tax, Value.int .i64 qty, Value.int .i64 net, Value.int .i64 vat, Value.int .i64 gross] 39))) (w.heap.size) (Value.int .i64 kind) (Value.int .i64 price) (Value.int .i64 tax) (Value.int .i64 qty) (Value.int .i64 net) (Value.int .i64 vat) (Value.int .i64 gross) (hx.out)
  go_enter Try.func47, Try.ntmps47
  go_wp2_with fail
  go_ret
  exact ⟨rfl, hb.out⟩
theorem partV_any (x : It) (w : World) : Calls Try.prog 42 #[itV x] w fun e w' => e = .returned (.int .i64 x.vat) ∧ Below w.heap.size w w' := by
  obtain ⟨kind, price, tax, qty, net, vat, gross⟩ := x
  simp only [itV]
  have hx := Lib.hid (Blk.new w 39 #[Value.int .i64 kind, Value.int .i64 price, Value.int .i64 tax, Value.int .i64 qty, Value.int .i64 net, Value.int .i64 vat, Value.int .i64 gross])
  have hb : Hid (Below w.heap.size w (w.alloc (.cells #[Value.int .i64 kind, Value.int .i64 price, Value.int .i64 tax, Value.int .i64 qty, Value.int .i64 net, Value.int .i64 vat, Value.int .i64 gross] 39))) := a1 w _
  obtain ⟨k0, k1, k2, k3, k4, k5, k6⟩ := cells7 ((w.alloc (.cells #[Value.int .i64 kind, Value.int .i64 price, Value.int .i64 tax, Value.int .i64 qty, Value.int .i64 net, Value.int .i64 vat, Value.int .i64 gross] 39))) (w.heap.size) (Value.int .i64 kind) (Value.int .i64 price) (Value.int .i64 tax) (Value.int .i64 qty) (Value.int .i64 net) (Value.int .i64 vat) (Value.int .i64 gross) (hx.out)
  go_enter Try.func42, Try.ntmps42
  go_wp2_with fail
  go_ret
  exact ⟨rfl, hb.out⟩
theorem partG_any (x : It) (w : World) : Calls Try.prog 43 #[itV x] w fun e w' => e = .returned (.int .i64 x.gross) ∧ Below w.heap.size w w' := by
  obtain ⟨kind, price, tax, qty, net, vat, gross⟩ := x
  simp only [itV]
  have hx := Lib.hid (Blk.new w 39 #[Value.int .i64 kind, Value.int .i64 price, Value.int .i64 tax, Value.int .i64 qty, Value.int .i64 net, Value.int .i64 vat, Value.int .i64 gross])
  have hb : Hid (Below w.heap.size w (w.alloc (.cells #[Value.int .i64 kind, Value.int .i64 price, Value.int .i64 tax, Value.int .i64 qty, Value.int .i64 net, Value.int .i64 vat, Value.int .i64 gross] 39))) := a1 w _
  obtain ⟨k0, k1, k2, k3, k4, k5, k6⟩ := cells7 ((w.alloc (.cells #[Value.int .i64 kind, Value.int .i64 price, Value.int .i64 tax, Value.int .i64 qty, Value.int .i64 net, Value.int .i64 vat, Value.int .i64 gross] 39))) (w.heap.size) (Value.int .i64 kind) (Value.int .i64 price) (Value.int .i64 tax) (Value.int .i64 qty) (Value.int .i64 net) (Value.int .i64 vat) (Value.int .i64 gross) (hx.out)
  go_enter Try.func43, Try.ntmps43
  go_wp2_with fail
  go_ret
  exact ⟨rfl, hb.out⟩
theorem made_int (n : Nat) : (madeCells #[.int .i64 0] (n * 1)).toList = flat iC (List.replicate n 0) := by
  induction n with
  | zero => simp [madeCells, flat]
  | succ n ih =>
    rw [List.replicate_succ', flat_append, flat_one, ← ih]
    unfold madeCells
    simp only [Array.toList_map, Array.toList_range]
    rw [show (n + 1) * 1 = n * 1 + 1 by omega, List.range_succ]
    simp only [List.map_append, List.map_cons, List.map_nil]
    congr 1
    simp only [List.size_toArray, List.length_cons, List.length_nil, Nat.zero_add, Nat.reduceAdd, Nat.mod_one]
    rfl
theorem fill_set {α β : Type} (f : α → β) (z : β) (l : List α) (n k : Nat) (hn : l.length = n) (hk : k < l.length) : ((l.take k).map f ++ List.replicate (n - k) z).set k (f l[k]) = (l.take (k + 1)).map f ++ List.replicate (n - (k + 1)) z := by
  have hlk : ((l.take k).map f).length = k := by rw [List.length_map, List.length_take]; omega
  rw [List.set_append_right _ _ (by omega), hlk, Nat.sub_self, show n - k = (n - (k + 1)) + 1 by omega, List.replicate_succ, List.set_cons_zero, List.take_succ_eq_append_getElem hk, List.map_append, List.append_assoc]
  rfl
theorem fill_len {α β : Type} (f : α → β) (z : β) (l : List α) (n k : Nat) (hn : l.length = n) (hk : k ≤ n) : ((l.take k).map f ++ List.replicate (n - k) z).length = n := by
  rw [List.length_append, List.length_map, List.length_take, List.length_replicate]; omega
theorem LOwn.apart {α : Type} {f : α → List Value} {s base : Nat} {e : TypeId} {w w' : World} {v : Value} {l : List α} {row : Option Nat} (h : LOwn f s e w base v l) (hg : w.grownBy w' row) (hne : ∀ g, v.ownBlock = some g → row ≠ some g) : LOwn f s e w' base v l :=
  ⟨h.1, World.ownsRow.kept h.2 hg (by
    cases e : v.ownBlock with
    | none => exact Or.inl rfl
    | some k => exact Or.inr (fun hk => hne k e hk.symm))⟩
set_option maxRecDepth 100000 in
set_option maxHeartbeats 4000000 in
theorem sumN_any (A : Option Addr) (n c : Nat) (l : List It) (w : World) (h : ItAt w A n l) (hn : n ≤ 64) (hs : ∀ y ∈ l.map (fun x : It => x.net), p45 y) : Calls Try.prog 41 #[.slice A n c, .func (.func 47) #[] #[]] w fun e w' => e = .returned (.tuple #[.int .i64 (l.map (fun x : It => x.net)).sum, .int .i64 0]) ∧ Below w.heap.size w w' := by
  have hl := Lib.hid h.len
  replace h := Lib.hid h
  replace hs := Lib.hid hs
  obtain ⟨i3, hi3, hz30, hz31, hz32⟩ := info_parts int_info
  have hmk := made_row (P := Try.prog) w 58 3 i3 _ 1 Try.underlying58 hi3 hz30 hz31 n n n n rfl rfl (Nat.le_refl _) (by rw [hz32]; omega) (by omega)
  have hMs := size_madeCells (Value.int .i64 0).cells (n * 1)
  have hMl : (madeCells (Value.int .i64 0).cells (n * 1)).toList = _ := made_int n
  obtain ⟨M, hM⟩ : ∃ M, M = madeCells (Value.int .i64 0).cells (n * 1) := ⟨_, rfl⟩
  rw [← hM] at hmk hMs hMl
  clear hM hi3 hz30 hz31 hz32
  have hrow0 := copied_own (w := (w.alloc (.cells M 3))) (base := w.heap.size) (g := w.heap.size) (e := 3) (l := List.replicate n 0) iC_len (c := n) (heap_alloc_new w (.cells M 3)) (by rw [hMl, List.take_of_length_le (by rw [flat_len iC_len]; exact Nat.le_refl _)]) (by rw [hMs]) (Nat.le_refl _) (by simp) (by simp only [maxLen]; omega)
  rw [List.length_replicate] at hrow0
  replace hrow0 := Lib.hid hrow0
  have hb0 : Hid (Below w.heap.size w (w.alloc (.cells M 3))) := a1 w _
  clear hMs hMl
  go_enter Try.func41, Try.ntmps41
  go_wp2_with fail
  clear hmk
  generalize (w.alloc (.cells M 3)) = w0 at *
  go_loopw [14] (fun i wr => ∃ k : Nat, k ≤ n ∧ i = .int .i64 k ∧ Hid (LOwn iC 1 3 wr w.heap.size (.slice (some ⟨w.heap.size, 0, none⟩) n n) ((l.take k).map (fun x : It => x.net) ++ List.replicate (n - k) 0)) ∧ Hid (Below w.heap.size w wr)) (fun i _ => n - (intOf i).toNat)
  case atStart => exact ⟨0, Nat.zero_le _, rfl, Lib.hid (by simpa using hrow0.out), hb0.out⟩
  case round =>
    clear hrow0 hb0
    obtain ⟨k, hkn, rfl, hrow, hb⟩ := hrel
    by_cases hlt : k < n
    · have hk0 : (0 : Int) ≤ k := by omega
      have hk1 : (k : Int) < n := by omega
      have hkl : k < l.length := by have := hl.out; omega
      obtain ⟨ad, hA, -, e0, e1, e2, e3, e4, e5, e6⟩ := it_cells (h.out.below hb.out (Nat.le_refl _)) hlt
      have hset := Lib.hid (fill_set (fun x : It => x.net) 0 l n k hl.out hkl)
      have hln := Lib.hid (fill_len (fun x : It => x.net) 0 l n k hl.out hkn)
      generalize l[k] = x at *
      obtain ⟨kind, price, tax, qty, net, vat, gross⟩ := x
      simp only at e0 e1 e2 e3 e4 e5 e6 hset
      subst hA
      have hbx : Hid (Below wr.heap.size wr (wr.alloc (.cells #[Value.int .i64 kind, Value.int .i64 price, Value.int .i64 tax, Value.int .i64 qty, Value.int .i64 net, Value.int .i64 vat, Value.int .i64 gross] 39))) := a1 wr _
      have hy := Blk.new wr 39 #[Value.int .i64 kind, Value.int .i64 price, Value.int .i64 tax, Value.int .i64 qty, Value.int .i64 net, Value.int .i64 vat, Value.int .i64 gross]
      obtain ⟨m0, m1, m2, m3, m4, m5, m6⟩ := cells7 ((wr.alloc (.cells #[Value.int .i64 kind, Value.int .i64 price, Value.int .i64 tax, Value.int .i64 qty, Value.int .i64 net, Value.int .i64 vat, Value.int .i64 gross] 39))) (wr.heap.size) (Value.int .i64 kind) (Value.int .i64 price) (Value.int .i64 tax) (Value.int .i64 qty) (Value.int .i64 net) (Value.int .i64 vat) (Value.int .i64 gross) (hy)
      clear hy
      go_wp2_with fail
      refine (partN_any ⟨kind, price, tax, qty, net, vat, gross⟩ (wr.alloc (.cells #[Value.int .i64 kind, Value.int .i64 price, Value.int .i64 tax, Value.int .i64 qty, Value.int .i64 net, Value.int .i64 vat, Value.int .i64 gross] 39))).mono ?_; rintro e w2 ⟨rfl, hq⟩
      have hq2 : Below wr.heap.size wr w2 := hbx.out.trans (hq.mono (by simp))
      have hrow2 := hrow.out.kept hq2
      obtain ⟨ad9, hA9, -, c0⟩ := int_cells (hrow2.reads hln.out.symm) hlt
      injection hA9 with hA9
      subst hA9
      rw [add_row] at c0
      generalize (((l.take k).map (fun x : It => x.net) ++ List.replicate (n - k) 0)[k]'(by rw [hln.out]; exact hlt)) = y at c0
      have z0 : w2.frozen? ⟨w.heap.size, k, none⟩ = false := hrow2.frozenAt hln.out.symm _
      have hst := hrow2.store hln.out.symm (by rw [hln.out]; exact hlt) net
      rw [hset.out, Nat.mul_one] at hst
      obtain ⟨hrow3, hg3⟩ := hst
      replace hrow3 := Lib.hid hrow3
      replace hg3 := Lib.hid hg3
      have hb2 : Hid (Below w.heap.size w w2) := hb.out.trans (hq2.mono hb.out.size)
      clear hrow2 hq hq2 m0 m1 m2 m3 m4 m5 m6
      go_wp2_with fail
      go_roundw
      case rel => exact ⟨k + 1, by omega, by go_num, hrow3.out, hb2.out.grown hg3.out hb2.out.size (fun g8 e8 => by injection e8 with e8; omega)⟩
      case measure => simp [intOf]; omega
    · have hk : k = n := by omega
      subst hk
      rw [Nat.sub_self, List.replicate_zero, List.append_nil, List.take_of_length_le (by rw [hl.out]; exact Nat.le_refl _)] at hrow
      have hr := Lib.hid (hrow.out.reads (by rw [List.length_map]; exact hl.out.symm))
      go_wp2_with fail
      refine (sum_any _ k k (l.map (fun x : It => x.net)) wr hr.out hn hs.out).mono ?_; rintro e w2 ⟨rfl, hq⟩
      have hb2 : Hid (Below w.heap.size w w2) := hb.out.trans (hq.mono hb.out.size)
      obtain ⟨S, hS⟩ : ∃ S, S = (l.map (fun x : It => x.net)).sum := ⟨_, rfl⟩
      rw [← hS]
      replace hS := Lib.hid hS
      go_wp2_with fail
      exact bodyPost_ret (v := .tuple #[.int .i64 S, .int .i64 0]) (by simp [results, Try.results41, go_sem]) rfl ⟨by rw [hS.out], hb2.out⟩
set_option maxRecDepth 100000 in
set_option maxHeartbeats 4000000 in
theorem sumV_any (A : Option Addr) (n c : Nat) (l : List It) (w : World) (h : ItAt w A n l) (hn : n ≤ 64) (hs : ∀ y ∈ l.map (fun x : It => x.vat), p45 y) : Calls Try.prog 41 #[.slice A n c, .func (.func 42) #[] #[]] w fun e w' => e = .returned (.tuple #[.int .i64 (l.map (fun x : It => x.vat)).sum, .int .i64 0]) ∧ Below w.heap.size w w' := by
  have hl := Lib.hid h.len
  replace h := Lib.hid h
  replace hs := Lib.hid hs
  obtain ⟨i3, hi3, hz30, hz31, hz32⟩ := info_parts int_info
  have hmk := made_row (P := Try.prog) w 58 3 i3 _ 1 Try.underlying58 hi3 hz30 hz31 n n n n rfl rfl (Nat.le_refl _) (by rw [hz32]; omega) (by omega)
  have hMs := size_madeCells (Value.int .i64 0).cells (n * 1)
  have hMl : (madeCells (Value.int .i64 0).cells (n * 1)).toList = _ := made_int n
  obtain ⟨M, hM⟩ : ∃ M, M = madeCells (Value.int .i64 0).cells (n * 1) := ⟨_, rfl⟩
  rw [← hM] at hmk hMs hMl
  clear hM hi3 hz30 hz31 hz32
  have hrow0 := copied_own (w := (w.alloc (.cells M 3))) (base := w.heap.size) (g := w.heap.size) (e := 3) (l := List.replicate n 0) iC_len (c := n) (heap_alloc_new w (.cells M 3)) (by rw [hMl, List.take_of_length_le (by rw [flat_len iC_len]; exact Nat.le_refl _)]) (by rw [hMs]) (Nat.le_refl _) (by simp) (by simp only [maxLen]; omega)
  rw [List.length_replicate] at hrow0
  replace hrow0 := Lib.hid hrow0
  have hb0 : Hid (Below w.heap.size w (w.alloc (.cells M 3))) := a1 w _
  clear hMs hMl
  go_enter Try.func41, Try.ntmps41
  go_wp2_with fail
  clear hmk
  generalize (w.alloc (.cells M 3)) = w0 at *
  go_loopw [14] (fun i wr => ∃ k : Nat, k ≤ n ∧ i = .int .i64 k ∧ Hid (LOwn iC 1 3 wr w.heap.size (.slice (some ⟨w.heap.size, 0, none⟩) n n) ((l.take k).map (fun x : It => x.vat) ++ List.replicate (n - k) 0)) ∧ Hid (Below w.heap.size w wr)) (fun i _ => n - (intOf i).toNat)
  case atStart => exact ⟨0, Nat.zero_le _, rfl, Lib.hid (by simpa using hrow0.out), hb0.out⟩
  case round =>
    clear hrow0 hb0
    obtain ⟨k, hkn, rfl, hrow, hb⟩ := hrel
    by_cases hlt : k < n
    · have hk0 : (0 : Int) ≤ k := by omega
      have hk1 : (k : Int) < n := by omega
      have hkl : k < l.length := by have := hl.out; omega
      obtain ⟨ad, hA, -, e0, e1, e2, e3, e4, e5, e6⟩ := it_cells (h.out.below hb.out (Nat.le_refl _)) hlt
      have hset := Lib.hid (fill_set (fun x : It => x.vat) 0 l n k hl.out hkl)
      have hln := Lib.hid (fill_len (fun x : It => x.vat) 0 l n k hl.out hkn)
      generalize l[k] = x at *
      obtain ⟨kind, price, tax, qty, net, vat, gross⟩ := x
      simp only at e0 e1 e2 e3 e4 e5 e6 hset
      subst hA
      have hbx : Hid (Below wr.heap.size wr (wr.alloc (.cells #[Value.int .i64 kind, Value.int .i64 price, Value.int .i64 tax, Value.int .i64 qty, Value.int .i64 net, Value.int .i64 vat, Value.int .i64 gross] 39))) := a1 wr _
      have hy := Blk.new wr 39 #[Value.int .i64 kind, Value.int .i64 price, Value.int .i64 tax, Value.int .i64 qty, Value.int .i64 net, Value.int .i64 vat, Value.int .i64 gross]
      obtain ⟨m0, m1, m2, m3, m4, m5, m6⟩ := cells7 ((wr.alloc (.cells #[Value.int .i64 kind, Value.int .i64 price, Value.int .i64 tax, Value.int .i64 qty, Value.int .i64 net, Value.int .i64 vat, Value.int .i64 gross] 39))) (wr.heap.size) (Value.int .i64 kind) (Value.int .i64 price) (Value.int .i64 tax) (Value.int .i64 qty) (Value.int .i64 net) (Value.int .i64 vat) (Value.int .i64 gross) (hy)
      clear hy
      go_wp2_with fail
      refine (partV_any ⟨kind, price, tax, qty, net, vat, gross⟩ (wr.alloc (.cells #[Value.int .i64 kind, Value.int .i64 price, Value.int .i64 tax, Value.int .i64 qty, Value.int .i64 net, Value.int .i64 vat, Value.int .i64 gross] 39))).mono ?_; rintro e w2 ⟨rfl, hq⟩
      have hq2 : Below wr.heap.size wr w2 := hbx.out.trans (hq.mono (by simp))
      have hrow2 := hrow.out.kept hq2
      obtain ⟨ad9, hA9, -, c0⟩ := int_cells (hrow2.reads hln.out.symm) hlt
      injection hA9 with hA9
      subst hA9
      rw [add_row] at c0
      generalize (((l.take k).map (fun x : It => x.vat) ++ List.replicate (n - k) 0)[k]'(by rw [hln.out]; exact hlt)) = y at c0
      have z0 : w2.frozen? ⟨w.heap.size, k, none⟩ = false := hrow2.frozenAt hln.out.symm _
      have hst := hrow2.store hln.out.symm (by rw [hln.out]; exact hlt) vat
      rw [hset.out, Nat.mul_one] at hst
      obtain ⟨hrow3, hg3⟩ := hst
      replace hrow3 := Lib.hid hrow3
      replace hg3 := Lib.hid hg3
      have hb2 : Hid (Below w.heap.size w w2) := hb.out.trans (hq2.mono hb.out.size)
      clear hrow2 hq hq2 m0 m1 m2 m3 m4 m5 m6
      go_wp2_with fail
      go_roundw
      case rel => exact ⟨k + 1, by omega, by go_num, hrow3.out, hb2.out.grown hg3.out hb2.out.size (fun g8 e8 => by injection e8 with e8; omega)⟩
      case measure => simp [intOf]; omega
    · have hk : k = n := by omega
      subst hk
      rw [Nat.sub_self, List.replicate_zero, List.append_nil, List.take_of_length_le (by rw [hl.out]; exact Nat.le_refl _)] at hrow
      have hr := Lib.hid (hrow.out.reads (by rw [List.length_map]; exact hl.out.symm))
      go_wp2_with fail
      refine (sum_any _ k k (l.map (fun x : It => x.vat)) wr hr.out hn hs.out).mono ?_; rintro e w2 ⟨rfl, hq⟩
      have hb2 : Hid (Below w.heap.size w w2) := hb.out.trans (hq.mono hb.out.size)
      obtain ⟨S, hS⟩ : ∃ S, S = (l.map (fun x : It => x.vat)).sum := ⟨_, rfl⟩
      rw [← hS]
      replace hS := Lib.hid hS
      go_wp2_with fail
      exact bodyPost_ret (v := .tuple #[.int .i64 S, .int .i64 0]) (by simp [results, Try.results41, go_sem]) rfl ⟨by rw [hS.out], hb2.out⟩
set_option maxRecDepth 100000 in
set_option maxHeartbeats 4000000 in
theorem sumG_any (A : Option Addr) (n c : Nat) (l : List It) (w : World) (h : ItAt w A n l) (hn : n ≤ 64) (hs : ∀ y ∈ l.map (fun x : It => x.gross), p45 y) : Calls Try.prog 41 #[.slice A n c, .func (.func 43) #[] #[]] w fun e w' => e = .returned (.tuple #[.int .i64 (l.map (fun x : It => x.gross)).sum, .int .i64 0]) ∧ Below w.heap.size w w' := by
  have hl := Lib.hid h.len
  replace h := Lib.hid h
  replace hs := Lib.hid hs
  obtain ⟨i3, hi3, hz30, hz31, hz32⟩ := info_parts int_info
  have hmk := made_row (P := Try.prog) w 58 3 i3 _ 1 Try.underlying58 hi3 hz30 hz31 n n n n rfl rfl (Nat.le_refl _) (by rw [hz32]; omega) (by omega)
  have hMs := size_madeCells (Value.int .i64 0).cells (n * 1)
  have hMl : (madeCells (Value.int .i64 0).cells (n * 1)).toList = _ := made_int n
  obtain ⟨M, hM⟩ : ∃ M, M = madeCells (Value.int .i64 0).cells (n * 1) := ⟨_, rfl⟩
  rw [← hM] at hmk hMs hMl
  clear hM hi3 hz30 hz31 hz32
  have hrow0 := copied_own (w := (w.alloc (.cells M 3))) (base := w.heap.size) (g := w.heap.size) (e := 3) (l := List.replicate n 0) iC_len (c := n) (heap_alloc_new w (.cells M 3)) (by rw [hMl, List.take_of_length_le (by rw [flat_len iC_len]; exact Nat.le_refl _)]) (by rw [hMs]) (Nat.le_refl _) (by simp) (by simp only [maxLen]; omega)
  rw [List.length_replicate] at hrow0
  replace hrow0 := Lib.hid hrow0
  have hb0 : Hid (Below w.heap.size w (w.alloc (.cells M 3))) := a1 w _
  clear hMs hMl
  go_enter Try.func41, Try.ntmps41
  go_wp2_with fail
  clear hmk
  generalize (w.alloc (.cells M 3)) = w0 at *
  go_loopw [14] (fun i wr => ∃ k : Nat, k ≤ n ∧ i = .int .i64 k ∧ Hid (LOwn iC 1 3 wr w.heap.size (.slice (some ⟨w.heap.size, 0, none⟩) n n) ((l.take k).map (fun x : It => x.gross) ++ List.replicate (n - k) 0)) ∧ Hid (Below w.heap.size w wr)) (fun i _ => n - (intOf i).toNat)
  case atStart => exact ⟨0, Nat.zero_le _, rfl, Lib.hid (by simpa using hrow0.out), hb0.out⟩
  case round =>
    clear hrow0 hb0
    obtain ⟨k, hkn, rfl, hrow, hb⟩ := hrel
    by_cases hlt : k < n
    · have hk0 : (0 : Int) ≤ k := by omega
      have hk1 : (k : Int) < n := by omega
      have hkl : k < l.length := by have := hl.out; omega
      obtain ⟨ad, hA, -, e0, e1, e2, e3, e4, e5, e6⟩ := it_cells (h.out.below hb.out (Nat.le_refl _)) hlt
      have hset := Lib.hid (fill_set (fun x : It => x.gross) 0 l n k hl.out hkl)
      have hln := Lib.hid (fill_len (fun x : It => x.gross) 0 l n k hl.out hkn)
      generalize l[k] = x at *
      obtain ⟨kind, price, tax, qty, net, vat, gross⟩ := x
      simp only at e0 e1 e2 e3 e4 e5 e6 hset
      subst hA
      have hbx : Hid (Below wr.heap.size wr (wr.alloc (.cells #[Value.int .i64 kind, Value.int .i64 price, Value.int .i64 tax, Value.int .i64 qty, Value.int .i64 net, Value.int .i64 vat, Value.int .i64 gross] 39))) := a1 wr _
      have hy := Blk.new wr 39 #[Value.int .i64 kind, Value.int .i64 price, Value.int .i64 tax, Value.int .i64 qty, Value.int .i64 net, Value.int .i64 vat, Value.int .i64 gross]
      obtain ⟨m0, m1, m2, m3, m4, m5, m6⟩ := cells7 ((wr.alloc (.cells #[Value.int .i64 kind, Value.int .i64 price, Value.int .i64 tax, Value.int .i64 qty, Value.int .i64 net, Value.int .i64 vat, Value.int .i64 gross] 39))) (wr.heap.size) (Value.int .i64 kind) (Value.int .i64 price) (Value.int .i64 tax) (Value.int .i64 qty) (Value.int .i64 net) (Value.int .i64 vat) (Value.int .i64 gross) (hy)
      clear hy
      go_wp2_with fail
      refine (partG_any ⟨kind, price, tax, qty, net, vat, gross⟩ (wr.alloc (.cells #[Value.int .i64 kind, Value.int .i64 price, Value.int .i64 tax, Value.int .i64 qty, Value.int .i64 net, Value.int .i64 vat, Value.int .i64 gross] 39))).mono ?_; rintro e w2 ⟨rfl, hq⟩
      have hq2 : Below wr.heap.size wr w2 := hbx.out.trans (hq.mono (by simp))
      have hrow2 := hrow.out.kept hq2
      obtain ⟨ad9, hA9, -, c0⟩ := int_cells (hrow2.reads hln.out.symm) hlt
      injection hA9 with hA9
      subst hA9
      rw [add_row] at c0
      generalize (((l.take k).map (fun x : It => x.gross) ++ List.replicate (n - k) 0)[k]'(by rw [hln.out]; exact hlt)) = y at c0
      have z0 : w2.frozen? ⟨w.heap.size, k, none⟩ = false := hrow2.frozenAt hln.out.symm _
      have hst := hrow2.store hln.out.symm (by rw [hln.out]; exact hlt) gross
      rw [hset.out, Nat.mul_one] at hst
      obtain ⟨hrow3, hg3⟩ := hst
      replace hrow3 := Lib.hid hrow3
      replace hg3 := Lib.hid hg3
      have hb2 : Hid (Below w.heap.size w w2) := hb.out.trans (hq2.mono hb.out.size)
      clear hrow2 hq hq2 m0 m1 m2 m3 m4 m5 m6
      go_wp2_with fail
      go_roundw
      case rel => exact ⟨k + 1, by omega, by go_num, hrow3.out, hb2.out.grown hg3.out hb2.out.size (fun g8 e8 => by injection e8 with e8; omega)⟩
      case measure => simp [intOf]; omega
    · have hk : k = n := by omega
      subst hk
      rw [Nat.sub_self, List.replicate_zero, List.append_nil, List.take_of_length_le (by rw [hl.out]; exact Nat.le_refl _)] at hrow
      have hr := Lib.hid (hrow.out.reads (by rw [List.length_map]; exact hl.out.symm))
      go_wp2_with fail
      refine (sum_any _ k k (l.map (fun x : It => x.gross)) wr hr.out hn hs.out).mono ?_; rintro e w2 ⟨rfl, hq⟩
      have hb2 : Hid (Below w.heap.size w w2) := hb.out.trans (hq.mono hb.out.size)
      obtain ⟨S, hS⟩ : ∃ S, S = (l.map (fun x : It => x.gross)).sum := ⟨_, rfl⟩
      rw [← hS]
      replace hS := Lib.hid hS
      go_wp2_with fail
      exact bodyPost_ret (v := .tuple #[.int .i64 S, .int .i64 0]) (by simp [results, Try.results41, go_sem]) rfl ⟨by rw [hS.out], hb2.out⟩
set_option maxRecDepth 100000 in
set_option maxHeartbeats 4000000 in
theorem netSum_any (A : Option Addr) (n c : Nat) (l : List It) (w : World) (h : ItAt w A n l) (hn : n ≤ 64) (hs : smallI l = true) : Calls Try.prog 40 #[.slice A n c] w fun e w' => e = .returned (.tuple #[.int .i64 (netS l), .int .i64 0]) ∧ Below w.heap.size w w' := by
  have hc : Hid (Calls Try.prog 41 #[.slice A n c, .func (.func 47) #[] #[]] w fun e w' => e = .returned (.tuple #[.int .i64 (netS l), .int .i64 0]) ∧ Below w.heap.size w w') := sumN_any A n c l w h hn (small_net hs)
  clear h hs
  generalize netS l = S at *
  go_enter Try.func40, Try.ntmps40
  go_wp2_with fail
  refine hc.out.mono ?_; rintro e w2 ⟨rfl, hq⟩
  replace hq := Lib.hid hq
  clear hc
  go_wp2_with fail
  exact bodyPost_ret (v := .tuple #[.int .i64 S, .int .i64 0]) (by simp [results, Try.results40, go_sem]) rfl ⟨rfl, hq.out⟩
set_option maxRecDepth 100000 in
set_option maxHeartbeats 4000000 in
theorem totals_any (A : Option Addr) (n c : Nat) (l : List It) (w : World) (h : ItAt w A n l) (hn : n ≤ 64) (hs : smallI l = true) : Calls Try.prog 36 #[.slice A n c] w fun e w' => e = .returned (.tuple #[.int .i64 (netS l), .int .i64 (vatS l), .int .i64 (grossS l), .int .i64 0]) ∧ Below w.heap.size w w' := by
  have hc1 : Hid (Calls Try.prog 40 #[.slice A n c] w fun e w' => e = .returned (.tuple #[.int .i64 (netS l), .int .i64 0]) ∧ Below w.heap.size w w') := netSum_any A n c l w h hn hs
  have hc2 : Hid (∀ wz, Below w.heap.size w wz → Calls Try.prog 41 #[.slice A n c, .func (.func 42) #[] #[]] wz fun e w' => e = .returned (.tuple #[.int .i64 (vatS l), .int .i64 0]) ∧ Below wz.heap.size wz w') := fun wz hz => sumV_any A n c l wz (h.more hz) hn (small_vat hs)
  have hc3 : Hid (∀ wz, Below w.heap.size w wz → Calls Try.prog 41 #[.slice A n c, .func (.func 43) #[] #[]] wz fun e w' => e = .returned (.tuple #[.int .i64 (grossS l), .int .i64 0]) ∧ Below wz.heap.size wz w') := fun wz hz => sumG_any A n c l wz (h.more hz) hn (small_gross hs)
  clear h hs
  generalize netS l = S1 at *
  generalize vatS l = S2 at *
  generalize grossS l = S3 at *
  go_enter Try.func36, Try.ntmps36
  go_wp2_with fail
  refine hc1.out.mono ?_; rintro e w1 ⟨rfl, hq1⟩
  replace hq1 := Lib.hid hq1
  go_wp2_with fail
  refine (hc2.out w1 hq1.out).mono ?_; rintro e w2 ⟨rfl, hq⟩
  have hq2 := Lib.hid (hq1.out.trans (hq.mono hq1.out.size))
  clear hq
  go_wp2_with fail
  refine (hc3.out w2 hq2.out).mono ?_; rintro e w3 ⟨rfl, hq⟩
  have hq3 := Lib.hid (hq2.out.trans (hq.mono hq2.out.size))
  clear hq hc1 hc2 hc3
  go_wp2_with fail
  exact bodyPost_ret (v := .tuple #[.int .i64 S1, .int .i64 S2, .int .i64 S3, .int .i64 0]) (by simp [results, Try.results36, go_sem]) rfl ⟨rfl, hq3.out⟩
set_option maxRecDepth 100000 in
set_option maxHeartbeats 4000000 in
theorem nets_any (A : Option Addr) (n c : Nat) (l : List It) (w : World) (h : ItAt w A n l) (hn : n ≤ 100000) : Calls Try.prog 34 #[.slice A n c] w fun e w' => (∃ v, e = .returned v ∧ LOwn iC 1 3 w' w.heap.size v (l.map (fun x : It => x.net))) ∧ Below w.heap.size w w' := by
  have hl := Lib.hid h.len
  replace h := Lib.hid h
  obtain ⟨i3, hi3, hz30, hz31, hz32⟩ := info_parts int_info
  replace hi3 := Lib.hid hi3
  replace hz30 := Lib.hid hz30
  replace hz31 := Lib.hid hz31
  replace hz32 := Lib.hid hz32
  go_enter Try.func34, Try.ntmps34
  go_wp2_with fail
  go_loopw [4, 3] (fun i u wr => ∃ k : Nat, k ≤ n ∧ i = .int .i64 k ∧ Hid (LOwn iC 1 3 wr w.heap.size u ((l.take k).map (fun x : It => x.net))) ∧ Hid (Below w.heap.size w wr)) (fun i _ _ => n - (intOf i).toNat)
  case atStart => exact ⟨0, Nat.zero_le _, rfl, LOwn.nil iC_len _ _, Below.refl _ _⟩
  case round =>
    obtain ⟨k, hkn, rfl, hrow, hb⟩ := hrel
    by_cases hlt : k < n
    · have hk0 : (0 : Int) ≤ k := by omega
      have hk1 : (k : Int) < n := by omega
      have hkl : k < l.length := by have := hl.out; omega
      have hlk : Hid (((l.take k).map (fun x : It => x.net)).length = k) := by show _ = _; rw [List.length_map, List.length_take]; omega
      obtain ⟨A5, c5, hv5, -, -, -, -⟩ := hrow.out.form
      rw [hlk.out] at hv5
      subst hv5
      obtain ⟨ad, hA, -, e0, e1, e2, e3, e4, e5, e6⟩ := it_cells (h.out.below hb.out (Nat.le_refl _)) hlt
      have hst : Hid ((l.take (k + 1)).map (fun x : It => x.net) = ((l.take k).map (fun x : It => x.net)) ++ [l[k].net]) := by show _ = _; rw [List.take_succ_eq_append_getElem hkl, List.map_append]; rfl
      generalize l[k].net = net at *
      subst hA
      have hrd : Hid (Reads (wr.alloc (.cells #[Value.int .i64 net] 3)) (wr.heap.size + 1) 1 (some ⟨wr.heap.size, 0, none⟩) 1 (flat iC [net])) := (lit_at (e := 3) iC_len wr [net] #[Value.int .i64 net] (by simp [flat, iC])).2
      have hrow2 := Lib.hid (hrow.out.alloc (.cells #[Value.int .i64 net] 3))
      have hb2 : Hid (Below w.heap.size w (wr.alloc (.cells #[Value.int .i64 net] 3))) := hb.out.alloc hb.out.size _
      have hown2 := hrow2.out.2
      rw [hlk.out] at hown2
      replace hown2 := Lib.hid hown2
      have hsz := hb.out.size
      clear hrow hb e0 e1 e2 e3 e5 e6
      go_wp2_with (at_builtin; refine wpList_append_any _ rfl (.tmp 11) (.tmp 17) _ rfl w.heap.size 3 i3 _ 1 8 Try.underlying58 hi3.out hz30.out hz31.out hz32.out rfl (by omega) (Value.slice A5 k c5) k (flat iC ((l.take k).map (fun x : It => x.net))) rfl hown2.out (wr.heap.size + 1) (some ⟨wr.heap.size, 0, none⟩) 1 1 (flat iC [net]) rfl hrd.out (iC_one _) (by simp only [maxLen]; omega) (by omega) (by simp; omega) ?_
                   intro v' w1 hown1 hg1 hat1
                   have hb3 : Hid (Below w.heap.size w w1) := hb2.out.grown hg1 hb2.out.size (fun g8 e8 => by have := World.ownsRow.lt hrow2.out.2 _ e8; omega)
                   have hrow3 : Hid (LOwn iC 1 3 w1 w.heap.size v' ((l.take (k + 1)).map (fun x : It => x.net))) := ⟨iC_len, by rw [hst.out, List.length_append, flat_append, hlk.out]; exact hown1⟩
                   clear hown1 hg1 hat1)
      go_roundw
      case rel => exact ⟨k + 1, by omega, by go_num, hrow3.out, hb3.out⟩
      case measure => simp [intOf]; omega
    · have hk : k = n := by omega
      subst hk
      rw [List.take_of_length_le (by rw [hl.out]; exact Nat.le_refl _)] at hrow
      go_wp2_with fail
      go_ret
      exact ⟨⟨_, rfl, hrow.out⟩, hb.out⟩
end Go.Proofs.Ytadgdbakgmjekaa
