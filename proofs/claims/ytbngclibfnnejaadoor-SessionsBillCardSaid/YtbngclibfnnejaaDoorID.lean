/- Invoices: sums of items, walked. -/
import Derived.Test.YtbngclibfnnejaaDoorIC
set_option linter.unusedVariables false
set_option linter.unusedSimpArgs false
namespace Go.Proofs.YtbngclibfnnejaaDoor
open Go.RowKit
theorem partN_any (x : It) (w : World) : Calls Tryd.prog 46 #[itV x] w fun e w' => e = .returned (.int .i64 x.net) ∧ Below w.heap.size w w' := by
  obtain ⟨kind, price, tax, qty, net, vat, gross⟩ := x
  simp only [itV]
  have hx := Lib.hid (Blk.new w 90 #[Value.int .i64 kind, Value.int .i64 price, Value.int .i64 tax, Value.int .i64 qty, Value.int .i64 net, Value.int .i64 vat, Value.int .i64 gross])
  have hb : Hid (Below w.heap.size w (w.alloc (.cells #[Value.int .i64 kind, Value.int .i64 price, Value.int .i64 tax, Value.int .i64 qty, Value.int .i64 net, Value.int .i64 vat, Value.int .i64 gross] 90))) := a1 w _
  obtain ⟨k0, k1, k2, k3, k4, k5, k6⟩ := cells7 ((w.alloc (.cells #[Value.int .i64 kind, Value.int .i64 price, Value.int .i64 tax, Value.int .i64 qty, Value.int .i64 net, Value.int .i64 vat, Value.int .i64 gross] 90))) (w.heap.size) (Value.int .i64 kind) (Value.int .i64 price) (Value.int .i64 tax) (Value.int .i64 qty) (Value.int .i64 net) (Value.int .i64 vat) (Value.int .i64 gross) (hx.out)
  go_enter Tryd.func46, Tryd.ntmps46
  go_wp2_with fail
  go_ret
  exact ⟨rfl, hb.out⟩
theorem partV_any (x : It) (w : World) : Calls Tryd.prog 34 #[itV x] w fun e w' => e = .returned (.int .i64 x.vat) ∧ Below w.heap.size w w' := by
  obtain ⟨kind, price, tax, qty, net, vat, gross⟩ := x
  simp only [itV]
  have hx := Lib.hid (Blk.new w 90 #[Value.int .i64 kind, Value.int .i64 price, Value.int .i64 tax, Value.int .i64 qty, Value.int .i64 net, Value.int .i64 vat, Value.int .i64 gross])
  have hb : Hid (Below w.heap.size w (w.alloc (.cells #[Value.int .i64 kind, Value.int .i64 price, Value.int .i64 tax, Value.int .i64 qty, Value.int .i64 net, Value.int .i64 vat, Value.int .i64 gross] 90))) := a1 w _
  obtain ⟨k0, k1, k2, k3, k4, k5, k6⟩ := cells7 ((w.alloc (.cells #[Value.int .i64 kind, Value.int .i64 price, Value.int .i64 tax, Value.int .i64 qty, Value.int .i64 net, Value.int .i64 vat, Value.int .i64 gross] 90))) (w.heap.size) (Value.int .i64 kind) (Value.int .i64 price) (Value.int .i64 tax) (Value.int .i64 qty) (Value.int .i64 net) (Value.int .i64 vat) (Value.int .i64 gross) (hx.out)
  go_enter Tryd.func34, Tryd.ntmps34
  go_wp2_with fail
  go_ret
  exact ⟨rfl, hb.out⟩
theorem partG_any (x : It) (w : World) : Calls Tryd.prog 35 #[itV x] w fun e w' => e = .returned (.int .i64 x.gross) ∧ Below w.heap.size w w' := by
  obtain ⟨kind, price, tax, qty, net, vat, gross⟩ := x
  simp only [itV]
  have hx := Lib.hid (Blk.new w 90 #[Value.int .i64 kind, Value.int .i64 price, Value.int .i64 tax, Value.int .i64 qty, Value.int .i64 net, Value.int .i64 vat, Value.int .i64 gross])
  have hb : Hid (Below w.heap.size w (w.alloc (.cells #[Value.int .i64 kind, Value.int .i64 price, Value.int .i64 tax, Value.int .i64 qty, Value.int .i64 net, Value.int .i64 vat, Value.int .i64 gross] 90))) := a1 w _
  obtain ⟨k0, k1, k2, k3, k4, k5, k6⟩ := cells7 ((w.alloc (.cells #[Value.int .i64 kind, Value.int .i64 price, Value.int .i64 tax, Value.int .i64 qty, Value.int .i64 net, Value.int .i64 vat, Value.int .i64 gross] 90))) (w.heap.size) (Value.int .i64 kind) (Value.int .i64 price) (Value.int .i64 tax) (Value.int .i64 qty) (Value.int .i64 net) (Value.int .i64 vat) (Value.int .i64 gross) (hx.out)
  go_enter Tryd.func35, Tryd.ntmps35
  go_wp2_with fail
  go_ret
  exact ⟨rfl, hb.out⟩
theorem made_int (n : Nat) : (madeCells #[.int .i64 0] (n * 1)).toList = flat iC (List.replicate n 0) := by
  induction n with
  | zero => simp [madeCells, flat]
  | succ n ih =>
    rw [List.replicate_succ', flat_append, flat_one, ← ih]
    unfold madeCells
    simp only [Array.toList_map, Array.toList_range]
    rw [show (n + 1) * 1 = n * 1 + 1 by omega, List.range_succ]
    simp only [List.map_append, List.map_cons, List.map_nil]
    congr 1
    simp only [List.size_toArray, List.length_cons, List.length_nil, Nat.zero_add, Nat.reduceAdd, Nat.mod_one]
    rfl
theorem fill_set {α β : Type} (f : α → β) (z : β) (l : List α) (n k : Nat) (hn : l.length = n) (hk : k < l.length) : ((l.take k).map f ++ List.replicate (n - k) z).set k (f l[k]) = (l.take (k + 1)).map f ++ List.replicate (n - (k + 1)) z := by
  have hlk : ((l.take k).map f).length = k := by rw [List.length_map, List.length_take]; omega
  rw [List.set_append_right _ _ (by omega), hlk, Nat.sub_self, show n - k = (n - (k + 1)) + 1 by omega, List.replicate_succ, List.set_cons_zero, List.take_succ_eq_append_getElem hk, List.map_append, List.append_assoc]
  rfl
theorem fill_len {α β : Type} (f : α → β) (z : β) (l : List α) (n k : Nat) (hn : l.length = n) (hk : k ≤ n) : ((l.take k).map f ++ List.replicate (n - k) z).length = n := by
  rw [List.length_append, List.length_map, List.length_take, List.length_replicate]; omega
theorem LOwn.apart {α : Type} {f : α → List Value} {s base : Nat} {e : TypeId} {w w' : World} {v : Value} {l : List α} {row : Option Nat} (h : LOwn f s e w base v l) (hg : w.grownBy w' row) (hne : ∀ g, v.ownBlock = some g → row ≠ some g) : LOwn f s e w' base v l :=
  ⟨h.1, World.ownsRow.kept h.2 hg (by
    cases e : v.ownBlock with
    | none => exact Or.inl rfl
    | some k => exact Or.inr (fun hk => hne k e hk.symm))⟩
set_option maxRecDepth 100000 in
set_option maxHeartbeats 4000000 in
theorem sumN_any (A : Option Addr) (n c : Nat) (l : List It) (w : World) (h : ItAt w A n l) (hn : n ≤ 64) (hs : ∀ y ∈ l.map (fun x : It => x.net), p45 y) : Calls Tryd.prog 33 #[.slice A n c, .func (.func 46) #[] #[]] w fun e w' => e = .returned (.tuple #[.int .i64 (l.map (fun x : It => x.net)).sum, .int .i64 0]) ∧ Below w.heap.size w w' := by
  have hl := Lib.hid h.len
  replace h := Lib.hid h
  replace hs := Lib.hid hs
  obtain ⟨i3, hi3, hz30, hz31, hz32⟩ := info_parts int_info
  have hmk := made_row (P := Tryd.prog) w 74 3 i3 _ 1 Tryd.underlying74 hi3 hz30 hz31 n n n n rfl rfl (Nat.le_refl _) (by rw [hz32]; omega) (by omega)
  have hMs := size_madeCells (Value.int .i64 0).cells (n * 1)
  have hMl : (madeCells (Value.int .i64 0).cells (n * 1)).toList = _ := made_int n
  obtain ⟨M, hM⟩ : ∃ M, M = madeCells (Value.int .i64 0).cells (n * 1) := ⟨_, rfl⟩
  rw [← hM] at hmk hMs hMl
  clear hM hi3 hz30 hz31 hz32
  have hrow0 := copied_own (w := (w.alloc (.cells M 3))) (base := w.heap.size) (g := w.heap.size) (e := 3) (l := List.replicate n 0) iC_len (c := n) (heap_alloc_new w (.cells M 3)) (by rw [hMl, List.take_of_length_le (by rw [flat_len iC_len]; exact Nat.le_refl _)]) (by rw [hMs]) (Nat.le_refl _) (by simp) (by simp only [maxLen]; omega)
  rw [List.length_replicate] at hrow0
  replace hrow0 := Lib.hid hrow0
  have hb0 : Hid (Below w.heap.size w (w.alloc (.cells M 3))) := a1 w _
  clear hMs hMl
  go_enter Tryd.func33, Tryd.ntmps33
  go_wp2_with fail
  clear hmk
  generalize (w.alloc (.cells M 3)) = w0 at *
  go_loopw [14] (fun i wr => ∃ k : Nat, k ≤ n ∧ i = .int .i64 k ∧ Hid (LOwn iC 1 3 wr w.heap.size (.slice (some ⟨w.heap.size, 0, none⟩) n n) ((l.take k).map (fun x : It => x.net) ++ List.replicate (n - k) 0)) ∧ Hid (Below w.heap.size w wr)) (fun i _ => n - (intOf i).toNat)
  case atStart => exact ⟨0, Nat.zero_le _, rfl, Lib.hid (by simpa using hrow0.out), hb0.out⟩
  case round =>
    clear hrow0 hb0
    obtain ⟨k, hkn, rfl, hrow, hb⟩ := hrel
    by_cases hlt : k < n
    · have hk0 : (0 : Int) ≤ k := by omega
      have hk1 : (k : Int) < n := by omega
      have hkl : k < l.length := by have := hl.out; omega
      obtain ⟨ad, hA, -, e0, e1, e2, e3, e4, e5, e6⟩ := it_cells (h.out.below hb.out (Nat.le_refl _)) hlt
      have hset := Lib.hid (fill_set (fun x : It => x.net) 0 l n k hl.out hkl)
      have hln := Lib.hid (fill_len (fun x : It => x.net) 0 l n k hl.out hkn)
      generalize l[k] = x at *
      obtain ⟨kind, price, tax, qty, net, vat, gross⟩ := x
      simp only at e0 e1 e2 e3 e4 e5 e6 hset
      subst hA
      have hbx : Hid (Below wr.heap.size wr (wr.alloc (.cells #[Value.int .i64 kind, Value.int .i64 price, Value.int .i64 tax, Value.int .i64 qty, Value.int .i64 net, Value.int .i64 vat, Value.int .i64 gross] 90))) := a1 wr _
      have hy := Blk.new wr 90 #[Value.int .i64 kind, Value.int .i64 price, Value.int .i64 tax, Value.int .i64 qty, Value.int .i64 net, Value.int .i64 vat, Value.int .i64 gross]
      obtain ⟨m0, m1, m2, m3, m4, m5, m6⟩ := cells7 ((wr.alloc (.cells #[Value.int .i64 kind, Value.int .i64 price, Value.int .i64 tax, Value.int .i64 qty, Value.int .i64 net, Value.int .i64 vat, Value.int .i64 gross] 90))) (wr.heap.size) (Value.int .i64 kind) (Value.int .i64 price) (Value.int .i64 tax) (Value.int .i64 qty) (Value.int .i64 net) (Value.int .i64 vat) (Value.int .i64 gross) (hy)
      clear hy
      go_wp2_with fail
      refine (partN_any ⟨kind, price, tax, qty, net, vat, gross⟩ (wr.alloc (.cells #[Value.int .i64 kind, Value.int .i64 price, Value.int .i64 tax, Value.int .i64 qty, Value.int .i64 net, Value.int .i64 vat, Value.int .i64 gross] 90))).mono ?_; rintro e w2 ⟨rfl, hq⟩
      have hq2 : Below wr.heap.size wr w2 := hbx.out.trans (hq.mono (by simp))
      have hrow2 := hrow.out.kept hq2
      obtain ⟨ad9, hA9, -, c0⟩ := int_cells (hrow2.reads hln.out.symm) hlt
      injection hA9 with hA9
      subst hA9
      rw [add_row] at c0
      generalize (((l.take k).map (fun x : It => x.net) ++ List.replicate (n - k) 0)[k]'(by rw [hln.out]; exact hlt)) = y at c0
      have z0 : w2.frozen? ⟨w.heap.size, k, none⟩ = false := hrow2.frozenAt hln.out.symm _
      have hst := hrow2.store hln.out.symm (by rw [hln.out]; exact hlt) net
      rw [hset.out, Nat.mul_one] at hst
      obtain ⟨hrow3, hg3⟩ := hst
      replace hrow3 := Lib.hid hrow3
      replace hg3 := Lib.hid hg3
      have hb2 : Hid (Below w.heap.size w w2) := hb.out.trans (hq2.mono hb.out.size)
      clear hrow2 hq hq2 m0 m1 m2 m3 m4 m5 m6
      go_wp2_with fail
      go_roundw
      case rel => exact ⟨k + 1, by omega, by go_num, hrow3.out, hb2.out.grown hg3.out hb2.out.size (fun g8 e8 => by injection e8 with e8; omega)⟩
      case measure => simp [intOf]; omega
    · have hk : k = n := by omega
      subst hk
      rw [Nat.sub_self, List.replicate_zero, List.append_nil, List.take_of_length_le (by rw [hl.out]; exact Nat.le_refl _)] at hrow
      have hr := Lib.hid (hrow.out.reads (by rw [List.length_map]; exact hl.out.symm))
      go_wp2_with fail
      refine (sum_any _ k k (l.map (fun x : It => x.net)) wr hr.out hn hs.out).mono ?_; rintro e w2 ⟨rfl, hq⟩
      have hb2 : Hid (Below w.heap.size w w2) := hb.out.trans (hq.mono hb.out.size)
      obtain ⟨S, hS⟩ : ∃ S, S = (l.map (fun x : It => x.net)).sum := ⟨_, rfl⟩
      rw [← hS]
      replace hS := Lib.hid hS
      go_wp2_with fail
      exact bodyPost_ret (v := .tuple #[.int .i64 S, .int .i64 0]) (by simp [results, Tryd.results33, go_sem]) rfl ⟨by rw [hS.out], hb2.out⟩
set_option maxRecDepth 100000 in
set_option maxHeartbeats 4000000 in
theorem sumV_any (A : Option Addr) (n c : Nat) (l : List It) (w : World) (h : ItAt w A n l) (hn : n ≤ 64) (hs : ∀ y ∈ l.map (fun x : It => x.vat), p45 y) : Calls Tryd.prog 33 #[.slice A n c, .func (.func 34) #[] #[]] w fun e w' => e = .returned (.tuple #[.int .i64 (l.map (fun x : It => x.vat)).sum, .int .i64 0]) ∧ Below w.heap.size w w' := by
  have hl := Lib.hid h.len
  replace h := Lib.hid h
  replace hs := Lib.hid hs
  obtain ⟨i3, hi3, hz30, hz31, hz32⟩ := info_parts int_info
  have hmk := made_row (P := Tryd.prog) w 74 3 i3 _ 1 Tryd.underlying74 hi3 hz30 hz31 n n n n rfl rfl (Nat.le_refl _) (by rw [hz32]; omega) (by omega)
  have hMs := size_madeCells (Value.int .i64 0).cells (n * 1)
  have hMl : (madeCells (Value.int .i64 0).cells (n * 1)).toList = _ := made_int n
  obtain ⟨M, hM⟩ : ∃ M, M = madeCells (Value.int .i64 0).cells (n * 1) := ⟨_, rfl⟩
  rw [← hM] at hmk hMs hMl
  clear hM hi3 hz30 hz31 hz32
  have hrow0 := copied_own (w := (w.alloc (.cells M 3))) (base := w.heap.size) (g := w.heap.size) (e := 3) (l := List.replicate n 0) iC_len (c := n) (heap_alloc_new w (.cells M 3)) (by rw [hMl, List.take_of_length_le (by rw [flat_len iC_len]; exact Nat.le_refl _)]) (by rw [hMs]) (Nat.le_refl _) (by simp) (by simp only [maxLen]; omega)
  rw [List.length_replicate] at hrow0
  replace hrow0 := Lib.hid hrow0
  have hb0 : Hid (Below w.heap.size w (w.alloc (.cells M 3))) := a1 w _
  clear hMs hMl
  go_enter Tryd.func33, Tryd.ntmps33
  go_wp2_with fail
  clear hmk
  generalize (w.alloc (.cells M 3)) = w0 at *
  go_loopw [14] (fun i wr => ∃ k : Nat, k ≤ n ∧ i = .int .i64 k ∧ Hid (LOwn iC 1 3 wr w.heap.size (.slice (some ⟨w.heap.size, 0, none⟩) n n) ((l.take k).map (fun x : It => x.vat) ++ List.replicate (n - k) 0)) ∧ Hid (Below w.heap.size w wr)) (fun i _ => n - (intOf i).toNat)
  case atStart => exact ⟨0, Nat.zero_le _, rfl, Lib.hid (by simpa using hrow0.out), hb0.out⟩
  case round =>
    clear hrow0 hb0
    obtain ⟨k, hkn, rfl, hrow, hb⟩ := hrel
    by_cases hlt : k < n
    · have hk0 : (0 : Int) ≤ k := by omega
      have hk1 : (k : Int) < n := by omega
      have hkl : k < l.length := by have := hl.out; omega
      obtain ⟨ad, hA, -, e0, e1, e2, e3, e4, e5, e6⟩ := it_cells (h.out.below hb.out (Nat.le_refl _)) hlt
      have hset := Lib.hid (fill_set (fun x : It => x.vat) 0 l n k hl.out hkl)
      have hln := Lib.hid (fill_len (fun x : It => x.vat) 0 l n k hl.out hkn)
      generalize l[k] = x at *
      obtain ⟨kind, price, tax, qty, net, vat, gross⟩ := x
      simp only at e0 e1 e2 e3 e4 e5 e6 hset
      subst hA
      have hbx : Hid (Below wr.heap.size wr (wr.alloc (.cells #[Value.int .i64 kind, Value.int .i64 price, Value.int .i64 tax, Value.int .i64 qty, Value.int .i64 net, Value.int .i64 vat, Value.int .i64 gross] 90))) := a1 wr _
      have hy := Blk.new wr 90 #[Value.int .i64 kind, Value.int .i64 price, Value.int .i64 tax, Value.int .i64 qty, Value.int .i64 net, Value.int .i64 vat, Value.int .i64 gross]
      obtain ⟨m0, m1, m2, m3, m4, m5, m6⟩ := cells7 ((wr.alloc (.cells #[Value.int .i64 kind, Value.int .i64 price, Value.int .i64 tax, Value.int .i64 qty, Value.int .i64 net, Value.int .i64 vat, Value.int .i64 gross] 90))) (wr.heap.size) (Value.int .i64 kind) (Value.int .i64 price) (Value.int .i64 tax) (Value.int .i64 qty) (Value.int .i64 net) (Value.int .i64 vat) (Value.int .i64 gross) (hy)
      clear hy
      go_wp2_with fail
      refine (partV_any ⟨kind, price, tax, qty, net, vat, gross⟩ (wr.alloc (.cells #[Value.int .i64 kind, Value.int .i64 price, Value.int .i64 tax, Value.int .i64 qty, Value.int .i64 net, Value.int .i64 vat, Value.int .i64 gross] 90))).mono ?_; rintro e w2 ⟨rfl, hq⟩
      have hq2 : Below wr.heap.size wr w2 := hbx.out.trans (hq.mono (by simp))
      have hrow2 := hrow.out.kept hq2
      obtain ⟨ad9, hA9, -, c0⟩ := int_cells (hrow2.reads hln.out.symm) hlt
      injection hA9 with hA9
      subst hA9
      rw [add_row] at c0
      generalize (((l.take k).map (fun x : It => x.vat) ++ List.replicate (n - k) 0)[k]'(by rw [hln.out]; exact hlt)) = y at c0
      have z0 : w2.frozen? ⟨w.heap.size, k, none⟩ = false := hrow2.frozenAt hln.out.symm _
      have hst := hrow2.store hln.out.symm (by rw [hln.out]; exact hlt) vat
      rw [hset.out, Nat.mul_one] at hst
      obtain ⟨hrow3, hg3⟩ := hst
      replace hrow3 := Lib.hid hrow3
      replace hg3 := Lib.hid hg3
      have hb2 : Hid (Below w.heap.size w w2) := hb.out.trans (hq2.mono hb.out.size)
      clear hrow2 hq hq2 m0 m1 m2 m3 m4 m5 m6
      go_wp2_with fail
      go_roundw
      case rel => exact ⟨k + 1, by omega, by go_num, hrow3.out, hb2.out.grown hg3.out hb2.out.size (fun g8 e8 => by injection e8 with e8; omega)⟩
      case measure => simp [intOf]; omega
    · have hk : k = n := by omega
      subst hk
      rw [Nat.sub_self, List.replicate_zero, List.append_nil, List.take_of_length_le (by rw [hl.out]; exact Nat.le_refl _)] at hrow
      have hr := Lib.hid (hrow.out.reads (by rw [List.length_map]; exact hl.out.symm))
      go_wp2_with fail
      refine (sum_any _ k k (l.map (fun x : It => x.vat)) wr hr.out hn hs.out).mono ?_; rintro e w2 ⟨rfl, hq⟩
      have hb2 : Hid (Below w.heap.size w w2) := hb.out.trans (hq.mono hb.out.size)
      obtain ⟨S, hS⟩ : ∃ S, S = (l.map (fun x : It => x.vat)).sum := ⟨_, rfl⟩
      rw [← hS]
      replace hS := Lib.hid hS
      go_wp2_with fail
      exact bodyPost_ret (v := .tuple #[.int .i64 S, .int .i64 0]) (by simp [results, Tryd.results33, go_sem]) rfl ⟨by rw [hS.out], hb2.out⟩
set_option maxRecDepth 100000 in
set_option maxHeartbeats 4000000 in
theorem sumG_any (A : Option Addr) (n c : Nat) (l : List It) (w : World) (h : ItAt w A n l) (hn : n ≤ 64) (hs : ∀ y ∈ l.map (fun x : It => x.gross), p45 y) : Calls Tryd.prog 33 #[.slice A n c, .func (.func 35) #[] #[]] w fun e w' => e = .returned (.tuple #[.int .i64 (l.map (fun x : It => x.gross)).sum, .int .i64 0]) ∧ Below w.heap.size w w' := by
  have hl := Lib.hid h.len
  replace h := Lib.hid h
  replace hs := Lib.hid hs
  obtain ⟨i3, hi3, hz30, hz31, hz32⟩ := info_parts int_info
  have hmk := made_row (P := Tryd.prog) w 74 3 i3 _ 1 Tryd.underlying74 hi3 hz30 hz31 n n n n rfl rfl (Nat.le_refl _) (by rw [hz32]; omega) (by omega)
  have hMs := size_madeCells (Value.int .i64 0).cells (n * 1)
  have hMl : (madeCells (Value.int .i64 0).cells (n * 1)).toList = _ := made_int n
  obtain ⟨M, hM⟩ : ∃ M, M = madeCells (Value.int .i64 0).cells (n * 1) := ⟨_, rfl⟩
  rw [← hM] at hmk hMs hMl
  clear hM hi3 hz30 hz31 hz32
  have hrow0 := copied_own (w := (w.alloc (.cells M 3))) (base := w.heap.size) (g := w.heap.size) (e := 3) (l := List.replicate n 0) iC_len (c := n) (heap_alloc_new w (.cells M 3)) (by rw [hMl, List.take_of_length_le (by rw [flat_len iC_len]; exact Nat.le_refl _)]) (by rw [hMs]) (Nat.le_refl _) (by simp) (by simp only [maxLen]; omega)
  rw [List.length_replicate] at hrow0
  replace hrow0 := Lib.hid hrow0
  have hb0 : Hid (Below w.heap.size w (w.alloc (.cells M 3))) := a1 w _
  clear hMs hMl
  go_enter Tryd.func33, Tryd.ntmps33
  go_wp2_with fail
  clear hmk
  generalize (w.alloc (.cells M 3)) = w0 at *
  go_loopw [14] (fun i wr => ∃ k : Nat, k ≤ n ∧ i = .int .i64 k ∧ Hid (LOwn iC 1 3 wr w.heap.size (.slice (some ⟨w.heap.size, 0, none⟩) n n) ((l.take k).map (fun x : It => x.gross) ++ List.replicate (n - k) 0)) ∧ Hid (Below w.heap.size w wr)) (fun i _ => n - (intOf i).toNat)
  case atStart => exact ⟨0, Nat.zero_le _, rfl, Lib.hid (by simpa using hrow0.out), hb0.out⟩
  case round =>
    clear hrow0 hb0
    obtain ⟨k, hkn, rfl, hrow, hb⟩ := hrel
    by_cases hlt : k < n
    · have hk0 : (0 : Int) ≤ k := by omega
      have hk1 : (k : Int) < n := by omega
      have hkl : k < l.length := by have := hl.out; omega
      obtain ⟨ad, hA, -, e0, e1, e2, e3, e4, e5, e6⟩ := it_cells (h.out.below hb.out (Nat.le_refl _)) hlt
      have hset := Lib.hid (fill_set (fun x : It => x.gross) 0 l n k hl.out hkl)
      have hln := Lib.hid (fill_len (fun x : It => x.gross) 0 l n k hl.out hkn)
      generalize l[k] = x at *
      obtain ⟨kind, price, tax, qty, net, vat, gross⟩ := x
      simp only at e0 e1 e2 e3 e4 e5 e6 hset
      subst hA
      have hbx : Hid (Below wr.heap.size wr (wr.alloc (.cells #[Value.int .i64 kind, Value.int .i64 price, Value.int .i64 tax, Value.int .i64 qty, Value.int .i64 net, Value.int .i64 vat, Value.int .i64 gross] 90))) := a1 wr _
      have hy := Blk.new wr 90 #[Value.int .i64 kind, Value.int .i64 price, Value.int .i64 tax, Value.int .i64 qty, Value.int .i64 net, Value.int .i64 vat, Value.int .i64 gross]
      obtain ⟨m0, m1, m2, m3, m4, m5, m6⟩ := cells7 ((wr.alloc (.cells #[Value.int .i64 kind, Value.int .i64 price, Value.int .i64 tax, Value.int .i64 qty, Value.int .i64 net, Value.int .i64 vat, Value.int .i64 gross] 90))) (wr.heap.size) (Value.int .i64 kind) (Value.int .i64 price) (Value.int .i64 tax) (Value.int .i64 qty) (Value.int .i64 net) (Value.int .i64 vat) (Value.int .i64 gross) (hy)
      clear hy
      go_wp2_with fail
      refine (partG_any ⟨kind, price, tax, qty, net, vat, gross⟩ (wr.alloc (.cells #[Value.int .i64 kind, Value.int .i64 price, Value.int .i64 tax, Value.int .i64 qty, Value.int .i64 net, Value.int .i64 vat, Value.int .i64 gross] 90))).mono ?_; rintro e w2 ⟨rfl, hq⟩
      have hq2 : Below wr.heap.size wr w2 := hbx.out.trans (hq.mono (by simp))
      have hrow2 := hrow.out.kept hq2
      obtain ⟨ad9, hA9, -, c0⟩ := int_cells (hrow2.reads hln.out.symm) hlt
      injection hA9 with hA9
      subst hA9
      rw [add_row] at c0
      generalize (((l.take k).map (fun x : It => x.gross) ++ List.replicate (n - k) 0)[k]'(by rw [hln.out]; exact hlt)) = y at c0
      have z0 : w2.frozen? ⟨w.heap.size, k, none⟩ = false := hrow2.frozenAt hln.out.symm _
      have hst := hrow2.store hln.out.symm (by rw [hln.out]; exact hlt) gross
      rw [hset.out, Nat.mul_one] at hst
      obtain ⟨hrow3, hg3⟩ := hst
      replace hrow3 := Lib.hid hrow3
      replace hg3 := Lib.hid hg3
      have hb2 : Hid (Below w.heap.size w w2) := hb.out.trans (hq2.mono hb.out.size)
      clear hrow2 hq hq2 m0 m1 m2 m3 m4 m5 m6
      go_wp2_with fail
      go_roundw
      case rel => exact ⟨k + 1, by omega, by go_num, hrow3.out, hb2.out.grown hg3.out hb2.out.size (fun g8 e8 => by injection e8 with e8; omega)⟩
      case measure => simp [intOf]; omega
    · have hk : k = n := by omega
      subst hk
      rw [Nat.sub_self, List.replicate_zero, List.append_nil, List.take_of_length_le (by rw [hl.out]; exact Nat.le_refl _)] at hrow
      have hr := Lib.hid (hrow.out.reads (by rw [List.length_map]; exact hl.out.symm))
      go_wp2_with fail
      refine (sum_any _ k k (l.map (fun x : It => x.gross)) wr hr.out hn hs.out).mono ?_; rintro e w2 ⟨rfl, hq⟩
      have hb2 : Hid (Below w.heap.size w w2) := hb.out.trans (hq.mono hb.out.size)
      obtain ⟨S, hS⟩ : ∃ S, S = (l.map (fun x : It => x.gross)).sum := ⟨_, rfl⟩
      rw [← hS]
      replace hS := Lib.hid hS
      go_wp2_with fail
      exact bodyPost_ret (v := .tuple #[.int .i64 S, .int .i64 0]) (by simp [results, Tryd.results33, go_sem]) rfl ⟨by rw [hS.out], hb2.out⟩
set_option maxRecDepth 100000 in
set_option maxHeartbeats 4000000 in
theorem netSum_any (A : Option Addr) (n c : Nat) (l : List It) (w : World) (h : ItAt w A n l) (hn : n ≤ 64) (hs : smallI l = true) : Calls Tryd.prog 32 #[.slice A n c] w fun e w' => e = .returned (.tuple #[.int .i64 (netS l), .int .i64 0]) ∧ Below w.heap.size w w' := by
  have hc : Hid (Calls Tryd.prog 33 #[.slice A n c, .func (.func 46) #[] #[]] w fun e w' => e = .returned (.tuple #[.int .i64 (netS l), .int .i64 0]) ∧ Below w.heap.size w w') := sumN_any A n c l w h hn (small_net hs)
  clear h hs
  generalize netS l = S at *
  go_enter Tryd.func32, Tryd.ntmps32
  go_wp2_with fail
  refine hc.out.mono ?_; rintro e w2 ⟨rfl, hq⟩
  replace hq := Lib.hid hq
  clear hc
  go_wp2_with fail
  exact bodyPost_ret (v := .tuple #[.int .i64 S, .int .i64 0]) (by simp [results, Tryd.results32, go_sem]) rfl ⟨rfl, hq.out⟩
set_option maxRecDepth 100000 in
set_option maxHeartbeats 4000000 in
theorem totals_any (A : Option Addr) (n c : Nat) (l : List It) (w : World) (h : ItAt w A n l) (hn : n ≤ 64) (hs : smallI l = true) : Calls Tryd.prog 13 #[.slice A n c] w fun e w' => e = .returned (.tuple #[.int .i64 (netS l), .int .i64 (vatS l), .int .i64 (grossS l), .int .i64 0]) ∧ Below w.heap.size w w' := by
  have hc1 : Hid (Calls Tryd.prog 32 #[.slice A n c] w fun e w' => e = .returned (.tuple #[.int .i64 (netS l), .int .i64 0]) ∧ Below w.heap.size w w') := netSum_any A n c l w h hn hs
  have hc2 : Hid (∀ wz, Below w.heap.size w wz → Calls Tryd.prog 33 #[.slice A n c, .func (.func 34) #[] #[]] wz fun e w' => e = .returned (.tuple #[.int .i64 (vatS l), .int .i64 0]) ∧ Below wz.heap.size wz w') := fun wz hz => sumV_any A n c l wz (h.more hz) hn (small_vat hs)
  have hc3 : Hid (∀ wz, Below w.heap.size w wz → Calls Tryd.prog 33 #[.slice A n c, .func (.func 35) #[] #[]] wz fun e w' => e = .returned (.tuple #[.int .i64 (grossS l), .int .i64 0]) ∧ Below wz.heap.size wz w') := fun wz hz => sumG_any A n c l wz (h.more hz) hn (small_gross hs)
  clear h hs
  generalize netS l = S1 at *
  generalize vatS l = S2 at *
  generalize grossS l = S3 at *
  go_enter Tryd.func13, Tryd.ntmps13
  go_wp2_with fail
  refine hc1.out.mono ?_; rintro e w1 ⟨rfl, hq1⟩
  replace hq1 := Lib.hid hq1
  go_wp2_with fail
  refine (hc2.out w1 hq1.out).mono ?_; rintro e w2 ⟨rfl, hq⟩
  have hq2 := Lib.hid (hq1.out.trans (hq.mono hq1.out.size))
  clear hq
  go_wp2_with fail
  refine (hc3.out w2 hq2.out).mono ?_; rintro e w3 ⟨rfl, hq⟩
  have hq3 := Lib.hid (hq2.out.trans (hq.mono hq2.out.size))
  clear hq hc1 hc2 hc3
  go_wp2_with fail
  exact bodyPost_ret (v := .tuple #[.int .i64 S1, .int .i64 S2, .int .i64 S3, .int .i64 0]) (by simp [results, Tryd.results13, go_sem]) rfl ⟨rfl, hq3.out⟩
end Go.Proofs.YtbngclibfnnejaaDoor
