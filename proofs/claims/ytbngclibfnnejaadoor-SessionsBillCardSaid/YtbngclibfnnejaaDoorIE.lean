/- Invoices: the reference's Totals, and Negate of both, walked. -/
import Derived.Test.YtbngclibfnnejaaDoorID
set_option linter.unusedVariables false
set_option linter.unusedSimpArgs false
namespace Go.Proofs.YtbngclibfnnejaaDoor
open Go.RowKit
theorem own_lt {α : Type} {f : α → List Value} {s base : Nat} {e : TypeId} {w : World} {v : Value} {l : List α} (h : LOwn f s e w base v l) {g : Nat} (hg : v.ownBlock = some g) : base ≤ g ∧ g < w.heap.size := World.ownsRow.lt h.2 g hg
theorem int_info2 : True := trivial
theorem made_it (n : Nat) : (madeCells #[.int .i64 0, .int .i64 0, .int .i64 0, .int .i64 0, .int .i64 0, .int .i64 0, .int .i64 0] (n * 7)).toList = flat itC (List.replicate n ⟨0, 0, 0, 0, 0, 0, 0⟩) := by
  induction n with
  | zero => simp [madeCells, flat]
  | succ n ih =>
    rw [List.replicate_succ', flat_append, flat_one, ← ih]
    unfold madeCells
    simp only [Array.toList_map, Array.toList_range]
    rw [show (n + 1) * 7 = n * 7 + 1 + 1 + 1 + 1 + 1 + 1 + 1 by omega, List.range_succ, List.range_succ, List.range_succ, List.range_succ, List.range_succ, List.range_succ, List.range_succ]
    simp only [List.map_append, List.map_cons, List.map_nil, List.append_assoc]
    congr 1
    show [_, _, _, _, _, _, _] = [_, _, _, _, _, _, _]
    simp only [List.size_toArray, List.length_cons, List.length_nil, Nat.zero_add, Nat.reduceAdd] at *
    rw [show n * 7 % 7 = 0 by omega, show (n * 7 + 1) % 7 = 1 by omega, show (n * 7 + 1 + 1) % 7 = 2 by omega, show (n * 7 + 1 + 1 + 1) % 7 = 3 by omega, show (n * 7 + 1 + 1 + 1 + 1) % 7 = 4 by omega, show (n * 7 + 1 + 1 + 1 + 1 + 1) % 7 = 5 by omega, show (n * 7 + 1 + 1 + 1 + 1 + 1 + 1) % 7 = 6 by omega]
    rfl
theorem small_at {l : List It} (h : smallI l = true) {k : Nat} (hk : k < l.length) : itemB l[k] = true := by
  unfold smallI at h
  rw [List.all_eq_true] at h
  exact h _ (List.getElem_mem hk)
set_option maxRecDepth 100000 in
set_option maxHeartbeats 8000000 in
theorem negate_any (A : Option Addr) (n c : Nat) (l : List It) (w : World) (h : ItAt w A n l) (hn : n ≤ 100000) (hs : smallI l = true) : Calls Tryd.prog 37 #[.slice A n c] w fun e w' => (∃ v, e = .returned v ∧ LOwn itC 7 90 w' w.heap.size v (l.map negIt)) ∧ Below w.heap.size w w' := by
  have hl := Lib.hid h.len
  replace h := Lib.hid h
  replace hs := Lib.hid hs
  obtain ⟨i39, hi39, hz390, hz391, hz392⟩ := info_parts it_info
  have hmk := made_row (P := Tryd.prog) w 52 90 i39 _ 7 Tryd.underlying52 hi39 hz390 hz391 n n n n rfl rfl (Nat.le_refl _) (by rw [hz392]; omega) (by omega)
  have hMs := size_madeCells (Value.agg #[.int .i64 0, .int .i64 0, .int .i64 0, .int .i64 0, .int .i64 0, .int .i64 0, .int .i64 0]).cells (n * 7)
  have hMl : (madeCells (Value.agg #[.int .i64 0, .int .i64 0, .int .i64 0, .int .i64 0, .int .i64 0, .int .i64 0, .int .i64 0]).cells (n * 7)).toList = _ := made_it n
  obtain ⟨M, hM⟩ : ∃ M, M = madeCells (Value.agg #[.int .i64 0, .int .i64 0, .int .i64 0, .int .i64 0, .int .i64 0, .int .i64 0, .int .i64 0]).cells (n * 7) := ⟨_, rfl⟩
  rw [← hM] at hmk hMs hMl
  clear hM hi39 hz390 hz391 hz392
  have hrow0 := copied_own (w := (w.alloc (.cells M 90))) (base := w.heap.size) (g := w.heap.size) (e := 90) (l := List.replicate n ⟨0, 0, 0, 0, 0, 0, 0⟩) itC_len (c := n) (heap_alloc_new w (.cells M 90)) (by rw [hMl, List.take_of_length_le (by rw [flat_len itC_len]; exact Nat.le_refl _)]) (by rw [hMs]) (Nat.le_refl _) (by simp) (by simp only [maxLen]; omega)
  rw [List.length_replicate] at hrow0
  replace hrow0 := Lib.hid hrow0
  have hb0 : Hid (Below w.heap.size w (w.alloc (.cells M 90))) := a1 w _
  clear hMs hMl
  go_enter Tryd.func37, Tryd.ntmps37
  go_wp2_with fail
  clear hmk
  generalize (w.alloc (.cells M 90)) = w0 at *
  go_loopw [11] (fun i wr => ∃ k : Nat, k ≤ n ∧ i = .int .i64 k ∧ Hid (LOwn itC 7 90 wr w.heap.size (.slice (some ⟨w.heap.size, 0, none⟩) n n) ((l.take k).map negIt ++ List.replicate (n - k) ⟨0, 0, 0, 0, 0, 0, 0⟩)) ∧ Hid (Below w.heap.size w wr)) (fun i _ => n - (intOf i).toNat)
  case atStart => exact ⟨0, Nat.zero_le _, rfl, Lib.hid (by simpa using hrow0.out), hb0.out⟩
  case round =>
    clear hrow0 hb0
    obtain ⟨k, hkn, rfl, hrow, hb⟩ := hrel
    by_cases hlt : k < n
    · have hk0 : (0 : Int) ≤ k := by omega
      have hk1 : (k : Int) < n := by omega
      have hkl : k < l.length := by have := hl.out; omega
      obtain ⟨ad, hA, -, e0, e1, e2, e3, e4, e5, e6⟩ := it_cells (h.out.below hb.out (Nat.le_refl _)) hlt
      have hset := Lib.hid (fill_set negIt ⟨0, 0, 0, 0, 0, 0, 0⟩ l n k hl.out hkl)
      have hln := Lib.hid (fill_len negIt ⟨0, 0, 0, 0, 0, 0, 0⟩ l n k hl.out hkn)
      obtain ⟨⟨p1, p2⟩, ⟨p3, p4⟩, ⟨p5, p6⟩, ⟨p7, p8⟩⟩ := item_parts (small_at hs.out hkl)
      generalize l[k] = x at *
      obtain ⟨kind, price, tax, qty, net, vat, gross⟩ := x
      simp only [negIt] at e0 e1 e2 e3 e4 e5 e6 hset p1 p2 p3 p4 p5 p6 p7 p8
      subst hA
      have hbx : Hid (Below wr.heap.size wr (wr.alloc (.cells #[Value.int .i64 kind, Value.int .i64 (-price), Value.int .i64 tax, Value.int .i64 qty, Value.int .i64 (-net), Value.int .i64 (-vat), Value.int .i64 (-gross)] 90))) := a1 wr _
      have hy := Blk.new wr 90 #[Value.int .i64 kind, Value.int .i64 price, Value.int .i64 tax, Value.int .i64 qty, Value.int .i64 net, Value.int .i64 vat, Value.int .i64 gross]
      obtain ⟨m0, m1, m2, m3, m4, m5, m6, mz0, mz1, mz2, mz3, mz4, mz5, mz6⟩ := cells7z ((wr.alloc (.cells #[Value.int .i64 kind, Value.int .i64 price, Value.int .i64 tax, Value.int .i64 qty, Value.int .i64 net, Value.int .i64 vat, Value.int .i64 gross] 90))) (wr.heap.size) (Value.int .i64 kind) (Value.int .i64 price) (Value.int .i64 tax) (Value.int .i64 qty) (Value.int .i64 net) (Value.int .i64 vat) (Value.int .i64 gross) (hy)
      clear hy
      have hy := Blk.new wr 90 #[Value.int .i64 kind, Value.int .i64 (-price), Value.int .i64 tax, Value.int .i64 qty, Value.int .i64 (-net), Value.int .i64 (-vat), Value.int .i64 (-gross)]
      obtain ⟨t0, t1, t2, t3, t4, t5, t6⟩ := cells7 ((wr.alloc (.cells #[Value.int .i64 kind, Value.int .i64 (-price), Value.int .i64 tax, Value.int .i64 qty, Value.int .i64 (-net), Value.int .i64 (-vat), Value.int .i64 (-gross)] 90))) (wr.heap.size) (Value.int .i64 kind) (Value.int .i64 (-price)) (Value.int .i64 tax) (Value.int .i64 qty) (Value.int .i64 (-net)) (Value.int .i64 (-vat)) (Value.int .i64 (-gross)) (hy)
      clear hy
      have hrow2 := hrow.out.kept hbx.out
      obtain ⟨y, hy⟩ : ∃ y, y = ((l.take k).map negIt ++ List.replicate (n - k) ⟨0, 0, 0, 0, 0, 0, 0⟩)[k]'(by rw [hln.out]; exact hlt) := ⟨_, rfl⟩
      have hcc : ∀ j, j < 7 → (wr.alloc (.cells #[Value.int .i64 kind, Value.int .i64 (-price), Value.int .i64 tax, Value.int .i64 qty, Value.int .i64 (-net), Value.int .i64 (-vat), Value.int .i64 (-gross)] 90)).cell? ⟨w.heap.size, k * 7 + j, none⟩ = (itC y)[j]? := fun j hj => by
        rw [hy]
        exact hrow2.cellAt hln.out.symm (k := k) (by rw [hln.out]; exact hlt) hj
      have c0 : (wr.alloc (.cells #[Value.int .i64 kind, Value.int .i64 (-price), Value.int .i64 tax, Value.int .i64 qty, Value.int .i64 (-net), Value.int .i64 (-vat), Value.int .i64 (-gross)] 90)).cell? ⟨w.heap.size, k * 7, none⟩ = some (Value.int .i64 y.kind) := hcc 0 (by decide)
      have c1 : (wr.alloc (.cells #[Value.int .i64 kind, Value.int .i64 (-price), Value.int .i64 tax, Value.int .i64 qty, Value.int .i64 (-net), Value.int .i64 (-vat), Value.int .i64 (-gross)] 90)).cell? ⟨w.heap.size, k * 7 + 1, none⟩ = some (Value.int .i64 y.price) := hcc 1 (by decide)
      have c2 : (wr.alloc (.cells #[Value.int .i64 kind, Value.int .i64 (-price), Value.int .i64 tax, Value.int .i64 qty, Value.int .i64 (-net), Value.int .i64 (-vat), Value.int .i64 (-gross)] 90)).cell? ⟨w.heap.size, k * 7 + 2, none⟩ = some (Value.int .i64 y.tax) := hcc 2 (by decide)
      have c3 : (wr.alloc (.cells #[Value.int .i64 kind, Value.int .i64 (-price), Value.int .i64 tax, Value.int .i64 qty, Value.int .i64 (-net), Value.int .i64 (-vat), Value.int .i64 (-gross)] 90)).cell? ⟨w.heap.size, k * 7 + 3, none⟩ = some (Value.int .i64 y.qty) := hcc 3 (by decide)
      have c4 : (wr.alloc (.cells #[Value.int .i64 kind, Value.int .i64 (-price), Value.int .i64 tax, Value.int .i64 qty, Value.int .i64 (-net), Value.int .i64 (-vat), Value.int .i64 (-gross)] 90)).cell? ⟨w.heap.size, k * 7 + 4, none⟩ = some (Value.int .i64 y.net) := hcc 4 (by decide)
      have c5 : (wr.alloc (.cells #[Value.int .i64 kind, Value.int .i64 (-price), Value.int .i64 tax, Value.int .i64 qty, Value.int .i64 (-net), Value.int .i64 (-vat), Value.int .i64 (-gross)] 90)).cell? ⟨w.heap.size, k * 7 + 5, none⟩ = some (Value.int .i64 y.vat) := hcc 5 (by decide)
      have c6 : (wr.alloc (.cells #[Value.int .i64 kind, Value.int .i64 (-price), Value.int .i64 tax, Value.int .i64 qty, Value.int .i64 (-net), Value.int .i64 (-vat), Value.int .i64 (-gross)] 90)).cell? ⟨w.heap.size, k * 7 + 6, none⟩ = some (Value.int .i64 y.gross) := hcc 6 (by decide)
      have z0 : (wr.alloc (.cells #[Value.int .i64 kind, Value.int .i64 (-price), Value.int .i64 tax, Value.int .i64 qty, Value.int .i64 (-net), Value.int .i64 (-vat), Value.int .i64 (-gross)] 90)).frozen? ⟨w.heap.size, k * 7, none⟩ = false := hrow2.frozenAt hln.out.symm _
      have z1 : (wr.alloc (.cells #[Value.int .i64 kind, Value.int .i64 (-price), Value.int .i64 tax, Value.int .i64 qty, Value.int .i64 (-net), Value.int .i64 (-vat), Value.int .i64 (-gross)] 90)).frozen? ⟨w.heap.size, k * 7 + 1, none⟩ = false := hrow2.frozenAt hln.out.symm _
      have z2 : (wr.alloc (.cells #[Value.int .i64 kind, Value.int .i64 (-price), Value.int .i64 tax, Value.int .i64 qty, Value.int .i64 (-net), Value.int .i64 (-vat), Value.int .i64 (-gross)] 90)).frozen? ⟨w.heap.size, k * 7 + 2, none⟩ = false := hrow2.frozenAt hln.out.symm _
      have z3 : (wr.alloc (.cells #[Value.int .i64 kind, Value.int .i64 (-price), Value.int .i64 tax, Value.int .i64 qty, Value.int .i64 (-net), Value.int .i64 (-vat), Value.int .i64 (-gross)] 90)).frozen? ⟨w.heap.size, k * 7 + 3, none⟩ = false := hrow2.frozenAt hln.out.symm _
      have z4 : (wr.alloc (.cells #[Value.int .i64 kind, Value.int .i64 (-price), Value.int .i64 tax, Value.int .i64 qty, Value.int .i64 (-net), Value.int .i64 (-vat), Value.int .i64 (-gross)] 90)).frozen? ⟨w.heap.size, k * 7 + 4, none⟩ = false := hrow2.frozenAt hln.out.symm _
      have z5 : (wr.alloc (.cells #[Value.int .i64 kind, Value.int .i64 (-price), Value.int .i64 tax, Value.int .i64 qty, Value.int .i64 (-net), Value.int .i64 (-vat), Value.int .i64 (-gross)] 90)).frozen? ⟨w.heap.size, k * 7 + 5, none⟩ = false := hrow2.frozenAt hln.out.symm _
      have z6 : (wr.alloc (.cells #[Value.int .i64 kind, Value.int .i64 (-price), Value.int .i64 tax, Value.int .i64 qty, Value.int .i64 (-net), Value.int .i64 (-vat), Value.int .i64 (-gross)] 90)).frozen? ⟨w.heap.size, k * 7 + 6, none⟩ = false := hrow2.frozenAt hln.out.symm _
      have hst := hrow2.store hln.out.symm (by rw [hln.out]; exact hlt) (⟨kind, -price, tax, qty, -net, -vat, -gross⟩ : It)
      rw [hset.out] at hst
      obtain ⟨hrow3, hg3⟩ := hst
      replace hrow3 := Lib.hid hrow3
      replace hg3 := Lib.hid hg3
      have hb2 : Hid (Below w.heap.size w (wr.alloc (.cells #[Value.int .i64 kind, Value.int .i64 (-price), Value.int .i64 tax, Value.int .i64 qty, Value.int .i64 (-net), Value.int .i64 (-vat), Value.int .i64 (-gross)] 90))) := hb.out.trans (hbx.out.mono hb.out.size)
      clear hrow2 hcc hy
      go_wp2_with fail
      go_roundw
      case rel => exact ⟨k + 1, by omega, by go_num, hrow3.out, hb2.out.grown hg3.out hb2.out.size (fun g8 e8 => by injection e8 with e8; omega)⟩
      case measure => simp [intOf]; omega
    · have hk : k = n := by omega
      subst hk
      rw [Nat.sub_self, List.replicate_zero, List.append_nil, List.take_of_length_le (by rw [hl.out]; exact Nat.le_refl _)] at hrow
      go_wp2_with fail
      go_ret
      exact ⟨⟨_, rfl, hrow.out⟩, hb.out⟩
end Go.Proofs.YtbngclibfnnejaaDoor
