/- Invoices: the reference's Totals, and Negate of both, walked. -/
import Derived.Test.YtadgdbakgmjekaaID
set_option linter.unusedVariables false
set_option linter.unusedSimpArgs false
namespace Go.Proofs.Ytadgdbakgmjekaa
open Go.RowKit
theorem own_lt {α : Type} {f : α → List Value} {s base : Nat} {e : TypeId} {w : World} {v : Value} {l : List α} (h : LOwn f s e w base v l) {g : Nat} (hg : v.ownBlock = some g) : base ≤ g ∧ g < w.heap.size := World.ownsRow.lt h.2 g hg
theorem int_info2 : True := trivial
set_option maxRecDepth 100000 in
set_option maxHeartbeats 8000000 in
theorem rtotals_any (A : Option Addr) (n c : Nat) (l : List It) (w : World) (h : ItAt w A n l) (hn : n ≤ 64) (hs : smallI l = true) : Calls Try.prog 17 #[.slice A n c] w fun e w' => e = .returned (.tuple #[.int .i64 (netS l), .int .i64 (vatS l), .int .i64 (grossS l), .int .i64 0]) ∧ Below w.heap.size w w' := by
  have hl := Lib.hid h.len
  have hs1 := Lib.hid (small_net hs)
  have hs2 := Lib.hid (small_vat hs)
  have hs3 := Lib.hid (small_gross hs)
  obtain ⟨S1, hS1⟩ : ∃ S, S = netS l := ⟨_, rfl⟩
  obtain ⟨S2, hS2⟩ : ∃ S, S = vatS l := ⟨_, rfl⟩
  obtain ⟨S3, hS3⟩ : ∃ S, S = grossS l := ⟨_, rfl⟩
  rw [← hS1, ← hS2, ← hS3]
  replace hS1 := Lib.hid hS1
  replace hS2 := Lib.hid hS2
  replace hS3 := Lib.hid hS3
  replace h := Lib.hid h
  clear hs
  obtain ⟨i3, hi3, hz30, hz31, hz32⟩ := info_parts int_info
  replace hi3 := Lib.hid hi3
  replace hz30 := Lib.hid hz30
  replace hz31 := Lib.hid hz31
  replace hz32 := Lib.hid hz32
  go_enter Try.func17, Try.ntmps17
  go_wp2_with fail
  go_loopw [8, 6, 7] (fun i u v wr => ∃ k : Nat, k ≤ n ∧ i = .int .i64 k ∧ Hid (LOwn iC 1 3 wr w.heap.size u ((l.take k).map (fun x : It => x.vat))) ∧ Hid (LOwn iC 1 3 wr w.heap.size v ((l.take k).map (fun x : It => x.gross))) ∧ Hid (∀ g, u.ownBlock = some g → v.ownBlock ≠ some g) ∧ Hid (Below w.heap.size w wr)) (fun i _ _ _ => n - (intOf i).toNat)
  case atStart => exact ⟨0, Nat.zero_le _, rfl, LOwn.nil iC_len _ _, LOwn.nil iC_len _ _, Lib.hid (fun g e => by simp [Value.ownBlock] at e), Below.refl _ _⟩
  case round =>
    obtain ⟨k, hkn, rfl, hrow, hrow7, hap, hb⟩ := hrel
    by_cases hlt : k < n
    · have hk0 : (0 : Int) ≤ k := by omega
      have hk1 : (k : Int) < n := by omega
      have hkl : k < l.length := by have := hl.out; omega
      have hlk : Hid (((l.take k).map (fun x : It => x.vat)).length = k) := by show _ = _; rw [List.length_map, List.length_take]; omega
      have hlk7 : Hid (((l.take k).map (fun x : It => x.gross)).length = k) := by show _ = _; rw [List.length_map, List.length_take]; omega
      obtain ⟨A5, c5, hv5, -, -, -, -⟩ := hrow.out.form
      rw [hlk.out] at hv5
      subst hv5
      obtain ⟨A6, c6, hv6, -, -, -, -⟩ := hrow7.out.form
      rw [hlk7.out] at hv6
      subst hv6
      obtain ⟨ad, hA, -, e0, e1, e2, e3, e4, e5, e6⟩ := it_cells (h.out.below hb.out (Nat.le_refl _)) hlt
      have hec : Hid (∀ wz, Below w.heap.size w wz → wz.cell? ⟨(ad.add (k * 7)).block, (ad.add (k * 7)).off + 6, none⟩ = some (Value.int .i64 l[k].gross)) := fun wz hz => by
        obtain ⟨ad2, hA2, -, t0, t1, t2, t3, t4, t5, t6⟩ := it_cells (h.out.below hz (Nat.le_refl _)) hlt
        rw [hA] at hA2
        injection hA2 with hA2
        subst hA2
        exact t6
      have hst : Hid ((l.take (k + 1)).map (fun x : It => x.vat) = ((l.take k).map (fun x : It => x.vat)) ++ [l[k].vat]) := by show _ = _; rw [List.take_succ_eq_append_getElem hkl, List.map_append]; rfl
      have hst7 : Hid ((l.take (k + 1)).map (fun x : It => x.gross) = ((l.take k).map (fun x : It => x.gross)) ++ [l[k].gross]) := by show _ = _; rw [List.take_succ_eq_append_getElem hkl, List.map_append]; rfl
      generalize l[k].vat = vat at *
      generalize l[k].gross = gross at *
      subst hA
      have hrd : Hid (Reads (wr.alloc (.cells #[Value.int .i64 vat] 3)) (wr.heap.size + 1) 1 (some ⟨wr.heap.size, 0, none⟩) 1 (flat iC [vat])) := (lit_at (e := 3) iC_len wr [vat] #[Value.int .i64 vat] (by simp [flat, iC])).2
      have hrow2 := Lib.hid (hrow.out.alloc (.cells #[Value.int .i64 vat] 3))
      have hrow72 := Lib.hid (hrow7.out.alloc (.cells #[Value.int .i64 vat] 3))
      have hb2 : Hid (Below w.heap.size w (wr.alloc (.cells #[Value.int .i64 vat] 3))) := hb.out.alloc hb.out.size _
      have hown2 := hrow2.out.2
      rw [hlk.out] at hown2
      replace hown2 := Lib.hid hown2
      have hsz := hb.out.size
      clear hrow hrow7 hb e0 e1 e2 e3 e4 e6
      go_wp2_with (first | (
                   at_builtin; refine wpList_append_any _ rfl (.tmp 21) (.tmp 27) _ rfl w.heap.size 3 i3 _ 1 8 Try.underlying58 hi3.out hz30.out hz31.out hz32.out rfl (by omega) (Value.slice A5 k c5) k (flat iC ((l.take k).map (fun x : It => x.vat))) rfl hown2.out (wr.heap.size + 1) (some ⟨wr.heap.size, 0, none⟩) 1 1 (flat iC [vat]) rfl hrd.out (iC_one _) (by simp only [maxLen]; omega) (by omega) (by simp; omega) ?_
                   intro v' w1 hown1 hg1 hat1
                   have hb3 : Hid (Below w.heap.size w w1) := hb2.out.grown hg1 hb2.out.size (fun g8 e8 => (own_lt hrow2.out e8).1)
                   have hrow3 : Hid (LOwn iC 1 3 w1 w.heap.size v' ((l.take (k + 1)).map (fun x : It => x.vat))) := ⟨iC_len, by rw [hst.out, List.length_append, flat_append, hlk.out]; exact hown1⟩
                   have hrow73 : Hid (LOwn iC 1 3 w1 w.heap.size (Value.slice A6 k c6) ((l.take k).map (fun x : It => x.gross))) := hrow72.out.apart hg1 (fun g e1 e2 => hap.out g e2 e1)
                   have hap3 : Hid (∀ g, v'.ownBlock = some g → (Value.slice A6 k c6).ownBlock ≠ some g) := fun g e1 e2 => by
                     rcases hat1 with e3 | e3
                     · rw [e3] at e1; exact hap.out g e1 e2
                     · rw [e3] at e1
                       injection e1 with e1
                       have := (own_lt hrow72.out e2).2
                       omega
                   have hsz1 := hb3.out.size
                   have e9 := hec.out w1 hb3.out
                   have hrd2 : Hid (Reads (w1.alloc (.cells #[Value.int .i64 gross] 3)) (w1.heap.size + 1) 1 (some ⟨w1.heap.size, 0, none⟩) 1 (flat iC [gross])) := (lit_at (e := 3) iC_len w1 [gross] #[Value.int .i64 gross] (by simp [flat, iC])).2
                   have hrow4 := Lib.hid (hrow3.out.alloc (.cells #[Value.int .i64 gross] 3))
                   have hrow74 := Lib.hid (hrow73.out.alloc (.cells #[Value.int .i64 gross] 3))
                   have hb4 : Hid (Below w.heap.size w (w1.alloc (.cells #[Value.int .i64 gross] 3))) := hb3.out.alloc hb3.out.size _
                   have hown7 := hrow74.out.2
                   rw [hlk7.out] at hown7
                   replace hown7 := Lib.hid hown7
                   clear hown1 hg1 hat1 hrow2 hrow72 hrow3 hrow73 hb2 hb3 hap) | (
                   at_builtin; refine wpList_append_any _ rfl (.tmp 29) (.tmp 35) _ rfl w.heap.size 3 i3 _ 1 8 Try.underlying58 hi3.out hz30.out hz31.out hz32.out rfl (by omega) (Value.slice A6 k c6) k (flat iC ((l.take k).map (fun x : It => x.gross))) rfl hown7.out (w1.heap.size + 1) (some ⟨w1.heap.size, 0, none⟩) 1 1 (flat iC [gross]) rfl hrd2.out (iC_one _) (by simp only [maxLen]; omega) (by omega) (by simp; omega) ?_
                   intro v7 w2 hown1 hg1 hat1
                   have hb5 : Hid (Below w.heap.size w w2) := hb4.out.grown hg1 hb4.out.size (fun g8 e8 => (own_lt hrow74.out e8).1)
                   have hrow75 : Hid (LOwn iC 1 3 w2 w.heap.size v7 ((l.take (k + 1)).map (fun x : It => x.gross))) := ⟨iC_len, by rw [hst7.out, List.length_append, flat_append, hlk7.out]; exact hown1⟩
                   have hrow5 : Hid (LOwn iC 1 3 w2 w.heap.size v' ((l.take (k + 1)).map (fun x : It => x.vat))) := hrow4.out.apart hg1 (fun g e1 e2 => hap3.out g e1 e2)
                   have hap5 : Hid (∀ g, v'.ownBlock = some g → v7.ownBlock ≠ some g) := fun g e1 e2 => by
                     rcases hat1 with e3 | e3
                     · rw [e3] at e2; exact hap3.out g e1 e2
                     · rw [e3] at e2
                       injection e2 with e2
                       have := (own_lt hrow4.out e1).2
                       omega
                   clear hown1 hg1 hat1))
      go_roundw
      case rel => exact ⟨k + 1, by omega, by go_num, hrow5.out, hrow75.out, hap5.out, hb5.out⟩
      case measure => simp [intOf]; omega
    · have hk : k = n := by omega
      subst hk
      rw [List.take_of_length_le (by rw [hl.out]; exact Nat.le_refl _)] at hrow hrow7
      have hlv : Hid ((l.map (fun x : It => x.vat)).length = k) := by show _ = _; rw [List.length_map]; exact hl.out
      have hlg : Hid ((l.map (fun x : It => x.gross)).length = k) := by show _ = _; rw [List.length_map]; exact hl.out
      have hln9 : Hid ((l.map (fun x : It => x.net)).length = k) := by show _ = _; rw [List.length_map]; exact hl.out
      obtain ⟨A5, c5, hv5, -, -, -, hr5⟩ := hrow.out.form
      rw [hlv.out] at hv5 hr5
      subst hv5
      obtain ⟨A6, c6, hv6, -, -, -, hr6⟩ := hrow7.out.form
      rw [hlg.out] at hv6 hr6
      subst hv6
      replace hr5 := Lib.hid hr5
      replace hr6 := Lib.hid hr6
      have hnt := Lib.hid (nets_any A k c l wr (h.out.more hb.out) (by omega))
      clear hrow hrow7 hap
      go_wp2_with fail
      refine hnt.out.mono ?_; rintro e w1 ⟨⟨v, rfl, hvn⟩, hq⟩
      obtain ⟨A7, c7, rfl, -, -, -, hr7⟩ := hvn.form
      rw [hln9.out] at hr7 ⊢
      have hb1 := Lib.hid (hb.out.trans (hq.mono hb.out.size))
      have hr51 := Lib.hid (hr5.out.more hq)
      have hr61 := Lib.hid (hr6.out.more hq)
      have hsc := Lib.hid (rsum_any A7 k c7 (l.map (fun x : It => x.net)) w1 hr7 hn hs1.out)
      rw [show (l.map (fun x : It => x.net)).sum = S1 from hS1.out.symm] at hsc
      clear hq hvn hnt hr5 hr6 hr7
      go_wp2_with fail
      refine hsc.out.mono ?_; rintro e w2 ⟨rfl, hq⟩
      have hb2 := Lib.hid (hb1.out.trans (hq.mono hb1.out.size))
      have hr52 := Lib.hid (hr51.out.more hq)
      have hr62 := Lib.hid (hr61.out.more hq)
      have hsc2 := Lib.hid (rsum_any A5 k c5 (l.map (fun x : It => x.vat)) w2 hr52.out hn hs2.out)
      rw [show (l.map (fun x : It => x.vat)).sum = S2 from hS2.out.symm] at hsc2
      clear hq hsc hr51 hr61
      go_wp2_with fail
      refine hsc2.out.mono ?_; rintro e w3 ⟨rfl, hq⟩
      have hb3 := Lib.hid (hb2.out.trans (hq.mono hb2.out.size))
      have hr63 := Lib.hid (hr62.out.more hq)
      have hsc3 := Lib.hid (rsum_any A6 k c6 (l.map (fun x : It => x.gross)) w3 hr63.out hn hs3.out)
      rw [show (l.map (fun x : It => x.gross)).sum = S3 from hS3.out.symm] at hsc3
      clear hq hsc2 hr52 hr62
      go_wp2_with fail
      refine hsc3.out.mono ?_; rintro e w4 ⟨rfl, hq⟩
      have hb4 := Lib.hid (hb3.out.trans (hq.mono hb3.out.size))
      clear hq hsc3 hr63
      go_wp2_with fail
      exact bodyPost_ret (v := .tuple #[.int .i64 S1, .int .i64 S2, .int .i64 S3, .int .i64 0]) (by simp [results, Try.results17, go_sem]) rfl ⟨rfl, hb4.out⟩
theorem made_it (n : Nat) : (madeCells #[.int .i64 0, .int .i64 0, .int .i64 0, .int .i64 0, .int .i64 0, .int .i64 0, .int .i64 0] (n * 7)).toList = flat itC (List.replicate n ⟨0, 0, 0, 0, 0, 0, 0⟩) := by
  induction n with
  | zero => simp [madeCells, flat]
  | succ n ih =>
    rw [List.replicate_succ', flat_append, flat_one, ← ih]
    unfold madeCells
    simp only [Array.toList_map, Array.toList_range]
    rw [show (n + 1) * 7 = n * 7 + 1 + 1 + 1 + 1 + 1 + 1 + 1 by omega, List.range_succ, List.range_succ, List.range_succ, List.range_succ, List.range_succ, List.range_succ, List.range_succ]
    simp only [List.map_append, List.map_cons, List.map_nil, List.append_assoc]
    congr 1
    show [_, _, _, _, _, _, _] = [_, _, _, _, _, _, _]
    simp only [List.size_toArray, List.length_cons, List.length_nil, Nat.zero_add, Nat.reduceAdd] at *
    rw [show n * 7 % 7 = 0 by omega, show (n * 7 + 1) % 7 = 1 by omega, show (n * 7 + 1 + 1) % 7 = 2 by omega, show (n * 7 + 1 + 1 + 1) % 7 = 3 by omega, show (n * 7 + 1 + 1 + 1 + 1) % 7 = 4 by omega, show (n * 7 + 1 + 1 + 1 + 1 + 1) % 7 = 5 by omega, show (n * 7 + 1 + 1 + 1 + 1 + 1 + 1) % 7 = 6 by omega]
    rfl
theorem small_at {l : List It} (h : smallI l = true) {k : Nat} (hk : k < l.length) : itemB l[k] = true := by
  unfold smallI at h
  rw [List.all_eq_true] at h
  exact h _ (List.getElem_mem hk)
set_option maxRecDepth 100000 in
set_option maxHeartbeats 8000000 in
theorem negate_any (A : Option Addr) (n c : Nat) (l : List It) (w : World) (h : ItAt w A n l) (hn : n ≤ 100000) (hs : smallI l = true) : Calls Try.prog 30 #[.slice A n c] w fun e w' => (∃ v, e = .returned v ∧ LOwn itC 7 39 w' w.heap.size v (l.map negIt)) ∧ Below w.heap.size w w' := by
  have hl := Lib.hid h.len
  replace h := Lib.hid h
  replace hs := Lib.hid hs
  obtain ⟨i39, hi39, hz390, hz391, hz392⟩ := info_parts it_info
  have hmk := made_row (P := Try.prog) w 28 39 i39 _ 7 Try.underlying28 hi39 hz390 hz391 n n n n rfl rfl (Nat.le_refl _) (by rw [hz392]; omega) (by omega)
  have hMs := size_madeCells (Value.agg #[.int .i64 0, .int .i64 0, .int .i64 0, .int .i64 0, .int .i64 0, .int .i64 0, .int .i64 0]).cells (n * 7)
  have hMl : (madeCells (Value.agg #[.int .i64 0, .int .i64 0, .int .i64 0, .int .i64 0, .int .i64 0, .int .i64 0, .int .i64 0]).cells (n * 7)).toList = _ := made_it n
  obtain ⟨M, hM⟩ : ∃ M, M = madeCells (Value.agg #[.int .i64 0, .int .i64 0, .int .i64 0, .int .i64 0, .int .i64 0, .int .i64 0, .int .i64 0]).cells (n * 7) := ⟨_, rfl⟩
  rw [← hM] at hmk hMs hMl
  clear hM hi39 hz390 hz391 hz392
  have hrow0 := copied_own (w := (w.alloc (.cells M 39))) (base := w.heap.size) (g := w.heap.size) (e := 39) (l := List.replicate n ⟨0, 0, 0, 0, 0, 0, 0⟩) itC_len (c := n) (heap_alloc_new w (.cells M 39)) (by rw [hMl, List.take_of_length_le (by rw [flat_len itC_len]; exact Nat.le_refl _)]) (by rw [hMs]) (Nat.le_refl _) (by simp) (by simp only [maxLen]; omega)
  rw [List.length_replicate] at hrow0
  replace hrow0 := Lib.hid hrow0
  have hb0 : Hid (Below w.heap.size w (w.alloc (.cells M 39))) := a1 w _
  clear hMs hMl
  go_enter Try.func30, Try.ntmps30
  go_wp2_with fail
  clear hmk
  generalize (w.alloc (.cells M 39)) = w0 at *
  go_loopw [11] (fun i wr => ∃ k : Nat, k ≤ n ∧ i = .int .i64 k ∧ Hid (LOwn itC 7 39 wr w.heap.size (.slice (some ⟨w.heap.size, 0, none⟩) n n) ((l.take k).map negIt ++ List.replicate (n - k) ⟨0, 0, 0, 0, 0, 0, 0⟩)) ∧ Hid (Below w.heap.size w wr)) (fun i _ => n - (intOf i).toNat)
  case atStart => exact ⟨0, Nat.zero_le _, rfl, Lib.hid (by simpa using hrow0.out), hb0.out⟩
  case round =>
    clear hrow0 hb0
    obtain ⟨k, hkn, rfl, hrow, hb⟩ := hrel
    by_cases hlt : k < n
    · have hk0 : (0 : Int) ≤ k := by omega
      have hk1 : (k : Int) < n := by omega
      have hkl : k < l.length := by have := hl.out; omega
      obtain ⟨ad, hA, -, e0, e1, e2, e3, e4, e5, e6⟩ := it_cells (h.out.below hb.out (Nat.le_refl _)) hlt
      have hset := Lib.hid (fill_set negIt ⟨0, 0, 0, 0, 0, 0, 0⟩ l n k hl.out hkl)
      have hln := Lib.hid (fill_len negIt ⟨0, 0, 0, 0, 0, 0, 0⟩ l n k hl.out hkn)
      obtain ⟨⟨p1, p2⟩, ⟨p3, p4⟩, ⟨p5, p6⟩, ⟨p7, p8⟩⟩ := item_parts (small_at hs.out hkl)
      generalize l[k] = x at *
      obtain ⟨kind, price, tax, qty, net, vat, gross⟩ := x
      simp only [negIt] at e0 e1 e2 e3 e4 e5 e6 hset p1 p2 p3 p4 p5 p6 p7 p8
      subst hA
      have hbx : Hid (Below wr.heap.size wr (wr.alloc (.cells #[Value.int .i64 kind, Value.int .i64 (-price), Value.int .i64 tax, Value.int .i64 qty, Value.int .i64 (-net), Value.int .i64 (-vat), Value.int .i64 (-gross)] 39))) := a1 wr _
      have hy := Blk.new wr 39 #[Value.int .i64 kind, Value.int .i64 price, Value.int .i64 tax, Value.int .i64 qty, Value.int .i64 net, Value.int .i64 vat, Value.int .i64 gross]
      obtain ⟨m0, m1, m2, m3, m4, m5, m6, mz0, mz1, mz2, mz3, mz4, mz5, mz6⟩ := cells7z ((wr.alloc (.cells #[Value.int .i64 kind, Value.int .i64 price, Value.int .i64 tax, Value.int .i64 qty, Value.int .i64 net, Value.int .i64 vat, Value.int .i64 gross] 39))) (wr.heap.size) (Value.int .i64 kind) (Value.int .i64 price) (Value.int .i64 tax) (Value.int .i64 qty) (Value.int .i64 net) (Value.int .i64 vat) (Value.int .i64 gross) (hy)
      clear hy
      have hy := Blk.new wr 39 #[Value.int .i64 kind, Value.int .i64 (-price), Value.int .i64 tax, Value.int .i64 qty, Value.int .i64 (-net), Value.int .i64 (-vat), Value.int .i64 (-gross)]
      obtain ⟨t0, t1, t2, t3, t4, t5, t6⟩ := cells7 ((wr.alloc (.cells #[Value.int .i64 kind, Value.int .i64 (-price), Value.int .i64 tax, Value.int .i64 qty, Value.int .i64 (-net), Value.int .i64 (-vat), Value.int .i64 (-gross)] 39))) (wr.heap.size) (Value.int .i64 kind) (Value.int .i64 (-price)) (Value.int .i64 tax) (Value.int .i64 qty) (Value.int .i64 (-net)) (Value.int .i64 (-vat)) (Value.int .i64 (-gross)) (hy)
      clear hy
      have hrow2 := hrow.out.kept hbx.out
      obtain ⟨y, hy⟩ : ∃ y, y = ((l.take k).map negIt ++ List.replicate (n - k) ⟨0, 0, 0, 0, 0, 0, 0⟩)[k]'(by rw [hln.out]; exact hlt) := ⟨_, rfl⟩
      have hcc : ∀ j, j < 7 → (wr.alloc (.cells #[Value.int .i64 kind, Value.int .i64 (-price), Value.int .i64 tax, Value.int .i64 qty, Value.int .i64 (-net), Value.int .i64 (-vat), Value.int .i64 (-gross)] 39)).cell? ⟨w.heap.size, k * 7 + j, none⟩ = (itC y)[j]? := fun j hj => by
        rw [hy]
        exact hrow2.cellAt hln.out.symm (k := k) (by rw [hln.out]; exact hlt) hj
      have c0 : (wr.alloc (.cells #[Value.int .i64 kind, Value.int .i64 (-price), Value.int .i64 tax, Value.int .i64 qty, Value.int .i64 (-net), Value.int .i64 (-vat), Value.int .i64 (-gross)] 39)).cell? ⟨w.heap.size, k * 7, none⟩ = some (Value.int .i64 y.kind) := hcc 0 (by decide)
      have c1 : (wr.alloc (.cells #[Value.int .i64 kind, Value.int .i64 (-price), Value.int .i64 tax, Value.int .i64 qty, Value.int .i64 (-net), Value.int .i64 (-vat), Value.int .i64 (-gross)] 39)).cell? ⟨w.heap.size, k * 7 + 1, none⟩ = some (Value.int .i64 y.price) := hcc 1 (by decide)
      have c2 : (wr.alloc (.cells #[Value.int .i64 kind, Value.int .i64 (-price), Value.int .i64 tax, Value.int .i64 qty, Value.int .i64 (-net), Value.int .i64 (-vat), Value.int .i64 (-gross)] 39)).cell? ⟨w.heap.size, k * 7 + 2, none⟩ = some (Value.int .i64 y.tax) := hcc 2 (by decide)
      have c3 : (wr.alloc (.cells #[Value.int .i64 kind, Value.int .i64 (-price), Value.int .i64 tax, Value.int .i64 qty, Value.int .i64 (-net), Value.int .i64 (-vat), Value.int .i64 (-gross)] 39)).cell? ⟨w.heap.size, k * 7 + 3, none⟩ = some (Value.int .i64 y.qty) := hcc 3 (by decide)
      have c4 : (wr.alloc (.cells #[Value.int .i64 kind, Value.int .i64 (-price), Value.int .i64 tax, Value.int .i64 qty, Value.int .i64 (-net), Value.int .i64 (-vat), Value.int .i64 (-gross)] 39)).cell? ⟨w.heap.size, k * 7 + 4, none⟩ = some (Value.int .i64 y.net) := hcc 4 (by decide)
      have c5 : (wr.alloc (.cells #[Value.int .i64 kind, Value.int .i64 (-price), Value.int .i64 tax, Value.int .i64 qty, Value.int .i64 (-net), Value.int .i64 (-vat), Value.int .i64 (-gross)] 39)).cell? ⟨w.heap.size, k * 7 + 5, none⟩ = some (Value.int .i64 y.vat) := hcc 5 (by decide)
      have c6 : (wr.alloc (.cells #[Value.int .i64 kind, Value.int .i64 (-price), Value.int .i64 tax, Value.int .i64 qty, Value.int .i64 (-net), Value.int .i64 (-vat), Value.int .i64 (-gross)] 39)).cell? ⟨w.heap.size, k * 7 + 6, none⟩ = some (Value.int .i64 y.gross) := hcc 6 (by decide)
      have z0 : (wr.alloc (.cells #[Value.int .i64 kind, Value.int .i64 (-price), Value.int .i64 tax, Value.int .i64 qty, Value.int .i64 (-net), Value.int .i64 (-vat), Value.int .i64 (-gross)] 39)).frozen? ⟨w.heap.size, k * 7, none⟩ = false := hrow2.frozenAt hln.out.symm _
      have z1 : (wr.alloc (.cells #[Value.int .i64 kind, Value.int .i64 (-price), Value.int .i64 tax, Value.int .i64 qty, Value.int .i64 (-net), Value.int .i64 (-vat), Value.int .i64 (-gross)] 39)).frozen? ⟨w.heap.size, k * 7 + 1, none⟩ = false := hrow2.frozenAt hln.out.symm _
      have z2 : (wr.alloc (.cells #[Value.int .i64 kind, Value.int .i64 (-price), Value.int .i64 tax, Value.int .i64 qty, Value.int .i64 (-net), Value.int .i64 (-vat), Value.int .i64 (-gross)] 39)).frozen? ⟨w.heap.size, k * 7 + 2, none⟩ = false := hrow2.frozenAt hln.out.symm _
      have z3 : (wr.alloc (.cells #[Value.int .i64 kind, Value.int .i64 (-price), Value.int .i64 tax, Value.int .i64 qty, Value.int .i64 (-net), Value.int .i64 (-vat), Value.int .i64 (-gross)] 39)).frozen? ⟨w.heap.size, k * 7 + 3, none⟩ = false := hrow2.frozenAt hln.out.symm _
      have z4 : (wr.alloc (.cells #[Value.int .i64 kind, Value.int .i64 (-price), Value.int .i64 tax, Value.int .i64 qty, Value.int .i64 (-net), Value.int .i64 (-vat), Value.int .i64 (-gross)] 39)).frozen? ⟨w.heap.size, k * 7 + 4, none⟩ = false := hrow2.frozenAt hln.out.symm _
      have z5 : (wr.alloc (.cells #[Value.int .i64 kind, Value.int .i64 (-price), Value.int .i64 tax, Value.int .i64 qty, Value.int .i64 (-net), Value.int .i64 (-vat), Value.int .i64 (-gross)] 39)).frozen? ⟨w.heap.size, k * 7 + 5, none⟩ = false := hrow2.frozenAt hln.out.symm _
      have z6 : (wr.alloc (.cells #[Value.int .i64 kind, Value.int .i64 (-price), Value.int .i64 tax, Value.int .i64 qty, Value.int .i64 (-net), Value.int .i64 (-vat), Value.int .i64 (-gross)] 39)).frozen? ⟨w.heap.size, k * 7 + 6, none⟩ = false := hrow2.frozenAt hln.out.symm _
      have hst := hrow2.store hln.out.symm (by rw [hln.out]; exact hlt) (⟨kind, -price, tax, qty, -net, -vat, -gross⟩ : It)
      rw [hset.out] at hst
      obtain ⟨hrow3, hg3⟩ := hst
      replace hrow3 := Lib.hid hrow3
      replace hg3 := Lib.hid hg3
      have hb2 : Hid (Below w.heap.size w (wr.alloc (.cells #[Value.int .i64 kind, Value.int .i64 (-price), Value.int .i64 tax, Value.int .i64 qty, Value.int .i64 (-net), Value.int .i64 (-vat), Value.int .i64 (-gross)] 39))) := hb.out.trans (hbx.out.mono hb.out.size)
      clear hrow2 hcc hy
      go_wp2_with fail
      go_roundw
      case rel => exact ⟨k + 1, by omega, by go_num, hrow3.out, hb2.out.grown hg3.out hb2.out.size (fun g8 e8 => by injection e8 with e8; omega)⟩
      case measure => simp [intOf]; omega
    · have hk : k = n := by omega
      subst hk
      rw [Nat.sub_self, List.replicate_zero, List.append_nil, List.take_of_length_le (by rw [hl.out]; exact Nat.le_refl _)] at hrow
      go_wp2_with fail
      go_ret
      exact ⟨⟨_, rfl, hrow.out⟩, hb.out⟩
set_option maxRecDepth 100000 in
set_option maxHeartbeats 8000000 in
theorem rnegate_any (A : Option Addr) (n c : Nat) (l : List It) (w : World) (h : ItAt w A n l) (hn : n ≤ 100000) (hs : smallI l = true) : Calls Try.prog 31 #[.slice A n c] w fun e w' => (∃ v, e = .returned v ∧ LOwn itC 7 39 w' w.heap.size v (l.map negIt)) ∧ Below w.heap.size w w' := by
  have hl := Lib.hid h.len
  replace h := Lib.hid h
  replace hs := Lib.hid hs
  obtain ⟨i39, hi39, hz390, hz391, hz392⟩ := info_parts it_info
  replace hi39 := Lib.hid hi39
  replace hz390 := Lib.hid hz390
  replace hz391 := Lib.hid hz391
  replace hz392 := Lib.hid hz392
  go_enter Try.func31, Try.ntmps31
  go_wp2_with fail
  go_loopw [4, 3] (fun i u wr => ∃ k : Nat, k ≤ n ∧ i = .int .i64 k ∧ Hid (LOwn itC 7 39 wr w.heap.size u ((l.take k).map negIt)) ∧ Hid (Below w.heap.size w wr)) (fun i _ _ => n - (intOf i).toNat)
  case atStart => exact ⟨0, Nat.zero_le _, rfl, LOwn.nil itC_len _ _, Below.refl _ _⟩
  case round =>
    obtain ⟨k, hkn, rfl, hrow, hb⟩ := hrel
    by_cases hlt : k < n
    · have hk0 : (0 : Int) ≤ k := by omega
      have hk1 : (k : Int) < n := by omega
      have hkl : k < l.length := by have := hl.out; omega
      have hlk : Hid (((l.take k).map negIt).length = k) := by show _ = _; rw [List.length_map, List.length_take]; omega
      obtain ⟨A5, c5, hv5, -, -, -, -⟩ := hrow.out.form
      rw [hlk.out] at hv5
      subst hv5
      obtain ⟨ad, hA, -, e0, e1, e2, e3, e4, e5, e6⟩ := it_cells (h.out.below hb.out (Nat.le_refl _)) hlt
      obtain ⟨⟨p1, p2⟩, ⟨p3, p4⟩, ⟨p5, p6⟩, ⟨p7, p8⟩⟩ := item_parts (small_at hs.out hkl)
      have hst : Hid ((l.take (k + 1)).map negIt = ((l.take k).map negIt) ++ [negIt l[k]]) := by show _ = _; rw [List.take_succ_eq_append_getElem hkl, List.map_append]; rfl
      generalize l[k] = x at *
      obtain ⟨kind, price, tax, qty, net, vat, gross⟩ := x
      simp only [negIt] at e0 e1 e2 e3 e4 e5 e6 p1 p2 p3 p4 p5 p6 p7 p8
      subst hA
      have hbx : Hid (Below wr.heap.size wr ((wr.alloc (.cells #[Value.int .i64 kind, Value.int .i64 (-price), Value.int .i64 tax, Value.int .i64 qty, Value.int .i64 (-net), Value.int .i64 (-vat), Value.int .i64 (-gross)] 39)).alloc (.cells #[Value.int .i64 kind, Value.int .i64 (-price), Value.int .i64 tax, Value.int .i64 qty, Value.int .i64 (-net), Value.int .i64 (-vat), Value.int .i64 (-gross)] 39))) := (a1 wr _).alloc (by simp) _
      have hy := Blk.new wr 39 #[Value.int .i64 kind, Value.int .i64 price, Value.int .i64 tax, Value.int .i64 qty, Value.int .i64 net, Value.int .i64 vat, Value.int .i64 gross]
      obtain ⟨m0, m1, m2, m3, m4, m5, m6, mz0, mz1, mz2, mz3, mz4, mz5, mz6⟩ := cells7z ((wr.alloc (.cells #[Value.int .i64 kind, Value.int .i64 price, Value.int .i64 tax, Value.int .i64 qty, Value.int .i64 net, Value.int .i64 vat, Value.int .i64 gross] 39))) (wr.heap.size) (Value.int .i64 kind) (Value.int .i64 price) (Value.int .i64 tax) (Value.int .i64 qty) (Value.int .i64 net) (Value.int .i64 vat) (Value.int .i64 gross) (hy)
      clear hy
      have hy := Blk.new wr 39 #[Value.int .i64 kind, Value.int .i64 (-price), Value.int .i64 tax, Value.int .i64 qty, Value.int .i64 (-net), Value.int .i64 (-vat), Value.int .i64 (-gross)]
      obtain ⟨t0, t1, t2, t3, t4, t5, t6⟩ := cells7 ((wr.alloc (.cells #[Value.int .i64 kind, Value.int .i64 (-price), Value.int .i64 tax, Value.int .i64 qty, Value.int .i64 (-net), Value.int .i64 (-vat), Value.int .i64 (-gross)] 39))) (wr.heap.size) (Value.int .i64 kind) (Value.int .i64 (-price)) (Value.int .i64 tax) (Value.int .i64 qty) (Value.int .i64 (-net)) (Value.int .i64 (-vat)) (Value.int .i64 (-gross)) (hy)
      clear hy
      have hrd : Reads ((wr.alloc (.cells #[Value.int .i64 kind, Value.int .i64 (-price), Value.int .i64 tax, Value.int .i64 qty, Value.int .i64 (-net), Value.int .i64 (-vat), Value.int .i64 (-gross)] 39)).alloc (.cells #[Value.int .i64 kind, Value.int .i64 (-price), Value.int .i64 tax, Value.int .i64 qty, Value.int .i64 (-net), Value.int .i64 (-vat), Value.int .i64 (-gross)] 39)) ((wr.alloc (.cells #[Value.int .i64 kind, Value.int .i64 (-price), Value.int .i64 tax, Value.int .i64 qty, Value.int .i64 (-net), Value.int .i64 (-vat), Value.int .i64 (-gross)] 39)).heap.size + 1) 7 (some ⟨(wr.alloc (.cells #[Value.int .i64 kind, Value.int .i64 (-price), Value.int .i64 tax, Value.int .i64 qty, Value.int .i64 (-net), Value.int .i64 (-vat), Value.int .i64 (-gross)] 39)).heap.size, 0, none⟩) 1 (flat itC [⟨kind, -price, tax, qty, -net, -vat, -gross⟩]) := (lit_at (e := 39) itC_len (wr.alloc (.cells #[Value.int .i64 kind, Value.int .i64 (-price), Value.int .i64 tax, Value.int .i64 qty, Value.int .i64 (-net), Value.int .i64 (-vat), Value.int .i64 (-gross)] 39)) [⟨kind, -price, tax, qty, -net, -vat, -gross⟩] #[Value.int .i64 kind, Value.int .i64 (-price), Value.int .i64 tax, Value.int .i64 qty, Value.int .i64 (-net), Value.int .i64 (-vat), Value.int .i64 (-gross)] (by simp [flat, itC])).2
      rw [show (wr.alloc (.cells #[Value.int .i64 kind, Value.int .i64 (-price), Value.int .i64 tax, Value.int .i64 qty, Value.int .i64 (-net), Value.int .i64 (-vat), Value.int .i64 (-gross)] 39)).heap.size = wr.heap.size + 1 by simp] at hrd
      replace hrd := Lib.hid hrd
      have hrow2 := Lib.hid (hrow.out.kept hbx.out)
      have hb2 : Hid (Below w.heap.size w ((wr.alloc (.cells #[Value.int .i64 kind, Value.int .i64 (-price), Value.int .i64 tax, Value.int .i64 qty, Value.int .i64 (-net), Value.int .i64 (-vat), Value.int .i64 (-gross)] 39)).alloc (.cells #[Value.int .i64 kind, Value.int .i64 (-price), Value.int .i64 tax, Value.int .i64 qty, Value.int .i64 (-net), Value.int .i64 (-vat), Value.int .i64 (-gross)] 39))) := hb.out.trans (hbx.out.mono hb.out.size)
      have hown2 := hrow2.out.2
      rw [hlk.out] at hown2
      replace hown2 := Lib.hid hown2
      have hsz := hb.out.size
      clear hrow hb hbx
      go_wp2_with (at_builtin; refine wpList_append_any _ rfl (.tmp 32) (.tmp 34) _ rfl w.heap.size 39 i39 _ 7 56 Try.underlying28 hi39.out hz390.out hz391.out hz392.out rfl (by omega) (Value.slice A5 k c5) k (flat itC ((l.take k).map negIt)) rfl hown2.out ((wr.heap.size + 1) + 1) (some ⟨(wr.heap.size + 1), 0, none⟩) 1 1 (flat itC [⟨kind, -price, tax, qty, -net, -vat, -gross⟩]) rfl hrd.out (itC_one _) (by simp only [maxLen]; omega) (by omega) (by simp; omega) ?_
                   intro v' w1 hown1 hg1 hat1
                   have hb3 : Hid (Below w.heap.size w w1) := hb2.out.grown hg1 hb2.out.size (fun g8 e8 => by have := World.ownsRow.lt hrow2.out.2 _ e8; omega)
                   have hrow3 : Hid (LOwn itC 7 39 w1 w.heap.size v' ((l.take (k + 1)).map negIt)) := ⟨itC_len, by rw [hst.out, List.length_append, flat_append, hlk.out]; exact hown1⟩
                   clear hown1 hg1 hat1)
      go_roundw
      case rel => exact ⟨k + 1, by omega, by go_num, hrow3.out, hb3.out⟩
      case measure => simp [intOf]; omega
    · have hk : k = n := by omega
      subst hk
      rw [List.take_of_length_le (by rw [hl.out]; exact Nat.le_refl _)] at hrow
      go_wp2_with fail
      go_ret
      exact ⟨⟨_, rfl, hrow.out⟩, hb.out⟩
end Go.Proofs.Ytadgdbakgmjekaa
