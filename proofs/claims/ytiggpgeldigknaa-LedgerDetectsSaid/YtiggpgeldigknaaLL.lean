/- Ledger: how the arguments read; LedgerAppends, LedgerVerifies, walked; build. -/
import Derived.Test.YtiggpgeldigknaaLK
import Derived.Test.YtiggpgeldigknaaCP
set_option linter.unusedVariables false
set_option linter.unusedSimpArgs false
namespace Go.Proofs.Ytiggpgeldigknaa
open Go.ChangeShapes Go.WideShapes Go.Deep Go.Joins Go.RowKit
theorem cells67 : Try.prog.cellsOf 67 = 6 := by kernel_rfl
theorem cells64 : Try.prog.cellsOf 64 = 4 := by kernel_rfl
/-- the ranges of a line's numbers -/
structure LnR (x : Ln) : Prop where
  s : -9223372036854775808 ≤ x.seq ∧ x.seq ≤ 9223372036854775807
  a : -9223372036854775808 ≤ x.at_ ∧ x.at_ ≤ 9223372036854775807
def NtR (x : Nt) : Prop := -9223372036854775808 ≤ x.at_ ∧ x.at_ ≤ 9223372036854775807
section
variable {H : Type} {enc : TypeId × Value → H} {w : World} {base : Nat} {spare : Nat → Bool} {held : Bool}
set_option maxRecDepth 100000 in
theorem line_el {n : Nat} {cs : List Value} {y : DataW H × List MemPlace} (hc : cs.length = 6) (h : DataW.trod enc Try.prog w base spare held n 67 cs = some y) : ∃ x : Ln, cs = lnC x ∧ LnR x := by
  match cs, hc with
  | [c0, c1, c2, c3, c4, c5], _ =>
    obtain ⟨xs, k, _, _, _, hl, hf⟩ := DataW.trod_struct Try.underlying67 h
    have h0 : DataW.trod enc Try.prog w base spare held k 3 (([c0, c1, c2, c3, c4, c5].drop 0).take (Try.prog.cellsOf 3)) = xs[0]? := hf 0 _ rfl
    have h1 : DataW.trod enc Try.prog w base spare held k 3 (([c0, c1, c2, c3, c4, c5].drop 1).take (Try.prog.cellsOf 3)) = xs[1]? := hf 1 _ rfl
    have h2 : DataW.trod enc Try.prog w base spare held k 9 (([c0, c1, c2, c3, c4, c5].drop 2).take (Try.prog.cellsOf 9)) = xs[2]? := hf 2 _ rfl
    have h3 : DataW.trod enc Try.prog w base spare held k 9 (([c0, c1, c2, c3, c4, c5].drop 3).take (Try.prog.cellsOf 9)) = xs[3]? := hf 3 _ rfl
    have h4 : DataW.trod enc Try.prog w base spare held k 9 (([c0, c1, c2, c3, c4, c5].drop 4).take (Try.prog.cellsOf 9)) = xs[4]? := hf 4 _ rfl
    have h5 : DataW.trod enc Try.prog w base spare held k 50 (([c0, c1, c2, c3, c4, c5].drop 5).take (Try.prog.cellsOf 50)) = xs[5]? := hf 5 _ rfl
    simp only [cells3, cells9, cells50, List.drop_zero, List.drop_succ_cons, List.take_succ_cons, List.take_zero] at h0 h1 h2 h3 h4 h5
    rw [List.getElem?_eq_getElem (by rw [hl]; decide)] at h0 h1 h2 h3 h4 h5
    obtain ⟨z0, rfl, r0⟩ := int_el h0
    obtain ⟨z1, rfl, r1⟩ := int_el h1
    obtain ⟨z2, rfl, r2⟩ := str_el h2
    obtain ⟨z3, rfl, r3⟩ := str_el h3
    obtain ⟨z4, rfl, r4⟩ := str_el h4
    obtain ⟨z5, rfl, r5⟩ := u64_el h5
    exact ⟨⟨z0, z1, z2, z3, z4, z5⟩, rfl, r0, r1⟩
set_option maxRecDepth 100000 in
theorem note_el {n : Nat} {cs : List Value} {y : DataW H × List MemPlace} (hc : cs.length = 4) (h : DataW.trod enc Try.prog w base spare held n 64 cs = some y) : ∃ x : Nt, cs = ntC x ∧ NtR x := by
  match cs, hc with
  | [c0, c1, c2, c3], _ =>
    obtain ⟨xs, k, _, _, _, hl, hf⟩ := DataW.trod_struct Try.underlying64 h
    have h0 : DataW.trod enc Try.prog w base spare held k 3 (([c0, c1, c2, c3].drop 0).take (Try.prog.cellsOf 3)) = xs[0]? := hf 0 _ rfl
    have h1 : DataW.trod enc Try.prog w base spare held k 9 (([c0, c1, c2, c3].drop 1).take (Try.prog.cellsOf 9)) = xs[1]? := hf 1 _ rfl
    have h2 : DataW.trod enc Try.prog w base spare held k 9 (([c0, c1, c2, c3].drop 2).take (Try.prog.cellsOf 9)) = xs[2]? := hf 2 _ rfl
    have h3 : DataW.trod enc Try.prog w base spare held k 9 (([c0, c1, c2, c3].drop 3).take (Try.prog.cellsOf 9)) = xs[3]? := hf 3 _ rfl
    simp only [cells3, cells9, List.drop_zero, List.drop_succ_cons, List.take_succ_cons, List.take_zero] at h0 h1 h2 h3
    rw [List.getElem?_eq_getElem (by rw [hl]; decide)] at h0 h1 h2 h3
    obtain ⟨z0, rfl, r0⟩ := int_el h0
    obtain ⟨z1, rfl, r1⟩ := str_el h1
    obtain ⟨z2, rfl, r2⟩ := str_el h2
    obtain ⟨z3, rfl, r3⟩ := str_el h3
    exact ⟨⟨z0, z1, z2, z3⟩, rfl, r0⟩
set_option maxRecDepth 100000 in
theorem lines_in {fuel : Nat} {cs : List Value} {x : DataW H × List MemPlace} (h : DataW.trod enc Try.prog w base spare held fuel 62 cs = some x) :
    ∃ A n c l, cs = [.slice A n c] ∧ LAt lnC 6 w w.heap.size A n l ∧ n ≤ c ∧ c ≤ maxLen ∧ ∀ x ∈ l, LnR x :=
  slice_el (f := lnC) (s := 6) LnR Try.underlying62 cells67 lnC_len (by decide) (fun n cs y hc hy => line_el hc hy) h
set_option maxRecDepth 100000 in
theorem lines_in1 {fuel : Nat} {v : Value} {x : DataW H × List MemPlace} (h : DataW.trod enc Try.prog w base spare held fuel 62 [v] = some x) :
    ∃ A n c l, v = .slice A n c ∧ LAt lnC 6 w w.heap.size A n l ∧ n ≤ c ∧ c ≤ maxLen ∧ ∀ x ∈ l, LnR x := by
  obtain ⟨A, n, c, l, e, h1⟩ := lines_in h
  exact ⟨A, n, c, l, by simpa using e, h1⟩
set_option maxRecDepth 100000 in
theorem lines_in_of {r : Reach} {b0 : Nat} {v : Value} {d : DataW H} {p : List MemPlace} (hv : Value.okWide Try.prog w r b0 62 v) (h : DataW.Trod enc Try.prog w base spare held 62 v d p) :
    ∃ A n c l, v = .slice A n c ∧ LAt lnC 6 w w.heap.size A n l ∧ n ≤ c ∧ c ≤ maxLen ∧ ∀ x ∈ l, LnR x := by
  obtain ⟨A, n, c, rfl⟩ := okWide_slice Try.underlying62 hv
  obtain ⟨fuel, hf⟩ := h
  obtain ⟨A', n', c', l, e, h1⟩ := lines_in hf
  simp [Value.cells] at e
  obtain ⟨rfl, rfl, rfl⟩ := e
  exact ⟨A, n, c, l, rfl, h1⟩
set_option maxRecDepth 100000 in
theorem notes_in {fuel : Nat} {cs : List Value} {x : DataW H × List MemPlace} (h : DataW.trod enc Try.prog w base spare held fuel 75 cs = some x) :
    ∃ A n c l, cs = [.slice A n c] ∧ LAt ntC 4 w w.heap.size A n l ∧ n ≤ c ∧ c ≤ maxLen ∧ ∀ x ∈ l, NtR x :=
  slice_el (f := ntC) (s := 4) NtR Try.underlying75 cells64 ntC_len (by decide) (fun n cs y hc hy => note_el hc hy) h
set_option maxRecDepth 100000 in
theorem notes_in1 {fuel : Nat} {v : Value} {x : DataW H × List MemPlace} (h : DataW.trod enc Try.prog w base spare held fuel 75 [v] = some x) :
    ∃ A n c l, v = .slice A n c ∧ LAt ntC 4 w w.heap.size A n l ∧ n ≤ c ∧ c ≤ maxLen ∧ ∀ x ∈ l, NtR x := by
  obtain ⟨A, n, c, l, e, h1⟩ := notes_in h
  exact ⟨A, n, c, l, by simpa using e, h1⟩
set_option maxRecDepth 100000 in
theorem notes_in_of {r : Reach} {b0 : Nat} {v : Value} {d : DataW H} {p : List MemPlace} (hv : Value.okWide Try.prog w r b0 75 v) (h : DataW.Trod enc Try.prog w base spare held 75 v d p) :
    ∃ A n c l, v = .slice A n c ∧ LAt ntC 4 w w.heap.size A n l ∧ n ≤ c ∧ c ≤ maxLen ∧ ∀ x ∈ l, NtR x := by
  obtain ⟨A, n, c, rfl⟩ := okWide_slice Try.underlying75 hv
  obtain ⟨fuel, hf⟩ := h
  obtain ⟨A', n', c', l, e, h1⟩ := notes_in hf
  simp [Value.cells] at e
  obtain ⟨rfl, rfl, rfl⟩ := e
  exact ⟨A, n, c, l, rfl, h1⟩
set_option maxRecDepth 100000 in
theorem note_of {r : Reach} {b0 : Nat} {v : Value} {d : DataW H} {p : List MemPlace} (hv : Value.okWide Try.prog w r b0 64 v) (h : DataW.Trod enc Try.prog w base spare held 64 v d p) : ∃ x : Nt, v = .agg (ntC x).toArray ∧ NtR x := by
  obtain ⟨cs, rfl, hsz⟩ := okWide_struct Try.underlying64 hv
  obtain ⟨fuel, hf⟩ := h
  obtain ⟨x, e, b⟩ := note_el (show cs.toList.length = 4 by simpa using hsz.trans cells64) hf
  obtain ⟨l⟩ := cs
  exact ⟨x, by rw [← e], b⟩
set_option maxRecDepth 100000 in
theorem line_of {r : Reach} {b0 : Nat} {v : Value} {d : DataW H} {p : List MemPlace} (hv : Value.okWide Try.prog w r b0 67 v) (h : DataW.Trod enc Try.prog w base spare held 67 v d p) : ∃ x : Ln, v = .agg (lnC x).toArray ∧ LnR x := by
  obtain ⟨cs, rfl, hsz⟩ := okWide_struct Try.underlying67 hv
  obtain ⟨fuel, hf⟩ := h
  obtain ⟨x, e, b⟩ := line_el (show cs.toList.length = 6 by simpa using hsz.trans cells67) hf
  obtain ⟨l⟩ := cs
  exact ⟨x, by rw [← e], b⟩
end
theorem short_ok {L : List Ln} (h : shortL L = true) (hr : ∀ x ∈ L, LnR x) : L.length ≤ 40 ∧ ∀ x ∈ L, LnOk x := by
  simp only [shortL, Bool.and_eq_true, decide_eq_true_eq, List.all_eq_true, shortLT, t3] at h
  refine ⟨h.1, fun x hx => ?_⟩
  have h1 := h.2 x hx
  exact ⟨(hr x hx).s, (hr x hx).a, by omega⟩
set_option maxRecDepth 100000 in
set_option maxHeartbeats 8000000 in
theorem lawVerifiesL (A : Option Addr) (n cp : Nat) (L : List Ln) (w : World) (h : LAt lnC 6 w w.heap.size A n L) (hr : ∀ x ∈ L, LnR x) :
    Calls Try.prog 11 #[.slice A n cp] w fun e w' => e = .returned (.bool true) ∧ Below w.heap.size w w' := by
  have hn := Lib.hid h.len
  replace h := Lib.hid h
  go_enter Try.func11, Try.ntmps11
  go_wp2_with fail
  refine (short_log A n cp L w h.out).mono ?_; rintro e w2 ⟨rfl, hb⟩
  replace hb := Lib.hid hb
  have h := Lib.hid (h.out.more hb.out)
  cases hs : shortL L with
  | false =>
    go_wp2_with fail
    refine (awakeL_any _).mono ?_; rintro e wa ⟨rfl, hq⟩
    have hb := Lib.hid (hb.out.trans (hq.mono hb.out.size))
    clear hq
    go_wp2_with fail
    go_ret
    exact ⟨rfl, hb.out⟩
  | true =>
    obtain ⟨hl, hok⟩ := short_ok hs hr
    rw [hn.out] at hl
    replace hs := Lib.hid hs
    go_wp2_with fail
    refine (verify_log A n cp L w2 h.out hok (by omega)).mono ?_; rintro e w3 ⟨rfl, hq⟩
    have hb := Lib.hid (hb.out.trans (hq.mono hb.out.size))
    have h := Lib.hid (h.out.more hq)
    clear hq
    go_wp2_with fail
    refine (rlverify_any A n cp L w3 h.out hok (by omega)).mono ?_; rintro e w4 ⟨rfl, hq⟩
    have hb := Lib.hid (hb.out.trans (hq.mono hb.out.size))
    clear hq
    generalize verN L = vn
    generalize verE L = ve
    go_wp2_with fail
    refine (awakeL_any _).mono ?_; rintro e wa ⟨rfl, hq⟩
    have hb := Lib.hid (hb.out.trans (hq.mono hb.out.size))
    clear hq
    go_wp2_with fail
    go_ret
    exact ⟨rfl, hb.out⟩
set_option maxRecDepth 100000 in
set_option maxHeartbeats 8000000 in
theorem lawAppendsL (A : Option Addr) (n cp : Nat) (L : List Ln) (x : Nt) (w : World) (h : LAt lnC 6 w w.heap.size A n L) (hr : ∀ x ∈ L, LnR x) (hnc : n ≤ cp) (hx : NtR x) :
    Calls Try.prog 10 #[.slice A n cp, .agg (ntC x).toArray] w fun e w' => e = .returned (.bool true) ∧ Below w.heap.size w w' := by
  have hn := Lib.hid h.len
  obtain ⟨at_, who, what, on⟩ := x
  have px := Lib.hid (Blk.new w 64 #[Value.int .i64 at_, Value.string who, Value.string what, Value.string on])
  have hb := Lib.hid (a1 w (.cells #[Value.int .i64 at_, Value.string who, Value.string what, Value.string on] 64))
  have h := Lib.hid (h.more hb.out)
  unfold ntC
  go_enter Try.func10, Try.ntmps10
  obtain ⟨k0, k1, k2, k3⟩ := (show (w.alloc (.cells #[Value.int .i64 at_, Value.string who, Value.string what, Value.string on] 64)).cell? ⟨w.heap.size, 0, none⟩ = some (Value.int .i64 at_) ∧ (w.alloc (.cells #[Value.int .i64 at_, Value.string who, Value.string what, Value.string on] 64)).cell? ⟨w.heap.size, 1, none⟩ = some (Value.string who) ∧ (w.alloc (.cells #[Value.int .i64 at_, Value.string who, Value.string what, Value.string on] 64)).cell? ⟨w.heap.size, 2, none⟩ = some (Value.string what) ∧ (w.alloc (.cells #[Value.int .i64 at_, Value.string who, Value.string what, Value.string on] 64)).cell? ⟨w.heap.size, 3, none⟩ = some (Value.string on) from ⟨px.out.cell 0, px.out.cell 1, px.out.cell 2, px.out.cell 3⟩)
  go_wp2_with fail
  clear k0 k1 k2 k3
  refine (short_log A n cp L _ h.out).mono ?_; rintro e w2 ⟨rfl, hq⟩
  have px := Lib.hid (px.out.below hq px.out.lt)
  have hb := Lib.hid (hb.out.trans (hq.mono hb.out.size))
  have h := Lib.hid (h.out.more hq)
  clear hq
  cases hs : shortL L with
  | false =>
    go_wp2_with fail
    refine (awakeL_any _).mono ?_; rintro e wa ⟨rfl, hq⟩
    have hb := Lib.hid (hb.out.trans (hq.mono hb.out.size))
    clear hq
    go_wp2_with fail
    go_ret
    exact ⟨rfl, hb.out⟩
  | true =>
    obtain ⟨hl, hok⟩ := short_ok hs hr
    rw [hn.out] at hl
    replace hs := Lib.hid hs
    obtain ⟨k0, k1, k2, k3⟩ := (show w2.cell? ⟨w.heap.size, 0, none⟩ = some (Value.int .i64 at_) ∧ w2.cell? ⟨w.heap.size, 1, none⟩ = some (Value.string who) ∧ w2.cell? ⟨w.heap.size, 2, none⟩ = some (Value.string what) ∧ w2.cell? ⟨w.heap.size, 3, none⟩ = some (Value.string on) from ⟨px.out.cell 0, px.out.cell 1, px.out.cell 2, px.out.cell 3⟩)
    go_wp2_with fail
    clear k0 k1 k2 k3
    have hwl : w.heap.size < w2.heap.size := px.out.lt
    have px := Lib.hid (px.out.alloc (.cells #[Value.int .i64 0, Value.int .i64 0, Value.string who, Value.string what, Value.string on, Value.int .u64 0] 67))
    have h := Lib.hid (h.out.more (a1 w2 (.cells #[Value.int .i64 0, Value.int .i64 0, Value.string who, Value.string what, Value.string on, Value.int .u64 0] 67)))
    have hb := Lib.hid (below_new hb.out (.cells #[Value.int .i64 0, Value.int .i64 0, Value.string who, Value.string what, Value.string on, Value.int .u64 0] 67))
    have h1 : LAt lnC 6 (w2.alloc (.cells #[Value.int .i64 0, Value.int .i64 0, Value.string who, Value.string what, Value.string on, Value.int .u64 0] 67)) (w2.alloc (.cells #[Value.int .i64 0, Value.int .i64 0, Value.string who, Value.string what, Value.string on, Value.int .u64 0] 67)).heap.size (some ⟨w2.heap.size, 0, none⟩) 1 [⟨0, 0, who, what, on, 0⟩] := (lit_at (e := 67) lnC_len w2 [(⟨0, 0, who, what, on, 0⟩ : Ln)] #[Value.int .i64 0, Value.int .i64 0, Value.string who, Value.string what, Value.string on, Value.int .u64 0] (by simp [flat, lnC])).mono (by simp)
    refine (short_log _ 1 1 [⟨0, 0, who, what, on, 0⟩] _ h1).mono ?_; rintro e w3 ⟨rfl, hq⟩
    have px := Lib.hid (px.out.below hq px.out.lt)
    have hb := Lib.hid (hb.out.trans (hq.mono hb.out.size))
    have h := Lib.hid (h.out.more hq)
    clear hq h1
    have hs1 : Hid (shortL [(⟨0, 0, who, what, on, 0⟩ : Ln)] = t3 who what on) := by show _ = _; simp [shortL, shortLT]
    rw [hs1.out]
    cases ht : t3 who what on with
    | false =>
      go_wp2_with fail
      refine (awakeL_any _).mono ?_; rintro e wa ⟨rfl, hq⟩
      have hb := Lib.hid (hb.out.trans (hq.mono hb.out.size))
      clear hq
      go_wp2_with fail
      go_ret
      exact ⟨rfl, hb.out⟩
    | true =>
      obtain ⟨k0, k1, k2, k3⟩ := (show w3.cell? ⟨w.heap.size, 0, none⟩ = some (Value.int .i64 at_) ∧ w3.cell? ⟨w.heap.size, 1, none⟩ = some (Value.string who) ∧ w3.cell? ⟨w.heap.size, 2, none⟩ = some (Value.string what) ∧ w3.cell? ⟨w.heap.size, 3, none⟩ = some (Value.string on) from ⟨px.out.cell 0, px.out.cell 1, px.out.cell 2, px.out.cell 3⟩)
      go_wp2_with fail
      clear k0 k1 k2 k3
      refine (append_any A n cp L at_ who what on w3 h.out (by omega) hnc hx ht).mono ?_; rintro e w4 ⟨⟨A1, n1, c1, rfl, h1, -⟩, hq⟩
      have px := Lib.hid (px.out.below hq px.out.lt)
      have hb := Lib.hid (hb.out.trans (hq.mono hb.out.size))
      have h := Lib.hid (h.out.more hq)
      replace h1 := Lib.hid h1
      clear hq
      obtain ⟨k0, k1, k2, k3⟩ := (show w4.cell? ⟨w.heap.size, 0, none⟩ = some (Value.int .i64 at_) ∧ w4.cell? ⟨w.heap.size, 1, none⟩ = some (Value.string who) ∧ w4.cell? ⟨w.heap.size, 2, none⟩ = some (Value.string what) ∧ w4.cell? ⟨w.heap.size, 3, none⟩ = some (Value.string on) from ⟨px.out.cell 0, px.out.cell 1, px.out.cell 2, px.out.cell 3⟩)
      have hR := fun w h => rappend_any A n cp L at_ who what on w h (by omega) hnc hx ht
      have hal : (appR L ⟨at_, who, what, on⟩).1.length ≤ 41 := by
        unfold appR
        repeat' split
        all_goals (simp; have := hn.out; omega)
      generalize appR L ⟨at_, who, what, on⟩ = R at h1 hR hal
      obtain ⟨RL, RE⟩ := R
      have hn1 : n1 ≤ 41 := by have := h1.out.len; dsimp only at this hal; omega
      dsimp only at h1 hR
      replace hR := Lib.hid hR
      go_wp2_with fail
      clear k0 k1 k2 k3
      refine (hR.out _ h.out).mono ?_; rintro e w5 ⟨⟨A2, n2, c2, rfl, h2, -⟩, hq⟩
      have hb := Lib.hid (hb.out.trans (hq.mono hb.out.size))
      have h1 := Lib.hid (h1.out.more hq)
      obtain rfl : n1 = n2 := h1.out.len.symm.trans h2.len
      replace h2 := Lib.hid h2
      clear hq hR
      go_wp2_with fail
      refine (same_self A1 A2 n1 c1 c2 RL w5 h1.out h2.out (by omega)).mono ?_; rintro e w6 ⟨rfl, hq⟩
      have hb := Lib.hid (hb.out.trans (hq.mono hb.out.size))
      have h1 := Lib.hid (h1.out.more hq)
      have h2 := Lib.hid (h2.out.more hq)
      clear hq
      have hH := Lib.hid (head_any A1 n1 c1 RL w6 h1.out (by omega))
      have hG := Lib.hid (rhead_any A2 n1 c2 RL w6 h2.out (by omega))
      generalize headL RL = hv at hH hG
      go_wp2_with (first
        | (go_at_call 42; refine hH.out.mono ?_; rintro e w7 ⟨rfl, rfl⟩)
        | (go_at_call 43; refine hG.out.mono ?_; rintro e w7 ⟨rfl, rfl⟩))
      refine (awakeL_any _).mono ?_; rintro e wa ⟨rfl, hq⟩
      have hb := Lib.hid (hb.out.trans (hq.mono hb.out.size))
      clear hq
      go_wp2_with fail
      go_ret
      exact ⟨rfl, hb.out⟩
end Go.Proofs.Ytiggpgeldigknaa
