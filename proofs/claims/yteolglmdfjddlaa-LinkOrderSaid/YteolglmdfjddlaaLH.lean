/- Links: bytes.Equal, slices.Equal, sameData and same, walked at equal sides. -/
import Derived.Test.YteolglmdfjddlaaLE
import Derived.Laws.IdiomStrings
import Derived.Lib.BufferRead
set_option linter.unusedVariables false
set_option linter.unusedSimpArgs false
namespace Go.Proofs.Yteolglmdfjddlaa
open Go.RowKit
theorem conv_bytes {w : World} {B : Nat} {A : Option Addr} {n c : Nat} {d : List UInt8} (h : BAt w B A n d) : (convert 27 9 (.slice A n c)).run Try.prog w = .ok (.string ⟨d.toArray⟩) w := by
  have hl := h.len
  subst hl
  cases A with
  | none =>
    have h0 : d.length = 0 := by
      rcases Nat.eq_zero_or_pos d.length with h0 | h0
      · exact h0
      · obtain ⟨ad, e, _⟩ := h.at_ h0; cases e
    obtain rfl : d = [] := List.eq_nil_of_length_eq_zero h0
    exact Lib.run_convert_nil_bytes w 27 9 5 c Try.underlying27 Try.underlying5 Try.underlying9
  | some ad =>
    refine run_convert_bytes_back w 27 9 5 ad c d Try.underlying27 Try.underlying5 Try.underlying9 (fun j hj => ?_)
    obtain ⟨ad', e, _, hc⟩ := h.at_ hj
    injection e with e
    subst e
    have := hc 0 _ rfl
    simpa using this
set_option maxRecDepth 100000 in
set_option maxHeartbeats 1000000 in
theorem equal_any (A1 A2 : Option Addr) (n1 c1 n2 c2 : Nat) (d : List UInt8) (w : World) (B1 B2 : Nat) (h1 : BAt w B1 A1 n1 d) (h2 : BAt w B2 A2 n2 d) :
    Calls Try.prog 15 #[.slice A1 n1 c1, .slice A2 n2 c2] w fun e w' => e = .returned (.bool true) ∧ w' = w := by
  have e1 := conv_bytes (c := c1) h1
  have e2 := conv_bytes (c := c2) h2
  clear h1 h2
  generalize (⟨d.toArray⟩ : ByteArray) = s at *
  go_enter Try.func15, Try.ntmps15
  go_wp2_with fail
  go_ret
  exact ⟨ret_bool (by simp), rfl⟩
theorem sameF_any (A1 A2 : Option Addr) (n1 c1 n2 c2 : Nat) (d : List UInt8) (w : World) (B1 B2 : Nat) (h1 : BAt w B1 A1 n1 d) (h2 : BAt w B2 A2 n2 d) :
    Calls Try.prog 32 #[.slice A1 n1 c1, .slice A2 n2 c2] w fun e w' => e = .returned (.bool true) ∧ w' = w := by
  have hc := Lib.hid (equal_any A1 A2 n1 c1 n2 c2 d w B1 B2 h1 h2)
  clear h1 h2
  go_enter Try.func32, Try.ntmps32
  go_wp2_with fail
  refine hc.out.mono ?_; rintro e w5 ⟨rfl, rfl⟩
  go_wp2_with fail
  go_ret
  exact ⟨rfl, rfl⟩
theorem s_cell {w : World} {B : Nat} {A : Option Addr} {n : Nat} {l : List Bs} (h : LAt sC 1 w B A n l) {k : Nat} (hk : k < n) : ∃ ad, A = some ad ∧ ad.block < B ∧ w.cell? (ad.add k) = some (Value.slice (l[k]'(by rw [h.len]; exact hk)).A (l[k]'(by rw [h.len]; exact hk)).n (l[k]'(by rw [h.len]; exact hk)).c) := by
  obtain ⟨ad, hA, hb, hc⟩ := h.at_ hk
  refine ⟨ad, hA, hb, ?_⟩
  have := hc 0 _ rfl
  simpa using this
set_option maxRecDepth 100000 in
set_option maxHeartbeats 8000000 in
theorem equalFunc_any (A1 A2 : Option Addr) (n1 c1 n2 c2 : Nat) (C1 C2 : List Bs) (w : World) (h1 : LAt sC 1 w w.heap.size A1 n1 C1) (h2 : LAt sC 1 w w.heap.size A2 n2 C2) (b1 : ∀ b ∈ C1, BsAt w b) (b2 : ∀ b ∈ C2, BsAt w b) (he : C1.map (·.d) = C2.map (·.d)) (hn : n1 ≤ 100000) :
    Calls Try.prog 31 #[.slice A1 n1 c1, .slice A2 n2 c2, .func (.func 32) #[] #[]] w fun e w' => e = .returned (.bool true) ∧ w' = w := by
  have l1 := Lib.hid h1.len
  have l2 : Hid (C2.length = n1) := by
    show _ = _
    have := congrArg List.length he
    simp only [List.length_map] at this
    rw [← this]; exact h1.len
  obtain rfl : n1 = n2 := by have := h2.len; have := l2.out; omega
  replace h1 := Lib.hid h1
  replace h2 := Lib.hid h2
  replace he := Lib.hid he
  replace b1 := Lib.hid b1
  replace b2 := Lib.hid b2
  go_enter Try.func31, Try.ntmps31
  go_wp2_with fail
  go_loopw [17] (fun i wr => ∃ k : Nat, k ≤ n1 ∧ i = .int .i64 k ∧ Hid (wr = w)) (fun i _ => n1 - (intOf i).toNat)
  case atStart => exact ⟨0, Nat.zero_le _, rfl, by first | exact rfl | exact trivial⟩
  case round =>
    obtain ⟨k, hkn, rfl, hw⟩ := hrel
    obtain rfl := hw.out
    by_cases hlt : k < n1
    · have k1 : k < C1.length := by have := l1.out; omega
      have k2 : k < C2.length := by have := l2.out; omega
      have hk0 : (0 : Int) ≤ k := by omega
      have hk1 : (k : Int) < n1 := by omega
      obtain ⟨ad, hA, -, e0⟩ := s_cell h1.out hlt
      obtain ⟨ad2, hA2, -, d0⟩ := s_cell h2.out hlt
      have hb1 := b1.out _ (List.getElem_mem k1)
      have hb2 := b2.out _ (List.getElem_mem k2)
      have hd : C1[k].d = C2[k].d := by
        have h8 : (C1.map (·.d))[k]? = (C2.map (·.d))[k]? := by rw [he.out]
        simpa [k1, k2] using h8
      have hc := Lib.hid (sameF_any C1[k].A C2[k].A C1[k].n C1[k].c C2[k].n C2[k].c C1[k].d wr _ _ hb1.1 (by rw [hd]; exact hb2.1))
      clear hb1 hb2 hd
      generalize C1[k].A = x1 at *
      generalize C1[k].n = x2 at *
      generalize C1[k].c = x3 at *
      generalize C2[k].A = y1 at *
      generalize C2[k].n = y2 at *
      generalize C2[k].c = y3 at *
      subst hA
      subst hA2
      go_wp2_with fail
      refine hc.out.mono ?_; rintro e w5 ⟨rfl, rfl⟩
      go_wp2_with fail
      go_roundw
      case rel => exact ⟨k + 1, by omega, by go_num, by first | exact rfl | exact trivial⟩
      case measure => simp [intOf]; omega
    · go_wp2_with fail
      go_ret
      exact ⟨rfl, rfl⟩
theorem sameData_any (A1 A2 : Option Addr) (n1 c1 n2 c2 : Nat) (C1 C2 : List Bs) (w : World) (h1 : LAt sC 1 w w.heap.size A1 n1 C1) (h2 : LAt sC 1 w w.heap.size A2 n2 C2) (b1 : ∀ b ∈ C1, BsAt w b) (b2 : ∀ b ∈ C2, BsAt w b) (he : C1.map (·.d) = C2.map (·.d)) (hn : n1 ≤ 100000) :
    Calls Try.prog 23 #[.slice A1 n1 c1, .slice A2 n2 c2] w fun e w' => e = .returned (.bool true) ∧ w' = w := by
  have hc := Lib.hid (equalFunc_any A1 A2 n1 c1 n2 c2 C1 C2 w h1 h2 b1 b2 he hn)
  clear h1 h2 b1 b2 he
  go_enter Try.func23, Try.ntmps23
  go_wp2_with fail
  refine hc.out.mono ?_; rintro e w5 ⟨rfl, rfl⟩
  go_wp2_with fail
  go_ret
  exact ⟨rfl, rfl⟩
set_option maxRecDepth 100000 in
set_option maxHeartbeats 8000000 in
theorem equalI_any (A1 A2 : Option Addr) (n1 c1 n2 c2 : Nat) (l : List Int) (w : World) (h1 : IAt w w.heap.size A1 n1 l) (h2 : IAt w w.heap.size A2 n2 l) (hn : n1 ≤ 100000) :
    Calls Try.prog 29 #[.slice A1 n1 c1, .slice A2 n2 c2] w fun e w' => e = .returned (.bool true) ∧ Below w.heap.size w w' := by
  have l1 := Lib.hid h1.len
  obtain rfl : n1 = n2 := by have := h2.len; have := l1.out; omega
  replace h1 := Lib.hid h1
  replace h2 := Lib.hid h2
  go_enter Try.func29, Try.ntmps29
  go_wp2_with fail
  go_loopw [13] (fun i wr => ∃ k : Nat, k ≤ n1 ∧ i = .int .i64 k ∧ Hid (Below w.heap.size w wr)) (fun i _ => n1 - (intOf i).toNat)
  case atStart => exact ⟨0, Nat.zero_le _, rfl, Below.refl _ _⟩
  case round =>
    obtain ⟨k, hkn, rfl, hb⟩ := hrel
    by_cases hlt : k < n1
    · have k1 : k < l.length := by have := l1.out; omega
      have hk0 : (0 : Int) ≤ k := by omega
      have hk1 : (k : Int) < n1 := by omega
      obtain ⟨ad, hA, -, e0⟩ := i_cell (h1.out.below hb.out (Nat.le_refl _)) hlt
      obtain ⟨ad2, hA2, -, d0⟩ := i_cell (h2.out.below hb.out (Nat.le_refl _)) hlt
      generalize l[k] = x at *
      subst hA
      subst hA2
      go_wp2_with fail
      go_quiet (fail)
      go_wp2_with fail
      go_roundw
      case rel => exact ⟨k + 1, by omega, by go_num, below_drewN hb.out _⟩
      case measure => simp [intOf]; omega
    · go_wp2_with fail
      go_ret
      exact ⟨rfl, hb.out⟩
def F18 (g0 k bn c1 c2 n pc qc : Nat) (ad ad2 : Addr) (due : Int) (pA qA : Option Addr) : Tmp → Value → World → Prop
  | 2, v, _ => v = .pointer (some ⟨g0, 0, none⟩)
  | 3, v, _ => v = .pointer (some ⟨g0 + 1, 0, none⟩)
  | 5, v, _ => v = .int .i64 (k : Int)
  | 55, v, _ => v = .pointer (some ⟨g0, 5, none⟩)
  | 56, v, _ => v = .slice (some ad) bn c1
  | 57, v, _ => v = .int .i64 (k : Int)
  | 58, v, _ => v = .pointer (some (ad.add (k * 2)))
  | 59, v, _ => v = .pointer (some (ad.add (k * 2)))
  | 60, v, _ => v = .int .i64 due
  | 61, v, _ => v = .pointer (some ⟨g0 + 1, 5, none⟩)
  | 62, v, _ => v = .slice (some ad2) bn c2
  | 63, v, _ => v = .int .i64 (k : Int)
  | 64, v, _ => v = .pointer (some (ad2.add (k * 2)))
  | 65, v, _ => v = .pointer (some (ad2.add (k * 2)))
  | 66, v, _ => v = .int .i64 due
  | 67, v, _ => v = .bool false
  | 68, v, _ => v = .bool false
  | 69, v, _ => v = .pointer (some ⟨g0, 5, none⟩)
  | 70, v, _ => v = .slice (some ad) bn c1
  | 71, v, _ => v = .int .i64 (k : Int)
  | 72, v, _ => v = .pointer (some (ad.add (k * 2)))
  | 73, v, _ => v = .pointer (some ⟨(ad.add (k * 2)).block, (ad.add (k * 2)).off + 1, none⟩)
  | 74, v, _ => v = .slice pA n pc
  | 75, v, _ => v = .pointer (some ⟨g0 + 1, 5, none⟩)
  | 76, v, _ => v = .slice (some ad2) bn c2
  | 77, v, _ => v = .int .i64 (k : Int)
  | 78, v, _ => v = .pointer (some (ad2.add (k * 2)))
  | 79, v, _ => v = .pointer (some ⟨(ad2.add (k * 2)).block, (ad2.add (k * 2)).off + 1, none⟩)
  | 80, v, _ => v = .slice qA n qc
  | 81, v, _ => v = .bool true
  | 82, v, _ => v = .bool false
  | 83, v, _ => v = .bool false
  | _, _, _ => True
theorem F18_more {g0 k bn c1 c2 n pc qc : Nat} {ad ad2 : Addr} {due : Int} {pA qA : Option Addr} (d t : Tmp) (v : Value) (w w' : World) (hR : Rb w w') (hne : t ≠ d) (hc : ([] : List (Tmp × Tmp)).contains (d, t) = false) (h : F18 g0 k bn c1 c2 n pc qc ad ad2 due pA qA t v w) : F18 g0 k bn c1 c2 n pc qc ad ad2 due pA qA t v w' := by
  unfold F18 at *
  split at h <;> first | exact h
set_option maxRecDepth 100000 in
set_option maxHeartbeats 8000000 in
theorem same_any (a b : Lk) (w : World) (ha : LkOk w a) (hb : LkOk w b) (hv : a.val = b.val) (h1 : a.lose.length ≤ 1000) (h2 : a.box.length ≤ 1000) :
    Calls Try.prog 18 #[lkV a, lkV b] w fun e w' => e = .returned (.bool true) ∧ Below w.heap.size w w' := by
  obtain ⟨now, delay, cut, count, lA, ln, lc, lose, bA, bn, bc, box⟩ := a
  obtain ⟨now2, delay2, cut2, count2, lA2, ln2, lc2, lose2, bA2, bn2, bc2, box2⟩ := b
  simp only [Lk.val, Lv.mk.injEq] at hv
  obtain ⟨e0, e1, e2, e3, e4, e5⟩ := hv
  subst e0 e1 e2 e3 e4
  simp only [lkV] at *
  have hbl : Hid (box2.length = box.length) := by show _ = _; have := congrArg List.length e5; simpa using this.symm
  obtain rfl : ln = ln2 := by have := ha.la.len; have := hb.la.len; simp only at *; omega
  obtain rfl : bn = bn2 := by have := ha.ba.len; have := hb.ba.len; have := hbl.out; simp only at *; omega
  have hln1 : ln ≤ 1000 := by have := ha.la.len; simp only at this; omega
  have hbn1 : bn ≤ 1000 := by have := ha.ba.len; simp only at this; omega
  have hbn := Lib.hid ha.ba.len
  replace ha := Lib.hid ha
  replace hb := Lib.hid hb
  have he5 := Lib.hid e5
  clear e5
  have hX0 := Lib.hid ((Blk.new w 25 #[Value.int .i64 now, Value.int .i64 delay, Value.bool cut, Value.int .i64 count, Value.slice lA ln lc, Value.slice bA bn bc]).alloc (.cells #[Value.int .i64 now, Value.int .i64 delay, Value.bool cut, Value.int .i64 count, Value.slice lA2 ln lc2, Value.slice bA2 bn bc2] 25))
  have hY0 := Lib.hid (Blk.new (w.alloc (.cells #[Value.int .i64 now, Value.int .i64 delay, Value.bool cut, Value.int .i64 count, Value.slice lA ln lc, Value.slice bA bn bc] 25)) 25 #[Value.int .i64 now, Value.int .i64 delay, Value.bool cut, Value.int .i64 count, Value.slice lA2 ln lc2, Value.slice bA2 bn bc2])
  have hb0 : Hid (Below w.heap.size w ((w.alloc (.cells #[Value.int .i64 now, Value.int .i64 delay, Value.bool cut, Value.int .i64 count, Value.slice lA ln lc, Value.slice bA bn bc] 25)).alloc (.cells #[Value.int .i64 now, Value.int .i64 delay, Value.bool cut, Value.int .i64 count, Value.slice lA2 ln lc2, Value.slice bA2 bn bc2] 25))) := (a1 w _).alloc (by simp) _
  rw [show (w.alloc (.cells #[Value.int .i64 now, Value.int .i64 delay, Value.bool cut, Value.int .i64 count, Value.slice lA ln lc, Value.slice bA bn bc] 25)).heap.size = w.heap.size + 1 by simp] at hY0
  have hci := Lib.hid (fun w2 (hq : Below w.heap.size w w2) => equalI_any lA lA2 ln lc ln lc2 lose w2 (ha.out.more hq).la (hb.out.more hq).la (by omega))
  obtain ⟨k0, k1, k2, k3, k4, k5⟩ := (show ((w.alloc (.cells #[Value.int .i64 now, Value.int .i64 delay, Value.bool cut, Value.int .i64 count, Value.slice lA ln lc, Value.slice bA bn bc] 25)).alloc (.cells #[Value.int .i64 now, Value.int .i64 delay, Value.bool cut, Value.int .i64 count, Value.slice lA2 ln lc2, Value.slice bA2 bn bc2] 25)).cell? ⟨w.heap.size, 0, none⟩ = some (Value.int .i64 now) ∧ ((w.alloc (.cells #[Value.int .i64 now, Value.int .i64 delay, Value.bool cut, Value.int .i64 count, Value.slice lA ln lc, Value.slice bA bn bc] 25)).alloc (.cells #[Value.int .i64 now, Value.int .i64 delay, Value.bool cut, Value.int .i64 count, Value.slice lA2 ln lc2, Value.slice bA2 bn bc2] 25)).cell? ⟨w.heap.size, 1, none⟩ = some (Value.int .i64 delay) ∧ ((w.alloc (.cells #[Value.int .i64 now, Value.int .i64 delay, Value.bool cut, Value.int .i64 count, Value.slice lA ln lc, Value.slice bA bn bc] 25)).alloc (.cells #[Value.int .i64 now, Value.int .i64 delay, Value.bool cut, Value.int .i64 count, Value.slice lA2 ln lc2, Value.slice bA2 bn bc2] 25)).cell? ⟨w.heap.size, 2, none⟩ = some (Value.bool cut) ∧ ((w.alloc (.cells #[Value.int .i64 now, Value.int .i64 delay, Value.bool cut, Value.int .i64 count, Value.slice lA ln lc, Value.slice bA bn bc] 25)).alloc (.cells #[Value.int .i64 now, Value.int .i64 delay, Value.bool cut, Value.int .i64 count, Value.slice lA2 ln lc2, Value.slice bA2 bn bc2] 25)).cell? ⟨w.heap.size, 3, none⟩ = some (Value.int .i64 count) ∧ ((w.alloc (.cells #[Value.int .i64 now, Value.int .i64 delay, Value.bool cut, Value.int .i64 count, Value.slice lA ln lc, Value.slice bA bn bc] 25)).alloc (.cells #[Value.int .i64 now, Value.int .i64 delay, Value.bool cut, Value.int .i64 count, Value.slice lA2 ln lc2, Value.slice bA2 bn bc2] 25)).cell? ⟨w.heap.size, 4, none⟩ = some (Value.slice lA ln lc) ∧ ((w.alloc (.cells #[Value.int .i64 now, Value.int .i64 delay, Value.bool cut, Value.int .i64 count, Value.slice lA ln lc, Value.slice bA bn bc] 25)).alloc (.cells #[Value.int .i64 now, Value.int .i64 delay, Value.bool cut, Value.int .i64 count, Value.slice lA2 ln lc2, Value.slice bA2 bn bc2] 25)).cell? ⟨w.heap.size, 5, none⟩ = some (Value.slice bA bn bc) from ⟨hX0.out.cell 0, hX0.out.cell 1, hX0.out.cell 2, hX0.out.cell 3, hX0.out.cell 4, hX0.out.cell 5⟩)
  obtain ⟨m0, m1, m2, m3, m4, m5⟩ := (show ((w.alloc (.cells #[Value.int .i64 now, Value.int .i64 delay, Value.bool cut, Value.int .i64 count, Value.slice lA ln lc, Value.slice bA bn bc] 25)).alloc (.cells #[Value.int .i64 now, Value.int .i64 delay, Value.bool cut, Value.int .i64 count, Value.slice lA2 ln lc2, Value.slice bA2 bn bc2] 25)).cell? ⟨(w.heap.size + 1), 0, none⟩ = some (Value.int .i64 now) ∧ ((w.alloc (.cells #[Value.int .i64 now, Value.int .i64 delay, Value.bool cut, Value.int .i64 count, Value.slice lA ln lc, Value.slice bA bn bc] 25)).alloc (.cells #[Value.int .i64 now, Value.int .i64 delay, Value.bool cut, Value.int .i64 count, Value.slice lA2 ln lc2, Value.slice bA2 bn bc2] 25)).cell? ⟨(w.heap.size + 1), 1, none⟩ = some (Value.int .i64 delay) ∧ ((w.alloc (.cells #[Value.int .i64 now, Value.int .i64 delay, Value.bool cut, Value.int .i64 count, Value.slice lA ln lc, Value.slice bA bn bc] 25)).alloc (.cells #[Value.int .i64 now, Value.int .i64 delay, Value.bool cut, Value.int .i64 count, Value.slice lA2 ln lc2, Value.slice bA2 bn bc2] 25)).cell? ⟨(w.heap.size + 1), 2, none⟩ = some (Value.bool cut) ∧ ((w.alloc (.cells #[Value.int .i64 now, Value.int .i64 delay, Value.bool cut, Value.int .i64 count, Value.slice lA ln lc, Value.slice bA bn bc] 25)).alloc (.cells #[Value.int .i64 now, Value.int .i64 delay, Value.bool cut, Value.int .i64 count, Value.slice lA2 ln lc2, Value.slice bA2 bn bc2] 25)).cell? ⟨(w.heap.size + 1), 3, none⟩ = some (Value.int .i64 count) ∧ ((w.alloc (.cells #[Value.int .i64 now, Value.int .i64 delay, Value.bool cut, Value.int .i64 count, Value.slice lA ln lc, Value.slice bA bn bc] 25)).alloc (.cells #[Value.int .i64 now, Value.int .i64 delay, Value.bool cut, Value.int .i64 count, Value.slice lA2 ln lc2, Value.slice bA2 bn bc2] 25)).cell? ⟨(w.heap.size + 1), 4, none⟩ = some (Value.slice lA2 ln lc2) ∧ ((w.alloc (.cells #[Value.int .i64 now, Value.int .i64 delay, Value.bool cut, Value.int .i64 count, Value.slice lA ln lc, Value.slice bA bn bc] 25)).alloc (.cells #[Value.int .i64 now, Value.int .i64 delay, Value.bool cut, Value.int .i64 count, Value.slice lA2 ln lc2, Value.slice bA2 bn bc2] 25)).cell? ⟨(w.heap.size + 1), 5, none⟩ = some (Value.slice bA2 bn bc2) from ⟨hY0.out.cell 0, hY0.out.cell 1, hY0.out.cell 2, hY0.out.cell 3, hY0.out.cell 4, hY0.out.cell 5⟩)
  go_enter Try.func18, Try.ntmps18
  go_wp2_with fail
  clear k0 k1 k2 k3 k4 k5 m0 m1 m2 m3 m4 m5
  generalize ((w.alloc (.cells #[Value.int .i64 now, Value.int .i64 delay, Value.bool cut, Value.int .i64 count, Value.slice lA ln lc, Value.slice bA bn bc] 25)).alloc (.cells #[Value.int .i64 now, Value.int .i64 delay, Value.bool cut, Value.int .i64 count, Value.slice lA2 ln lc2, Value.slice bA2 bn bc2] 25)) = w1 at *
  refine (hci.out w1 hb0.out).mono ?_; rintro e w2 ⟨rfl, hq⟩
  have hX := Lib.hid (hX0.out.below hq hX0.out.lt)
  have hY := Lib.hid (hY0.out.below hq hY0.out.lt)
  have hbb := Lib.hid (hb0.out.trans (hq.mono hb0.out.size))
  clear hq hX0 hY0 hb0 hci
  obtain ⟨k0, k1, k2, k3, k4, k5⟩ := (show w2.cell? ⟨w.heap.size, 0, none⟩ = some (Value.int .i64 now) ∧ w2.cell? ⟨w.heap.size, 1, none⟩ = some (Value.int .i64 delay) ∧ w2.cell? ⟨w.heap.size, 2, none⟩ = some (Value.bool cut) ∧ w2.cell? ⟨w.heap.size, 3, none⟩ = some (Value.int .i64 count) ∧ w2.cell? ⟨w.heap.size, 4, none⟩ = some (Value.slice lA ln lc) ∧ w2.cell? ⟨w.heap.size, 5, none⟩ = some (Value.slice bA bn bc) from ⟨hX.out.cell 0, hX.out.cell 1, hX.out.cell 2, hX.out.cell 3, hX.out.cell 4, hX.out.cell 5⟩)
  obtain ⟨m0, m1, m2, m3, m4, m5⟩ := (show w2.cell? ⟨(w.heap.size + 1), 0, none⟩ = some (Value.int .i64 now) ∧ w2.cell? ⟨(w.heap.size + 1), 1, none⟩ = some (Value.int .i64 delay) ∧ w2.cell? ⟨(w.heap.size + 1), 2, none⟩ = some (Value.bool cut) ∧ w2.cell? ⟨(w.heap.size + 1), 3, none⟩ = some (Value.int .i64 count) ∧ w2.cell? ⟨(w.heap.size + 1), 4, none⟩ = some (Value.slice lA2 ln lc2) ∧ w2.cell? ⟨(w.heap.size + 1), 5, none⟩ = some (Value.slice bA2 bn bc2) from ⟨hY.out.cell 0, hY.out.cell 1, hY.out.cell 2, hY.out.cell 3, hY.out.cell 4, hY.out.cell 5⟩)
  go_wp2_with fail
  clear k0 k1 k2 k3 k4 k5 m0 m1 m2 m3 m4 m5
  go_loopw [52] (fun i wr => ∃ k : Nat, k ≤ bn ∧ i = .int .i64 k ∧ Hid (Blk wr w.heap.size 25 #[Value.int .i64 now, Value.int .i64 delay, Value.bool cut, Value.int .i64 count, Value.slice lA ln lc, Value.slice bA bn bc]) ∧ Hid (Blk wr (w.heap.size + 1) 25 #[Value.int .i64 now, Value.int .i64 delay, Value.bool cut, Value.int .i64 count, Value.slice lA2 ln lc2, Value.slice bA2 bn bc2]) ∧ Hid (Below w.heap.size w wr)) (fun i _ => bn - (intOf i).toNat)
  case atStart => exact ⟨0, Nat.zero_le _, rfl, hX.out, hY.out, hbb.out⟩
  clear hX hY hbb
  case round =>
    obtain ⟨k, hkn, rfl, hX, hY, hbb⟩ := hrel
    by_cases hlt : k < bn
    · have k1 : k < box.length := by have := hbn.out; (try simp only at this); omega
      have k2 : k < box2.length := by have := hbl.out; omega
      have hk0 : (0 : Int) ≤ k := by omega
      have hk1 : (k : Int) < bn := by omega
      have hvk : box[k].val = box2[k].val := by
        have h8 : (box.map Pk.val)[k]? = (box2.map Pk.val)[k]? := by rw [he5.out]
        simpa [k1, k2] using h8
      obtain ⟨ad, hA, -, -, -⟩ := pk_cells (ha.out.ba.below hbb.out (Nat.le_refl _)) hlt
      obtain ⟨ad2, hA2, -, -, -⟩ := pk_cells (hb.out.ba.below hbb.out (Nat.le_refl _)) hlt
      (try simp only at hA hA2)
      have hcp : Hid (∀ wz, Below w.heap.size w wz → (wz.cell? (ad.add (k * 2)) = some (Value.int .i64 box[k].due) ∧ wz.cell? ⟨(ad.add (k * 2)).block, (ad.add (k * 2)).off + 1, none⟩ = some (Value.slice box[k].A box[k].n box[k].c)) ∧ (wz.cell? (ad2.add (k * 2)) = some (Value.int .i64 box2[k].due) ∧ wz.cell? ⟨(ad2.add (k * 2)).block, (ad2.add (k * 2)).off + 1, none⟩ = some (Value.slice box2[k].A box2[k].n box2[k].c))) := fun wz hz => by
        obtain ⟨x1, hA', -, q⟩ := pk_cells (ha.out.ba.below hz (Nat.le_refl _)) hlt
        obtain ⟨x2, hA2', -, q2⟩ := pk_cells (hb.out.ba.below hz (Nat.le_refl _)) hlt
        (try simp only at hA' hA2')
        rw [hA] at hA'; cases hA'
        rw [hA2] at hA2'; cases hA2'
        exact ⟨q, q2⟩
      have hpa := Lib.hid (ha.out.bd _ (List.getElem_mem k1))
      have hpb := Lib.hid (hb.out.bd _ (List.getElem_mem k2))
      (try simp only at hpa hpb)
      generalize box[k] = p at *
      generalize box2[k] = q at *
      obtain ⟨due, pA, pn, pc, pd⟩ := p
      obtain ⟨due2, qA, qn, qc, qd⟩ := q
      simp only [Pk.val, Prod.mk.injEq] at hvk
      obtain ⟨e1, e2⟩ := hvk
      subst e1 e2
      obtain rfl : pd.length = pn := hpa.out.1.1.len
      obtain rfl : pd.length = qn := hpb.out.1.1.len
      simp only at hcp
      subst hA
      subst hA2
      have hcell : Hid (∀ wz, Below wr.heap.size wr wz → wz.cell? ⟨w.heap.size, 5, none⟩ = some (Value.slice (some ad) bn bc) ∧ wz.cell? ⟨w.heap.size + 1, 5, none⟩ = some (Value.slice (some ad2) bn bc2) ∧ wz.cell? (ad.add (k * 2)) = some (Value.int .i64 due) ∧ wz.cell? ⟨(ad.add (k * 2)).block, (ad.add (k * 2)).off + 1, none⟩ = some (Value.slice pA pd.length pc) ∧ wz.cell? (ad2.add (k * 2)) = some (Value.int .i64 due) ∧ wz.cell? ⟨(ad2.add (k * 2)).block, (ad2.add (k * 2)).off + 1, none⟩ = some (Value.slice qA pd.length qc)) := fun wz hz => by
        have q1 := hX.out.below hz hX.out.lt
        have q2 := hY.out.below hz hY.out.lt
        have q3 := hcp.out wz (hbb.out.trans (hz.mono hbb.out.size))
        exact ⟨q1.cell 5, q2.cell 5, q3.1.1, q3.1.2, q3.2.1, q3.2.2⟩
      have heq : Hid (∀ wz, Below wr.heap.size wr wz → Calls Try.prog 15 #[.slice pA pd.length pc, .slice qA pd.length qc] wz fun e w' => e = .returned (.bool true) ∧ w' = wz) := fun wz hz => equal_any pA qA _ pc _ qc pd wz _ _ (hpa.out.more (hbb.out.trans (hz.mono hbb.out.size))).1.1 (hpb.out.more (hbb.out.trans (hz.mono hbb.out.size))).1.1
      clear hcp hpa hpb
      go_wp2_with fail
      refine RM.region [] [] (F := F18 w.heap.size k bn bc bc2 pd.length pc qc ad ad2 due pA qA) (W := fun wz => Below wr.heap.size wr wz) (R := fun _ => Rb) (S := noS) (G := noG) rfl F18_more (fun _ _ _ _ _ _ _ => trivial) (fun _ _ _ _ _ h => h.elim) (fun _ _ _ _ _ h => h.elim) (by kernel_rfl) (by kernel_rfl) (by kernel_rfl) (by kernel_rfl) (by kernel_rfl) ?_ ?_ ?_ (by kernel_rfl) ?_
      · exact (Below.refl _ _).drew
      · intro t ht
        unfold F18
        split <;> first | trivial | exact rfl | (exact absurd ht (by decide))
      · simp only [List.forall_mem_cons, List.not_mem_nil, false_implies, implies_true, and_true]
        refine ⟨?_, ?_, ?_, ?_, ?_, ?_, ?_, ?_, ?_, ?_, ?_, ?_, ?_, ?_, ?_, ?_, ?_, ?_, ?_, ?_, ?_, ?_, ?_, ?_, ?_, ?_, ?_, ?_, ?_⟩
        · intro a w2 hw _ hf K hK
          have f0 := hf 2 rfl
          simp only [F18] at f0
          clear hf
          go_simp
          exact hK _ _ _ rfl rfl hw (Below.refl _ _) (fun h => absurd h (by decide))
        · intro a w2 hw _ hf K hK
          have f0 := hf 55 rfl
          simp only [F18] at f0
          clear hf
          obtain ⟨k5, m5, e0, e1, d0, d1⟩ := hcell.out w2 hw
          go_simp
          exact hK _ _ _ rfl rfl hw (Below.refl _ _) (fun h => absurd h (by decide))
        · intro a w2 hw _ hf K hK
          have f0 := hf 5 rfl
          simp only [F18] at f0
          clear hf
          go_simp
          exact hK _ _ _ rfl rfl hw (Below.refl _ _) (fun h => absurd h (by decide))
        · intro a w2 hw _ hf K hK
          have f0 := hf 56 rfl
          have f1 := hf 57 rfl
          simp only [F18] at f0 f1
          clear hf
          go_simp
          exact hK _ _ _ rfl rfl hw (Below.refl _ _) (fun h => absurd h (by decide))
        · intro a w2 hw _ hf K hK
          have f0 := hf 58 rfl
          simp only [F18] at f0
          clear hf
          go_simp
          exact hK _ _ _ rfl rfl hw (Below.refl _ _) (fun h => absurd h (by decide))
        · intro a w2 hw _ hf K hK
          have f0 := hf 59 rfl
          simp only [F18] at f0
          clear hf
          obtain ⟨k5, m5, e0, e1, d0, d1⟩ := hcell.out w2 hw
          go_simp
          exact hK _ _ _ rfl rfl hw (Below.refl _ _) (fun h => absurd h (by decide))
        · intro a w2 hw _ hf K hK
          have f0 := hf 3 rfl
          simp only [F18] at f0
          clear hf
          go_simp
          exact hK _ _ _ rfl rfl hw (Below.refl _ _) (fun h => absurd h (by decide))
        · intro a w2 hw _ hf K hK
          have f0 := hf 61 rfl
          simp only [F18] at f0
          clear hf
          obtain ⟨k5, m5, e0, e1, d0, d1⟩ := hcell.out w2 hw
          go_simp
          exact hK _ _ _ rfl rfl hw (Below.refl _ _) (fun h => absurd h (by decide))
        · intro a w2 hw _ hf K hK
          have f0 := hf 5 rfl
          simp only [F18] at f0
          clear hf
          go_simp
          exact hK _ _ _ rfl rfl hw (Below.refl _ _) (fun h => absurd h (by decide))
        · intro a w2 hw _ hf K hK
          have f0 := hf 62 rfl
          have f1 := hf 63 rfl
          simp only [F18] at f0 f1
          clear hf
          go_simp
          exact hK _ _ _ rfl rfl hw (Below.refl _ _) (fun h => absurd h (by decide))
        · intro a w2 hw _ hf K hK
          have f0 := hf 64 rfl
          simp only [F18] at f0
          clear hf
          go_simp
          exact hK _ _ _ rfl rfl hw (Below.refl _ _) (fun h => absurd h (by decide))
        · intro a w2 hw _ hf K hK
          have f0 := hf 65 rfl
          simp only [F18] at f0
          clear hf
          obtain ⟨k5, m5, e0, e1, d0, d1⟩ := hcell.out w2 hw
          go_simp
          exact hK _ _ _ rfl rfl hw (Below.refl _ _) (fun h => absurd h (by decide))
        · intro a w2 hw _ hf K hK
          have f0 := hf 60 rfl
          have f1 := hf 66 rfl
          simp only [F18] at f0 f1
          clear hf
          go_simp
          exact hK _ _ _ rfl rfl hw (Below.refl _ _) (fun h => absurd h (by decide))
        · intro a w2 hw _ hf K hK
          have f0 := hf 67 rfl
          simp only [F18] at f0
          clear hf
          go_simp
          exact hK _ _ _ rfl rfl hw (Below.refl _ _) (fun h => absurd h (by decide))
        · refine ⟨?_, ?_⟩
          · intro a w2 hw hg hf K hK
            have f0 := hf 2 rfl
            simp only [F18] at f0
            clear hf
            go_simp
            exact hK _ _ _ rfl rfl hw (Below.refl _ _) (fun h => absurd h (by decide))
          · exact fun v w _ hv hne => absurd hv hne
        · refine ⟨?_, ?_⟩
          · intro a w2 hw hg hf K hK
            have f0 := hf 69 rfl
            simp only [F18] at f0
            clear hf
            obtain ⟨k5, m5, e0, e1, d0, d1⟩ := hcell.out w2 hw
            go_simp
            exact hK _ _ _ rfl rfl hw (Below.refl _ _) (fun h => absurd h (by decide))
          · exact fun v w _ hv hne => absurd hv hne
        · refine ⟨?_, ?_⟩
          · intro a w2 hw hg hf K hK
            have f0 := hf 5 rfl
            simp only [F18] at f0
            clear hf
            go_simp
            exact hK _ _ _ rfl rfl hw (Below.refl _ _) (fun h => absurd h (by decide))
          · exact fun v w _ hv hne => absurd hv hne
        · refine ⟨?_, ?_⟩
          · intro a w2 hw hg hf K hK
            have f0 := hf 70 rfl
            have f1 := hf 71 rfl
            simp only [F18] at f0 f1
            clear hf
            go_simp
            exact hK _ _ _ rfl rfl hw (Below.refl _ _) (fun h => absurd h (by decide))
          · exact fun v w _ hv hne => absurd hv hne
        · refine ⟨?_, ?_⟩
          · intro a w2 hw hg hf K hK
            have f0 := hf 72 rfl
            simp only [F18] at f0
            clear hf
            go_simp
            exact hK _ _ _ rfl rfl hw (Below.refl _ _) (fun h => absurd h (by decide))
          · exact fun v w _ hv hne => absurd hv hne
        · refine ⟨?_, ?_⟩
          · intro a w2 hw hg hf K hK
            have f0 := hf 73 rfl
            simp only [F18] at f0
            clear hf
            obtain ⟨k5, m5, e0, e1, d0, d1⟩ := hcell.out w2 hw
            go_simp
            exact hK _ _ _ rfl rfl hw (Below.refl _ _) (fun h => absurd h (by decide))
          · exact fun v w _ hv hne => absurd hv hne
        · refine ⟨?_, ?_⟩
          · intro a w2 hw hg hf K hK
            have f0 := hf 3 rfl
            simp only [F18] at f0
            clear hf
            go_simp
            exact hK _ _ _ rfl rfl hw (Below.refl _ _) (fun h => absurd h (by decide))
          · exact fun v w _ hv hne => absurd hv hne
        · refine ⟨?_, ?_⟩
          · intro a w2 hw hg hf K hK
            have f0 := hf 75 rfl
            simp only [F18] at f0
            clear hf
            obtain ⟨k5, m5, e0, e1, d0, d1⟩ := hcell.out w2 hw
            go_simp
            exact hK _ _ _ rfl rfl hw (Below.refl _ _) (fun h => absurd h (by decide))
          · exact fun v w _ hv hne => absurd hv hne
        · refine ⟨?_, ?_⟩
          · intro a w2 hw hg hf K hK
            have f0 := hf 5 rfl
            simp only [F18] at f0
            clear hf
            go_simp
            exact hK _ _ _ rfl rfl hw (Below.refl _ _) (fun h => absurd h (by decide))
          · exact fun v w _ hv hne => absurd hv hne
        · refine ⟨?_, ?_⟩
          · intro a w2 hw hg hf K hK
            have f0 := hf 76 rfl
            have f1 := hf 77 rfl
            simp only [F18] at f0 f1
            clear hf
            go_simp
            exact hK _ _ _ rfl rfl hw (Below.refl _ _) (fun h => absurd h (by decide))
          · exact fun v w _ hv hne => absurd hv hne
        · refine ⟨?_, ?_⟩
          · intro a w2 hw hg hf K hK
            have f0 := hf 78 rfl
            simp only [F18] at f0
            clear hf
            go_simp
            exact hK _ _ _ rfl rfl hw (Below.refl _ _) (fun h => absurd h (by decide))
          · exact fun v w _ hv hne => absurd hv hne
        · refine ⟨?_, ?_⟩
          · intro a w2 hw hg hf K hK
            have f0 := hf 79 rfl
            simp only [F18] at f0
            clear hf
            obtain ⟨k5, m5, e0, e1, d0, d1⟩ := hcell.out w2 hw
            go_simp
            exact hK _ _ _ rfl rfl hw (Below.refl _ _) (fun h => absurd h (by decide))
          · exact fun v w _ hv hne => absurd hv hne
        · refine ⟨?_, ?_⟩
          · intro a w2 hw hg hf K hK
            have f0 := hf 74 rfl
            have f1 := hf 80 rfl
            simp only [F18] at f0 f1
            clear hf
            go_simp
            refine (heq.out w2 hw).mono ?_; rintro e w5 ⟨rfl, rfl⟩
            exact hK _ _ _ rfl rfl hw (Below.refl _ _) (fun h => absurd h (by decide))
          · exact fun v w _ hv hne => absurd hv hne
        · refine ⟨?_, ?_⟩
          · intro a w2 hw hg hf K hK
            have f0 := hf 81 rfl
            simp only [F18] at f0
            clear hf
            go_simp
            exact hK _ _ _ rfl rfl hw (Below.refl _ _) (fun h => absurd h (by decide))
          · exact fun v w _ hv hne => absurd hv hne
        · intro a w2 hw _ hf K hK
          have f0 := hf 68 rfl
          have f1 := hf 82 rfl
          simp only [F18] at f0 f1
          clear hf
          go_simp
          exact hK _ _ _ rfl rfl hw (Below.refl _ _) (fun h => absurd h (by decide))
      · intro a' w9 hd hs hw hout hf _
        have h83 := hf 83 rfl
        simp only [F18] at h83
        have e2 : _ = some (Value.pointer (some ⟨w.heap.size, 0, none⟩)) := hout 2 rfl
        have e3 : _ = some (Value.pointer (some ⟨w.heap.size + 1, 0, none⟩)) := hout 3 rfl
        have e0 : _ = some (Value.agg #[Value.int .i64 now, Value.int .i64 delay, Value.bool cut, Value.int .i64 count, Value.slice lA ln lc, Value.slice (some ad) bn bc]) := hout 0 rfl
        have e1 : _ = some (Value.agg #[Value.int .i64 now, Value.int .i64 delay, Value.bool cut, Value.int .i64 count, Value.slice lA2 ln lc2, Value.slice (some ad2) bn bc2]) := hout 1 rfl
        have e6 : _ = some (Value.pointer (some ⟨w.heap.size, 0, none⟩)) := hout 6 rfl
        have e7 : _ = some (Value.int .i64 now) := hout 7 rfl
        have e8 : _ = some (Value.pointer (some ⟨w.heap.size + 1, 0, none⟩)) := hout 8 rfl
        have e9 : _ = some (Value.int .i64 now) := hout 9 rfl
        have e10 : _ = some (Value.bool false) := hout 10 rfl
        have e11 : _ = some (Value.bool false) := hout 11 rfl
        have e12 : _ = some (Value.pointer (some ⟨w.heap.size, 1, none⟩)) := hout 12 rfl
        have e13 : _ = some (Value.int .i64 delay) := hout 13 rfl
        have e14 : _ = some (Value.pointer (some ⟨w.heap.size + 1, 1, none⟩)) := hout 14 rfl
        have e15 : _ = some (Value.int .i64 delay) := hout 15 rfl
        have e16 : _ = some (Value.bool false) := hout 16 rfl
        have e17 : _ = some (Value.bool false) := hout 17 rfl
        have e18 : _ = some (Value.bool false) := hout 18 rfl
        have e19 : _ = some (Value.pointer (some ⟨w.heap.size, 2, none⟩)) := hout 19 rfl
        have e20 : _ = some (Value.bool cut) := hout 20 rfl
        have e21 : _ = some (Value.pointer (some ⟨w.heap.size + 1, 2, none⟩)) := hout 21 rfl
        have e22 : _ = some (Value.bool cut) := hout 22 rfl
        have e23 : _ = some (Value.bool false) := hout 23 rfl
        have e24 : _ = some (Value.bool false) := hout 24 rfl
        have e25 : _ = some (Value.bool false) := hout 25 rfl
        have e26 : _ = some (Value.pointer (some ⟨w.heap.size, 3, none⟩)) := hout 26 rfl
        have e27 : _ = some (Value.int .i64 count) := hout 27 rfl
        have e28 : _ = some (Value.pointer (some ⟨w.heap.size + 1, 3, none⟩)) := hout 28 rfl
        have e29 : _ = some (Value.int .i64 count) := hout 29 rfl
        have e30 : _ = some (Value.bool false) := hout 30 rfl
        have e31 : _ = some (Value.bool false) := hout 31 rfl
        have e32 : _ = some (Value.bool false) := hout 32 rfl
        have e33 : _ = some (Value.pointer (some ⟨w.heap.size, 4, none⟩)) := hout 33 rfl
        have e34 : _ = some (Value.slice lA ln lc) := hout 34 rfl
        have e35 : _ = some (Value.pointer (some ⟨w.heap.size + 1, 4, none⟩)) := hout 35 rfl
        have e36 : _ = some (Value.slice lA2 ln lc2) := hout 36 rfl
        have e37 : _ = some (Value.bool true) := hout 37 rfl
        have e38 : _ = some (Value.bool false) := hout 38 rfl
        have e39 : _ = some (Value.bool false) := hout 39 rfl
        have e40 : _ = some (Value.bool false) := hout 40 rfl
        have e41 : _ = some (Value.pointer (some ⟨w.heap.size, 5, none⟩)) := hout 41 rfl
        have e42 : _ = some (Value.slice (some ad) bn bc) := hout 42 rfl
        have e43 : _ = some (Value.int .i64 bn) := hout 43 rfl
        have e44 : _ = some (Value.pointer (some ⟨w.heap.size + 1, 5, none⟩)) := hout 44 rfl
        have e45 : _ = some (Value.slice (some ad2) bn bc2) := hout 45 rfl
        have e46 : _ = some (Value.int .i64 bn) := hout 46 rfl
        have e47 : _ = some (Value.bool false) := hout 47 rfl
        have e48 : _ = some (Value.bool false) := hout 48 rfl
        have e49 : _ = some (Value.pointer (some ⟨w.heap.size, 5, none⟩)) := hout 49 rfl
        have e50 : _ = some (Value.slice (some ad) bn bc) := hout 50 rfl
        have e51 : _ = some (Value.int .i64 bn) := hout 51 rfl
        have e52 : _ = some (Value.int .i64 k) := hout 52 rfl
        obtain ⟨tm, df⟩ := a'
        simp only at hd hs h83 e2 e3 e0 e1 e6 e7 e8 e9 e10 e11 e12 e13 e14 e15 e16 e17 e18 e19 e20 e21 e22 e23 e24 e25 e26 e27 e28 e29 e30 e31 e32 e33 e34 e35 e36 e37 e38 e39 e40 e41 e42 e43 e44 e45 e46 e47 e48 e49 e50 e51 e52
        have e := lit_arr tm 85 hs
        rw [show (List.range 85).map (fun i => tm[i]?.getD undef) = [tm[0]?.getD undef, tm[1]?.getD undef, tm[2]?.getD undef, tm[3]?.getD undef, tm[4]?.getD undef, tm[5]?.getD undef, tm[6]?.getD undef, tm[7]?.getD undef, tm[8]?.getD undef, tm[9]?.getD undef, tm[10]?.getD undef, tm[11]?.getD undef, tm[12]?.getD undef, tm[13]?.getD undef, tm[14]?.getD undef, tm[15]?.getD undef, tm[16]?.getD undef, tm[17]?.getD undef, tm[18]?.getD undef, tm[19]?.getD undef, tm[20]?.getD undef, tm[21]?.getD undef, tm[22]?.getD undef, tm[23]?.getD undef, tm[24]?.getD undef, tm[25]?.getD undef, tm[26]?.getD undef, tm[27]?.getD undef, tm[28]?.getD undef, tm[29]?.getD undef, tm[30]?.getD undef, tm[31]?.getD undef, tm[32]?.getD undef, tm[33]?.getD undef, tm[34]?.getD undef, tm[35]?.getD undef, tm[36]?.getD undef, tm[37]?.getD undef, tm[38]?.getD undef, tm[39]?.getD undef, tm[40]?.getD undef, tm[41]?.getD undef, tm[42]?.getD undef, tm[43]?.getD undef, tm[44]?.getD undef, tm[45]?.getD undef, tm[46]?.getD undef, tm[47]?.getD undef, tm[48]?.getD undef, tm[49]?.getD undef, tm[50]?.getD undef, tm[51]?.getD undef, tm[52]?.getD undef, tm[53]?.getD undef, tm[54]?.getD undef, tm[55]?.getD undef, tm[56]?.getD undef, tm[57]?.getD undef, tm[58]?.getD undef, tm[59]?.getD undef, tm[60]?.getD undef, tm[61]?.getD undef, tm[62]?.getD undef, tm[63]?.getD undef, tm[64]?.getD undef, tm[65]?.getD undef, tm[66]?.getD undef, tm[67]?.getD undef, tm[68]?.getD undef, tm[69]?.getD undef, tm[70]?.getD undef, tm[71]?.getD undef, tm[72]?.getD undef, tm[73]?.getD undef, tm[74]?.getD undef, tm[75]?.getD undef, tm[76]?.getD undef, tm[77]?.getD undef, tm[78]?.getD undef, tm[79]?.getD undef, tm[80]?.getD undef, tm[81]?.getD undef, tm[82]?.getD undef, tm[83]?.getD undef, tm[84]?.getD undef] from rfl] at e
        simp only [h83, e2, e3, e0, e1, e6, e7, e8, e9, e10, e11, e12, e13, e14, e15, e16, e17, e18, e19, e20, e21, e22, e23, e24, e25, e26, e27, e28, e29, e30, e31, e32, e33, e34, e35, e36, e37, e38, e39, e40, e41, e42, e43, e44, e45, e46, e47, e48, e49, e50, e51, e52, Option.getD_some] at e
        clear hf hout hs
        rw [e, hd]
        clear e hd h83 e2 e3 e0 e1 e6 e7 e8 e9 e10 e11 e12 e13 e14 e15 e16 e17 e18 e19 e20 e21 e22 e23 e24 e25 e26 e27 e28 e29 e30 e31 e32 e33 e34 e35 e36 e37 e38 e39 e40 e41 e42 e43 e44 e45 e46 e47 e48 e49 e50 e51 e52
        generalize tm[4]?.getD undef = u4x
        generalize tm[5]?.getD undef = u5x
        generalize tm[53]?.getD undef = u53x
        generalize tm[54]?.getD undef = u54x
        generalize tm[55]?.getD undef = u55x
        generalize tm[56]?.getD undef = u56x
        generalize tm[57]?.getD undef = u57x
        generalize tm[58]?.getD undef = u58x
        generalize tm[59]?.getD undef = u59x
        generalize tm[60]?.getD undef = u60x
        generalize tm[61]?.getD undef = u61x
        generalize tm[62]?.getD undef = u62x
        generalize tm[63]?.getD undef = u63x
        generalize tm[64]?.getD undef = u64x
        generalize tm[65]?.getD undef = u65x
        generalize tm[66]?.getD undef = u66x
        generalize tm[67]?.getD undef = u67x
        generalize tm[68]?.getD undef = u68x
        generalize tm[69]?.getD undef = u69x
        generalize tm[70]?.getD undef = u70x
        generalize tm[71]?.getD undef = u71x
        generalize tm[72]?.getD undef = u72x
        generalize tm[73]?.getD undef = u73x
        generalize tm[74]?.getD undef = u74x
        generalize tm[75]?.getD undef = u75x
        generalize tm[76]?.getD undef = u76x
        generalize tm[77]?.getD undef = u77x
        generalize tm[78]?.getD undef = u78x
        generalize tm[79]?.getD undef = u79x
        generalize tm[80]?.getD undef = u80x
        generalize tm[81]?.getD undef = u81x
        generalize tm[82]?.getD undef = u82x
        generalize tm[84]?.getD undef = u84x
        have hbb := Lib.hid (hbb.out.trans (hw.mono hbb.out.size))
        have hX := Lib.hid (hX.out.below hw hX.out.lt)
        have hY := Lib.hid (hY.out.below hw hY.out.lt)
        clear hw hcell heq
        go_wp2_with fail
        go_roundw
        case rel => exact ⟨k + 1, by omega, by go_num, hX.out, hY.out, hbb.out⟩
        case measure => simp [intOf]; omega
    · go_wp2_with fail
      go_ret
      exact ⟨rfl, hbb.out⟩
end Go.Proofs.Yteolglmdfjddlaa
