/- Links: the law LinkLate, walked. -/
import Derived.Test.YteolglmdfjddlaaLJ
set_option linter.unusedVariables false
set_option linter.unusedSimpArgs false
namespace Go.Proofs.Yteolglmdfjddlaa
open Go.RowKit
/-- a link that says v0 -/
def LkR (v0 : Lv) (v : Value) (w : World) : Prop := ∃ l', v = lkV l' ∧ LkOk w l' ∧ l'.val = v0
theorem LkR.more {v0 : Lv} {v : Value} {w w' : World} (h : LkR v0 v w) (hb : Below w.heap.size w w') : LkR v0 v w' := by
  obtain ⟨l', e, h1, h2⟩ := h
  exact ⟨l', e, h1.more hb, h2⟩
theorem LkOk_ne {w : World} {l : Lk} (h : LkOk w l) (g : Nat) (hg : w.heap.size ≤ g) : LkQ (fun b => b ≠ g) l := by
  have := LkOk_lt h
  exact ⟨fun h0 ad e e2 => by have := this.1 h0 ad e; omega, fun h0 ad e e2 => by have := this.2.1 h0 ad e; omega, fun p hp h0 ad e e2 => by have := this.2.2 p hp h0 ad e; omega⟩
theorem rows_at {w : World} {base : Nat} {A : Option Addr} {n c : Nat} {C : List Bs} (h : LOwn sC 1 27 w base (.slice A n c) C) : LAt sC 1 w w.heap.size A n C := by
  obtain ⟨A9, c9, e9, -, -, -, h9⟩ := h.form
  have := h.lenv
  rw [← this] at e9 h9
  injection e9 with e9 _ _
  subst e9
  exact h9
theorem tick_few (v : Lv) : (tickL v).2.length ≤ v.box.length := by
  unfold tickL
  split
  · simp
  · split
    · simp
    · simpa using List.length_filter_le _ v.box
def F6 (g g7 g9 : Nat) (l la lb : Lk) (ct : Bool) (A1 A2 : Option Addr) (n1 c1 n2 c2 : Nat) : Tmp → Value → World → Prop
  | 2, v, _ => v = .bool ct
  | 3, v, _ => v = .pointer (some ⟨g, 0, none⟩)
  | 6, v, _ => v = .bool true
  | 7, v, _ => v = .pointer (some ⟨g7, 0, none⟩)
  | 9, v, _ => v = .pointer (some ⟨g9, 0, none⟩)
  | 11, v, _ => v = .slice A1 n1 c1
  | 12, v, _ => v = .slice A2 n2 c2
  | 65, v, _ => v = lkV la
  | 66, v, _ => v = lkV lb
  | 67, v, _ => v = .bool true
  | 68, v, _ => v = .bool true
  | 69, v, _ => v = .slice A1 n1 c1
  | 70, v, _ => v = .slice A2 n2 c2
  | 71, v, _ => v = .bool true
  | 72, v, _ => v = .bool true
  | 73, v, _ => v = .bool true
  | 74, v, _ => v = lkV l
  | 75, v, _ => v = .bool ct
  | 76, v, w => LkR (cutL l.val ct) v w
  | 77, v, _ => v = lkV l
  | 78, v, _ => v = .bool ct
  | 79, v, w => LkR (cutL l.val ct) v w
  | 80, v, _ => v = .bool true
  | 81, v, _ => v = .bool true
  | 82, v, _ => v = .bool true
  | 83, v, _ => v = .bool true
  | 84, v, _ => v = .bool true
  | _, _, _ => True
theorem F6_more {g g7 g9 : Nat} {l la lb : Lk} {ct : Bool} {A1 A2 : Option Addr} {n1 c1 n2 c2 : Nat} (d t : Tmp) (v : Value) (w w' : World) (hR : Rb w w') (hne : t ≠ d) (hc : ([] : List (Tmp × Tmp)).contains (d, t) = false) (h : F6 g g7 g9 l la lb ct A1 A2 n1 c1 n2 c2 t v w) : F6 g g7 g9 l la lb ct A1 A2 n1 c1 n2 c2 t v w' := by
  unfold F6 at *
  split at h <;> first | exact h | exact LkR.more h hR | exact fun hg => LkR.more (h hg) hR
set_option maxRecDepth 100000 in
set_option maxHeartbeats 8000000 in
theorem lawLate (l : Lk) (A : Option Addr) (n c : Nat) (d : List UInt8) (ct : Bool) (w : World) (h : LkOk w l) (hd : BAt w w.heap.size A n d) (hc : n ≤ c) (hm : c ≤ maxLen) : Calls Try.prog 6 #[lkV l, .slice A n c, .bool ct] w fun e w' => e = .returned (.bool true) ∧ Below w.heap.size w w' := by
  have hln := Lib.hid h.la.len
  have hbn := Lib.hid h.ba.len
  have hR0 := Lib.hid (fun w2 (hb : Below w.heap.size w w2) (h1 : l.lose.length ≤ 1000) (h2 : l.box.length ≤ 1000) => rvalid_any l w2 (h.more hb) h1 h2)
  obtain ⟨now, delay, cut, count, lA, ln, lc, lose, bA, bn, bc, box⟩ := l
  simp only [lkV, Lk.val] at *
  replace h := Lib.hid h
  replace hd := Lib.hid hd
  have hX0 := Lib.hid (Blk.new w 25 #[Value.int .i64 now, Value.int .i64 delay, Value.bool cut, Value.int .i64 count, Value.slice lA ln lc, Value.slice bA bn bc])
  have hb0 := Lib.hid (a1 w (.cells #[Value.int .i64 now, Value.int .i64 delay, Value.bool cut, Value.int .i64 count, Value.slice lA ln lc, Value.slice bA bn bc] 25))
  obtain ⟨k0, k1, k2, k3, k4, k5⟩ := (show (w.alloc (.cells #[Value.int .i64 now, Value.int .i64 delay, Value.bool cut, Value.int .i64 count, Value.slice lA ln lc, Value.slice bA bn bc] 25)).cell? ⟨w.heap.size, 0, none⟩ = some (Value.int .i64 now) ∧ (w.alloc (.cells #[Value.int .i64 now, Value.int .i64 delay, Value.bool cut, Value.int .i64 count, Value.slice lA ln lc, Value.slice bA bn bc] 25)).cell? ⟨w.heap.size, 1, none⟩ = some (Value.int .i64 delay) ∧ (w.alloc (.cells #[Value.int .i64 now, Value.int .i64 delay, Value.bool cut, Value.int .i64 count, Value.slice lA ln lc, Value.slice bA bn bc] 25)).cell? ⟨w.heap.size, 2, none⟩ = some (Value.bool cut) ∧ (w.alloc (.cells #[Value.int .i64 now, Value.int .i64 delay, Value.bool cut, Value.int .i64 count, Value.slice lA ln lc, Value.slice bA bn bc] 25)).cell? ⟨w.heap.size, 3, none⟩ = some (Value.int .i64 count) ∧ (w.alloc (.cells #[Value.int .i64 now, Value.int .i64 delay, Value.bool cut, Value.int .i64 count, Value.slice lA ln lc, Value.slice bA bn bc] 25)).cell? ⟨w.heap.size, 4, none⟩ = some (Value.slice lA ln lc) ∧ (w.alloc (.cells #[Value.int .i64 now, Value.int .i64 delay, Value.bool cut, Value.int .i64 count, Value.slice lA ln lc, Value.slice bA bn bc] 25)).cell? ⟨w.heap.size, 5, none⟩ = some (Value.slice bA bn bc) from ⟨hX0.out.cell 0, hX0.out.cell 1, hX0.out.cell 2, hX0.out.cell 3, hX0.out.cell 4, hX0.out.cell 5⟩)
  by_cases q0 : 300 < ln
  · have q0i : (300 : Int) < (ln : Int) := by omega
    have q0d : decide ((300 : Int) < (ln : Int)) = true := by simp; omega
    go_enter Try.func6, Try.ntmps6
    go_wp2_with fail
    refine (ex_any _).mono ?_; rintro e w5 ⟨rfl, hq⟩
    go_wp2_with fail
    go_ret
    exact ⟨rfl, hb0.out.trans (hq.mono hb0.out.size)⟩
  have q0i : ¬ (300 : Int) < (ln : Int) := by omega
  have q0d : decide ((300 : Int) < (ln : Int)) = false := by simp; omega
  by_cases q1 : 300 < bn
  · have q1i : (300 : Int) < (bn : Int) := by omega
    have q1d : decide ((300 : Int) < (bn : Int)) = true := by simp; omega
    go_enter Try.func6, Try.ntmps6
    go_wp2_with fail
    refine (ex_any _).mono ?_; rintro e w5 ⟨rfl, hq⟩
    go_wp2_with fail
    go_ret
    exact ⟨rfl, hb0.out.trans (hq.mono hb0.out.size)⟩
  have q1i : ¬ (300 : Int) < (bn : Int) := by omega
  have q1d : decide ((300 : Int) < (bn : Int)) = false := by simp; omega
  by_cases q2 : 65536 < n
  · have q2i : (65536 : Int) < (n : Int) := by omega
    have q2d : decide ((65536 : Int) < (n : Int)) = true := by simp; omega
    go_enter Try.func6, Try.ntmps6
    go_wp2_with fail
    refine (ex_any _).mono ?_; rintro e w5 ⟨rfl, hq⟩
    go_wp2_with fail
    go_ret
    exact ⟨rfl, hb0.out.trans (hq.mono hb0.out.size)⟩
  have q2i : ¬ (65536 : Int) < (n : Int) := by omega
  have q2d : decide ((65536 : Int) < (n : Int)) = false := by simp; omega
  have hcall := hR0.out (w.alloc (.cells #[Value.int .i64 now, Value.int .i64 delay, Value.bool cut, Value.int .i64 count, Value.slice lA ln lc, Value.slice bA bn bc] 25)) hb0.out (by have := hln.out; (try simp only at this); omega) (by have := hbn.out; (try simp only at this); omega)
  obtain ⟨E, hE⟩ : ∃ E, E = validL ⟨now, delay, cut, count, lose, box.map Pk.val⟩ := ⟨_, rfl⟩
  rw [← hE] at hcall
  replace hE := Lib.hid hE
  go_enter Try.func6, Try.ntmps6
  go_wp2_with fail
  refine hcall.mono ?_; rintro e w1 ⟨rfl, hq⟩
  clear k0 k1 k2 k3 k4 k5 hcall hR0
  have hX := Lib.hid (hX0.out.below hq hX0.out.lt)
  have hb := Lib.hid (hb0.out.trans (hq.mono hb0.out.size))
  clear hq hX0 hb0
  obtain ⟨k0, k1, k2, k3, k4, k5⟩ := (show w1.cell? ⟨w.heap.size, 0, none⟩ = some (Value.int .i64 now) ∧ w1.cell? ⟨w.heap.size, 1, none⟩ = some (Value.int .i64 delay) ∧ w1.cell? ⟨w.heap.size, 2, none⟩ = some (Value.bool cut) ∧ w1.cell? ⟨w.heap.size, 3, none⟩ = some (Value.int .i64 count) ∧ w1.cell? ⟨w.heap.size, 4, none⟩ = some (Value.slice lA ln lc) ∧ w1.cell? ⟨w.heap.size, 5, none⟩ = some (Value.slice bA bn bc) from ⟨hX.out.cell 0, hX.out.cell 1, hX.out.cell 2, hX.out.cell 3, hX.out.cell 4, hX.out.cell 5⟩)
  by_cases hE0 : E ≠ 0
  · have hE1 : (E == 0) = false := by simpa using hE0
    go_wp2_with fail
    refine (ex_any _).mono ?_; rintro e w5 ⟨rfl, hq⟩
    go_wp2_with fail
    go_ret
    exact ⟨rfl, hb.out.trans (hq.mono hb.out.size)⟩
  replace hE0 : E = 0 := by simpa using hE0
  subst hE0
  have hgd : Hid (Good ⟨now, delay, cut, count, lose, box.map Pk.val⟩) := good_of _ hE.out.symm
  have hsm : Hid (LkSm ⟨now, delay, cut, count, lA, ln, lc, lose, bA, bn, bc, box⟩) := sm_of (l := ⟨now, delay, cut, count, lA, ln, lc, lose, bA, bn, bc, box⟩) hgd.out.sm
  have hnd := Lib.hid hgd.out.nd
  have hn6 : n ≤ 100000 := by omega
  go_wp2_with fail
  refine (send_any ⟨now, delay, cut, count, lA, ln, lc, lose, bA, bn, bc, box⟩ A n c d w1 (h.out.more hb.out) hsm.out (hd.out.more hb.out) ⟨hc, hm⟩ hnd.out).mono ?_; rintro e w2 ⟨⟨la, rfl, hoka, hva, -, hKa⟩, hq⟩
  clear k0 k1 k2 k3 k4 k5
  simp only [lkV]
  have hX2 := Lib.hid ((hX.out.below hq hX.out.lt).alloc (.cells #[Value.int .i64 la.now, Value.int .i64 la.delay, Value.bool la.cut, Value.int .i64 la.count, Value.slice la.lA la.ln la.lc, Value.slice la.bA la.bn la.bc] 25))
  have hA2 := Lib.hid (Blk.new w2 25 #[Value.int .i64 la.now, Value.int .i64 la.delay, Value.bool la.cut, Value.int .i64 la.count, Value.slice la.lA la.ln la.lc, Value.slice la.bA la.bn la.bc])
  have hb2 : Hid (Below w.heap.size w (w2.alloc (.cells #[Value.int .i64 la.now, Value.int .i64 la.delay, Value.bool la.cut, Value.int .i64 la.count, Value.slice la.lA la.ln la.lc, Value.slice la.bA la.bn la.bc] 25))) := (hb.out.trans (hq.mono hb.out.size)).alloc (hb.out.trans (hq.mono hb.out.size)).size _
  have hok2 : Hid (LkOk (w2.alloc (.cells #[Value.int .i64 la.now, Value.int .i64 la.delay, Value.bool la.cut, Value.int .i64 la.count, Value.slice la.lA la.ln la.lc, Value.slice la.bA la.bn la.bc] 25)) la) := hoka.more (a1 w2 _)
  replace hva := Lib.hid hva
  have hg7s0 : Hid (w.heap.size < w2.heap.size) := Nat.lt_of_lt_of_le hX.out.lt hq.size
  clear hq hX hb hoka hKa
  obtain ⟨Ea, hEa⟩ : ∃ Ea, Ea = (sendL (Lk.val ⟨now, delay, cut, count, lA, ln, lc, lose, bA, bn, bc, box⟩) d).2 := ⟨_, rfl⟩
  rw [← hEa]
  replace hEa := Lib.hid hEa
  obtain ⟨k0, k1, k2, k3, k4, k5⟩ := (show (w2.alloc (.cells #[Value.int .i64 la.now, Value.int .i64 la.delay, Value.bool la.cut, Value.int .i64 la.count, Value.slice la.lA la.ln la.lc, Value.slice la.bA la.bn la.bc] 25)).cell? ⟨w.heap.size, 0, none⟩ = some (Value.int .i64 now) ∧ (w2.alloc (.cells #[Value.int .i64 la.now, Value.int .i64 la.delay, Value.bool la.cut, Value.int .i64 la.count, Value.slice la.lA la.ln la.lc, Value.slice la.bA la.bn la.bc] 25)).cell? ⟨w.heap.size, 1, none⟩ = some (Value.int .i64 delay) ∧ (w2.alloc (.cells #[Value.int .i64 la.now, Value.int .i64 la.delay, Value.bool la.cut, Value.int .i64 la.count, Value.slice la.lA la.ln la.lc, Value.slice la.bA la.bn la.bc] 25)).cell? ⟨w.heap.size, 2, none⟩ = some (Value.bool cut) ∧ (w2.alloc (.cells #[Value.int .i64 la.now, Value.int .i64 la.delay, Value.bool la.cut, Value.int .i64 la.count, Value.slice la.lA la.ln la.lc, Value.slice la.bA la.bn la.bc] 25)).cell? ⟨w.heap.size, 3, none⟩ = some (Value.int .i64 count) ∧ (w2.alloc (.cells #[Value.int .i64 la.now, Value.int .i64 la.delay, Value.bool la.cut, Value.int .i64 la.count, Value.slice la.lA la.ln la.lc, Value.slice la.bA la.bn la.bc] 25)).cell? ⟨w.heap.size, 4, none⟩ = some (Value.slice lA ln lc) ∧ (w2.alloc (.cells #[Value.int .i64 la.now, Value.int .i64 la.delay, Value.bool la.cut, Value.int .i64 la.count, Value.slice la.lA la.ln la.lc, Value.slice la.bA la.bn la.bc] 25)).cell? ⟨w.heap.size, 5, none⟩ = some (Value.slice bA bn bc) from ⟨hX2.out.cell 0, hX2.out.cell 1, hX2.out.cell 2, hX2.out.cell 3, hX2.out.cell 4, hX2.out.cell 5⟩)
  go_wp2_with fail
  clear k0 k1 k2 k3 k4 k5
  obtain ⟨g7, hg7⟩ : ∃ g7, g7 = w2.heap.size := ⟨_, rfl⟩
  rw [← hg7] at hA2 hg7s0 ⊢
  have hg7s := hg7s0
  clear hg7s0
  have hg7w : Hid (w.heap.size ≤ g7) := Nat.le_of_lt hg7s.out
  replace hg7 := Lib.hid hg7
  generalize w2.alloc (.cells #[Value.int .i64 la.now, Value.int .i64 la.delay, Value.bool la.cut, Value.int .i64 la.count, Value.slice la.lA la.ln la.lc, Value.slice la.bA la.bn la.bc] 25) = w3 at *
  refine (rsend_any ⟨now, delay, cut, count, lA, ln, lc, lose, bA, bn, bc, box⟩ A n c d w3 (h.out.more hb2.out) hsm.out (hd.out.more hb2.out) ⟨hc, hm⟩ hnd.out).mono ?_; rintro e w4 ⟨⟨lb, rfl, hokb, hvb, -⟩, hq⟩
  simp only [lkV]
  rw [← hEa.out]
  have hX4 := Lib.hid ((hX2.out.below hq hX2.out.lt).alloc (.cells #[Value.int .i64 lb.now, Value.int .i64 lb.delay, Value.bool lb.cut, Value.int .i64 lb.count, Value.slice lb.lA lb.ln lb.lc, Value.slice lb.bA lb.bn lb.bc] 25))
  have hA4 := Lib.hid ((hA2.out.below hq hA2.out.lt).alloc (.cells #[Value.int .i64 lb.now, Value.int .i64 lb.delay, Value.bool lb.cut, Value.int .i64 lb.count, Value.slice lb.lA lb.ln lb.lc, Value.slice lb.bA lb.bn lb.bc] 25))
  have hB4 := Lib.hid (Blk.new w4 25 #[Value.int .i64 lb.now, Value.int .i64 lb.delay, Value.bool lb.cut, Value.int .i64 lb.count, Value.slice lb.lA lb.ln lb.lc, Value.slice lb.bA lb.bn lb.bc])
  have hb4 : Hid (Below w.heap.size w (w4.alloc (.cells #[Value.int .i64 lb.now, Value.int .i64 lb.delay, Value.bool lb.cut, Value.int .i64 lb.count, Value.slice lb.lA lb.ln lb.lc, Value.slice lb.bA lb.bn lb.bc] 25))) := (hb2.out.trans (hq.mono hb2.out.size)).alloc (hb2.out.trans (hq.mono hb2.out.size)).size _
  have hokA4 : Hid (LkOk (w4.alloc (.cells #[Value.int .i64 lb.now, Value.int .i64 lb.delay, Value.bool lb.cut, Value.int .i64 lb.count, Value.slice lb.lA lb.ln lb.lc, Value.slice lb.bA lb.bn lb.bc] 25)) la) := (hok2.out.more hq).more (a1 w4 _)
  have hokB4 : Hid (LkOk (w4.alloc (.cells #[Value.int .i64 lb.now, Value.int .i64 lb.delay, Value.bool lb.cut, Value.int .i64 lb.count, Value.slice lb.lA lb.ln lb.lc, Value.slice lb.bA lb.bn lb.bc] 25)) lb) := hokb.more (a1 w4 _)
  have hg7w4 : Hid (g7 < w4.heap.size) := Nat.lt_of_lt_of_le hA2.out.lt hq.size
  replace hvb := Lib.hid hvb
  clear hq hX2 hA2 hb2 hok2 hokb hEa
  obtain ⟨a0, a1, a2, a3, a4, a5⟩ := (show (w4.alloc (.cells #[Value.int .i64 lb.now, Value.int .i64 lb.delay, Value.bool lb.cut, Value.int .i64 lb.count, Value.slice lb.lA lb.ln lb.lc, Value.slice lb.bA lb.bn lb.bc] 25)).cell? ⟨g7, 0, none⟩ = some (Value.int .i64 la.now) ∧ (w4.alloc (.cells #[Value.int .i64 lb.now, Value.int .i64 lb.delay, Value.bool lb.cut, Value.int .i64 lb.count, Value.slice lb.lA lb.ln lb.lc, Value.slice lb.bA lb.bn lb.bc] 25)).cell? ⟨g7, 1, none⟩ = some (Value.int .i64 la.delay) ∧ (w4.alloc (.cells #[Value.int .i64 lb.now, Value.int .i64 lb.delay, Value.bool lb.cut, Value.int .i64 lb.count, Value.slice lb.lA lb.ln lb.lc, Value.slice lb.bA lb.bn lb.bc] 25)).cell? ⟨g7, 2, none⟩ = some (Value.bool la.cut) ∧ (w4.alloc (.cells #[Value.int .i64 lb.now, Value.int .i64 lb.delay, Value.bool lb.cut, Value.int .i64 lb.count, Value.slice lb.lA lb.ln lb.lc, Value.slice lb.bA lb.bn lb.bc] 25)).cell? ⟨g7, 3, none⟩ = some (Value.int .i64 la.count) ∧ (w4.alloc (.cells #[Value.int .i64 lb.now, Value.int .i64 lb.delay, Value.bool lb.cut, Value.int .i64 lb.count, Value.slice lb.lA lb.ln lb.lc, Value.slice lb.bA lb.bn lb.bc] 25)).cell? ⟨g7, 4, none⟩ = some (Value.slice la.lA la.ln la.lc) ∧ (w4.alloc (.cells #[Value.int .i64 lb.now, Value.int .i64 lb.delay, Value.bool lb.cut, Value.int .i64 lb.count, Value.slice lb.lA lb.ln lb.lc, Value.slice lb.bA lb.bn lb.bc] 25)).cell? ⟨g7, 5, none⟩ = some (Value.slice la.bA la.bn la.bc) from ⟨hA4.out.cell 0, hA4.out.cell 1, hA4.out.cell 2, hA4.out.cell 3, hA4.out.cell 4, hA4.out.cell 5⟩)
  obtain ⟨b0, b1, b2, b3, b4, b5⟩ := (show (w4.alloc (.cells #[Value.int .i64 lb.now, Value.int .i64 lb.delay, Value.bool lb.cut, Value.int .i64 lb.count, Value.slice lb.lA lb.ln lb.lc, Value.slice lb.bA lb.bn lb.bc] 25)).cell? ⟨w4.heap.size, 0, none⟩ = some (Value.int .i64 lb.now) ∧ (w4.alloc (.cells #[Value.int .i64 lb.now, Value.int .i64 lb.delay, Value.bool lb.cut, Value.int .i64 lb.count, Value.slice lb.lA lb.ln lb.lc, Value.slice lb.bA lb.bn lb.bc] 25)).cell? ⟨w4.heap.size, 1, none⟩ = some (Value.int .i64 lb.delay) ∧ (w4.alloc (.cells #[Value.int .i64 lb.now, Value.int .i64 lb.delay, Value.bool lb.cut, Value.int .i64 lb.count, Value.slice lb.lA lb.ln lb.lc, Value.slice lb.bA lb.bn lb.bc] 25)).cell? ⟨w4.heap.size, 2, none⟩ = some (Value.bool lb.cut) ∧ (w4.alloc (.cells #[Value.int .i64 lb.now, Value.int .i64 lb.delay, Value.bool lb.cut, Value.int .i64 lb.count, Value.slice lb.lA lb.ln lb.lc, Value.slice lb.bA lb.bn lb.bc] 25)).cell? ⟨w4.heap.size, 3, none⟩ = some (Value.int .i64 lb.count) ∧ (w4.alloc (.cells #[Value.int .i64 lb.now, Value.int .i64 lb.delay, Value.bool lb.cut, Value.int .i64 lb.count, Value.slice lb.lA lb.ln lb.lc, Value.slice lb.bA lb.bn lb.bc] 25)).cell? ⟨w4.heap.size, 4, none⟩ = some (Value.slice lb.lA lb.ln lb.lc) ∧ (w4.alloc (.cells #[Value.int .i64 lb.now, Value.int .i64 lb.delay, Value.bool lb.cut, Value.int .i64 lb.count, Value.slice lb.lA lb.ln lb.lc, Value.slice lb.bA lb.bn lb.bc] 25)).cell? ⟨w4.heap.size, 5, none⟩ = some (Value.slice lb.bA lb.bn lb.bc) from ⟨hB4.out.cell 0, hB4.out.cell 1, hB4.out.cell 2, hB4.out.cell 3, hB4.out.cell 4, hB4.out.cell 5⟩)
  have hsmA : Hid (la.lose.length ≤ 1000 ∧ la.box.length ≤ 1000) := by
    have e1 : la.val = _ := hva.out
    have g1 := (hgd.out.send d).sm
    rw [show (⟨now, delay, cut, count, lose, box.map Pk.val⟩ : Lv) = Lk.val ⟨now, delay, cut, count, lA, ln, lc, lose, bA, bn, bc, box⟩ from rfl, ← e1] at g1
    have := sm_of g1
    exact ⟨this.1, this.2.1⟩
  go_wp2_with fail
  refine (same_any la lb _ hokA4.out hokB4.out (hva.out.trans hvb.out.symm) hsmA.out.1 hsmA.out.2).mono ?_; rintro e w5 ⟨rfl, hq⟩
  clear a0 a1 a2 a3 a4 a5 b0 b1 b2 b3 b4 b5
  obtain ⟨g9, hg9⟩ : ∃ g9, g9 = w4.heap.size := ⟨_, rfl⟩
  rw [← hg9] at hB4 hg7w4 ⊢
  have hX5 := Lib.hid (hX4.out.below hq hX4.out.lt)
  have hA5 := Lib.hid (hA4.out.below hq hA4.out.lt)
  have hB5 := Lib.hid (hB4.out.below hq hB4.out.lt)
  have hb5 := Lib.hid (hb4.out.trans (hq.mono hb4.out.size))
  have hg9w : Hid (w.heap.size ≤ g9) := Nat.le_of_lt (Nat.lt_of_le_of_lt hg7w.out hg7w4.out)
  replace hg9 := Lib.hid hg9
  clear hq hX4 hA4 hB4 hb4 hokA4 hokB4 hva hvb hsmA
  obtain ⟨k0, k1, k2, k3, k4, k5⟩ := (show w5.cell? ⟨w.heap.size, 0, none⟩ = some (Value.int .i64 now) ∧ w5.cell? ⟨w.heap.size, 1, none⟩ = some (Value.int .i64 delay) ∧ w5.cell? ⟨w.heap.size, 2, none⟩ = some (Value.bool cut) ∧ w5.cell? ⟨w.heap.size, 3, none⟩ = some (Value.int .i64 count) ∧ w5.cell? ⟨w.heap.size, 4, none⟩ = some (Value.slice lA ln lc) ∧ w5.cell? ⟨w.heap.size, 5, none⟩ = some (Value.slice bA bn bc) from ⟨hX5.out.cell 0, hX5.out.cell 1, hX5.out.cell 2, hX5.out.cell 3, hX5.out.cell 4, hX5.out.cell 5⟩)
  go_wp2_with fail
  clear k0 k1 k2 k3 k4 k5
  have hlq : Hid (LkQ (fun b => b ≠ g7 ∧ b ≠ g9) ⟨now, delay, cut, count, lA, ln, lc, lose, bA, bn, bc, box⟩) := by
    have q7 := LkOk_ne h.out g7 hg7w.out
    have q9 := LkOk_ne h.out g9 hg9w.out
    exact ⟨fun h0 ad e => ⟨q7.1 h0 ad e, q9.1 h0 ad e⟩, fun h0 ad e => ⟨q7.2.1 h0 ad e, q9.2.1 h0 ad e⟩, fun p hp h0 ad e => ⟨q7.2.2 p hp h0 ad e, q9.2.2 p hp h0 ad e⟩⟩
  refine (tick_any ⟨now, delay, cut, count, lA, ln, lc, lose, bA, bn, bc, box⟩ w5 (h.out.more hb5.out) hsm.out ⟨hnd.out.1, hnd.out.2.1⟩).mono ?_; rintro e w6 ⟨⟨la2, A6, n6, c6, C6, rfl, hok6, hv6, hC6, hCd6, hCm6, hK6⟩, hq⟩
  simp only [lkV]
  have hq6 : Hid (LkQ (fun b => b ≠ g7 ∧ b ≠ g9) la2) := hK6 _ hlq.out (fun g8 h8 => ⟨by have := hA5.out.lt; omega, by have := hB5.out.lt; omega⟩)
  have hX6 := Lib.hid (hX5.out.below hq hX5.out.lt)
  have hA6 := Lib.hid (hA5.out.below hq hA5.out.lt)
  have hB6 := Lib.hid (hB5.out.below hq hB5.out.lt)
  have hb6 := Lib.hid (hb5.out.trans (hq.mono hb5.out.size))
  replace hv6 := Lib.hid hv6
  replace hCm6 := Lib.hid hCm6
  clear hq hX5 hA5 hB5 hb5 hK6
  obtain ⟨a0, a1, a2, a3, a4, a5, z0, z1, z2, z3, z4, z5⟩ := (show w6.cell? ⟨g7, 0, none⟩ = some (Value.int .i64 la.now) ∧ w6.cell? ⟨g7, 1, none⟩ = some (Value.int .i64 la.delay) ∧ w6.cell? ⟨g7, 2, none⟩ = some (Value.bool la.cut) ∧ w6.cell? ⟨g7, 3, none⟩ = some (Value.int .i64 la.count) ∧ w6.cell? ⟨g7, 4, none⟩ = some (Value.slice la.lA la.ln la.lc) ∧ w6.cell? ⟨g7, 5, none⟩ = some (Value.slice la.bA la.bn la.bc) ∧ w6.frozen? ⟨g7, 0, none⟩ = false ∧ w6.frozen? ⟨g7, 1, none⟩ = false ∧ w6.frozen? ⟨g7, 2, none⟩ = false ∧ w6.frozen? ⟨g7, 3, none⟩ = false ∧ w6.frozen? ⟨g7, 4, none⟩ = false ∧ w6.frozen? ⟨g7, 5, none⟩ = false from ⟨hA6.out.cell 0, hA6.out.cell 1, hA6.out.cell 2, hA6.out.cell 3, hA6.out.cell 4, hA6.out.cell 5, hA6.out.frozen 0, hA6.out.frozen 1, hA6.out.frozen 2, hA6.out.frozen 3, hA6.out.frozen 4, hA6.out.frozen 5⟩)
  have hg6 := grown_set6 w6 g7 (Value.int .i64 la2.now) (Value.int .i64 la2.delay) (Value.bool la2.cut) (Value.int .i64 la2.count) (Value.slice la2.lA la2.ln la2.lc) (Value.slice la2.bA la2.bn la2.bc)
  have hX7 := Lib.hid (hX6.out.grown hg6 (by intro e; injection e with e; have := hg7s.out; omega))
  have hA7 := Lib.hid (lk_set6 hA6.out (Value.int .i64 la2.now) (Value.int .i64 la2.delay) (Value.bool la2.cut) (Value.int .i64 la2.count) (Value.slice la2.lA la2.ln la2.lc) (Value.slice la2.bA la2.bn la2.bc))
  have hB7 := Lib.hid (hB6.out.grown hg6 (by intro e; injection e with e; have := hg7w4.out; omega))
  have hok7 := Lib.hid (LkOk_q hok6 ⟨fun h0 ad e => (hq6.out.1 h0 ad e).1, fun h0 ad e => (hq6.out.2.1 h0 ad e).1, fun p hp h0 ad e => (hq6.out.2.2 p hp h0 ad e).1⟩ hg6)
  have hb7 := Lib.hid (below_set6 hb6.out hg7w.out (Value.int .i64 la2.now) (Value.int .i64 la2.delay) (Value.bool la2.cut) (Value.int .i64 la2.count) (Value.slice la2.lA la2.ln la2.lc) (Value.slice la2.bA la2.bn la2.bc))
  have hC7 := Lib.hid (hC6.grownB hA6.out (by decide) hg6)
  have hCd7 : Hid (∀ b ∈ C6, BOwn _ w5.heap.size (.slice b.A b.n b.c) b.d) := fun b hb => (hCd6 b hb).grownB hA6.out (by decide) hg6
  obtain ⟨k0, k1, k2, k3, k4, k5⟩ := (show ((((((w6.setCell ⟨g7, 0, none⟩ (Value.int .i64 la2.now)).setCell ⟨g7, 1, none⟩ (Value.int .i64 la2.delay)).setCell ⟨g7, 2, none⟩ (Value.bool la2.cut)).setCell ⟨g7, 3, none⟩ (Value.int .i64 la2.count)).setCell ⟨g7, 4, none⟩ (Value.slice la2.lA la2.ln la2.lc)).setCell ⟨g7, 5, none⟩ (Value.slice la2.bA la2.bn la2.bc)).cell? ⟨w.heap.size, 0, none⟩ = some (Value.int .i64 now) ∧ ((((((w6.setCell ⟨g7, 0, none⟩ (Value.int .i64 la2.now)).setCell ⟨g7, 1, none⟩ (Value.int .i64 la2.delay)).setCell ⟨g7, 2, none⟩ (Value.bool la2.cut)).setCell ⟨g7, 3, none⟩ (Value.int .i64 la2.count)).setCell ⟨g7, 4, none⟩ (Value.slice la2.lA la2.ln la2.lc)).setCell ⟨g7, 5, none⟩ (Value.slice la2.bA la2.bn la2.bc)).cell? ⟨w.heap.size, 1, none⟩ = some (Value.int .i64 delay) ∧ ((((((w6.setCell ⟨g7, 0, none⟩ (Value.int .i64 la2.now)).setCell ⟨g7, 1, none⟩ (Value.int .i64 la2.delay)).setCell ⟨g7, 2, none⟩ (Value.bool la2.cut)).setCell ⟨g7, 3, none⟩ (Value.int .i64 la2.count)).setCell ⟨g7, 4, none⟩ (Value.slice la2.lA la2.ln la2.lc)).setCell ⟨g7, 5, none⟩ (Value.slice la2.bA la2.bn la2.bc)).cell? ⟨w.heap.size, 2, none⟩ = some (Value.bool cut) ∧ ((((((w6.setCell ⟨g7, 0, none⟩ (Value.int .i64 la2.now)).setCell ⟨g7, 1, none⟩ (Value.int .i64 la2.delay)).setCell ⟨g7, 2, none⟩ (Value.bool la2.cut)).setCell ⟨g7, 3, none⟩ (Value.int .i64 la2.count)).setCell ⟨g7, 4, none⟩ (Value.slice la2.lA la2.ln la2.lc)).setCell ⟨g7, 5, none⟩ (Value.slice la2.bA la2.bn la2.bc)).cell? ⟨w.heap.size, 3, none⟩ = some (Value.int .i64 count) ∧ ((((((w6.setCell ⟨g7, 0, none⟩ (Value.int .i64 la2.now)).setCell ⟨g7, 1, none⟩ (Value.int .i64 la2.delay)).setCell ⟨g7, 2, none⟩ (Value.bool la2.cut)).setCell ⟨g7, 3, none⟩ (Value.int .i64 la2.count)).setCell ⟨g7, 4, none⟩ (Value.slice la2.lA la2.ln la2.lc)).setCell ⟨g7, 5, none⟩ (Value.slice la2.bA la2.bn la2.bc)).cell? ⟨w.heap.size, 4, none⟩ = some (Value.slice lA ln lc) ∧ ((((((w6.setCell ⟨g7, 0, none⟩ (Value.int .i64 la2.now)).setCell ⟨g7, 1, none⟩ (Value.int .i64 la2.delay)).setCell ⟨g7, 2, none⟩ (Value.bool la2.cut)).setCell ⟨g7, 3, none⟩ (Value.int .i64 la2.count)).setCell ⟨g7, 4, none⟩ (Value.slice la2.lA la2.ln la2.lc)).setCell ⟨g7, 5, none⟩ (Value.slice la2.bA la2.bn la2.bc)).cell? ⟨w.heap.size, 5, none⟩ = some (Value.slice bA bn bc) from ⟨hX7.out.cell 0, hX7.out.cell 1, hX7.out.cell 2, hX7.out.cell 3, hX7.out.cell 4, hX7.out.cell 5⟩)
  go_wp2_with fail
  clear k0 k1 k2 k3 k4 k5 a0 a1 a2 a3 a4 a5 z0 z1 z2 z3 z4 z5 hg6 hX6 hA6 hB6 hok6 hb6 hC6 hCd6
  generalize ((((((w6.setCell ⟨g7, 0, none⟩ (Value.int .i64 la2.now)).setCell ⟨g7, 1, none⟩ (Value.int .i64 la2.delay)).setCell ⟨g7, 2, none⟩ (Value.bool la2.cut)).setCell ⟨g7, 3, none⟩ (Value.int .i64 la2.count)).setCell ⟨g7, 4, none⟩ (Value.slice la2.lA la2.ln la2.lc)).setCell ⟨g7, 5, none⟩ (Value.slice la2.bA la2.bn la2.bc)) = w7 at *
  refine (rtick_any ⟨now, delay, cut, count, lA, ln, lc, lose, bA, bn, bc, box⟩ w7 (h.out.more hb7.out) hsm.out ⟨hnd.out.1, hnd.out.2.1⟩).mono ?_; rintro e w8 ⟨⟨lb2, A7, n7, c7, C7, rfl, hok8, hv8, hC8, hCd8, hCm8, hK8, hCq8⟩, hq⟩
  simp only [lkV]
  have hq8 : Hid (LkQ (fun b => b ≠ g9) lb2) := hK8 _ ⟨fun h0 ad e => (hlq.out.1 h0 ad e).2, fun h0 ad e => (hlq.out.2.1 h0 ad e).2, fun p hp h0 ad e => (hlq.out.2.2 p hp h0 ad e).2⟩ (fun g8 h8 => by have := hB7.out.lt; omega)
  have hX8 := Lib.hid (hX7.out.below hq hX7.out.lt)
  have hA8 := Lib.hid (hA7.out.below hq hA7.out.lt)
  have hB8 := Lib.hid (hB7.out.below hq hB7.out.lt)
  have hb8 := Lib.hid (hb7.out.trans (hq.mono hb7.out.size))
  have hok8a := Lib.hid (hok7.out.more hq)
  have hC8a := Lib.hid (hC7.out.kept hq)
  have hCd8a : Hid (∀ b ∈ C6, BOwn w8 w5.heap.size (.slice b.A b.n b.c) b.d) := fun b hb => (hCd7.out b hb).kept hq
  replace hv8 := Lib.hid hv8
  replace hCm8 := Lib.hid hCm8
  clear hq hX7 hA7 hB7 hb7 hok7 hC7 hCd7 hK8
  obtain ⟨a0, a1, a2, a3, a4, a5, z0, z1, z2, z3, z4, z5⟩ := (show w8.cell? ⟨g9, 0, none⟩ = some (Value.int .i64 lb.now) ∧ w8.cell? ⟨g9, 1, none⟩ = some (Value.int .i64 lb.delay) ∧ w8.cell? ⟨g9, 2, none⟩ = some (Value.bool lb.cut) ∧ w8.cell? ⟨g9, 3, none⟩ = some (Value.int .i64 lb.count) ∧ w8.cell? ⟨g9, 4, none⟩ = some (Value.slice lb.lA lb.ln lb.lc) ∧ w8.cell? ⟨g9, 5, none⟩ = some (Value.slice lb.bA lb.bn lb.bc) ∧ w8.frozen? ⟨g9, 0, none⟩ = false ∧ w8.frozen? ⟨g9, 1, none⟩ = false ∧ w8.frozen? ⟨g9, 2, none⟩ = false ∧ w8.frozen? ⟨g9, 3, none⟩ = false ∧ w8.frozen? ⟨g9, 4, none⟩ = false ∧ w8.frozen? ⟨g9, 5, none⟩ = false from ⟨hB8.out.cell 0, hB8.out.cell 1, hB8.out.cell 2, hB8.out.cell 3, hB8.out.cell 4, hB8.out.cell 5, hB8.out.frozen 0, hB8.out.frozen 1, hB8.out.frozen 2, hB8.out.frozen 3, hB8.out.frozen 4, hB8.out.frozen 5⟩)
  have hg8 := grown_set6 w8 g9 (Value.int .i64 lb2.now) (Value.int .i64 lb2.delay) (Value.bool lb2.cut) (Value.int .i64 lb2.count) (Value.slice lb2.lA lb2.ln lb2.lc) (Value.slice lb2.bA lb2.bn lb2.bc)
  have hX9 := Lib.hid (hX8.out.grown hg8 (by intro e; injection e with e; have := hg7s.out; have := hg7w4.out; omega))
  have hA9 := Lib.hid (hA8.out.grown hg8 (by intro e; injection e with e; have := hg7w4.out; omega))
  have hB9 := Lib.hid (lk_set6 hB8.out (Value.int .i64 lb2.now) (Value.int .i64 lb2.delay) (Value.bool lb2.cut) (Value.int .i64 lb2.count) (Value.slice lb2.lA lb2.ln lb2.lc) (Value.slice lb2.bA lb2.bn lb2.bc))
  have hok9a := Lib.hid (LkOk_q hok8a.out ⟨fun h0 ad e => (hq6.out.1 h0 ad e).2, fun h0 ad e => (hq6.out.2.1 h0 ad e).2, fun p hp h0 ad e => (hq6.out.2.2 p hp h0 ad e).2⟩ hg8)
  have hok9 := Lib.hid (LkOk_q hok8 hq8.out hg8)
  have hb9 := Lib.hid (below_set6 hb8.out hg9w.out (Value.int .i64 lb2.now) (Value.int .i64 lb2.delay) (Value.bool lb2.cut) (Value.int .i64 lb2.count) (Value.slice lb2.lA lb2.ln lb2.lc) (Value.slice lb2.bA lb2.bn lb2.bc))
  have hC9a := Lib.hid (rows_at (hC8a.out.grownB hB8.out (by decide) hg8))
  have hCd9a : Hid (∀ b ∈ C6, BsAt _ b) := fun b hb => bs_of_own ((hCd8a.out b hb).grownB hB8.out (by decide) hg8)
  have hC9 := Lib.hid (rows_at (hC8.grownB hB8.out (by decide) hg8))
  have hCd9 : Hid (∀ b ∈ C7, BsAt _ b) := fun b hb => ⟨LAt_grown (hCd8 b hb).1 (hCq8 (fun x => x ≠ g9) ⟨fun h0 ad e => (hlq.out.1 h0 ad e).2, fun h0 ad e => (hlq.out.2.1 h0 ad e).2, fun p hp h0 ad e => (hlq.out.2.2 p hp h0 ad e).2⟩ b hb) hg8, (hCd8 b hb).2⟩
  obtain ⟨k0, k1, k2, k3, k4, k5⟩ := (show ((((((w8.setCell ⟨g9, 0, none⟩ (Value.int .i64 lb2.now)).setCell ⟨g9, 1, none⟩ (Value.int .i64 lb2.delay)).setCell ⟨g9, 2, none⟩ (Value.bool lb2.cut)).setCell ⟨g9, 3, none⟩ (Value.int .i64 lb2.count)).setCell ⟨g9, 4, none⟩ (Value.slice lb2.lA lb2.ln lb2.lc)).setCell ⟨g9, 5, none⟩ (Value.slice lb2.bA lb2.bn lb2.bc)).cell? ⟨w.heap.size, 0, none⟩ = some (Value.int .i64 now) ∧ ((((((w8.setCell ⟨g9, 0, none⟩ (Value.int .i64 lb2.now)).setCell ⟨g9, 1, none⟩ (Value.int .i64 lb2.delay)).setCell ⟨g9, 2, none⟩ (Value.bool lb2.cut)).setCell ⟨g9, 3, none⟩ (Value.int .i64 lb2.count)).setCell ⟨g9, 4, none⟩ (Value.slice lb2.lA lb2.ln lb2.lc)).setCell ⟨g9, 5, none⟩ (Value.slice lb2.bA lb2.bn lb2.bc)).cell? ⟨w.heap.size, 1, none⟩ = some (Value.int .i64 delay) ∧ ((((((w8.setCell ⟨g9, 0, none⟩ (Value.int .i64 lb2.now)).setCell ⟨g9, 1, none⟩ (Value.int .i64 lb2.delay)).setCell ⟨g9, 2, none⟩ (Value.bool lb2.cut)).setCell ⟨g9, 3, none⟩ (Value.int .i64 lb2.count)).setCell ⟨g9, 4, none⟩ (Value.slice lb2.lA lb2.ln lb2.lc)).setCell ⟨g9, 5, none⟩ (Value.slice lb2.bA lb2.bn lb2.bc)).cell? ⟨w.heap.size, 2, none⟩ = some (Value.bool cut) ∧ ((((((w8.setCell ⟨g9, 0, none⟩ (Value.int .i64 lb2.now)).setCell ⟨g9, 1, none⟩ (Value.int .i64 lb2.delay)).setCell ⟨g9, 2, none⟩ (Value.bool lb2.cut)).setCell ⟨g9, 3, none⟩ (Value.int .i64 lb2.count)).setCell ⟨g9, 4, none⟩ (Value.slice lb2.lA lb2.ln lb2.lc)).setCell ⟨g9, 5, none⟩ (Value.slice lb2.bA lb2.bn lb2.bc)).cell? ⟨w.heap.size, 3, none⟩ = some (Value.int .i64 count) ∧ ((((((w8.setCell ⟨g9, 0, none⟩ (Value.int .i64 lb2.now)).setCell ⟨g9, 1, none⟩ (Value.int .i64 lb2.delay)).setCell ⟨g9, 2, none⟩ (Value.bool lb2.cut)).setCell ⟨g9, 3, none⟩ (Value.int .i64 lb2.count)).setCell ⟨g9, 4, none⟩ (Value.slice lb2.lA lb2.ln lb2.lc)).setCell ⟨g9, 5, none⟩ (Value.slice lb2.bA lb2.bn lb2.bc)).cell? ⟨w.heap.size, 4, none⟩ = some (Value.slice lA ln lc) ∧ ((((((w8.setCell ⟨g9, 0, none⟩ (Value.int .i64 lb2.now)).setCell ⟨g9, 1, none⟩ (Value.int .i64 lb2.delay)).setCell ⟨g9, 2, none⟩ (Value.bool lb2.cut)).setCell ⟨g9, 3, none⟩ (Value.int .i64 lb2.count)).setCell ⟨g9, 4, none⟩ (Value.slice lb2.lA lb2.ln lb2.lc)).setCell ⟨g9, 5, none⟩ (Value.slice lb2.bA lb2.bn lb2.bc)).cell? ⟨w.heap.size, 5, none⟩ = some (Value.slice bA bn bc) from ⟨hX9.out.cell 0, hX9.out.cell 1, hX9.out.cell 2, hX9.out.cell 3, hX9.out.cell 4, hX9.out.cell 5⟩)
  obtain ⟨m0, m1, m2, m3, m4, m5⟩ := (show ((((((w8.setCell ⟨g9, 0, none⟩ (Value.int .i64 lb2.now)).setCell ⟨g9, 1, none⟩ (Value.int .i64 lb2.delay)).setCell ⟨g9, 2, none⟩ (Value.bool lb2.cut)).setCell ⟨g9, 3, none⟩ (Value.int .i64 lb2.count)).setCell ⟨g9, 4, none⟩ (Value.slice lb2.lA lb2.ln lb2.lc)).setCell ⟨g9, 5, none⟩ (Value.slice lb2.bA lb2.bn lb2.bc)).cell? ⟨g7, 0, none⟩ = some (Value.int .i64 la2.now) ∧ ((((((w8.setCell ⟨g9, 0, none⟩ (Value.int .i64 lb2.now)).setCell ⟨g9, 1, none⟩ (Value.int .i64 lb2.delay)).setCell ⟨g9, 2, none⟩ (Value.bool lb2.cut)).setCell ⟨g9, 3, none⟩ (Value.int .i64 lb2.count)).setCell ⟨g9, 4, none⟩ (Value.slice lb2.lA lb2.ln lb2.lc)).setCell ⟨g9, 5, none⟩ (Value.slice lb2.bA lb2.bn lb2.bc)).cell? ⟨g7, 1, none⟩ = some (Value.int .i64 la2.delay) ∧ ((((((w8.setCell ⟨g9, 0, none⟩ (Value.int .i64 lb2.now)).setCell ⟨g9, 1, none⟩ (Value.int .i64 lb2.delay)).setCell ⟨g9, 2, none⟩ (Value.bool lb2.cut)).setCell ⟨g9, 3, none⟩ (Value.int .i64 lb2.count)).setCell ⟨g9, 4, none⟩ (Value.slice lb2.lA lb2.ln lb2.lc)).setCell ⟨g9, 5, none⟩ (Value.slice lb2.bA lb2.bn lb2.bc)).cell? ⟨g7, 2, none⟩ = some (Value.bool la2.cut) ∧ ((((((w8.setCell ⟨g9, 0, none⟩ (Value.int .i64 lb2.now)).setCell ⟨g9, 1, none⟩ (Value.int .i64 lb2.delay)).setCell ⟨g9, 2, none⟩ (Value.bool lb2.cut)).setCell ⟨g9, 3, none⟩ (Value.int .i64 lb2.count)).setCell ⟨g9, 4, none⟩ (Value.slice lb2.lA lb2.ln lb2.lc)).setCell ⟨g9, 5, none⟩ (Value.slice lb2.bA lb2.bn lb2.bc)).cell? ⟨g7, 3, none⟩ = some (Value.int .i64 la2.count) ∧ ((((((w8.setCell ⟨g9, 0, none⟩ (Value.int .i64 lb2.now)).setCell ⟨g9, 1, none⟩ (Value.int .i64 lb2.delay)).setCell ⟨g9, 2, none⟩ (Value.bool lb2.cut)).setCell ⟨g9, 3, none⟩ (Value.int .i64 lb2.count)).setCell ⟨g9, 4, none⟩ (Value.slice lb2.lA lb2.ln lb2.lc)).setCell ⟨g9, 5, none⟩ (Value.slice lb2.bA lb2.bn lb2.bc)).cell? ⟨g7, 4, none⟩ = some (Value.slice la2.lA la2.ln la2.lc) ∧ ((((((w8.setCell ⟨g9, 0, none⟩ (Value.int .i64 lb2.now)).setCell ⟨g9, 1, none⟩ (Value.int .i64 lb2.delay)).setCell ⟨g9, 2, none⟩ (Value.bool lb2.cut)).setCell ⟨g9, 3, none⟩ (Value.int .i64 lb2.count)).setCell ⟨g9, 4, none⟩ (Value.slice lb2.lA lb2.ln lb2.lc)).setCell ⟨g9, 5, none⟩ (Value.slice lb2.bA lb2.bn lb2.bc)).cell? ⟨g7, 5, none⟩ = some (Value.slice la2.bA la2.bn la2.bc) from ⟨hA9.out.cell 0, hA9.out.cell 1, hA9.out.cell 2, hA9.out.cell 3, hA9.out.cell 4, hA9.out.cell 5⟩)
  go_wp2_with fail
  clear k0 k1 k2 k3 k4 k5 a0 a1 a2 a3 a4 a5 z0 z1 z2 z3 z4 z5 m0 m1 m2 m3 m4 m5 hg8 hX8 hA8 hB8 hok8 hok8a hb8 hC8 hC8a hCd8 hCd8a hCq8
  generalize ((((((w8.setCell ⟨g9, 0, none⟩ (Value.int .i64 lb2.now)).setCell ⟨g9, 1, none⟩ (Value.int .i64 lb2.delay)).setCell ⟨g9, 2, none⟩ (Value.bool lb2.cut)).setCell ⟨g9, 3, none⟩ (Value.int .i64 lb2.count)).setCell ⟨g9, 4, none⟩ (Value.slice lb2.lA lb2.ln lb2.lc)).setCell ⟨g9, 5, none⟩ (Value.slice lb2.bA lb2.bn lb2.bc)) = wr at *
  have hb := hb9
  have hcell0 : Hid (∀ wz, Below wr.heap.size wr wz → wz.cell? ⟨w.heap.size, 0, none⟩ = some (Value.int .i64 now) ∧ wz.cell? ⟨w.heap.size, 1, none⟩ = some (Value.int .i64 delay) ∧ wz.cell? ⟨w.heap.size, 2, none⟩ = some (Value.bool cut) ∧ wz.cell? ⟨w.heap.size, 3, none⟩ = some (Value.int .i64 count) ∧ wz.cell? ⟨w.heap.size, 4, none⟩ = some (Value.slice lA ln lc) ∧ wz.cell? ⟨w.heap.size, 5, none⟩ = some (Value.slice bA bn bc)) := fun wz hz => by
    have q := hX9.out.below hz hX9.out.lt
    exact ⟨q.cell 0, q.cell 1, q.cell 2, q.cell 3, q.cell 4, q.cell 5⟩
  have hcell7 : Hid (∀ wz, Below wr.heap.size wr wz → wz.cell? ⟨g7, 0, none⟩ = some (Value.int .i64 la2.now) ∧ wz.cell? ⟨g7, 1, none⟩ = some (Value.int .i64 la2.delay) ∧ wz.cell? ⟨g7, 2, none⟩ = some (Value.bool la2.cut) ∧ wz.cell? ⟨g7, 3, none⟩ = some (Value.int .i64 la2.count) ∧ wz.cell? ⟨g7, 4, none⟩ = some (Value.slice la2.lA la2.ln la2.lc) ∧ wz.cell? ⟨g7, 5, none⟩ = some (Value.slice la2.bA la2.bn la2.bc)) := fun wz hz => by
    have q := hA9.out.below hz hA9.out.lt
    exact ⟨q.cell 0, q.cell 1, q.cell 2, q.cell 3, q.cell 4, q.cell 5⟩
  have hcell9 : Hid (∀ wz, Below wr.heap.size wr wz → wz.cell? ⟨g9, 0, none⟩ = some (Value.int .i64 lb2.now) ∧ wz.cell? ⟨g9, 1, none⟩ = some (Value.int .i64 lb2.delay) ∧ wz.cell? ⟨g9, 2, none⟩ = some (Value.bool lb2.cut) ∧ wz.cell? ⟨g9, 3, none⟩ = some (Value.int .i64 lb2.count) ∧ wz.cell? ⟨g9, 4, none⟩ = some (Value.slice lb2.lA lb2.ln lb2.lc) ∧ wz.cell? ⟨g9, 5, none⟩ = some (Value.slice lb2.bA lb2.bn lb2.bc)) := fun wz hz => by
    have q := hB9.out.below hz hB9.out.lt
    exact ⟨q.cell 0, q.cell 1, q.cell 2, q.cell 3, q.cell 4, q.cell 5⟩
  have hsz2 : Hid (la2.lose.length ≤ 1000 ∧ la2.box.length ≤ 1000) := by
    have g1 := hgd.out.tick.sm
    rw [show (⟨now, delay, cut, count, lose, box.map Pk.val⟩ : Lv) = Lk.val ⟨now, delay, cut, count, lA, ln, lc, lose, bA, bn, bc, box⟩ from rfl, ← hv6.out] at g1
    have := sm_of g1
    exact ⟨this.1, this.2.1⟩
  have hs1 : Hid (∀ wz, Below wr.heap.size wr wz → Calls Try.prog 18 #[lkV la2, lkV lb2] wz fun e w' => e = .returned (.bool true) ∧ Below wz.heap.size wz w') := fun wz hz => same_any la2 lb2 wz (hok9a.out.more hz) (hok9.out.more hz) (hv6.out.trans hv8.out.symm) hsz2.out.1 hsz2.out.2
  have hs2 : Hid (∀ wz, Below wr.heap.size wr wz → Calls Try.prog 23 #[.slice A6 n6 c6, .slice A7 n7 c7] wz fun e w' => e = .returned (.bool true) ∧ w' = wz) := fun wz hz => sameData_any A6 A7 n6 c6 n7 c7 C6 C7 wz (hC9a.out.more hz) (hC9.out.more hz) (fun b hb => (hCd9a.out b hb).more hz) (fun b hb => (hCd9.out b hb).more hz) (hCm6.out.trans hCm8.out.symm) (by
    have e1 := hC9a.out.len
    have e2 := congrArg List.length hCm6.out
    have e3 := tick_few (Lk.val ⟨now, delay, cut, count, lA, ln, lc, lose, bA, bn, bc, box⟩)
    have e4 := hgd.out.few
    rw [List.length_map] at e2
    simp only [Lk.val] at e2 e3
    simp only at e4
    omega)
  have hc1 : Hid (∀ wz, Below wr.heap.size wr wz → Calls Try.prog 24 #[lkV ⟨now, delay, cut, count, lA, ln, lc, lose, bA, bn, bc, box⟩, .bool ct] wz fun e w' => (∃ l', e = .returned (lkV l') ∧ LkOk w' l' ∧ l'.val = cutL (Lk.val ⟨now, delay, cut, count, lA, ln, lc, lose, bA, bn, bc, box⟩) ct) ∧ Below wz.heap.size wz w') := fun wz hz => (cut_any ⟨now, delay, cut, count, lA, ln, lc, lose, bA, bn, bc, box⟩ ct wz (h.out.more (hb.out.trans (hz.mono hb.out.size))) hsm.out).mono (by
    rintro e w' ⟨l', he, h1, h2, _, h3⟩
    exact ⟨⟨l', he, h1, h2⟩, h3⟩)
  have hc2 : Hid (∀ wz, Below wr.heap.size wr wz → Calls Try.prog 22 #[lkV ⟨now, delay, cut, count, lA, ln, lc, lose, bA, bn, bc, box⟩, .bool ct] wz fun e w' => (∃ l', e = .returned (lkV l') ∧ LkOk w' l' ∧ l'.val = cutL (Lk.val ⟨now, delay, cut, count, lA, ln, lc, lose, bA, bn, bc, box⟩) ct) ∧ Below wz.heap.size wz w') := fun wz hz => (rcut_any ⟨now, delay, cut, count, lA, ln, lc, lose, bA, bn, bc, box⟩ ct wz (h.out.more (hb.out.trans (hz.mono hb.out.size)))).mono (by
    rintro e w' ⟨l', he, h1, h2, _, h3⟩
    exact ⟨⟨l', he, h1, h2⟩, h3⟩)
  have hsl : Hid (∀ x : Lk, x.val = cutL (Lk.val ⟨now, delay, cut, count, lA, ln, lc, lose, bA, bn, bc, box⟩) ct → x.lose.length ≤ 1000 ∧ x.box.length ≤ 1000) := fun x hx => by
    have := sm_of (l := x) (by rw [hx]; exact (hgd.out.cut ct).sm)
    exact ⟨this.1, this.2.1⟩
  clear hX9 hA9 hB9 hok9a hok9 hb9 hC9a hCd9a hC9 hCd9 hv6 hv8 hCm6 hCm8 hq6 hq8 hlq
  refine RM.region [] [] (F := F6 w.heap.size g7 g9 ⟨now, delay, cut, count, lA, ln, lc, lose, bA, bn, bc, box⟩ la2 lb2 ct A6 A7 n6 c6 n7 c7) (W := fun wz => Below wr.heap.size wr wz) (R := fun _ => Rb) (S := noS) (G := noG) rfl F6_more (fun _ _ _ _ _ _ _ => trivial) (fun _ _ _ _ _ h => h.elim) (fun _ _ _ _ _ h => h.elim) (by kernel_rfl) (by kernel_rfl) (by kernel_rfl) (by kernel_rfl) (by kernel_rfl) ?_ ?_ ?_ (by kernel_rfl) ?_
  · exact (Below.refl _ _).drew
  · intro t ht
    unfold F6
    split <;> first | trivial | exact rfl | (exact absurd ht (by decide))
  · simp only [List.forall_mem_cons, List.not_mem_nil, false_implies, implies_true, and_true]
    refine ⟨?_, ?_, ?_, ?_, ?_, ?_, ?_, ?_, ?_, ?_, ?_, ?_, ?_, ?_, ?_, ?_, ?_, ?_, ?_, ?_, ?_⟩
    · intro a w2 hw _ hf K hK
      have f0 := hf 7 rfl
      simp only [F6] at f0
      clear hf
      obtain ⟨a0, a1, a2, a3, a4, a5⟩ := hcell7.out w2 hw
      go_simp
      exact hK _ _ _ rfl rfl hw (Below.refl _ _) (fun h => absurd h (by decide))
    · intro a w2 hw _ hf K hK
      have f0 := hf 9 rfl
      simp only [F6] at f0
      clear hf
      obtain ⟨b0, b1, b2, b3, b4, b5⟩ := hcell9.out w2 hw
      go_simp
      exact hK _ _ _ rfl rfl hw (Below.refl _ _) (fun h => absurd h (by decide))
    · intro a w2 hw _ hf K hK
      have f0 := hf 65 rfl
      have f1 := hf 66 rfl
      simp only [F6] at f0 f1
      clear hf
      go_simp
      refine (hs1.out w2 hw).mono ?_; rintro e w5 ⟨rfl, hbq⟩
      exact hK _ _ _ rfl rfl (hw.trans (hbq.mono hw.size)) hbq (fun h => absurd h (by decide))
    · intro a w2 hw _ hf K hK
      have f0 := hf 67 rfl
      simp only [F6] at f0
      clear hf
      go_simp
      exact hK _ _ _ rfl rfl hw (Below.refl _ _) (fun h => absurd h (by decide))
    · refine ⟨?_, ?_⟩
      · intro a w2 hw hg hf K hK
        have f0 := hf 11 rfl
        simp only [F6] at f0
        clear hf
        go_simp
        exact hK _ _ _ rfl rfl hw (Below.refl _ _) (fun h => absurd h (by decide))
      · exact fun v w _ hv hne => absurd hv hne
    · refine ⟨?_, ?_⟩
      · intro a w2 hw hg hf K hK
        have f0 := hf 12 rfl
        simp only [F6] at f0
        clear hf
        go_simp
        exact hK _ _ _ rfl rfl hw (Below.refl _ _) (fun h => absurd h (by decide))
      · exact fun v w _ hv hne => absurd hv hne
    · refine ⟨?_, ?_⟩
      · intro a w2 hw hg hf K hK
        have f0 := hf 69 rfl
        have f1 := hf 70 rfl
        simp only [F6] at f0 f1
        clear hf
        go_simp
        refine (hs2.out w2 hw).mono ?_; rintro e w5 ⟨rfl, rfl⟩
        exact hK _ _ _ rfl rfl hw (Below.refl _ _) (fun h => absurd h (by decide))
      · exact fun v w _ hv hne => absurd hv hne
    · intro a w2 hw _ hf K hK
      have f0 := hf 68 rfl
      have f1 := hf 71 rfl
      simp only [F6] at f0 f1
      clear hf
      go_simp
      exact hK _ _ _ rfl rfl hw (Below.refl _ _) (fun h => absurd h (by decide))
    · intro a w2 hw _ hf K hK
      have f0 := hf 72 rfl
      simp only [F6] at f0
      clear hf
      go_simp
      exact hK _ _ _ rfl rfl hw (Below.refl _ _) (fun h => absurd h (by decide))
    · refine ⟨?_, ?_⟩
      · intro a w2 hw hg hf K hK
        have f0 := hf 3 rfl
        simp only [F6] at f0
        clear hf
        obtain ⟨k0, k1, k2, k3, k4, k5⟩ := hcell0.out w2 hw
        go_simp
        exact hK _ _ _ rfl rfl hw (Below.refl _ _) (fun h => absurd h (by decide))
      · exact fun v w _ hv hne => absurd hv hne
    · refine ⟨?_, ?_⟩
      · intro a w2 hw hg hf K hK
        have f0 := hf 2 rfl
        simp only [F6] at f0
        clear hf
        go_simp
        exact hK _ _ _ rfl rfl hw (Below.refl _ _) (fun h => absurd h (by decide))
      · exact fun v w _ hv hne => absurd hv hne
    · refine ⟨?_, ?_⟩
      · intro a w2 hw hg hf K hK
        have f0 := hf 74 rfl
        have f1 := hf 75 rfl
        simp only [F6] at f0 f1
        clear hf
        go_simp
        refine (hc1.out w2 hw).mono ?_; rintro e w5 ⟨⟨l', rfl, hok, hv⟩, hbq⟩
        exact hK _ _ _ rfl ⟨l', rfl, hok, hv⟩ (hw.trans (hbq.mono hw.size)) hbq (fun h => absurd h (by decide))
      · exact fun v w _ hv hne => absurd hv hne
    · refine ⟨?_, ?_⟩
      · intro a w2 hw hg hf K hK
        have f0 := hf 3 rfl
        simp only [F6] at f0
        clear hf
        obtain ⟨k0, k1, k2, k3, k4, k5⟩ := hcell0.out w2 hw
        go_simp
        exact hK _ _ _ rfl rfl hw (Below.refl _ _) (fun h => absurd h (by decide))
      · exact fun v w _ hv hne => absurd hv hne
    · refine ⟨?_, ?_⟩
      · intro a w2 hw hg hf K hK
        have f0 := hf 2 rfl
        simp only [F6] at f0
        clear hf
        go_simp
        exact hK _ _ _ rfl rfl hw (Below.refl _ _) (fun h => absurd h (by decide))
      · exact fun v w _ hv hne => absurd hv hne
    · refine ⟨?_, ?_⟩
      · intro a w2 hw hg hf K hK
        have f0 := hf 77 rfl
        have f1 := hf 78 rfl
        simp only [F6] at f0 f1
        clear hf
        go_simp
        refine (hc2.out w2 hw).mono ?_; rintro e w5 ⟨⟨l', rfl, hok, hv⟩, hbq⟩
        exact hK _ _ _ rfl ⟨l', rfl, hok, hv⟩ (hw.trans (hbq.mono hw.size)) hbq (fun h => absurd h (by decide))
      · exact fun v w _ hv hne => absurd hv hne
    · refine ⟨?_, ?_⟩
      · intro a w2 hw hg hf K hK
        have f0 := hf 76 rfl
        have f1 := hf 79 rfl
        simp only [F6] at f0 f1
        clear hf
        obtain ⟨x1, e1, ok1, v1⟩ := f0
        obtain ⟨x2, e2, ok2, v2⟩ := f1
        replace v1 := Lib.hid v1
        replace v2 := Lib.hid v2
        go_simp
        refine (same_any x1 x2 w2 ok1 ok2 (v1.out.trans v2.out.symm) (hsl.out x1 v1.out).1 (hsl.out x1 v1.out).2).mono ?_; rintro e w5 ⟨rfl, hbq⟩
        exact hK _ _ _ rfl rfl (hw.trans (hbq.mono hw.size)) hbq (fun h => absurd h (by decide))
      · exact fun v w _ hv hne => absurd hv hne
    · intro a w2 hw _ hf K hK
      have f0 := hf 73 rfl
      have f1 := hf 80 rfl
      simp only [F6] at f0 f1
      clear hf
      go_simp
      exact hK _ _ _ rfl rfl hw (Below.refl _ _) (fun h => absurd h (by decide))
    · intro a w2 hw _ hf K hK
      have f0 := hf 81 rfl
      simp only [F6] at f0
      clear hf
      go_simp
      exact hK _ _ _ rfl rfl hw (Below.refl _ _) (fun h => absurd h (by decide))
    · refine ⟨?_, ?_⟩
      · intro a w2 hw hg hf K hK
        clear hf
        go_simp
        refine (ex_any w2).mono ?_; rintro e w5 ⟨rfl, hbq⟩
        exact hK _ _ _ rfl rfl (hw.trans (hbq.mono hw.size)) hbq (fun h => absurd h (by decide))
      · exact fun v w _ hv hne => absurd hv hne
    · intro a w2 hw _ hf K hK
      have f0 := hf 82 rfl
      have f1 := hf 83 rfl
      simp only [F6] at f0 f1
      clear hf
      go_simp
      exact hK _ _ _ rfl rfl hw (Below.refl _ _) (fun h => absurd h (by decide))
    · intro a w2 hw _ hf K hK
      have f0 := hf 84 rfl
      simp only [F6] at f0
      clear hf
      go_simp
      exact hK _ _ _ rfl rfl hw (Below.refl _ _) (fun h => absurd h (by decide))
  · intro a' w9 hd hs hw hout hf _
    have h6 := hf 6 rfl
    simp only [F6] at h6
    have e0 : _ = some (Value.agg #[Value.int .i64 now, Value.int .i64 delay, Value.bool cut, Value.int .i64 count, Value.slice lA ln lc, Value.slice bA bn bc]) := hout 0 rfl
    obtain ⟨tm, df⟩ := a'
    simp only at hd hs h6 e0
    have e := lit_arr tm 85 hs
    rw [show (List.range 85).map (fun i => tm[i]?.getD undef) = [tm[0]?.getD undef, tm[1]?.getD undef, tm[2]?.getD undef, tm[3]?.getD undef, tm[4]?.getD undef, tm[5]?.getD undef, tm[6]?.getD undef, tm[7]?.getD undef, tm[8]?.getD undef, tm[9]?.getD undef, tm[10]?.getD undef, tm[11]?.getD undef, tm[12]?.getD undef, tm[13]?.getD undef, tm[14]?.getD undef, tm[15]?.getD undef, tm[16]?.getD undef, tm[17]?.getD undef, tm[18]?.getD undef, tm[19]?.getD undef, tm[20]?.getD undef, tm[21]?.getD undef, tm[22]?.getD undef, tm[23]?.getD undef, tm[24]?.getD undef, tm[25]?.getD undef, tm[26]?.getD undef, tm[27]?.getD undef, tm[28]?.getD undef, tm[29]?.getD undef, tm[30]?.getD undef, tm[31]?.getD undef, tm[32]?.getD undef, tm[33]?.getD undef, tm[34]?.getD undef, tm[35]?.getD undef, tm[36]?.getD undef, tm[37]?.getD undef, tm[38]?.getD undef, tm[39]?.getD undef, tm[40]?.getD undef, tm[41]?.getD undef, tm[42]?.getD undef, tm[43]?.getD undef, tm[44]?.getD undef, tm[45]?.getD undef, tm[46]?.getD undef, tm[47]?.getD undef, tm[48]?.getD undef, tm[49]?.getD undef, tm[50]?.getD undef, tm[51]?.getD undef, tm[52]?.getD undef, tm[53]?.getD undef, tm[54]?.getD undef, tm[55]?.getD undef, tm[56]?.getD undef, tm[57]?.getD undef, tm[58]?.getD undef, tm[59]?.getD undef, tm[60]?.getD undef, tm[61]?.getD undef, tm[62]?.getD undef, tm[63]?.getD undef, tm[64]?.getD undef, tm[65]?.getD undef, tm[66]?.getD undef, tm[67]?.getD undef, tm[68]?.getD undef, tm[69]?.getD undef, tm[70]?.getD undef, tm[71]?.getD undef, tm[72]?.getD undef, tm[73]?.getD undef, tm[74]?.getD undef, tm[75]?.getD undef, tm[76]?.getD undef, tm[77]?.getD undef, tm[78]?.getD undef, tm[79]?.getD undef, tm[80]?.getD undef, tm[81]?.getD undef, tm[82]?.getD undef, tm[83]?.getD undef, tm[84]?.getD undef] from rfl] at e
    simp only [h6, e0, Option.getD_some] at e
    clear hf hout hs
    rw [e, hd]
    clear e hd h6 e0
    generalize tm[1]?.getD undef = u1x
    generalize tm[2]?.getD undef = u2x
    generalize tm[3]?.getD undef = u3x
    generalize tm[4]?.getD undef = u4x
    generalize tm[5]?.getD undef = u5x
    generalize tm[7]?.getD undef = u7x
    generalize tm[8]?.getD undef = u8x
    generalize tm[9]?.getD undef = u9x
    generalize tm[10]?.getD undef = u10x
    generalize tm[11]?.getD undef = u11x
    generalize tm[12]?.getD undef = u12x
    generalize tm[13]?.getD undef = u13x
    generalize tm[14]?.getD undef = u14x
    generalize tm[15]?.getD undef = u15x
    generalize tm[16]?.getD undef = u16x
    generalize tm[17]?.getD undef = u17x
    generalize tm[18]?.getD undef = u18x
    generalize tm[19]?.getD undef = u19x
    generalize tm[20]?.getD undef = u20x
    generalize tm[21]?.getD undef = u21x
    generalize tm[22]?.getD undef = u22x
    generalize tm[23]?.getD undef = u23x
    generalize tm[24]?.getD undef = u24x
    generalize tm[25]?.getD undef = u25x
    generalize tm[26]?.getD undef = u26x
    generalize tm[27]?.getD undef = u27x
    generalize tm[28]?.getD undef = u28x
    generalize tm[29]?.getD undef = u29x
    generalize tm[30]?.getD undef = u30x
    generalize tm[31]?.getD undef = u31x
    generalize tm[32]?.getD undef = u32x
    generalize tm[33]?.getD undef = u33x
    generalize tm[34]?.getD undef = u34x
    generalize tm[35]?.getD undef = u35x
    generalize tm[36]?.getD undef = u36x
    generalize tm[37]?.getD undef = u37x
    generalize tm[38]?.getD undef = u38x
    generalize tm[39]?.getD undef = u39x
    generalize tm[40]?.getD undef = u40x
    generalize tm[41]?.getD undef = u41x
    generalize tm[42]?.getD undef = u42x
    generalize tm[43]?.getD undef = u43x
    generalize tm[44]?.getD undef = u44x
    generalize tm[45]?.getD undef = u45x
    generalize tm[46]?.getD undef = u46x
    generalize tm[47]?.getD undef = u47x
    generalize tm[48]?.getD undef = u48x
    generalize tm[49]?.getD undef = u49x
    generalize tm[50]?.getD undef = u50x
    generalize tm[51]?.getD undef = u51x
    generalize tm[52]?.getD undef = u52x
    generalize tm[53]?.getD undef = u53x
    generalize tm[54]?.getD undef = u54x
    generalize tm[55]?.getD undef = u55x
    generalize tm[56]?.getD undef = u56x
    generalize tm[57]?.getD undef = u57x
    generalize tm[58]?.getD undef = u58x
    generalize tm[59]?.getD undef = u59x
    generalize tm[60]?.getD undef = u60x
    generalize tm[61]?.getD undef = u61x
    generalize tm[62]?.getD undef = u62x
    generalize tm[63]?.getD undef = u63x
    generalize tm[64]?.getD undef = u64x
    generalize tm[65]?.getD undef = u65x
    generalize tm[66]?.getD undef = u66x
    generalize tm[67]?.getD undef = u67x
    generalize tm[68]?.getD undef = u68x
    generalize tm[69]?.getD undef = u69x
    generalize tm[70]?.getD undef = u70x
    generalize tm[71]?.getD undef = u71x
    generalize tm[72]?.getD undef = u72x
    generalize tm[73]?.getD undef = u73x
    generalize tm[74]?.getD undef = u74x
    generalize tm[75]?.getD undef = u75x
    generalize tm[76]?.getD undef = u76x
    generalize tm[77]?.getD undef = u77x
    generalize tm[78]?.getD undef = u78x
    generalize tm[79]?.getD undef = u79x
    generalize tm[80]?.getD undef = u80x
    generalize tm[81]?.getD undef = u81x
    generalize tm[82]?.getD undef = u82x
    generalize tm[83]?.getD undef = u83x
    generalize tm[84]?.getD undef = u84x
    have hb := Lib.hid (hb.out.trans (hw.mono hb.out.size))
    go_wp2_with fail
    go_ret
    exact ⟨rfl, hb.out⟩
end Go.Proofs.Yteolglmdfjddlaa
