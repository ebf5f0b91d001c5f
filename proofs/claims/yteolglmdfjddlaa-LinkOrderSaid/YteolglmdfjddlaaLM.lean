/- Links: long and play, walked. -/
import Derived.Test.YteolglmdfjddlaaLL
set_option linter.unusedVariables false
set_option linter.unusedSimpArgs false
namespace Go.Proofs.Yteolglmdfjddlaa
open Go.RowKit
theorem ox_cells {w : World} {B n k : Nat} {A : Option Addr} {L : List Ox} (h : LAt oC 2 w B A n L) (hk : k < n) :
    ∃ ad, A = some ad ∧ ad.block < B ∧ w.cell? (ad.add (k * 2)) = some (Value.int .i64 (L[k]'(by rw [h.len]; exact hk)).kind) ∧ w.cell? ⟨(ad.add (k * 2)).block, (ad.add (k * 2)).off + 1, none⟩ = some (Value.slice (L[k]'(by rw [h.len]; exact hk)).A (L[k]'(by rw [h.len]; exact hk)).n (L[k]'(by rw [h.len]; exact hk)).c) := by
  obtain ⟨ad, rfl, hb, hc⟩ := h.at_ hk
  have f := fun j u hj => (add_next ad (k * 2) j) ▸ hc (j + 1) u hj
  exact ⟨ad, rfl, hb, hc 0 _ rfl, f 0 _ rfl⟩
theorem res3 {P : Program} {fn : Func} {p u v : Tmp} {ty : TypeId} (h : fn.results = #[.cell p ty, .tmp u, .tmp v]) (tmps : Array Value) (w : World) (g : Nat) (t : TypeId) (cs : Array Value) (fr : Nat × Nat) (d : TypeDesc)
    (hp : tmps.getD p undef = .pointer (some ⟨g, 0, none⟩)) (hg : w.heap[g]? = some (.cells cs t fr))
    (hu : P.underlying ty = some d) (hd : (match d with | .struct _ | .array _ _ => true | _ => false) = true) (hi : (P.info? ty).map (·.size) = some cs.size) :
    (results fn tmps).run P w = .ok (.tuple #[.agg cs, tmps.getD u undef, tmps.getD v undef]) w := by
  have hp' : tmps[p]?.getD undef = .pointer (some ⟨g, 0, none⟩) := by simpa using hp
  simp only [results, h]
  simp [Sem.run_bind, Result.andThen, hp', asAddr, run_loadVar_row w g t ty cs fr d hg hu hd hi]
def LongRes (n : Nat) (e : Ending) : Prop := ∃ b, e = .returned (.bool b) ∧ (b = false → n ≤ 400)
set_option maxRecDepth 100000 in
set_option maxHeartbeats 8000000 in
theorem long_any (A : Option Addr) (n c : Nat) (ops : List Ox) (w : World) (h : LAt oC 2 w w.heap.size A n ops) :
    Calls Try.prog 16 #[.slice A n c] w fun e w' => LongRes n e ∧ Below w.heap.size w w' := by
  have hn := Lib.hid h.len
  replace h := Lib.hid h
  go_enter Try.func16, Try.ntmps16
  go_wp2_with fail
  go_loopw [7, 3] (fun i v wr => ∃ (k : Nat) (m : Int), k ≤ n ∧ k ≤ 400 ∧ i = .int .i64 k ∧ v = .int .i64 m ∧ Hid (Below w.heap.size w wr)) (fun i _ _ => n - (intOf i).toNat)
  case atStart => exact ⟨0, 0, Nat.zero_le _, by omega, rfl, rfl, Below.refl _ _⟩
  case round =>
    obtain ⟨k, m, hkn, hk4, rfl, rfl, hb⟩ := hrel
    by_cases hlt : k < n
    · have hkl : k < ops.length := by have := hn.out; omega
      have hk0 : (0 : Int) ≤ k := by omega
      have hk1 : (k : Int) < n := by omega
      obtain ⟨ad, hA, hbl, -, e1⟩ := ox_cells (h.out.below hb.out (Nat.le_refl _)) hlt
      generalize hon : (ops[k]).n = on at e1
      replace hon := Lib.hid hon
      obtain ⟨m', hwr⟩ : ∃ m', IntKind.i64.wrap (m + (on : Int)) = m' := ⟨_, rfl⟩
      subst hA
      by_cases q1 : 400 ≤ k
      · have q1i : (400 : Int) ≤ (k : Int) := by omega
        have q1d : decide ((400 : Int) ≤ (k : Int)) = true := by simp; omega
        go_wp2_with fail
        go_ret
        exact ⟨⟨true, rfl, fun h8 => by cases h8⟩, hb.out⟩
      · have q1i : ¬ (400 : Int) ≤ (k : Int) := by omega
        have q1d : decide ((400 : Int) ≤ (k : Int)) = false := by simp; omega
        by_cases q2 : 65536 < m'
        · have q2d : decide (65536 < m') = true := by simpa using q2
          go_wp2_with fail
          go_ret
          exact ⟨⟨true, rfl, fun h8 => by cases h8⟩, hb.out⟩
        · have q2d : decide (65536 < m') = false := by simpa using q2
          go_wp2_with fail
          go_roundw
          case rel => exact ⟨k + 1, m', by omega, by omega, by go_num, by go_num, hb.out⟩
          case measure => simp [intOf]; omega
    · go_wp2_with fail
      go_ret
      exact ⟨⟨false, rfl, fun _ => by omega⟩, hb.out⟩
/-- what play computes -/
def playL (v : Lv) (kind : Int) (d : List UInt8) : Lv × List (List UInt8) × Int := if kind = 1 then ((sendL v d).1, [], (sendL v d).2) else if kind = 2 then ((tickL v).1, (tickL v).2, 0) else if kind = 3 then (cutL v true, [], 0) else if kind = 4 then (cutL v false, [], 0) else (v, [], 0)
theorem Good.play {v : Lv} (h : Good v) (kind : Int) (d : List UInt8) : Good (playL v kind d).1 := by
  unfold playL
  split
  · exact h.send d
  · split
    · exact h.tick
    · split
      · exact h.cut _
      · split
        · exact h.cut _
        · exact h
def PlayRes (w w' : World) (l : Lk) (r : Lv × List (List UInt8) × Int) (e : Ending) : Prop := ∃ l' A n c C, e = .returned (.tuple #[lkV l', .slice A n c, .int .i64 r.2.2]) ∧ LkOk w' l' ∧ l'.val = r.1 ∧ LOwn sC 1 27 w' w.heap.size (.slice A n c) C ∧ (∀ b ∈ C, BOwn w' w.heap.size (.slice b.A b.n b.c) b.d) ∧ C.map (·.d) = r.2.1 ∧ LkK w.heap.size l l'
set_option maxRecDepth 100000 in
set_option maxHeartbeats 8000000 in
theorem play_any (l : Lk) (x : Ox) (w : World) (h : LkOk w l) (hs : LkSm l) (hx : OxAt w x) (hnd : 0 ≤ l.now ∧ l.now ≤ 268435456 ∧ 1 ≤ l.delay ∧ l.delay ≤ 60 ∧ 0 ≤ l.count) :
    Calls Try.prog 19 #[lkV l, .agg #[.int .i64 x.kind, .slice x.A x.n x.c]] w fun e w' => PlayRes w w' l (playL l.val x.kind x.d) e ∧ Below w.heap.size w w' := by
  obtain ⟨now, delay, cut, count, lA, ln, lc, lose, bA, bn, bc, box⟩ := l
  obtain ⟨kind, oA, on, oc, od⟩ := x
  obtain rfl : od.length = on := hx.1.1.len
  have hs0 := Lib.hid hs
  replace hnd := Lib.hid hnd
  simp only [lkV] at *
  replace h := Lib.hid h
  replace hx := Lib.hid hx
  clear hs
  have hX0 := Lib.hid (((Blk.new w 25 #[Value.int .i64 now, Value.int .i64 delay, Value.bool cut, Value.int .i64 count, Value.slice lA ln lc, Value.slice bA bn bc]).alloc (.cells #[Value.int .i64 kind, Value.slice oA od.length oc] 48)).alloc (.cells #[Value.int .i64 0, Value.int .i64 0, Value.bool false, Value.int .i64 0, Value.slice none 0 0, Value.slice none 0 0] 25))
  have hO0 := Lib.hid ((Blk.new (w.alloc (.cells #[Value.int .i64 now, Value.int .i64 delay, Value.bool cut, Value.int .i64 count, Value.slice lA ln lc, Value.slice bA bn bc] 25)) 48 #[Value.int .i64 kind, Value.slice oA od.length oc]).alloc (.cells #[Value.int .i64 0, Value.int .i64 0, Value.bool false, Value.int .i64 0, Value.slice none 0 0, Value.slice none 0 0] 25))
  have hZ0 := Lib.hid (Blk.new ((w.alloc (.cells #[Value.int .i64 now, Value.int .i64 delay, Value.bool cut, Value.int .i64 count, Value.slice lA ln lc, Value.slice bA bn bc] 25)).alloc (.cells #[Value.int .i64 kind, Value.slice oA od.length oc] 48)) 25 #[Value.int .i64 0, Value.int .i64 0, Value.bool false, Value.int .i64 0, Value.slice none 0 0, Value.slice none 0 0])
  have hb0 : Hid (Below w.heap.size w (((w.alloc (.cells #[Value.int .i64 now, Value.int .i64 delay, Value.bool cut, Value.int .i64 count, Value.slice lA ln lc, Value.slice bA bn bc] 25)).alloc (.cells #[Value.int .i64 kind, Value.slice oA od.length oc] 48)).alloc (.cells #[Value.int .i64 0, Value.int .i64 0, Value.bool false, Value.int .i64 0, Value.slice none 0 0, Value.slice none 0 0] 25))) := ((a1 w _).alloc (by simp) _).alloc (by simp; omega) _
  rw [show (w.alloc (.cells #[Value.int .i64 now, Value.int .i64 delay, Value.bool cut, Value.int .i64 count, Value.slice lA ln lc, Value.slice bA bn bc] 25)).heap.size = w.heap.size + 1 by simp] at hO0
  rw [show ((w.alloc (.cells #[Value.int .i64 now, Value.int .i64 delay, Value.bool cut, Value.int .i64 count, Value.slice lA ln lc, Value.slice bA bn bc] 25)).alloc (.cells #[Value.int .i64 kind, Value.slice oA od.length oc] 48)).heap.size = w.heap.size + 1 + 1 by simp] at hZ0
  obtain ⟨k0, k1, k2, k3, k4, k5⟩ := (show (((w.alloc (.cells #[Value.int .i64 now, Value.int .i64 delay, Value.bool cut, Value.int .i64 count, Value.slice lA ln lc, Value.slice bA bn bc] 25)).alloc (.cells #[Value.int .i64 kind, Value.slice oA od.length oc] 48)).alloc (.cells #[Value.int .i64 0, Value.int .i64 0, Value.bool false, Value.int .i64 0, Value.slice none 0 0, Value.slice none 0 0] 25)).cell? ⟨w.heap.size, 0, none⟩ = some (Value.int .i64 now) ∧ (((w.alloc (.cells #[Value.int .i64 now, Value.int .i64 delay, Value.bool cut, Value.int .i64 count, Value.slice lA ln lc, Value.slice bA bn bc] 25)).alloc (.cells #[Value.int .i64 kind, Value.slice oA od.length oc] 48)).alloc (.cells #[Value.int .i64 0, Value.int .i64 0, Value.bool false, Value.int .i64 0, Value.slice none 0 0, Value.slice none 0 0] 25)).cell? ⟨w.heap.size, 1, none⟩ = some (Value.int .i64 delay) ∧ (((w.alloc (.cells #[Value.int .i64 now, Value.int .i64 delay, Value.bool cut, Value.int .i64 count, Value.slice lA ln lc, Value.slice bA bn bc] 25)).alloc (.cells #[Value.int .i64 kind, Value.slice oA od.length oc] 48)).alloc (.cells #[Value.int .i64 0, Value.int .i64 0, Value.bool false, Value.int .i64 0, Value.slice none 0 0, Value.slice none 0 0] 25)).cell? ⟨w.heap.size, 2, none⟩ = some (Value.bool cut) ∧ (((w.alloc (.cells #[Value.int .i64 now, Value.int .i64 delay, Value.bool cut, Value.int .i64 count, Value.slice lA ln lc, Value.slice bA bn bc] 25)).alloc (.cells #[Value.int .i64 kind, Value.slice oA od.length oc] 48)).alloc (.cells #[Value.int .i64 0, Value.int .i64 0, Value.bool false, Value.int .i64 0, Value.slice none 0 0, Value.slice none 0 0] 25)).cell? ⟨w.heap.size, 3, none⟩ = some (Value.int .i64 count) ∧ (((w.alloc (.cells #[Value.int .i64 now, Value.int .i64 delay, Value.bool cut, Value.int .i64 count, Value.slice lA ln lc, Value.slice bA bn bc] 25)).alloc (.cells #[Value.int .i64 kind, Value.slice oA od.length oc] 48)).alloc (.cells #[Value.int .i64 0, Value.int .i64 0, Value.bool false, Value.int .i64 0, Value.slice none 0 0, Value.slice none 0 0] 25)).cell? ⟨w.heap.size, 4, none⟩ = some (Value.slice lA ln lc) ∧ (((w.alloc (.cells #[Value.int .i64 now, Value.int .i64 delay, Value.bool cut, Value.int .i64 count, Value.slice lA ln lc, Value.slice bA bn bc] 25)).alloc (.cells #[Value.int .i64 kind, Value.slice oA od.length oc] 48)).alloc (.cells #[Value.int .i64 0, Value.int .i64 0, Value.bool false, Value.int .i64 0, Value.slice none 0 0, Value.slice none 0 0] 25)).cell? ⟨w.heap.size, 5, none⟩ = some (Value.slice bA bn bc) from ⟨hX0.out.cell 0, hX0.out.cell 1, hX0.out.cell 2, hX0.out.cell 3, hX0.out.cell 4, hX0.out.cell 5⟩)
  obtain ⟨o0, o1⟩ := (show (((w.alloc (.cells #[Value.int .i64 now, Value.int .i64 delay, Value.bool cut, Value.int .i64 count, Value.slice lA ln lc, Value.slice bA bn bc] 25)).alloc (.cells #[Value.int .i64 kind, Value.slice oA od.length oc] 48)).alloc (.cells #[Value.int .i64 0, Value.int .i64 0, Value.bool false, Value.int .i64 0, Value.slice none 0 0, Value.slice none 0 0] 25)).cell? ⟨(w.heap.size + 1), 0, none⟩ = some (Value.int .i64 kind) ∧ (((w.alloc (.cells #[Value.int .i64 now, Value.int .i64 delay, Value.bool cut, Value.int .i64 count, Value.slice lA ln lc, Value.slice bA bn bc] 25)).alloc (.cells #[Value.int .i64 kind, Value.slice oA od.length oc] 48)).alloc (.cells #[Value.int .i64 0, Value.int .i64 0, Value.bool false, Value.int .i64 0, Value.slice none 0 0, Value.slice none 0 0] 25)).cell? ⟨(w.heap.size + 1), 1, none⟩ = some (Value.slice oA od.length oc) from ⟨hO0.out.cell 0, hO0.out.cell 1⟩)
  by_cases q1 : kind = 1
  · subst q1
    have hF : Hid (playL (Lk.val ⟨now, delay, cut, count, lA, ln, lc, lose, bA, bn, bc, box⟩) 1 od = ((sendL (Lk.val ⟨now, delay, cut, count, lA, ln, lc, lose, bA, bn, bc, box⟩) od).1, [], (sendL (Lk.val ⟨now, delay, cut, count, lA, ln, lc, lose, bA, bn, bc, box⟩) od).2)) := rfl
    go_enter Try.func19, Try.ntmps19
    go_wp2_with fail
    clear k0 k1 k2 k3 k4 k5 o0 o1
    generalize (((w.alloc (.cells #[Value.int .i64 now, Value.int .i64 delay, Value.bool cut, Value.int .i64 count, Value.slice lA ln lc, Value.slice bA bn bc] 25)).alloc (.cells #[Value.int .i64 1, Value.slice oA od.length oc] 48)).alloc (.cells #[Value.int .i64 0, Value.int .i64 0, Value.bool false, Value.int .i64 0, Value.slice none 0 0, Value.slice none 0 0] 25)) = w1 at *
    refine (send_any ⟨now, delay, cut, count, lA, ln, lc, lose, bA, bn, bc, box⟩ oA od.length oc od w1 (h.out.more hb0.out) hs0.out (hx.out.more hb0.out).1.1 (hx.out.more hb0.out).1.2 hnd.out).mono ?_; rintro e w2 ⟨⟨la, rfl, hok, hv, -, hK⟩, hq⟩
    simp only [lkV]
    have hZ2 := Lib.hid ((hZ0.out.below hq hZ0.out.lt).alloc (.cells #[Value.int .i64 la.now, Value.int .i64 la.delay, Value.bool la.cut, Value.int .i64 la.count, Value.slice la.lA la.ln la.lc, Value.slice la.bA la.bn la.bc] 25))
    have hT2 := Lib.hid (Blk.new w2 25 #[Value.int .i64 la.now, Value.int .i64 la.delay, Value.bool la.cut, Value.int .i64 la.count, Value.slice la.lA la.ln la.lc, Value.slice la.bA la.bn la.bc])
    have hb2 : Hid (Below w.heap.size w (w2.alloc (.cells #[Value.int .i64 la.now, Value.int .i64 la.delay, Value.bool la.cut, Value.int .i64 la.count, Value.slice la.lA la.ln la.lc, Value.slice la.bA la.bn la.bc] 25))) := (hb0.out.trans (hq.mono hb0.out.size)).alloc (hb0.out.trans (hq.mono hb0.out.size)).size _
    have hok2 : Hid (LkOk (w2.alloc (.cells #[Value.int .i64 la.now, Value.int .i64 la.delay, Value.bool la.cut, Value.int .i64 la.count, Value.slice la.lA la.ln la.lc, Value.slice la.bA la.bn la.bc] 25)) la) := hok.more (a1 w2 _)
    have hla : Hid (LkQ (fun b => b ≠ (w.heap.size + 1 + 1)) la) := hK _ ⟨fun h0 ad e e2 => by have := (LkOk_lt h.out).1 h0 ad e; omega, fun h0 ad e e2 => by have := (LkOk_lt h.out).2.1 h0 ad e; omega, fun p hp h0 ad e e2 => by have := (LkOk_lt h.out).2.2 p hp h0 ad e; omega⟩ (fun b hb => by have := hZ0.out.lt; omega)
    have hK2 : Hid (LkK w.heap.size ⟨now, delay, cut, count, lA, ln, lc, lose, bA, bn, bc, box⟩ la) := fun Q h1 h2 => hK Q h1 (fun b hb => h2 b (Nat.le_trans hb0.out.size hb))
    replace hv := Lib.hid hv
    clear hq hok hK hX0 hO0 hZ0 hb0
    obtain ⟨E, hE⟩ : ∃ E, E = (sendL (Lk.val ⟨now, delay, cut, count, lA, ln, lc, lose, bA, bn, bc, box⟩) od).2 := ⟨_, rfl⟩
    rw [← hE]
    obtain ⟨k0, k1, k2, k3, k4, k5⟩ := (show (w2.alloc (.cells #[Value.int .i64 la.now, Value.int .i64 la.delay, Value.bool la.cut, Value.int .i64 la.count, Value.slice la.lA la.ln la.lc, Value.slice la.bA la.bn la.bc] 25)).cell? ⟨w2.heap.size, 0, none⟩ = some (Value.int .i64 la.now) ∧ (w2.alloc (.cells #[Value.int .i64 la.now, Value.int .i64 la.delay, Value.bool la.cut, Value.int .i64 la.count, Value.slice la.lA la.ln la.lc, Value.slice la.bA la.bn la.bc] 25)).cell? ⟨w2.heap.size, 1, none⟩ = some (Value.int .i64 la.delay) ∧ (w2.alloc (.cells #[Value.int .i64 la.now, Value.int .i64 la.delay, Value.bool la.cut, Value.int .i64 la.count, Value.slice la.lA la.ln la.lc, Value.slice la.bA la.bn la.bc] 25)).cell? ⟨w2.heap.size, 2, none⟩ = some (Value.bool la.cut) ∧ (w2.alloc (.cells #[Value.int .i64 la.now, Value.int .i64 la.delay, Value.bool la.cut, Value.int .i64 la.count, Value.slice la.lA la.ln la.lc, Value.slice la.bA la.bn la.bc] 25)).cell? ⟨w2.heap.size, 3, none⟩ = some (Value.int .i64 la.count) ∧ (w2.alloc (.cells #[Value.int .i64 la.now, Value.int .i64 la.delay, Value.bool la.cut, Value.int .i64 la.count, Value.slice la.lA la.ln la.lc, Value.slice la.bA la.bn la.bc] 25)).cell? ⟨w2.heap.size, 4, none⟩ = some (Value.slice la.lA la.ln la.lc) ∧ (w2.alloc (.cells #[Value.int .i64 la.now, Value.int .i64 la.delay, Value.bool la.cut, Value.int .i64 la.count, Value.slice la.lA la.ln la.lc, Value.slice la.bA la.bn la.bc] 25)).cell? ⟨w2.heap.size, 5, none⟩ = some (Value.slice la.bA la.bn la.bc) from ⟨hT2.out.cell 0, hT2.out.cell 1, hT2.out.cell 2, hT2.out.cell 3, hT2.out.cell 4, hT2.out.cell 5⟩)
    obtain ⟨u0, u1, u2, u3, u4, u5, z0, z1, z2, z3, z4, z5⟩ := (show (w2.alloc (.cells #[Value.int .i64 la.now, Value.int .i64 la.delay, Value.bool la.cut, Value.int .i64 la.count, Value.slice la.lA la.ln la.lc, Value.slice la.bA la.bn la.bc] 25)).cell? ⟨(w.heap.size + 1 + 1), 0, none⟩ = some (Value.int .i64 0) ∧ (w2.alloc (.cells #[Value.int .i64 la.now, Value.int .i64 la.delay, Value.bool la.cut, Value.int .i64 la.count, Value.slice la.lA la.ln la.lc, Value.slice la.bA la.bn la.bc] 25)).cell? ⟨(w.heap.size + 1 + 1), 1, none⟩ = some (Value.int .i64 0) ∧ (w2.alloc (.cells #[Value.int .i64 la.now, Value.int .i64 la.delay, Value.bool la.cut, Value.int .i64 la.count, Value.slice la.lA la.ln la.lc, Value.slice la.bA la.bn la.bc] 25)).cell? ⟨(w.heap.size + 1 + 1), 2, none⟩ = some (Value.bool false) ∧ (w2.alloc (.cells #[Value.int .i64 la.now, Value.int .i64 la.delay, Value.bool la.cut, Value.int .i64 la.count, Value.slice la.lA la.ln la.lc, Value.slice la.bA la.bn la.bc] 25)).cell? ⟨(w.heap.size + 1 + 1), 3, none⟩ = some (Value.int .i64 0) ∧ (w2.alloc (.cells #[Value.int .i64 la.now, Value.int .i64 la.delay, Value.bool la.cut, Value.int .i64 la.count, Value.slice la.lA la.ln la.lc, Value.slice la.bA la.bn la.bc] 25)).cell? ⟨(w.heap.size + 1 + 1), 4, none⟩ = some (Value.slice none 0 0) ∧ (w2.alloc (.cells #[Value.int .i64 la.now, Value.int .i64 la.delay, Value.bool la.cut, Value.int .i64 la.count, Value.slice la.lA la.ln la.lc, Value.slice la.bA la.bn la.bc] 25)).cell? ⟨(w.heap.size + 1 + 1), 5, none⟩ = some (Value.slice none 0 0) ∧ (w2.alloc (.cells #[Value.int .i64 la.now, Value.int .i64 la.delay, Value.bool la.cut, Value.int .i64 la.count, Value.slice la.lA la.ln la.lc, Value.slice la.bA la.bn la.bc] 25)).frozen? ⟨(w.heap.size + 1 + 1), 0, none⟩ = false ∧ (w2.alloc (.cells #[Value.int .i64 la.now, Value.int .i64 la.delay, Value.bool la.cut, Value.int .i64 la.count, Value.slice la.lA la.ln la.lc, Value.slice la.bA la.bn la.bc] 25)).frozen? ⟨(w.heap.size + 1 + 1), 1, none⟩ = false ∧ (w2.alloc (.cells #[Value.int .i64 la.now, Value.int .i64 la.delay, Value.bool la.cut, Value.int .i64 la.count, Value.slice la.lA la.ln la.lc, Value.slice la.bA la.bn la.bc] 25)).frozen? ⟨(w.heap.size + 1 + 1), 2, none⟩ = false ∧ (w2.alloc (.cells #[Value.int .i64 la.now, Value.int .i64 la.delay, Value.bool la.cut, Value.int .i64 la.count, Value.slice la.lA la.ln la.lc, Value.slice la.bA la.bn la.bc] 25)).frozen? ⟨(w.heap.size + 1 + 1), 3, none⟩ = false ∧ (w2.alloc (.cells #[Value.int .i64 la.now, Value.int .i64 la.delay, Value.bool la.cut, Value.int .i64 la.count, Value.slice la.lA la.ln la.lc, Value.slice la.bA la.bn la.bc] 25)).frozen? ⟨(w.heap.size + 1 + 1), 4, none⟩ = false ∧ (w2.alloc (.cells #[Value.int .i64 la.now, Value.int .i64 la.delay, Value.bool la.cut, Value.int .i64 la.count, Value.slice la.lA la.ln la.lc, Value.slice la.bA la.bn la.bc] 25)).frozen? ⟨(w.heap.size + 1 + 1), 5, none⟩ = false from ⟨hZ2.out.cell 0, hZ2.out.cell 1, hZ2.out.cell 2, hZ2.out.cell 3, hZ2.out.cell 4, hZ2.out.cell 5, hZ2.out.frozen 0, hZ2.out.frozen 1, hZ2.out.frozen 2, hZ2.out.frozen 3, hZ2.out.frozen 4, hZ2.out.frozen 5⟩)
    replace hE := Lib.hid hE
    go_wp2_with fail
    clear k0 k1 k2 k3 k4 k5 u0 u1 u2 u3 u4 u5 z0 z1 z2 z3 z4 z5
    generalize w2.alloc (.cells #[Value.int .i64 la.now, Value.int .i64 la.delay, Value.bool la.cut, Value.int .i64 la.count, Value.slice la.lA la.ln la.lc, Value.slice la.bA la.bn la.bc] 25) = ws at *
    (try simp only [Exit.inBlock, Exit.then])
    have hB := lk_set6 hZ2.out (Value.int .i64 la.now) (Value.int .i64 la.delay) (Value.bool la.cut) (Value.int .i64 la.count) (Value.slice la.lA la.ln la.lc) (Value.slice la.bA la.bn la.bc)
    have hbF := below_set6 hb2.out (Nat.le_trans (Nat.le_succ _) (Nat.le_succ _)) (Value.int .i64 la.now) (Value.int .i64 la.delay) (Value.bool la.cut) (Value.int .i64 la.count) (Value.slice la.lA la.ln la.lc) (Value.slice la.bA la.bn la.bc)
    have hgF := grown_set6 (ws) (w.heap.size + 1 + 1) (Value.int .i64 la.now) (Value.int .i64 la.delay) (Value.bool la.cut) (Value.int .i64 la.count) (Value.slice la.lA la.ln la.lc) (Value.slice la.bA la.bn la.bc)
    refine bodyPost_ret (v := .tuple #[.agg #[Value.int .i64 la.now, Value.int .i64 la.delay, Value.bool la.cut, Value.int .i64 la.count, Value.slice la.lA la.ln la.lc, Value.slice la.bA la.bn la.bc], Value.slice none 0 0, .int .i64 E]) ?_ rfl ?_
    · refine (res3 (fn := Try.f19) (p := 4) (u := 5) (v := 6) (ty := 25) rfl _ _ (w.heap.size + 1 + 1) 25 _ (0, 0) _ ?_ hB Try.underlying25 rfl (by kernel_rfl)).trans ?_
      · rfl
      · rfl
    clear hB
    generalize (((((((ws).setCell ⟨(w.heap.size + 1 + 1), 0, none⟩ (Value.int .i64 la.now)).setCell ⟨(w.heap.size + 1 + 1), 1, none⟩ (Value.int .i64 la.delay)).setCell ⟨(w.heap.size + 1 + 1), 2, none⟩ (Value.bool la.cut)).setCell ⟨(w.heap.size + 1 + 1), 3, none⟩ (Value.int .i64 la.count)).setCell ⟨(w.heap.size + 1 + 1), 4, none⟩ (Value.slice la.lA la.ln la.lc)).setCell ⟨(w.heap.size + 1 + 1), 5, none⟩ (Value.slice la.bA la.bn la.bc)) = wF at *
    exact ⟨⟨la, none, 0, 0, [], by rw [hF.out, ← hE.out]; rfl, LkOk_q hok2.out hla.out hgF, by rw [hF.out]; exact hv.out, LOwn.nil sC_len _ _, fun b hb => by simp at hb, by rw [hF.out]; rfl, hK2.out⟩, hbF⟩
  have q1d : (kind == 1) = false := by simpa using q1
  by_cases q2 : kind = 2
  · subst q2
    have hF : Hid (playL (Lk.val ⟨now, delay, cut, count, lA, ln, lc, lose, bA, bn, bc, box⟩) 2 od = ((tickL (Lk.val ⟨now, delay, cut, count, lA, ln, lc, lose, bA, bn, bc, box⟩)).1, (tickL (Lk.val ⟨now, delay, cut, count, lA, ln, lc, lose, bA, bn, bc, box⟩)).2, 0)) := rfl
    go_enter Try.func19, Try.ntmps19
    go_wp2_with fail
    clear k0 k1 k2 k3 k4 k5 o0 o1
    generalize (((w.alloc (.cells #[Value.int .i64 now, Value.int .i64 delay, Value.bool cut, Value.int .i64 count, Value.slice lA ln lc, Value.slice bA bn bc] 25)).alloc (.cells #[Value.int .i64 2, Value.slice oA od.length oc] 48)).alloc (.cells #[Value.int .i64 0, Value.int .i64 0, Value.bool false, Value.int .i64 0, Value.slice none 0 0, Value.slice none 0 0] 25)) = w1 at *
    refine (tick_any ⟨now, delay, cut, count, lA, ln, lc, lose, bA, bn, bc, box⟩ w1 (h.out.more hb0.out) hs0.out ⟨hnd.out.1, hnd.out.2.1⟩).mono ?_; rintro e w2 ⟨⟨la, A6, n6, c6, C6, rfl, hok, hv, hC, hCd, hCm, hK⟩, hq⟩
    simp only [lkV]
    have hZ2 := Lib.hid ((hZ0.out.below hq hZ0.out.lt).alloc (.cells #[Value.int .i64 la.now, Value.int .i64 la.delay, Value.bool la.cut, Value.int .i64 la.count, Value.slice la.lA la.ln la.lc, Value.slice la.bA la.bn la.bc] 25))
    have hT2 := Lib.hid (Blk.new w2 25 #[Value.int .i64 la.now, Value.int .i64 la.delay, Value.bool la.cut, Value.int .i64 la.count, Value.slice la.lA la.ln la.lc, Value.slice la.bA la.bn la.bc])
    have hb2 : Hid (Below w.heap.size w (w2.alloc (.cells #[Value.int .i64 la.now, Value.int .i64 la.delay, Value.bool la.cut, Value.int .i64 la.count, Value.slice la.lA la.ln la.lc, Value.slice la.bA la.bn la.bc] 25))) := (hb0.out.trans (hq.mono hb0.out.size)).alloc (hb0.out.trans (hq.mono hb0.out.size)).size _
    have hok2 : Hid (LkOk (w2.alloc (.cells #[Value.int .i64 la.now, Value.int .i64 la.delay, Value.bool la.cut, Value.int .i64 la.count, Value.slice la.lA la.ln la.lc, Value.slice la.bA la.bn la.bc] 25)) la) := hok.more (a1 w2 _)
    have hla : Hid (LkQ (fun b => b ≠ (w.heap.size + 1 + 1)) la) := hK _ ⟨fun h0 ad e e2 => by have := (LkOk_lt h.out).1 h0 ad e; omega, fun h0 ad e e2 => by have := (LkOk_lt h.out).2.1 h0 ad e; omega, fun p hp h0 ad e e2 => by have := (LkOk_lt h.out).2.2 p hp h0 ad e; omega⟩ (fun b hb => by have := hZ0.out.lt; omega)
    have hK2 : Hid (LkK w.heap.size ⟨now, delay, cut, count, lA, ln, lc, lose, bA, bn, bc, box⟩ la) := fun Q h1 h2 => hK Q h1 (fun b hb => h2 b (Nat.le_trans hb0.out.size hb))
    have hC2 := Lib.hid ((hC.mono hb0.out.size).alloc (.cells #[Value.int .i64 la.now, Value.int .i64 la.delay, Value.bool la.cut, Value.int .i64 la.count, Value.slice la.lA la.ln la.lc, Value.slice la.bA la.bn la.bc] 25))
    have hCd2 : Hid (∀ b ∈ C6, BOwn (w2.alloc (.cells #[Value.int .i64 la.now, Value.int .i64 la.delay, Value.bool la.cut, Value.int .i64 la.count, Value.slice la.lA la.ln la.lc, Value.slice la.bA la.bn la.bc] 25)) w.heap.size (.slice b.A b.n b.c) b.d) := fun b hb => ((hCd b hb).mono hb0.out.size).alloc _
    replace hv := Lib.hid hv
    replace hCm := Lib.hid hCm
    clear hq hok hK hX0 hO0 hZ0 hb0 hC hCd
    obtain ⟨k0, k1, k2, k3, k4, k5⟩ := (show (w2.alloc (.cells #[Value.int .i64 la.now, Value.int .i64 la.delay, Value.bool la.cut, Value.int .i64 la.count, Value.slice la.lA la.ln la.lc, Value.slice la.bA la.bn la.bc] 25)).cell? ⟨w2.heap.size, 0, none⟩ = some (Value.int .i64 la.now) ∧ (w2.alloc (.cells #[Value.int .i64 la.now, Value.int .i64 la.delay, Value.bool la.cut, Value.int .i64 la.count, Value.slice la.lA la.ln la.lc, Value.slice la.bA la.bn la.bc] 25)).cell? ⟨w2.heap.size, 1, none⟩ = some (Value.int .i64 la.delay) ∧ (w2.alloc (.cells #[Value.int .i64 la.now, Value.int .i64 la.delay, Value.bool la.cut, Value.int .i64 la.count, Value.slice la.lA la.ln la.lc, Value.slice la.bA la.bn la.bc] 25)).cell? ⟨w2.heap.size, 2, none⟩ = some (Value.bool la.cut) ∧ (w2.alloc (.cells #[Value.int .i64 la.now, Value.int .i64 la.delay, Value.bool la.cut, Value.int .i64 la.count, Value.slice la.lA la.ln la.lc, Value.slice la.bA la.bn la.bc] 25)).cell? ⟨w2.heap.size, 3, none⟩ = some (Value.int .i64 la.count) ∧ (w2.alloc (.cells #[Value.int .i64 la.now, Value.int .i64 la.delay, Value.bool la.cut, Value.int .i64 la.count, Value.slice la.lA la.ln la.lc, Value.slice la.bA la.bn la.bc] 25)).cell? ⟨w2.heap.size, 4, none⟩ = some (Value.slice la.lA la.ln la.lc) ∧ (w2.alloc (.cells #[Value.int .i64 la.now, Value.int .i64 la.delay, Value.bool la.cut, Value.int .i64 la.count, Value.slice la.lA la.ln la.lc, Value.slice la.bA la.bn la.bc] 25)).cell? ⟨w2.heap.size, 5, none⟩ = some (Value.slice la.bA la.bn la.bc) from ⟨hT2.out.cell 0, hT2.out.cell 1, hT2.out.cell 2, hT2.out.cell 3, hT2.out.cell 4, hT2.out.cell 5⟩)
    obtain ⟨u0, u1, u2, u3, u4, u5, z0, z1, z2, z3, z4, z5⟩ := (show (w2.alloc (.cells #[Value.int .i64 la.now, Value.int .i64 la.delay, Value.bool la.cut, Value.int .i64 la.count, Value.slice la.lA la.ln la.lc, Value.slice la.bA la.bn la.bc] 25)).cell? ⟨(w.heap.size + 1 + 1), 0, none⟩ = some (Value.int .i64 0) ∧ (w2.alloc (.cells #[Value.int .i64 la.now, Value.int .i64 la.delay, Value.bool la.cut, Value.int .i64 la.count, Value.slice la.lA la.ln la.lc, Value.slice la.bA la.bn la.bc] 25)).cell? ⟨(w.heap.size + 1 + 1), 1, none⟩ = some (Value.int .i64 0) ∧ (w2.alloc (.cells #[Value.int .i64 la.now, Value.int .i64 la.delay, Value.bool la.cut, Value.int .i64 la.count, Value.slice la.lA la.ln la.lc, Value.slice la.bA la.bn la.bc] 25)).cell? ⟨(w.heap.size + 1 + 1), 2, none⟩ = some (Value.bool false) ∧ (w2.alloc (.cells #[Value.int .i64 la.now, Value.int .i64 la.delay, Value.bool la.cut, Value.int .i64 la.count, Value.slice la.lA la.ln la.lc, Value.slice la.bA la.bn la.bc] 25)).cell? ⟨(w.heap.size + 1 + 1), 3, none⟩ = some (Value.int .i64 0) ∧ (w2.alloc (.cells #[Value.int .i64 la.now, Value.int .i64 la.delay, Value.bool la.cut, Value.int .i64 la.count, Value.slice la.lA la.ln la.lc, Value.slice la.bA la.bn la.bc] 25)).cell? ⟨(w.heap.size + 1 + 1), 4, none⟩ = some (Value.slice none 0 0) ∧ (w2.alloc (.cells #[Value.int .i64 la.now, Value.int .i64 la.delay, Value.bool la.cut, Value.int .i64 la.count, Value.slice la.lA la.ln la.lc, Value.slice la.bA la.bn la.bc] 25)).cell? ⟨(w.heap.size + 1 + 1), 5, none⟩ = some (Value.slice none 0 0) ∧ (w2.alloc (.cells #[Value.int .i64 la.now, Value.int .i64 la.delay, Value.bool la.cut, Value.int .i64 la.count, Value.slice la.lA la.ln la.lc, Value.slice la.bA la.bn la.bc] 25)).frozen? ⟨(w.heap.size + 1 + 1), 0, none⟩ = false ∧ (w2.alloc (.cells #[Value.int .i64 la.now, Value.int .i64 la.delay, Value.bool la.cut, Value.int .i64 la.count, Value.slice la.lA la.ln la.lc, Value.slice la.bA la.bn la.bc] 25)).frozen? ⟨(w.heap.size + 1 + 1), 1, none⟩ = false ∧ (w2.alloc (.cells #[Value.int .i64 la.now, Value.int .i64 la.delay, Value.bool la.cut, Value.int .i64 la.count, Value.slice la.lA la.ln la.lc, Value.slice la.bA la.bn la.bc] 25)).frozen? ⟨(w.heap.size + 1 + 1), 2, none⟩ = false ∧ (w2.alloc (.cells #[Value.int .i64 la.now, Value.int .i64 la.delay, Value.bool la.cut, Value.int .i64 la.count, Value.slice la.lA la.ln la.lc, Value.slice la.bA la.bn la.bc] 25)).frozen? ⟨(w.heap.size + 1 + 1), 3, none⟩ = false ∧ (w2.alloc (.cells #[Value.int .i64 la.now, Value.int .i64 la.delay, Value.bool la.cut, Value.int .i64 la.count, Value.slice la.lA la.ln la.lc, Value.slice la.bA la.bn la.bc] 25)).frozen? ⟨(w.heap.size + 1 + 1), 4, none⟩ = false ∧ (w2.alloc (.cells #[Value.int .i64 la.now, Value.int .i64 la.delay, Value.bool la.cut, Value.int .i64 la.count, Value.slice la.lA la.ln la.lc, Value.slice la.bA la.bn la.bc] 25)).frozen? ⟨(w.heap.size + 1 + 1), 5, none⟩ = false from ⟨hZ2.out.cell 0, hZ2.out.cell 1, hZ2.out.cell 2, hZ2.out.cell 3, hZ2.out.cell 4, hZ2.out.cell 5, hZ2.out.frozen 0, hZ2.out.frozen 1, hZ2.out.frozen 2, hZ2.out.frozen 3, hZ2.out.frozen 4, hZ2.out.frozen 5⟩)
    go_wp2_with fail
    clear k0 k1 k2 k3 k4 k5 u0 u1 u2 u3 u4 u5 z0 z1 z2 z3 z4 z5
    generalize w2.alloc (.cells #[Value.int .i64 la.now, Value.int .i64 la.delay, Value.bool la.cut, Value.int .i64 la.count, Value.slice la.lA la.ln la.lc, Value.slice la.bA la.bn la.bc] 25) = ws at *
    (try simp only [Exit.inBlock, Exit.then])
    have hB := lk_set6 hZ2.out (Value.int .i64 la.now) (Value.int .i64 la.delay) (Value.bool la.cut) (Value.int .i64 la.count) (Value.slice la.lA la.ln la.lc) (Value.slice la.bA la.bn la.bc)
    have hbF := below_set6 hb2.out (Nat.le_trans (Nat.le_succ _) (Nat.le_succ _)) (Value.int .i64 la.now) (Value.int .i64 la.delay) (Value.bool la.cut) (Value.int .i64 la.count) (Value.slice la.lA la.ln la.lc) (Value.slice la.bA la.bn la.bc)
    have hgF := grown_set6 (ws) (w.heap.size + 1 + 1) (Value.int .i64 la.now) (Value.int .i64 la.delay) (Value.bool la.cut) (Value.int .i64 la.count) (Value.slice la.lA la.ln la.lc) (Value.slice la.bA la.bn la.bc)
    refine bodyPost_ret (v := .tuple #[.agg #[Value.int .i64 la.now, Value.int .i64 la.delay, Value.bool la.cut, Value.int .i64 la.count, Value.slice la.lA la.ln la.lc, Value.slice la.bA la.bn la.bc], Value.slice A6 n6 c6, .int .i64 0]) ?_ rfl ?_
    · refine (res3 (fn := Try.f19) (p := 4) (u := 5) (v := 6) (ty := 25) rfl _ _ (w.heap.size + 1 + 1) 25 _ (0, 0) _ ?_ hB Try.underlying25 rfl (by kernel_rfl)).trans ?_
      · rfl
      · rfl
    clear hB
    generalize (((((((ws).setCell ⟨(w.heap.size + 1 + 1), 0, none⟩ (Value.int .i64 la.now)).setCell ⟨(w.heap.size + 1 + 1), 1, none⟩ (Value.int .i64 la.delay)).setCell ⟨(w.heap.size + 1 + 1), 2, none⟩ (Value.bool la.cut)).setCell ⟨(w.heap.size + 1 + 1), 3, none⟩ (Value.int .i64 la.count)).setCell ⟨(w.heap.size + 1 + 1), 4, none⟩ (Value.slice la.lA la.ln la.lc)).setCell ⟨(w.heap.size + 1 + 1), 5, none⟩ (Value.slice la.bA la.bn la.bc)) = wF at *
    exact ⟨⟨la, A6, n6, c6, C6, by rw [hF.out]; rfl, LkOk_q hok2.out hla.out hgF, by rw [hF.out]; exact hv.out, hC2.out.grownB hZ2.out (by decide) hgF, fun b hb => (hCd2.out b hb).grownB hZ2.out (by decide) hgF, by rw [hF.out]; exact hCm.out, hK2.out⟩, hbF⟩
  have q2d : (kind == 2) = false := by simpa using q2
  by_cases q3 : kind = 3
  · subst q3
    have hF : Hid (playL (Lk.val ⟨now, delay, cut, count, lA, ln, lc, lose, bA, bn, bc, box⟩) 3 od = (cutL (Lk.val ⟨now, delay, cut, count, lA, ln, lc, lose, bA, bn, bc, box⟩) true, [], 0)) := rfl
    go_enter Try.func19, Try.ntmps19
    go_wp2_with fail
    clear k0 k1 k2 k3 k4 k5 o0 o1
    generalize (((w.alloc (.cells #[Value.int .i64 now, Value.int .i64 delay, Value.bool cut, Value.int .i64 count, Value.slice lA ln lc, Value.slice bA bn bc] 25)).alloc (.cells #[Value.int .i64 3, Value.slice oA od.length oc] 48)).alloc (.cells #[Value.int .i64 0, Value.int .i64 0, Value.bool false, Value.int .i64 0, Value.slice none 0 0, Value.slice none 0 0] 25)) = w1 at *
    refine (cut_any ⟨now, delay, cut, count, lA, ln, lc, lose, bA, bn, bc, box⟩ true w1 (h.out.more hb0.out) hs0.out).mono ?_; rintro e w2 ⟨la, rfl, hok, hv, hf, hq⟩
    simp only [lkV]
    have hZ2 := Lib.hid (hZ0.out.below hq hZ0.out.lt)
    have hb2 : Hid (Below w.heap.size w w2) := hb0.out.trans (hq.mono hb0.out.size)
    have hla : Hid (LkQ (fun b => b ≠ (w.heap.size + 1 + 1)) la) := hf.q (fun b hb => by have := hZ0.out.lt; omega)
    have hK2 : Hid (LkK w.heap.size ⟨now, delay, cut, count, lA, ln, lc, lose, bA, bn, bc, box⟩ la) := (hf.mono hb0.out.size).k
    replace hv := Lib.hid hv
    replace hok := Lib.hid hok
    clear hq hf hX0 hO0 hZ0 hb0
    obtain ⟨u0, u1, u2, u3, u4, u5, z0, z1, z2, z3, z4, z5⟩ := (show w2.cell? ⟨(w.heap.size + 1 + 1), 0, none⟩ = some (Value.int .i64 0) ∧ w2.cell? ⟨(w.heap.size + 1 + 1), 1, none⟩ = some (Value.int .i64 0) ∧ w2.cell? ⟨(w.heap.size + 1 + 1), 2, none⟩ = some (Value.bool false) ∧ w2.cell? ⟨(w.heap.size + 1 + 1), 3, none⟩ = some (Value.int .i64 0) ∧ w2.cell? ⟨(w.heap.size + 1 + 1), 4, none⟩ = some (Value.slice none 0 0) ∧ w2.cell? ⟨(w.heap.size + 1 + 1), 5, none⟩ = some (Value.slice none 0 0) ∧ w2.frozen? ⟨(w.heap.size + 1 + 1), 0, none⟩ = false ∧ w2.frozen? ⟨(w.heap.size + 1 + 1), 1, none⟩ = false ∧ w2.frozen? ⟨(w.heap.size + 1 + 1), 2, none⟩ = false ∧ w2.frozen? ⟨(w.heap.size + 1 + 1), 3, none⟩ = false ∧ w2.frozen? ⟨(w.heap.size + 1 + 1), 4, none⟩ = false ∧ w2.frozen? ⟨(w.heap.size + 1 + 1), 5, none⟩ = false from ⟨hZ2.out.cell 0, hZ2.out.cell 1, hZ2.out.cell 2, hZ2.out.cell 3, hZ2.out.cell 4, hZ2.out.cell 5, hZ2.out.frozen 0, hZ2.out.frozen 1, hZ2.out.frozen 2, hZ2.out.frozen 3, hZ2.out.frozen 4, hZ2.out.frozen 5⟩)
    go_wp2_with fail
    clear u0 u1 u2 u3 u4 u5 z0 z1 z2 z3 z4 z5
    (try simp only [Exit.inBlock, Exit.then])
    have hB := lk_set6 hZ2.out (Value.int .i64 la.now) (Value.int .i64 la.delay) (Value.bool la.cut) (Value.int .i64 la.count) (Value.slice la.lA la.ln la.lc) (Value.slice la.bA la.bn la.bc)
    have hbF := below_set6 hb2.out (Nat.le_trans (Nat.le_succ _) (Nat.le_succ _)) (Value.int .i64 la.now) (Value.int .i64 la.delay) (Value.bool la.cut) (Value.int .i64 la.count) (Value.slice la.lA la.ln la.lc) (Value.slice la.bA la.bn la.bc)
    have hgF := grown_set6 (w2) (w.heap.size + 1 + 1) (Value.int .i64 la.now) (Value.int .i64 la.delay) (Value.bool la.cut) (Value.int .i64 la.count) (Value.slice la.lA la.ln la.lc) (Value.slice la.bA la.bn la.bc)
    refine bodyPost_ret (v := .tuple #[.agg #[Value.int .i64 la.now, Value.int .i64 la.delay, Value.bool la.cut, Value.int .i64 la.count, Value.slice la.lA la.ln la.lc, Value.slice la.bA la.bn la.bc], Value.slice none 0 0, .int .i64 0]) ?_ rfl ?_
    · refine (res3 (fn := Try.f19) (p := 4) (u := 5) (v := 6) (ty := 25) rfl _ _ (w.heap.size + 1 + 1) 25 _ (0, 0) _ ?_ hB Try.underlying25 rfl (by kernel_rfl)).trans ?_
      · rfl
      · rfl
    clear hB
    generalize (((((((w2).setCell ⟨(w.heap.size + 1 + 1), 0, none⟩ (Value.int .i64 la.now)).setCell ⟨(w.heap.size + 1 + 1), 1, none⟩ (Value.int .i64 la.delay)).setCell ⟨(w.heap.size + 1 + 1), 2, none⟩ (Value.bool la.cut)).setCell ⟨(w.heap.size + 1 + 1), 3, none⟩ (Value.int .i64 la.count)).setCell ⟨(w.heap.size + 1 + 1), 4, none⟩ (Value.slice la.lA la.ln la.lc)).setCell ⟨(w.heap.size + 1 + 1), 5, none⟩ (Value.slice la.bA la.bn la.bc)) = wF at *
    exact ⟨⟨la, none, 0, 0, [], by rw [hF.out]; rfl, LkOk_q hok.out hla.out hgF, by rw [hF.out]; exact hv.out, LOwn.nil sC_len _ _, fun b hb => by simp at hb, by rw [hF.out]; rfl, hK2.out⟩, hbF⟩
  have q3d : (kind == 3) = false := by simpa using q3
  by_cases q4 : kind = 4
  · subst q4
    have hF : Hid (playL (Lk.val ⟨now, delay, cut, count, lA, ln, lc, lose, bA, bn, bc, box⟩) 4 od = (cutL (Lk.val ⟨now, delay, cut, count, lA, ln, lc, lose, bA, bn, bc, box⟩) false, [], 0)) := rfl
    go_enter Try.func19, Try.ntmps19
    go_wp2_with fail
    clear k0 k1 k2 k3 k4 k5 o0 o1
    generalize (((w.alloc (.cells #[Value.int .i64 now, Value.int .i64 delay, Value.bool cut, Value.int .i64 count, Value.slice lA ln lc, Value.slice bA bn bc] 25)).alloc (.cells #[Value.int .i64 4, Value.slice oA od.length oc] 48)).alloc (.cells #[Value.int .i64 0, Value.int .i64 0, Value.bool false, Value.int .i64 0, Value.slice none 0 0, Value.slice none 0 0] 25)) = w1 at *
    refine (cut_any ⟨now, delay, cut, count, lA, ln, lc, lose, bA, bn, bc, box⟩ false w1 (h.out.more hb0.out) hs0.out).mono ?_; rintro e w2 ⟨la, rfl, hok, hv, hf, hq⟩
    simp only [lkV]
    have hZ2 := Lib.hid (hZ0.out.below hq hZ0.out.lt)
    have hb2 : Hid (Below w.heap.size w w2) := hb0.out.trans (hq.mono hb0.out.size)
    have hla : Hid (LkQ (fun b => b ≠ (w.heap.size + 1 + 1)) la) := hf.q (fun b hb => by have := hZ0.out.lt; omega)
    have hK2 : Hid (LkK w.heap.size ⟨now, delay, cut, count, lA, ln, lc, lose, bA, bn, bc, box⟩ la) := (hf.mono hb0.out.size).k
    replace hv := Lib.hid hv
    replace hok := Lib.hid hok
    clear hq hf hX0 hO0 hZ0 hb0
    obtain ⟨u0, u1, u2, u3, u4, u5, z0, z1, z2, z3, z4, z5⟩ := (show w2.cell? ⟨(w.heap.size + 1 + 1), 0, none⟩ = some (Value.int .i64 0) ∧ w2.cell? ⟨(w.heap.size + 1 + 1), 1, none⟩ = some (Value.int .i64 0) ∧ w2.cell? ⟨(w.heap.size + 1 + 1), 2, none⟩ = some (Value.bool false) ∧ w2.cell? ⟨(w.heap.size + 1 + 1), 3, none⟩ = some (Value.int .i64 0) ∧ w2.cell? ⟨(w.heap.size + 1 + 1), 4, none⟩ = some (Value.slice none 0 0) ∧ w2.cell? ⟨(w.heap.size + 1 + 1), 5, none⟩ = some (Value.slice none 0 0) ∧ w2.frozen? ⟨(w.heap.size + 1 + 1), 0, none⟩ = false ∧ w2.frozen? ⟨(w.heap.size + 1 + 1), 1, none⟩ = false ∧ w2.frozen? ⟨(w.heap.size + 1 + 1), 2, none⟩ = false ∧ w2.frozen? ⟨(w.heap.size + 1 + 1), 3, none⟩ = false ∧ w2.frozen? ⟨(w.heap.size + 1 + 1), 4, none⟩ = false ∧ w2.frozen? ⟨(w.heap.size + 1 + 1), 5, none⟩ = false from ⟨hZ2.out.cell 0, hZ2.out.cell 1, hZ2.out.cell 2, hZ2.out.cell 3, hZ2.out.cell 4, hZ2.out.cell 5, hZ2.out.frozen 0, hZ2.out.frozen 1, hZ2.out.frozen 2, hZ2.out.frozen 3, hZ2.out.frozen 4, hZ2.out.frozen 5⟩)
    go_wp2_with fail
    clear u0 u1 u2 u3 u4 u5 z0 z1 z2 z3 z4 z5
    (try simp only [Exit.inBlock, Exit.then])
    have hB := lk_set6 hZ2.out (Value.int .i64 la.now) (Value.int .i64 la.delay) (Value.bool la.cut) (Value.int .i64 la.count) (Value.slice la.lA la.ln la.lc) (Value.slice la.bA la.bn la.bc)
    have hbF := below_set6 hb2.out (Nat.le_trans (Nat.le_succ _) (Nat.le_succ _)) (Value.int .i64 la.now) (Value.int .i64 la.delay) (Value.bool la.cut) (Value.int .i64 la.count) (Value.slice la.lA la.ln la.lc) (Value.slice la.bA la.bn la.bc)
    have hgF := grown_set6 (w2) (w.heap.size + 1 + 1) (Value.int .i64 la.now) (Value.int .i64 la.delay) (Value.bool la.cut) (Value.int .i64 la.count) (Value.slice la.lA la.ln la.lc) (Value.slice la.bA la.bn la.bc)
    refine bodyPost_ret (v := .tuple #[.agg #[Value.int .i64 la.now, Value.int .i64 la.delay, Value.bool la.cut, Value.int .i64 la.count, Value.slice la.lA la.ln la.lc, Value.slice la.bA la.bn la.bc], Value.slice none 0 0, .int .i64 0]) ?_ rfl ?_
    · refine (res3 (fn := Try.f19) (p := 4) (u := 5) (v := 6) (ty := 25) rfl _ _ (w.heap.size + 1 + 1) 25 _ (0, 0) _ ?_ hB Try.underlying25 rfl (by kernel_rfl)).trans ?_
      · rfl
      · rfl
    clear hB
    generalize (((((((w2).setCell ⟨(w.heap.size + 1 + 1), 0, none⟩ (Value.int .i64 la.now)).setCell ⟨(w.heap.size + 1 + 1), 1, none⟩ (Value.int .i64 la.delay)).setCell ⟨(w.heap.size + 1 + 1), 2, none⟩ (Value.bool la.cut)).setCell ⟨(w.heap.size + 1 + 1), 3, none⟩ (Value.int .i64 la.count)).setCell ⟨(w.heap.size + 1 + 1), 4, none⟩ (Value.slice la.lA la.ln la.lc)).setCell ⟨(w.heap.size + 1 + 1), 5, none⟩ (Value.slice la.bA la.bn la.bc)) = wF at *
    exact ⟨⟨la, none, 0, 0, [], by rw [hF.out]; rfl, LkOk_q hok.out hla.out hgF, by rw [hF.out]; exact hv.out, LOwn.nil sC_len _ _, fun b hb => by simp at hb, by rw [hF.out]; rfl, hK2.out⟩, hbF⟩
  have q4d : (kind == 4) = false := by simpa using q4
  have hF : Hid (playL (Lk.val ⟨now, delay, cut, count, lA, ln, lc, lose, bA, bn, bc, box⟩) kind od = ((Lk.val ⟨now, delay, cut, count, lA, ln, lc, lose, bA, bn, bc, box⟩), [], 0)) := by show _ = _; unfold playL; rw [if_neg q1, if_neg q2, if_neg q3, if_neg q4]
  go_enter Try.func19, Try.ntmps19
  go_wp2_with fail
  (try simp only [Exit.inBlock, Exit.then])
  have hB := Blk.new ((w.alloc (.cells #[Value.int .i64 now, Value.int .i64 delay, Value.bool cut, Value.int .i64 count, Value.slice lA ln lc, Value.slice bA bn bc] 25)).alloc (.cells #[Value.int .i64 kind, Value.slice oA od.length oc] 48)) 25 #[Value.int .i64 now, Value.int .i64 delay, Value.bool cut, Value.int .i64 count, Value.slice lA ln lc, Value.slice bA bn bc]
  rw [show ((w.alloc (.cells #[Value.int .i64 now, Value.int .i64 delay, Value.bool cut, Value.int .i64 count, Value.slice lA ln lc, Value.slice bA bn bc] 25)).alloc (.cells #[Value.int .i64 kind, Value.slice oA od.length oc] 48)).heap.size = w.heap.size + 1 + 1 by simp] at hB
  have hbF : Below w.heap.size w (((w.alloc (.cells #[Value.int .i64 now, Value.int .i64 delay, Value.bool cut, Value.int .i64 count, Value.slice lA ln lc, Value.slice bA bn bc] 25)).alloc (.cells #[Value.int .i64 kind, Value.slice oA od.length oc] 48)).alloc (.cells #[Value.int .i64 now, Value.int .i64 delay, Value.bool cut, Value.int .i64 count, Value.slice lA ln lc, Value.slice bA bn bc] 25)) := ((a1 w _).alloc (by simp) _).alloc (by simp; omega) _
  refine bodyPost_ret (v := .tuple #[.agg #[Value.int .i64 now, Value.int .i64 delay, Value.bool cut, Value.int .i64 count, Value.slice lA ln lc, Value.slice bA bn bc], .slice none 0 0, .int .i64 0]) ?_ rfl ?_
  · refine (res3 (fn := Try.f19) (p := 4) (u := 5) (v := 6) (ty := 25) rfl _ _ (w.heap.size + 1 + 1) 25 _ (0, 0) _ ?_ hB Try.underlying25 rfl (by kernel_rfl)).trans ?_
    · rfl
    · rfl
  clear hB
  exact ⟨⟨⟨now, delay, cut, count, lA, ln, lc, lose, bA, bn, bc, box⟩, none, 0, 0, [], by rw [hF.out]; rfl, h.out.more hbF, by rw [hF.out], LOwn.nil sC_len _ _, fun b hb => by simp at hb, by rw [hF.out]; rfl, fun Q h1 _ => h1⟩, hbF⟩
end Go.Proofs.Yteolglmdfjddlaa
