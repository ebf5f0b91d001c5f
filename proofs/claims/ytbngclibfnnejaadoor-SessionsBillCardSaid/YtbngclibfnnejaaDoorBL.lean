/- A session's sums, walked. -/
import Derived.Test.YtbngclibfnnejaaDoorBK
import Derived.Test.YtbngclibfnnejaaDoorRU
set_option linter.unusedVariables false
set_option linter.unusedSimpArgs false
namespace Go.Proofs.YtbngclibfnnejaaDoor
open Go.RowKit
theorem below_new' {B : Nat} {a w : World} (h : Below B a w) (o : Obj) (hB : B ≤ a.heap.size := by exact Nat.le_refl _) : Below B a (w.alloc o) := h.alloc (Nat.le_trans hB h.size) o
set_option maxRecDepth 100000 in
set_option maxHeartbeats 4000000 in
theorem find_no (gh eA cA b : Nat) (cost rate start l0 l1 l2 kind mi en po : Int) (kn : Bool) (w : World) (hs : Blk w gh 86 #[Value.string (⟨#[84]⟩ : ByteArray), Value.string (⟨#[69, 85, 82]⟩ : ByteArray), Value.int .i64 1, Value.int .i64 0, Value.int .i64 268435456, Value.slice (some ⟨eA, 0, none⟩) 1 1, Value.int .i64 (-1), Value.int .i64 (-1), Value.int .i64 0, Value.bool false, Value.int .i64 start, Value.map (some b), Value.int .i64 0, Value.int .i64 0, Value.int .i64 0, Value.bool false, Value.int .i64 0, Value.int .i64 0, Value.int .i64 0, Value.bool false, Value.int .i64 l0, Value.int .i64 l1, Value.int .i64 l2, Value.bool kn, Value.int .i64 0, Value.int .i64 0, Value.int .i64 0, Value.bool false, Value.int .i64 0, Value.int .i64 0, Value.int .i64 0, Value.bool false]) (hT : TarAt w eA cA cost rate) (hk : kind ≠ 2) : Calls Tryd.prog 48 #[.pointer (some ⟨gh, 0, none⟩), .int .i64 kind, .int .i64 mi, .int .i64 en, .int .i64 po] w fun e w' => e = .returned (.tuple #[.agg #[Value.int .i64 0, Value.int .i64 0, Value.int .i64 0, Value.int .i64 0], .int .i64 0, .bool false]) ∧ Below w.heap.size w w' := by
  have hb0 : Below w.heap.size w (w.alloc (.cells #[Value.int .i64 0, Value.int .i64 0, Value.int .i64 0, Value.int .i64 0] 32)) := a1 w _
  have hR := Lib.hid (Blk.new w 32 #[Value.int .i64 0, Value.int .i64 0, Value.int .i64 0, Value.int .i64 0])
  replace hs := Lib.hid (hs.below hb0 hs.lt)
  replace hT := Lib.hid (hT.more hb0)
  have hb := Lib.hid hb0
  have hha := Lib.hid (fun w h => hasF_any cA cost rate kind w h hk)
  clear hb0 hk
  have k5 : ((w.alloc (.cells #[Value.int .i64 0, Value.int .i64 0, Value.int .i64 0, Value.int .i64 0] 32))).cell? ⟨gh, 5, none⟩ = some (Value.slice (some ⟨eA, 0, none⟩) 1 1) := (hs.out).cell 5
  go_enter Tryd.func48, Tryd.ntmps48
  go_wp2_with fail
  generalize (w.alloc (.cells #[Value.int .i64 0, Value.int .i64 0, Value.int .i64 0, Value.int .i64 0] 32)) = w0 at *
  clear k5 hs
  go_loopw [24] (fun i wr => ∃ k : Nat, k ≤ 1 ∧ i = .int .i64 k ∧ Hid (TarAt wr eA cA cost rate) ∧ Hid (Blk wr w.heap.size 32 #[Value.int .i64 0, Value.int .i64 0, Value.int .i64 0, Value.int .i64 0]) ∧ Hid (Below w.heap.size w wr)) (fun i _ => 1 - (intOf i).toNat)
  case atStart => exact ⟨0, Nat.zero_le _, rfl, hT.out, hR.out, hb.out⟩
  case round =>
    clear hT hR hb
    obtain ⟨k, hk9, rfl, hT, hR, hb⟩ := hrel
    rcases (show k = 0 ∨ k = 1 by omega) with rfl | rfl
    · have e0 : (wr).cell? ⟨eA, 0, none⟩ = some (Value.slice (some ⟨cA, 0, none⟩) 1 1) := (hT.out.el).cell 0; have e1 : (wr).cell? ⟨eA, 1, none⟩ = some (Value.int .i64 0) := (hT.out.el).cell 1; have e2 : (wr).cell? ⟨eA, 2, none⟩ = some (Value.int .i64 0) := (hT.out.el).cell 2; have e3 : (wr).cell? ⟨eA, 3, none⟩ = some (Value.int .i64 0) := (hT.out.el).cell 3; have e4 : (wr).cell? ⟨eA, 4, none⟩ = some (Value.int .i64 (-1)) := (hT.out.el).cell 4; have e5 : (wr).cell? ⟨eA, 5, none⟩ = some (Value.int .i64 (-1)) := (hT.out.el).cell 5; have e6 : (wr).cell? ⟨eA, 6, none⟩ = some (Value.int .i64 (-1)) := (hT.out.el).cell 6; have e7 : (wr).cell? ⟨eA, 7, none⟩ = some (Value.int .i64 (-1)) := (hT.out.el).cell 7; have e8 : (wr).cell? ⟨eA, 8, none⟩ = some (Value.int .i64 (-1)) := (hT.out.el).cell 8; have e9 : (wr).cell? ⟨eA, 9, none⟩ = some (Value.int .i64 (-1)) := (hT.out.el).cell 9; have e10 : (wr).cell? ⟨eA, 10, none⟩ = some (Value.int .i64 (-1)) := (hT.out.el).cell 10; have e11 : (wr).cell? ⟨eA, 11, none⟩ = some (Value.int .i64 (-1)) := (hT.out.el).cell 11
      have hE := Lib.hid (Blk.new wr 35 #[Value.slice (some ⟨cA, 0, none⟩) 1 1, Value.int .i64 0, Value.int .i64 0, Value.int .i64 0, Value.int .i64 (-1), Value.int .i64 (-1), Value.int .i64 (-1), Value.int .i64 (-1), Value.int .i64 (-1), Value.int .i64 (-1), Value.int .i64 (-1), Value.int .i64 (-1)])
      have hbE := a1 wr (.cells #[Value.slice (some ⟨cA, 0, none⟩) 1 1, Value.int .i64 0, Value.int .i64 0, Value.int .i64 0, Value.int .i64 (-1), Value.int .i64 (-1), Value.int .i64 (-1), Value.int .i64 (-1), Value.int .i64 (-1), Value.int .i64 (-1), Value.int .i64 (-1), Value.int .i64 (-1)] 35)
      have n0 : ((wr.alloc (.cells #[Value.slice (some ⟨cA, 0, none⟩) 1 1, Value.int .i64 0, Value.int .i64 0, Value.int .i64 0, Value.int .i64 (-1), Value.int .i64 (-1), Value.int .i64 (-1), Value.int .i64 (-1), Value.int .i64 (-1), Value.int .i64 (-1), Value.int .i64 (-1), Value.int .i64 (-1)] 35))).cell? ⟨wr.heap.size, 0, none⟩ = some (Value.slice (some ⟨cA, 0, none⟩) 1 1) := (hE.out).cell 0; have n1 : ((wr.alloc (.cells #[Value.slice (some ⟨cA, 0, none⟩) 1 1, Value.int .i64 0, Value.int .i64 0, Value.int .i64 0, Value.int .i64 (-1), Value.int .i64 (-1), Value.int .i64 (-1), Value.int .i64 (-1), Value.int .i64 (-1), Value.int .i64 (-1), Value.int .i64 (-1), Value.int .i64 (-1)] 35))).cell? ⟨wr.heap.size, 1, none⟩ = some (Value.int .i64 0) := (hE.out).cell 1; have n2 : ((wr.alloc (.cells #[Value.slice (some ⟨cA, 0, none⟩) 1 1, Value.int .i64 0, Value.int .i64 0, Value.int .i64 0, Value.int .i64 (-1), Value.int .i64 (-1), Value.int .i64 (-1), Value.int .i64 (-1), Value.int .i64 (-1), Value.int .i64 (-1), Value.int .i64 (-1), Value.int .i64 (-1)] 35))).cell? ⟨wr.heap.size, 2, none⟩ = some (Value.int .i64 0) := (hE.out).cell 2; have n3 : ((wr.alloc (.cells #[Value.slice (some ⟨cA, 0, none⟩) 1 1, Value.int .i64 0, Value.int .i64 0, Value.int .i64 0, Value.int .i64 (-1), Value.int .i64 (-1), Value.int .i64 (-1), Value.int .i64 (-1), Value.int .i64 (-1), Value.int .i64 (-1), Value.int .i64 (-1), Value.int .i64 (-1)] 35))).cell? ⟨wr.heap.size, 3, none⟩ = some (Value.int .i64 0) := (hE.out).cell 3; have n4 : ((wr.alloc (.cells #[Value.slice (some ⟨cA, 0, none⟩) 1 1, Value.int .i64 0, Value.int .i64 0, Value.int .i64 0, Value.int .i64 (-1), Value.int .i64 (-1), Value.int .i64 (-1), Value.int .i64 (-1), Value.int .i64 (-1), Value.int .i64 (-1), Value.int .i64 (-1), Value.int .i64 (-1)] 35))).cell? ⟨wr.heap.size, 4, none⟩ = some (Value.int .i64 (-1)) := (hE.out).cell 4; have n5 : ((wr.alloc (.cells #[Value.slice (some ⟨cA, 0, none⟩) 1 1, Value.int .i64 0, Value.int .i64 0, Value.int .i64 0, Value.int .i64 (-1), Value.int .i64 (-1), Value.int .i64 (-1), Value.int .i64 (-1), Value.int .i64 (-1), Value.int .i64 (-1), Value.int .i64 (-1), Value.int .i64 (-1)] 35))).cell? ⟨wr.heap.size, 5, none⟩ = some (Value.int .i64 (-1)) := (hE.out).cell 5; have n6 : ((wr.alloc (.cells #[Value.slice (some ⟨cA, 0, none⟩) 1 1, Value.int .i64 0, Value.int .i64 0, Value.int .i64 0, Value.int .i64 (-1), Value.int .i64 (-1), Value.int .i64 (-1), Value.int .i64 (-1), Value.int .i64 (-1), Value.int .i64 (-1), Value.int .i64 (-1), Value.int .i64 (-1)] 35))).cell? ⟨wr.heap.size, 6, none⟩ = some (Value.int .i64 (-1)) := (hE.out).cell 6; have n7 : ((wr.alloc (.cells #[Value.slice (some ⟨cA, 0, none⟩) 1 1, Value.int .i64 0, Value.int .i64 0, Value.int .i64 0, Value.int .i64 (-1), Value.int .i64 (-1), Value.int .i64 (-1), Value.int .i64 (-1), Value.int .i64 (-1), Value.int .i64 (-1), Value.int .i64 (-1), Value.int .i64 (-1)] 35))).cell? ⟨wr.heap.size, 7, none⟩ = some (Value.int .i64 (-1)) := (hE.out).cell 7; have n8 : ((wr.alloc (.cells #[Value.slice (some ⟨cA, 0, none⟩) 1 1, Value.int .i64 0, Value.int .i64 0, Value.int .i64 0, Value.int .i64 (-1), Value.int .i64 (-1), Value.int .i64 (-1), Value.int .i64 (-1), Value.int .i64 (-1), Value.int .i64 (-1), Value.int .i64 (-1), Value.int .i64 (-1)] 35))).cell? ⟨wr.heap.size, 8, none⟩ = some (Value.int .i64 (-1)) := (hE.out).cell 8; have n9 : ((wr.alloc (.cells #[Value.slice (some ⟨cA, 0, none⟩) 1 1, Value.int .i64 0, Value.int .i64 0, Value.int .i64 0, Value.int .i64 (-1), Value.int .i64 (-1), Value.int .i64 (-1), Value.int .i64 (-1), Value.int .i64 (-1), Value.int .i64 (-1), Value.int .i64 (-1), Value.int .i64 (-1)] 35))).cell? ⟨wr.heap.size, 9, none⟩ = some (Value.int .i64 (-1)) := (hE.out).cell 9; have n10 : ((wr.alloc (.cells #[Value.slice (some ⟨cA, 0, none⟩) 1 1, Value.int .i64 0, Value.int .i64 0, Value.int .i64 0, Value.int .i64 (-1), Value.int .i64 (-1), Value.int .i64 (-1), Value.int .i64 (-1), Value.int .i64 (-1), Value.int .i64 (-1), Value.int .i64 (-1), Value.int .i64 (-1)] 35))).cell? ⟨wr.heap.size, 10, none⟩ = some (Value.int .i64 (-1)) := (hE.out).cell 10; have n11 : ((wr.alloc (.cells #[Value.slice (some ⟨cA, 0, none⟩) 1 1, Value.int .i64 0, Value.int .i64 0, Value.int .i64 0, Value.int .i64 (-1), Value.int .i64 (-1), Value.int .i64 (-1), Value.int .i64 (-1), Value.int .i64 (-1), Value.int .i64 (-1), Value.int .i64 (-1), Value.int .i64 (-1)] 35))).cell? ⟨wr.heap.size, 11, none⟩ = some (Value.int .i64 (-1)) := (hE.out).cell 11
      replace hT := Lib.hid (hT.out.more hbE)
      replace hR := Lib.hid (hR.out.below hbE hR.out.lt)
      replace hb := Lib.hid (hb.out.trans (hbE.mono hb.out.size))
      have hc1 := Lib.hid (hha.out (wr.alloc (.cells #[Value.slice (some ⟨cA, 0, none⟩) 1 1, Value.int .i64 0, Value.int .i64 0, Value.int .i64 0, Value.int .i64 (-1), Value.int .i64 (-1), Value.int .i64 (-1), Value.int .i64 (-1), Value.int .i64 (-1), Value.int .i64 (-1), Value.int .i64 (-1), Value.int .i64 (-1)] 35)) hT.out.co)
      clear hbE hk9 hha
      go_wp2_with fail
      refine hc1.out.mono ?_; rintro e w2 ⟨rfl, hq⟩
      replace hT := Lib.hid (hT.out.more hq)
      replace hR := Lib.hid (hR.out.below hq hR.out.lt)
      replace hb := Lib.hid (hb.out.trans (hq.mono hb.out.size))
      clear hq hc1
      go_wp2_with fail
      go_roundw
      case rel => exact ⟨1, by omega, by go_num, hT.out, hR.out, hb.out⟩
      case measure => simp [intOf]
    · clear hk9
      have r0 : (wr).cell? ⟨w.heap.size, 0, none⟩ = some (Value.int .i64 0) := (hR.out).cell 0; have r1 : (wr).cell? ⟨w.heap.size, 1, none⟩ = some (Value.int .i64 0) := (hR.out).cell 1; have r2 : (wr).cell? ⟨w.heap.size, 2, none⟩ = some (Value.int .i64 0) := (hR.out).cell 2; have r3 : (wr).cell? ⟨w.heap.size, 3, none⟩ = some (Value.int .i64 0) := (hR.out).cell 3; have rz0 : (wr).frozen? ⟨w.heap.size, 0, none⟩ = false := (hR.out).frozen 0; have rz1 : (wr).frozen? ⟨w.heap.size, 1, none⟩ = false := (hR.out).frozen 1; have rz2 : (wr).frozen? ⟨w.heap.size, 2, none⟩ = false := (hR.out).frozen 2; have rz3 : (wr).frozen? ⟨w.heap.size, 3, none⟩ = false := (hR.out).frozen 3
      go_wp2_with fail
      (try simp only [Exit.inBlock, Exit.then])
      have hRf : Blk ((((wr.setCell ⟨w.heap.size, 0, none⟩ (Value.int .i64 0)).setCell ⟨w.heap.size, 1, none⟩ (Value.int .i64 0)).setCell ⟨w.heap.size, 2, none⟩ (Value.int .i64 0)).setCell ⟨w.heap.size, 3, none⟩ (Value.int .i64 0)) w.heap.size 32 #[Value.int .i64 0, Value.int .i64 0, Value.int .i64 0, Value.int .i64 0] := (((hR.out.set_ 0 _).set_ 1 _).set_ 2 _).set_ 3 _
      refine bodyPost_ret (v := .tuple #[.agg #[Value.int .i64 0, Value.int .i64 0, Value.int .i64 0, Value.int .i64 0], .int .i64 0, .bool false]) ?_ rfl ?_
      · refine (res3 (fn := Tryd.f48) (p := 10) (u := 11) (v := 12) (ty := 32) rfl _ _ w.heap.size 32 _ (0, 0) _ ?_ hRf Tryd.underlying32 rfl (by kernel_rfl)).trans ?_
        · rfl
        · rfl
      · exact ⟨rfl, below_set (below_set (below_set (below_set hb.out (Nat.le_refl _) 0 _) (Nat.le_refl _) 1 _) (Nat.le_refl _) 2 _) (Nat.le_refl _) 3 _⟩
set_option maxRecDepth 100000 in
set_option maxHeartbeats 4000000 in
theorem add_zero_any (gh : Nat) (kind mi en po n : Int) (w : World) (hn : n ≤ 0) : Calls Tryd.prog 41 #[.pointer (some ⟨gh, 0, none⟩), .int .i64 kind, .int .i64 mi, .int .i64 en, .int .i64 po, .int .i64 n] w fun e w' => (∃ v, e = .returned v) ∧ w' = w := by
  have d : decide (n ≤ 0) = true := by simpa using hn
  replace hn := Lib.hid hn
  go_enter Tryd.func41, Tryd.ntmps41
  go_wp2_with fail
  refine bodyPost_ret (results_none rfl _ _ _) rfl ?_
  exact ⟨⟨_, rfl⟩, rfl⟩
set_option maxRecDepth 100000 in
set_option maxHeartbeats 4000000 in
theorem add_no (gh eA cA b : Nat) (cost rate start l0 l1 l2 kind mi en po n : Int) (kn : Bool) (w : World) (hs : Blk w gh 86 #[Value.string (⟨#[84]⟩ : ByteArray), Value.string (⟨#[69, 85, 82]⟩ : ByteArray), Value.int .i64 1, Value.int .i64 0, Value.int .i64 268435456, Value.slice (some ⟨eA, 0, none⟩) 1 1, Value.int .i64 (-1), Value.int .i64 (-1), Value.int .i64 0, Value.bool false, Value.int .i64 start, Value.map (some b), Value.int .i64 0, Value.int .i64 0, Value.int .i64 0, Value.bool false, Value.int .i64 0, Value.int .i64 0, Value.int .i64 0, Value.bool false, Value.int .i64 l0, Value.int .i64 l1, Value.int .i64 l2, Value.bool kn, Value.int .i64 0, Value.int .i64 0, Value.int .i64 0, Value.bool false, Value.int .i64 0, Value.int .i64 0, Value.int .i64 0, Value.bool false]) (hT : TarAt w eA cA cost rate) (hk : kind ≠ 2) (hn : 0 < n) : Calls Tryd.prog 41 #[.pointer (some ⟨gh, 0, none⟩), .int .i64 kind, .int .i64 mi, .int .i64 en, .int .i64 po, .int .i64 n] w fun e w' => (∃ v, e = .returned v) ∧ Below w.heap.size w w' := by
  have hf := Lib.hid (find_no gh eA cA b cost rate start l0 l1 l2 kind mi en po kn w hs hT hk)
  have d : decide (n ≤ 0) = false := by simp; omega
  clear hs hT hk
  replace hn := Lib.hid hn
  go_enter Tryd.func41, Tryd.ntmps41
  go_wp2_with fail
  refine hf.out.mono ?_; rintro e w1 ⟨rfl, hq⟩
  have hb := Lib.hid (below_new' hq (.cells #[Value.int .i64 0, Value.int .i64 0, Value.int .i64 0, Value.int .i64 0] 32))
  clear hq hf
  go_wp2_with fail
  refine bodyPost_ret (results_none rfl _ _ _) rfl ?_
  exact ⟨⟨_, rfl⟩, hb.out⟩
/-- the map may have got its entry -/
def Rmp (b : Nat) (S : Int) (w w' : World) : Prop := w.grownBy w' (some b) ∧ ∀ st, EntSt w b S st → EntSt w' b S st
theorem Rmp.refl {b : Nat} {S : Int} (w : World) : Rmp b S w w := ⟨World.grownBy.refl _ _, fun _ h => h⟩
def EntT (b : Nat) (S : Int) (v : Value) (w : World) : Prop := ∃ v0 st, v = .tuple #[v0, .int .i64 (st : Nat)] ∧ EntSt w b S st
def EntI (b : Nat) (S : Int) (v : Value) (w : World) : Prop := ∃ st : Nat, v = .int .i64 st ∧ EntSt w b S st
theorem EntT.more {b : Nat} {S : Int} {v : Value} {w w' : World} (h : EntT b S v w) (hR : Rmp b S w w') : EntT b S v w' := by obtain ⟨v0, st, h1, h2⟩ := h; exact ⟨v0, st, h1, hR.2 _ h2⟩
theorem EntI.more {b : Nat} {S : Int} {v : Value} {w w' : World} (h : EntI b S v w) (hR : Rmp b S w w') : EntI b S v w' := by obtain ⟨st, h1, h2⟩ := h; exact ⟨st, h1, hR.2 _ h2⟩
theorem grown_tr {a b c : World} {row : Option Nat} (h1 : a.grownBy b row) (h2 : b.grownBy c row) : a.grownBy c row := ⟨h2.os.trans h1.os, h2.tape.trans h1.tape, h2.output.trans h1.output, Nat.le_trans h1.size h2.size, fun i hi hne => (h2.block i (Nat.lt_of_lt_of_le hi h1.size) hne).trans (h1.block i hi hne)⟩
def F41b (gh g15 g12 : Nat) : Tmp → Value → World → Prop
  | 0, v, _ => v = .pointer (some ⟨gh, 0, none⟩)
  | 1, v, _ => v = .int .i64 2
  | 12, v, _ => v = .pointer (some ⟨g12, 0, none⟩)
  | 15, v, _ => v = .pointer (some ⟨g15, 0, none⟩)
  | 43, v, _ => v = .pointer (some ⟨gh, 0, none⟩)
  | 44, v, _ => v = .int .i64 2
  | 45, v, _ => v = .agg #[Value.int .i64 0, Value.int .i64 2]
  | 46, v, _ => v = .pointer (some ⟨g12, 2, none⟩)
  | 47, v, _ => v = .int .i64 1
  | 48, v, _ => v = .agg #[Value.int .i64 0, Value.int .i64 2, Value.int .i64 1, Value.bool true]
  | 49, v, _ => v = .pointer (some ⟨gh, 0, none⟩)
  | 50, v, _ => v = .pointer (some ⟨gh, 12, none⟩)
  | 51, v, _ => v = .pointer (some ⟨gh, 20, none⟩)
  | _, _, _ => True
theorem F41b_more {gh g15 g12 : Nat} (d t : Tmp) (v : Value) (w w' : World) (hR : Rb w w') (hne : t ≠ d) (hc : ([] : List (Tmp × Tmp)).contains (d, t) = false) (h : F41b gh g15 g12 t v w) : F41b gh g15 g12 t v w' := by
  unfold F41b at *
  split at h <;> first | exact h
theorem F41b_lit (tm : Array Value) (hs : tm.size = 52) : tm = #[tm[0]?.getD undef, tm[1]?.getD undef, tm[2]?.getD undef, tm[3]?.getD undef, tm[4]?.getD undef, tm[5]?.getD undef, tm[6]?.getD undef, tm[7]?.getD undef, tm[8]?.getD undef, tm[9]?.getD undef, tm[10]?.getD undef, tm[11]?.getD undef, tm[12]?.getD undef, tm[13]?.getD undef, tm[14]?.getD undef, tm[15]?.getD undef, tm[16]?.getD undef, tm[17]?.getD undef, tm[18]?.getD undef, tm[19]?.getD undef, tm[20]?.getD undef, tm[21]?.getD undef, tm[22]?.getD undef, tm[23]?.getD undef, tm[24]?.getD undef, tm[25]?.getD undef, tm[26]?.getD undef, tm[27]?.getD undef, tm[28]?.getD undef, tm[29]?.getD undef, tm[30]?.getD undef, tm[31]?.getD undef, tm[32]?.getD undef, tm[33]?.getD undef, tm[34]?.getD undef, tm[35]?.getD undef, tm[36]?.getD undef, tm[37]?.getD undef, tm[38]?.getD undef, tm[39]?.getD undef, tm[40]?.getD undef, tm[41]?.getD undef, tm[42]?.getD undef, tm[43]?.getD undef, tm[44]?.getD undef, tm[45]?.getD undef, tm[46]?.getD undef, tm[47]?.getD undef, tm[48]?.getD undef, tm[49]?.getD undef, tm[50]?.getD undef, tm[51]?.getD undef] := lit_arr tm 52 hs
def F41a (gh g15 b : Nat) (S n : Int) : Tmp → Value → World → Prop
  | 0, v, _ => v = .pointer (some ⟨gh, 0, none⟩)
  | 5, v, _ => v = .int .i64 n
  | 15, v, _ => v = .pointer (some ⟨g15, 0, none⟩)
  | 33, v, _ => v = .pointer (some ⟨gh, 0, none⟩)
  | 34, v, _ => v = .pointer (some ⟨gh, 0, none⟩)
  | 35, v, _ => v = .pointer (some ⟨gh, 11, none⟩)
  | 36, v, _ => v = .map (some b)
  | 37, v, _ => v = .agg #[Value.int .i64 0, Value.int .i64 2]
  | 38, v, _ => v = .int .i64 S
  | 39, v, _ => v = .int .i64 n
  | 40, v, _ => v = .int .i64 (S + n)
  | 41, v, w => EntT b S v w
  | 42, v, w => EntI b S v w
  | _, _, _ => True
theorem F41a_more {gh g15 b : Nat} {S n : Int} (d t : Tmp) (v : Value) (w w' : World) (hR : Rmp b S w w') (hne : t ≠ d) (hc : ([] : List (Tmp × Tmp)).contains (d, t) = false) (h : F41a gh g15 b S n t v w) : F41a gh g15 b S n t v w' := by
  unfold F41a at *
  split at h <;> first | exact h | exact EntT.more h hR | exact fun hg => EntT.more (h hg) hR | exact EntI.more h hR | exact fun hg => EntI.more (h hg) hR
theorem F41a_lit (tm : Array Value) (hs : tm.size = 52) : tm = #[tm[0]?.getD undef, tm[1]?.getD undef, tm[2]?.getD undef, tm[3]?.getD undef, tm[4]?.getD undef, tm[5]?.getD undef, tm[6]?.getD undef, tm[7]?.getD undef, tm[8]?.getD undef, tm[9]?.getD undef, tm[10]?.getD undef, tm[11]?.getD undef, tm[12]?.getD undef, tm[13]?.getD undef, tm[14]?.getD undef, tm[15]?.getD undef, tm[16]?.getD undef, tm[17]?.getD undef, tm[18]?.getD undef, tm[19]?.getD undef, tm[20]?.getD undef, tm[21]?.getD undef, tm[22]?.getD undef, tm[23]?.getD undef, tm[24]?.getD undef, tm[25]?.getD undef, tm[26]?.getD undef, tm[27]?.getD undef, tm[28]?.getD undef, tm[29]?.getD undef, tm[30]?.getD undef, tm[31]?.getD undef, tm[32]?.getD undef, tm[33]?.getD undef, tm[34]?.getD undef, tm[35]?.getD undef, tm[36]?.getD undef, tm[37]?.getD undef, tm[38]?.getD undef, tm[39]?.getD undef, tm[40]?.getD undef, tm[41]?.getD undef, tm[42]?.getD undef, tm[43]?.getD undef, tm[44]?.getD undef, tm[45]?.getD undef, tm[46]?.getD undef, tm[47]?.getD undef, tm[48]?.getD undef, tm[49]?.getD undef, tm[50]?.getD undef, tm[51]?.getD undef] := lit_arr tm 52 hs
set_option maxRecDepth 100000 in
set_option maxHeartbeats 4000000 in
theorem add_yes (B0 gh eA cA b : Nat) (cost rate start l0 l1 l2 mi en po n S : Int) (kn : Bool) (w : World) (hg : GlobOk w) (hs : Ses w gh eA cA b cost rate start l0 l1 l2 kn S) (hB : B0 ≤ gh ∧ B0 ≤ b ∧ gh ≠ b ∧ eA < B0 ∧ cA < B0) (hBw : B0 ≤ w.heap.size) (h0 : 0 ≤ start) (h1 : start ≤ 268435456) (hm0 : 0 ≤ mi) (hm1 : start + mi ≤ 268435456) (hn0 : 0 < n) (hn1 : n ≤ 1000000) (hS0 : 0 ≤ S) (hS1 : S ≤ 1000000000000) : Calls Tryd.prog 41 #[.pointer (some ⟨gh, 0, none⟩), .int .i64 2, .int .i64 mi, .int .i64 en, .int .i64 po, .int .i64 n] w fun e w' => (∃ v, e = .returned v) ∧ Ses w' gh eA cA b cost rate start 0 2 1 true (S + n) ∧ Below B0 w w' ∧ (w.heap.size ≤ w'.heap.size ∧ ∀ i, i < w.heap.size → i ≠ gh → i ≠ b → w'.heap[i]? = w.heap[i]?) := by
  have hf := Lib.hid (find_ses gh eA cA b cost rate start l0 l1 l2 mi en po kn w hg hs.s hs.T h0 h1 hm0 hm1)
  have d : decide (n ≤ 0) = false := by simp; omega
  have hs0 := Lib.hid hs.s
  have hT := Lib.hid hs.T
  have hT0 := hT
  have hM := Lib.hid hs.M
  have hMl := Lib.hid hs.M.lt
  have hMl0 := hMl
  clear hs hg
  go_enter Tryd.func41, Tryd.ntmps41
  go_wp2_with fail
  refine hf.out.mono ?_; rintro e w1 ⟨rfl, hq⟩
  have hb0 := below_new' hq (.cells #[Value.int .i64 2, Value.int .i64 cost, Value.int .i64 1, Value.int .i64 rate] 32)
  have hC := Lib.hid (Blk.new w1 32 #[Value.int .i64 2, Value.int .i64 cost, Value.int .i64 1, Value.int .i64 rate])
  replace hs0 := Lib.hid (hs0.out.below hb0 hs0.out.lt)
  replace hT := Lib.hid (hT.out.more hb0)
  replace hM := Lib.hid (hM.out.same (hb0.block b hMl.out))
  have hb := Lib.hid hb0
  have hqs := Lib.hid hq.size
  clear hq hf hb0
  go_wp2_with fail
  have hbP := a1 (w1.alloc (.cells #[Value.int .i64 2, Value.int .i64 cost, Value.int .i64 1, Value.int .i64 rate] 32)) (.cells #[Value.int .i64 0, Value.int .i64 2] 81)
  have hP := Lib.hid (Blk.new (w1.alloc (.cells #[Value.int .i64 2, Value.int .i64 cost, Value.int .i64 1, Value.int .i64 rate] 32)) 81 #[Value.int .i64 0, Value.int .i64 2])
  have hMl2 : b < (w1.alloc (.cells #[Value.int .i64 2, Value.int .i64 cost, Value.int .i64 1, Value.int .i64 rate] 32)).heap.size := hM.out.lt
  replace hs0 := Lib.hid (hs0.out.below hbP hs0.out.lt)
  replace hT := Lib.hid (hT.out.more hbP)
  replace hM := Lib.hid (hM.out.same (hbP.block b hMl2))
  replace hC := Lib.hid (hC.out.below hbP hC.out.lt)
  replace hb := Lib.hid (hb.out.trans (hbP.mono hb.out.size))
  have hgb : Hid (gh ≠ b ∧ (w1.alloc (.cells #[Value.int .i64 2, Value.int .i64 cost, Value.int .i64 1, Value.int .i64 rate] 32)).heap.size ≠ b ∧ w1.heap.size ≠ b) := ⟨hB.2.2.1, by have := hMl0.out; have := hqs.out; simp; omega, by have := hMl0.out; have := hqs.out; omega⟩
  have hz8 : (w1.alloc (.cells #[Value.int .i64 2, Value.int .i64 cost, Value.int .i64 1, Value.int .i64 rate] 32)).heap.size = w1.heap.size + 1 := by simp
  rw [hz8] at hP hgb
  clear hbP hMl2 hMl hz8
  generalize ((w1.alloc (.cells #[Value.int .i64 2, Value.int .i64 cost, Value.int .i64 1, Value.int .i64 rate] 32)).alloc (.cells #[Value.int .i64 0, Value.int .i64 2] 81)) = w6 at *
  generalize w1.heap.size + 1 = g15 at *
  have hmap : Hid (∀ wz, (MapSt wz b S ∧ w6.grownBy wz (some b)) → wz.cell? ⟨gh, 11, none⟩ = some (Value.map (some b)) ∧ True) := fun wz h => by
    have q := hs0.out.grown h.2 (by intro e; injection e with e; exact hgb.out.1 e)
    exact ⟨q.cell 11, trivial⟩
  have hpl : Hid (∀ wz, (MapSt wz b S ∧ w6.grownBy wz (some b)) → wz.cell? ⟨g15, 0, none⟩ = some (Value.int .i64 0) ∧ wz.cell? ⟨g15, 1, none⟩ = some (Value.int .i64 2)) := fun wz h => by
    have q := hP.out.grown h.2 (by intro e; injection e with e; exact hgb.out.2.1 e)
    exact ⟨q.cell 0, q.cell 1⟩
  refine RU.region [] [] 10 (F := F41a gh g15 b S n) (W := fun wz => MapSt wz b S ∧ w6.grownBy wz (some b)) (R := fun _ => Rmp b S) rfl F41a_more (by kernel_rfl) (by kernel_rfl) (by kernel_rfl) (by kernel_rfl) (by kernel_rfl) (by kernel_rfl) ?_ ?_ ?_ ?_
  · exact ⟨hM.out, only_drew (World.grownBy.refl _ _)⟩
  · intro t ht
    unfold F41a
    split <;> first | trivial | exact rfl | (exact absurd ht (by decide))
  · intro i o hi ho
    have hcs : i = 0 ∨ i = 1 ∨ i = 2 ∨ i = 3 ∨ i = 4 ∨ i = 5 ∨ i = 6 ∨ i = 7 ∨ i = 8 ∨ i = 9 := by omega
    rcases hcs with rfl | rfl | rfl | rfl | rfl | rfl | rfl | rfl | rfl | rfl <;> (injection ho with ho; subst ho)
    · intro a w2 hw _ hf K hK
      have f0 := hf 0 rfl
      simp only [F41a] at f0
      clear hf
      go_simp
      exact hK _ _ _ rfl rfl hw (Rmp.refl _) (fun h => absurd h (by decide))
    · intro a w2 hw _ hf K hK
      have f0 := hf 33 rfl
      simp only [F41a] at f0
      clear hf
      go_simp
      exact hK _ _ _ rfl rfl hw (Rmp.refl _) (fun h => absurd h (by decide))
    · intro a w2 hw _ hf K hK
      have f0 := hf 34 rfl
      simp only [F41a] at f0
      clear hf
      go_simp
      exact hK _ _ _ rfl rfl hw (Rmp.refl _) (fun h => absurd h (by decide))
    · intro a w2 hw _ hf K hK
      have f0 := hf 35 rfl
      simp only [F41a] at f0
      clear hf
      obtain ⟨k0, k1⟩ := hmap.out w2 hw
      go_simp
      exact hK _ _ _ rfl rfl hw (Rmp.refl _) (fun h => absurd h (by decide))
    · intro a w2 hw _ hf K hK
      have f0 := hf 15 rfl
      simp only [F41a] at f0
      clear hf
      obtain ⟨k0, k1⟩ := hpl.out w2 hw
      go_simp
      exact hK _ _ _ rfl rfl hw (Rmp.refl _) (fun h => absurd h (by decide))
    · intro a w2 hw _ hf K hK
      have f0 := hf 36 rfl
      have f1 := hf 37 rfl
      simp only [F41a] at f0 f1
      clear hf
      have e := look_hit hw.1
      unfold plK at e
      go_simp
      exact hK _ _ _ rfl rfl hw (Rmp.refl _) (fun h => absurd h (by decide))
    · intro a w2 hw _ hf K hK
      have f0 := hf 5 rfl
      simp only [F41a] at f0
      clear hf
      go_simp
      exact hK _ _ _ rfl rfl hw (Rmp.refl _) (fun h => absurd h (by decide))
    · intro a w2 hw _ hf K hK
      have f0 := hf 38 rfl
      have f1 := hf 39 rfl
      simp only [F41a] at f0 f1
      clear hf
      go_simp
      exact hK _ _ _ rfl (by show _ = _; rw [IntWalk.i64_in _ (by omega)]) hw (Rmp.refl _) (fun h => absurd h (by decide))
    · intro a w2 hw _ hf K hK
      have f0 := hf 36 rfl
      have f1 := hf 37 rfl
      simp only [F41a] at f0 f1
      clear hf
      obtain ⟨v0, st, w5, hr, he, hgr, hsm⟩ := entry_run hw.1
      unfold plK at hr
      go_simp
      exact hK _ _ _ rfl ⟨v0, st, rfl, he⟩ ⟨he.st, grown_tr hw.2 hgr⟩ ⟨hgr, fun st2 h2 => by obtain ⟨e1, e2⟩ := hsm st2 h2; subst e1; exact h2⟩ (fun h => absurd h (by decide))
    · intro a w2 hw _ hf K hK
      have f0 := hf 41 rfl
      simp only [F41a] at f0
      clear hf
      obtain ⟨v0, st, e0, he⟩ := f0
      go_simp
      exact hK _ _ _ rfl ⟨st, rfl, he⟩ hw (Rmp.refl _) (fun h => absurd h (by decide))
  · intro a' w9 hd hs hw hout hf
    have h36 := hf 3 36 (by decide) rfl rfl
    simp only [F41a] at h36
    have h40 := hf 7 40 (by decide) rfl rfl
    simp only [F41a] at h40
    have h42 := hf 9 42 (by decide) rfl rfl
    simp only [F41a] at h42
    have e0 := hout 0 rfl
    have e1 := hout 1 rfl
    have e2 := hout 2 rfl
    have e3 := hout 3 rfl
    have e4 := hout 4 rfl
    have e5 := hout 5 rfl
    have e6 := hout 6 rfl
    have e7 := hout 7 rfl
    have e8 := hout 8 rfl
    have e9 := hout 9 rfl
    have e10 := hout 10 rfl
    have e11 := hout 11 rfl
    have e12 := hout 12 rfl
    have e13 := hout 13 rfl
    have e14 := hout 14 rfl
    have e15 := hout 15 rfl
    have e16 := hout 16 rfl
    have e17 := hout 17 rfl
    have e18 := hout 18 rfl
    have e19 := hout 19 rfl
    have e20 := hout 20 rfl
    have e21 := hout 21 rfl
    have e22 := hout 22 rfl
    have e23 := hout 23 rfl
    have e24 := hout 24 rfl
    have e25 := hout 25 rfl
    have e26 := hout 26 rfl
    have e27 := hout 27 rfl
    have e28 := hout 28 rfl
    have e29 := hout 29 rfl
    have e30 := hout 30 rfl
    have e31 := hout 31 rfl
    have e32 := hout 32 rfl
    simp only [List.getElem?_toArray, List.getElem?_cons_succ, List.getElem?_cons_zero] at e0 e1 e2 e3 e4 e5 e6 e7 e8 e9 e10 e11 e12 e13 e14 e15 e16 e17 e18 e19 e20 e21 e22 e23 e24 e25 e26 e27 e28 e29 e30 e31 e32
    obtain ⟨tm, df⟩ := a'
    simp only at hd hs h36 h40 h42 e0 e1 e2 e3 e4 e5 e6 e7 e8 e9 e10 e11 e12 e13 e14 e15 e16 e17 e18 e19 e20 e21 e22 e23 e24 e25 e26 e27 e28 e29 e30 e31 e32
    have e := F41a_lit tm hs
    simp only [h36, h40, e0, e1, e2, e3, e4, e5, e6, e7, e8, e9, e10, e11, e12, e13, e14, e15, e16, e17, e18, e19, e20, e21, e22, e23, e24, e25, e26, e27, e28, e29, e30, e31, e32, Option.getD_some] at e
    clear hf hout hs
    rw [e, hd]
    clear e hd h36 h40 e0 e1 e2 e3 e4 e5 e6 e7 e8 e9 e10 e11 e12 e13 e14 e15 e16 e17 e18 e19 e20 e21 e22 e23 e24 e25 e26 e27 e28 e29 e30 e31 e32
    generalize tm[42]?.getD undef = u42x at h42 ⊢
    generalize tm[33]?.getD undef = u33x, tm[34]?.getD undef = u34x, tm[35]?.getD undef = u35x, tm[37]?.getD undef = u37x, tm[38]?.getD undef = u38x, tm[39]?.getD undef = u39x, tm[41]?.getD undef = u41x, tm[43]?.getD undef = u43x, tm[44]?.getD undef = u44x, tm[45]?.getD undef = u45x, tm[46]?.getD undef = u46x, tm[47]?.getD undef = u47x, tm[48]?.getD undef = u48x, tm[49]?.getD undef = u49x, tm[50]?.getD undef = u50x, tm[51]?.getD undef = u51x
    obtain ⟨st, rfl, he42⟩ := h42
    have hkw := Lib.hid hw
    clear hmap hpl hw
    obtain ⟨w10, hr10, hM10, hg10⟩ := store_run (S2 := S + n) he42
    have hg9 := Lib.hid (grown_tr hkw.out.2 hg10)
    clear hkw hg10 he42
    have hS10 := Lib.hid (hs0.out.grown hg9.out (by intro e; injection e with e; exact hgb.out.1 e))
    have hP10 := Lib.hid (hP.out.grown hg9.out (by intro e; injection e with e; exact hgb.out.2.1 e))
    have hC10 := Lib.hid (hC.out.grown hg9.out (by intro e; injection e with e; exact hgb.out.2.2 e))
    replace hM10 := Lib.hid hM10
    have hbB : Hid (Below B0 w w10) := (hb.out.mono hBw).grown hg9.out (by have := hb.out.size; omega) (fun r e => by injection e with e; omega)
    have hall : Hid (w.heap.size ≤ w10.heap.size ∧ ∀ i, i < w.heap.size → i ≠ b → w10.heap[i]? = w.heap[i]?) := ⟨Nat.le_trans hb.out.size hg9.out.size, fun i hi hne => (hg9.out.block i (Nat.lt_of_lt_of_le hi hb.out.size) (by intro e; injection e with e; exact hne e)).trans (hb.out.block i hi)⟩
    clear hs0 hP hC hM hg9 hb
    simp only [List.drop_succ_cons, List.drop_zero]
    go_wp2_with fail
    clear hr10
    have hcell : Hid (∀ wz, Below w10.heap.size w10 wz → wz.cell? ⟨g15, 0, none⟩ = some (Value.int .i64 0) ∧ wz.cell? ⟨g15, 1, none⟩ = some (Value.int .i64 2) ∧ wz.cell? ⟨w1.heap.size, 2, none⟩ = some (Value.int .i64 1)) := fun wz h => ⟨(hP10.out.below h hP10.out.lt).cell 0, (hP10.out.below h hP10.out.lt).cell 1, (hC10.out.below h hC10.out.lt).cell 2⟩
    refine RU.region [] [] 9 (F := F41b gh g15 w1.heap.size) (W := fun wz => Below w10.heap.size w10 wz) (R := fun _ => Rb) rfl F41b_more (by kernel_rfl) (by kernel_rfl) (by kernel_rfl) (by kernel_rfl) (by kernel_rfl) (by kernel_rfl) ?_ ?_ ?_ ?_
    · exact (Below.refl _ _).drew
    · intro t ht
      unfold F41b
      split <;> first | trivial | exact rfl | (exact absurd ht (by decide))
    · intro i o hi ho
      have hcs : i = 0 ∨ i = 1 ∨ i = 2 ∨ i = 3 ∨ i = 4 ∨ i = 5 ∨ i = 6 ∨ i = 7 ∨ i = 8 := by omega
      rcases hcs with rfl | rfl | rfl | rfl | rfl | rfl | rfl | rfl | rfl <;> (injection ho with ho; subst ho)
      · intro a w2 hw _ hf K hK
        have f0 := hf 0 rfl
        simp only [F41b] at f0
        clear hf
        go_simp
        exact hK _ _ _ rfl rfl hw (Below.refl _ _) (fun h => absurd h (by decide))
      · intro a w2 hw _ hf K hK
        have f0 := hf 1 rfl
        simp only [F41b] at f0
        clear hf
        go_simp
        exact hK _ _ _ rfl rfl hw (Below.refl _ _) (fun h => absurd h (by decide))
      · intro a w2 hw _ hf K hK
        have f0 := hf 15 rfl
        simp only [F41b] at f0
        clear hf
        obtain ⟨k0, k1, k2⟩ := hcell.out w2 hw
        go_simp
        exact hK _ _ _ rfl rfl hw (Below.refl _ _) (fun h => absurd h (by decide))
      · intro a w2 hw _ hf K hK
        have f0 := hf 12 rfl
        simp only [F41b] at f0
        clear hf
        go_simp
        exact hK _ _ _ rfl rfl hw (Below.refl _ _) (fun h => absurd h (by decide))
      · intro a w2 hw _ hf K hK
        have f0 := hf 46 rfl
        simp only [F41b] at f0
        clear hf
        obtain ⟨k0, k1, k2⟩ := hcell.out w2 hw
        go_simp
        exact hK _ _ _ rfl rfl hw (Below.refl _ _) (fun h => absurd h (by decide))
      · intro a w2 hw _ hf K hK
        have f0 := hf 45 rfl
        have f1 := hf 47 rfl
        simp only [F41b] at f0 f1
        clear hf
        go_simp
        exact hK _ _ _ rfl rfl hw (Below.refl _ _) (fun h => absurd h (by decide))
      · intro a w2 hw _ hf K hK
        have f0 := hf 43 rfl
        simp only [F41b] at f0
        clear hf
        go_simp
        exact hK _ _ _ rfl rfl hw (Below.refl _ _) (fun h => absurd h (by decide))
      · intro a w2 hw _ hf K hK
        have f0 := hf 49 rfl
        simp only [F41b] at f0
        clear hf
        go_simp
        exact hK _ _ _ rfl rfl hw (Below.refl _ _) (fun h => absurd h (by decide))
      · intro a w2 hw _ hf K hK
        have f0 := hf 50 rfl
        have f1 := hf 44 rfl
        simp only [F41b] at f0 f1
        clear hf
        go_simp
        exact hK _ _ _ rfl rfl hw (Below.refl _ _) (fun h => absurd h (by decide))
    · intro a' w12 hd hs hw hout hf
      have h48 := hf 5 48 (by decide) rfl rfl
      simp only [F41b] at h48
      have h51 := hf 8 51 (by decide) rfl rfl
      simp only [F41b] at h51
      have e0 := hout 0 rfl
      have e1 := hout 1 rfl
      have e2 := hout 2 rfl
      have e3 := hout 3 rfl
      have e4 := hout 4 rfl
      have e5 := hout 5 rfl
      have e6 := hout 6 rfl
      have e7 := hout 7 rfl
      have e8 := hout 8 rfl
      have e9 := hout 9 rfl
      have e10 := hout 10 rfl
      have e11 := hout 11 rfl
      have e12 := hout 12 rfl
      have e13 := hout 13 rfl
      have e14 := hout 14 rfl
      have e15 := hout 15 rfl
      have e16 := hout 16 rfl
      have e17 := hout 17 rfl
      have e18 := hout 18 rfl
      have e19 := hout 19 rfl
      have e20 := hout 20 rfl
      have e21 := hout 21 rfl
      have e22 := hout 22 rfl
      have e23 := hout 23 rfl
      have e24 := hout 24 rfl
      have e25 := hout 25 rfl
      have e26 := hout 26 rfl
      have e27 := hout 27 rfl
      have e28 := hout 28 rfl
      have e29 := hout 29 rfl
      have e30 := hout 30 rfl
      have e31 := hout 31 rfl
      have e32 := hout 32 rfl
      have e33 := hout 33 rfl
      have e34 := hout 34 rfl
      have e35 := hout 35 rfl
      have e36 := hout 36 rfl
      have e37 := hout 37 rfl
      have e38 := hout 38 rfl
      have e39 := hout 39 rfl
      have e40 := hout 40 rfl
      have e41 := hout 41 rfl
      have e42 := hout 42 rfl
      simp only [List.getElem?_toArray, List.getElem?_cons_succ, List.getElem?_cons_zero] at e0 e1 e2 e3 e4 e5 e6 e7 e8 e9 e10 e11 e12 e13 e14 e15 e16 e17 e18 e19 e20 e21 e22 e23 e24 e25 e26 e27 e28 e29 e30 e31 e32 e33 e34 e35 e36 e37 e38 e39 e40 e41 e42
      obtain ⟨tm, df⟩ := a'
      simp only at hd hs h48 h51 e0 e1 e2 e3 e4 e5 e6 e7 e8 e9 e10 e11 e12 e13 e14 e15 e16 e17 e18 e19 e20 e21 e22 e23 e24 e25 e26 e27 e28 e29 e30 e31 e32 e33 e34 e35 e36 e37 e38 e39 e40 e41 e42
      have e := F41b_lit tm hs
      simp only [h48, h51, e0, e1, e2, e3, e4, e5, e6, e7, e8, e9, e10, e11, e12, e13, e14, e15, e16, e17, e18, e19, e20, e21, e22, e23, e24, e25, e26, e27, e28, e29, e30, e31, e32, e33, e34, e35, e36, e37, e38, e39, e40, e41, e42, Option.getD_some] at e
      clear hf hout hs
      rw [e, hd]
      clear e hd h48 h51 e0 e1 e2 e3 e4 e5 e6 e7 e8 e9 e10 e11 e12 e13 e14 e15 e16 e17 e18 e19 e20 e21 e22 e23 e24 e25 e26 e27 e28 e29 e30 e31 e32 e33 e34 e35 e36 e37 e38 e39 e40 e41 e42
      generalize tm[43]?.getD undef = v43x, tm[44]?.getD undef = v44x, tm[45]?.getD undef = v45x, tm[46]?.getD undef = v46x, tm[47]?.getD undef = v47x, tm[49]?.getD undef = v49x, tm[50]?.getD undef = v50x
      have hkw2 := Lib.hid hw
      clear hcell hw
      have hS12 := Lib.hid (hS10.out.below hkw2.out hS10.out.lt)
      have hM12 := Lib.hid (hM10.out.same (hkw2.out.block b hM10.out.lt))
      have hbC : Hid (Below B0 w w12) := hbB.out.trans (hkw2.out.mono (Nat.le_trans hBw hbB.out.size))
      have hall2 : Hid (w.heap.size ≤ w12.heap.size ∧ ∀ i, i < w.heap.size → i ≠ b → w12.heap[i]? = w.heap[i]?) := ⟨Nat.le_trans hall.out.1 hkw2.out.size, fun i hi hne => (hkw2.out.block i (Nat.lt_of_lt_of_le hi hall.out.1)).trans (hall.out.2 i hi hne)⟩
      clear hS10 hM10 hbB hkw2 hP10 hC10 hall
      have c20 : w12.cell? ⟨gh, 20, none⟩ = some (Value.int .i64 l0) := hS12.out.cell 20; have z20 : w12.frozen? ⟨gh, 20, none⟩ = false := hS12.out.frozen 20; have c21 : w12.cell? ⟨gh, 21, none⟩ = some (Value.int .i64 l1) := hS12.out.cell 21; have z21 : w12.frozen? ⟨gh, 21, none⟩ = false := hS12.out.frozen 21; have c22 : w12.cell? ⟨gh, 22, none⟩ = some (Value.int .i64 l2) := hS12.out.cell 22; have z22 : w12.frozen? ⟨gh, 22, none⟩ = false := hS12.out.frozen 22; have c23 : w12.cell? ⟨gh, 23, none⟩ = some (Value.bool kn) := hS12.out.cell 23; have z23 : w12.frozen? ⟨gh, 23, none⟩ = false := hS12.out.frozen 23
      go_wp2_with fail
      (try simp only [Exit.inBlock, Exit.then])
      go_end0
      have hSF : Blk ((((w12.setCell ⟨gh, 20, none⟩ (Value.int .i64 0)).setCell ⟨gh, 21, none⟩ (Value.int .i64 2)).setCell ⟨gh, 22, none⟩ (Value.int .i64 1)).setCell ⟨gh, 23, none⟩ (Value.bool true)) gh 86 #[Value.string (⟨#[84]⟩ : ByteArray), Value.string (⟨#[69, 85, 82]⟩ : ByteArray), Value.int .i64 1, Value.int .i64 0, Value.int .i64 268435456, Value.slice (some ⟨eA, 0, none⟩) 1 1, Value.int .i64 (-1), Value.int .i64 (-1), Value.int .i64 0, Value.bool false, Value.int .i64 start, Value.map (some b), Value.int .i64 0, Value.int .i64 0, Value.int .i64 0, Value.bool false, Value.int .i64 0, Value.int .i64 0, Value.int .i64 0, Value.bool false, Value.int .i64 0, Value.int .i64 2, Value.int .i64 1, Value.bool true, Value.int .i64 0, Value.int .i64 0, Value.int .i64 0, Value.bool false, Value.int .i64 0, Value.int .i64 0, Value.int .i64 0, Value.bool false] := (((hS12.out.set_ 20 _).set_ 21 _).set_ 22 _).set_ 23 _
      have hbD : Below B0 w ((((w12.setCell ⟨gh, 20, none⟩ (Value.int .i64 0)).setCell ⟨gh, 21, none⟩ (Value.int .i64 2)).setCell ⟨gh, 22, none⟩ (Value.int .i64 1)).setCell ⟨gh, 23, none⟩ (Value.bool true)) := below_set (below_set (below_set (below_set hbC.out hB.1 20 _) hB.1 21 _) hB.1 22 _) hB.1 23 _
      have hTF : TarAt ((((w12.setCell ⟨gh, 20, none⟩ (Value.int .i64 0)).setCell ⟨gh, 21, none⟩ (Value.int .i64 2)).setCell ⟨gh, 22, none⟩ (Value.int .i64 1)).setCell ⟨gh, 23, none⟩ (Value.bool true)) eA cA cost rate := hT0.out.below hbD hB.2.2.2.1 hB.2.2.2.2
      exact ⟨⟨_, rfl⟩, ⟨hSF, hTF, hM12.out.same (by rw [Below.heap_setCell _ _ _ b (by show b ≠ gh; exact fun e => hB.2.2.1 e.symm), Below.heap_setCell _ _ _ b (by show b ≠ gh; exact fun e => hB.2.2.1 e.symm), Below.heap_setCell _ _ _ b (by show b ≠ gh; exact fun e => hB.2.2.1 e.symm), Below.heap_setCell _ _ _ b (by show b ≠ gh; exact fun e => hB.2.2.1 e.symm)])⟩, hbD, by simpa using hall2.out.1, fun i hi h1 h2 => by rw [Below.heap_setCell _ _ _ i (by show i ≠ gh; exact h1), Below.heap_setCell _ _ _ i (by show i ≠ gh; exact h1), Below.heap_setCell _ _ _ i (by show i ≠ gh; exact h1), Below.heap_setCell _ _ _ i (by show i ≠ gh; exact h1)]; exact hall2.out.2 i hi h2⟩
end Go.Proofs.YtbngclibfnnejaaDoor
