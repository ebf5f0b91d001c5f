/- Run: the charges for uses. -/
import Derived.Test.YtbngclibfnnejaaDoorBT
import Derived.Carry
import Derived.Laws.Tables
set_option linter.unusedVariables false
set_option linter.unusedSimpArgs false
namespace Go.Proofs.YtbngclibfnnejaaDoor
open Go.RowKit
theorem alloc_setRow (w : World) (old cells : Array Value) (t : TypeId) : (w.alloc (.cells old t)).setRow w.heap.size cells = w.alloc (.cells cells t) := by
  have e : ((w.alloc (.cells old t)).setRow w.heap.size cells).heap = (w.alloc (.cells cells t)).heap := by
    apply Array.ext_getElem?
    intro i
    by_cases h : i = w.heap.size
    · subst h
      rw [setRow_heap _ _ old cells t (0, 0) (heap_alloc_new w _), heap_alloc_new w]
    · rw [setRow_other _ _ i cells h]
      by_cases h2 : i < w.heap.size
      · exact ((a1 w (.cells old t)).block i h2).trans ((a1 w (.cells cells t)).block i h2).symm
      · rw [Array.getElem?_eq_none (by simp; omega), Array.getElem?_eq_none (by simp; omega)]
  have e1 : (w.alloc (.cells old t)).setRow w.heap.size cells = { w.alloc (.cells cells t) with heap := ((w.alloc (.cells old t)).setRow w.heap.size cells).heap } := rfl
  rw [e1, e]
/-- a store of a whole struct over the block that was laid last -/
theorem wpList_store_new {P : Program} {w : World} {ops : Array Oper} {rest : List Oper} {o : Oper} {a : Act} {Q : Exit → Act → World → Prop} (hgd : o.guard = none) (ty : TypeId) (x y : Operand) (ho : o.op = .store ty x y)
    (old cells : Array Value) (t : TypeId) (N : Nat) (hN : w.heap.size = N) (hx : a.eval x = .pointer (some ⟨N, 0, none⟩)) (hy : a.eval y = .agg cells) (hi : (P.info? ty).map (·.size) = some cells.size)
    (hold : old.size = cells.size) (h1 : cells.all (·.oneCell') = true)
    (h : wpList P ops Q rest (a.put o.dst undef) (w.alloc (.cells cells t))) : wpList P ops Q (o :: rest) a (w.alloc (.cells old t)) := by
  subst hN
  refine wpList_store_row hgd ty x y ho w.heap.size cells hx hy t old (heap_alloc_new w _) hi hold h1 ?_
  rw [alloc_setRow]
  exact h
theorem size86 : (Tryd.prog.info? 86).map (·.size) = some 32 := by kernel_rfl
theorem sum_pos : ∀ M : List Int, (∀ x ∈ M, 0 ≤ x ∧ x ≤ 1000000) → 0 ≤ M.sum
  | [], _ => by simp
  | x :: r, h => by
    have h1 := h x List.mem_cons_self
    have h2 := sum_pos r (fun y hy => h y (List.mem_cons_of_mem _ hy))
    simp only [List.sum_cons]
    omega
set_option maxRecDepth 100000 in
set_option maxHeartbeats 4000000 in
theorem run_any (eA cA gu N9 : Nat) (cost rate start : Int) (M : List Int) (w : World) (hg : GlobOk w) (hT : TarAt w eA cA cost rate) (hu : LAt usC 2 w w.heap.size (some ⟨gu, 0, none⟩) N9 M) (hN : N9 ≤ 3000) (hM : ∀ x ∈ M, 0 ≤ x ∧ x ≤ 1000000) (h0 : 0 ≤ start) (h1 : start + N9 ≤ 268435456) (hc0 : 0 ≤ cost) (hc1 : cost ≤ 100000) (hr0 : 0 ≤ rate) (hr1 : rate ≤ 10000) : Calls Tryd.prog 10 #[.agg #[Value.string (⟨#[84]⟩ : ByteArray), Value.string (⟨#[69, 85, 82]⟩ : ByteArray), Value.int .i64 1, Value.int .i64 0, Value.int .i64 268435456, Value.slice (some ⟨eA, 0, none⟩) 1 1, Value.int .i64 (-1), Value.int .i64 (-1)], .agg #[Value.int .i64 0, Value.bool false], .int .i64 start, .slice (some ⟨gu, 0, none⟩) N9 N9] w fun e w' => (∃ A n c, e = .returned (.tuple #[.slice A n c, .int .i64 0]) ∧ LAt (chC cost rate) 4 w' w'.heap.size A n (chL M.sum) ∧ n ≤ c ∧ c ≤ maxLen) ∧ Below w.heap.size w w' := by
  have hl := Lib.hid hu.len
  have hsum := Lib.hid (sum_pos M hM)
  have hg2 : Hid (2 < w.heap.size) := lt_of_cell (hg 0 31 rfl)
  have hltA : Hid (eA < w.heap.size ∧ cA < w.heap.size) := ⟨hT.el.lt, hT.co.lt⟩
  have d0 : decide ((20160 : Int) < N9) = false := by simp; omega
  have d1 : decide (start < 0) = false := by simp; omega
  have d2 : decide ((268435456 : Int) < start) = false := by simp; omega
  have d3 : decide ((268435456 : Int) < start + N9) = false := by simp; omega
  have hx0 := Blk.new w 38 #[Value.string (⟨#[84]⟩ : ByteArray), Value.string (⟨#[69, 85, 82]⟩ : ByteArray), Value.int .i64 1, Value.int .i64 0, Value.int .i64 268435456, Value.slice (some ⟨eA, 0, none⟩) 1 1, Value.int .i64 (-1), Value.int .i64 (-1)]
  have hz0 := Blk.new (w.alloc (.cells #[Value.string (⟨#[84]⟩ : ByteArray), Value.string (⟨#[69, 85, 82]⟩ : ByteArray), Value.int .i64 1, Value.int .i64 0, Value.int .i64 268435456, Value.slice (some ⟨eA, 0, none⟩) 1 1, Value.int .i64 (-1), Value.int .i64 (-1)] 38)) 51 #[Value.int .i64 0, Value.bool false]
  rw [show (w.alloc (.cells #[Value.string (⟨#[84]⟩ : ByteArray), Value.string (⟨#[69, 85, 82]⟩ : ByteArray), Value.int .i64 1, Value.int .i64 0, Value.int .i64 268435456, Value.slice (some ⟨eA, 0, none⟩) 1 1, Value.int .i64 (-1), Value.int .i64 (-1)] 38)).heap.size = w.heap.size + 1 by simp] at hz0
  have hb0 : Below w.heap.size w ((w.alloc (.cells #[Value.string (⟨#[84]⟩ : ByteArray), Value.string (⟨#[69, 85, 82]⟩ : ByteArray), Value.int .i64 1, Value.int .i64 0, Value.int .i64 268435456, Value.slice (some ⟨eA, 0, none⟩) 1 1, Value.int .i64 (-1), Value.int .i64 (-1)] 38)).alloc (.cells #[Value.int .i64 0, Value.bool false] 51)) := below_new (a1 w _) _
  have hx := Lib.hid (hx0.below (a1 _ (.cells #[Value.int .i64 0, Value.bool false] 51)) (by simp))
  have hz := Lib.hid hz0
  have hb := Lib.hid hb0
  have hv := Lib.hid (tvalid_any eA cA cost rate ((w.alloc (.cells #[Value.string (⟨#[84]⟩ : ByteArray), Value.string (⟨#[69, 85, 82]⟩ : ByteArray), Value.int .i64 1, Value.int .i64 0, Value.int .i64 268435456, Value.slice (some ⟨eA, 0, none⟩) 1 1, Value.int .i64 (-1), Value.int .i64 (-1)] 38)).alloc (.cells #[Value.int .i64 0, Value.bool false] 51)) (hT.more hb0) hc0 hc1 hr0 hr1)
  have hm := Lib.hid (fun x hx => hM x hx)
  have k0 : (((w.alloc (.cells #[Value.string (⟨#[84]⟩ : ByteArray), Value.string (⟨#[69, 85, 82]⟩ : ByteArray), Value.int .i64 1, Value.int .i64 0, Value.int .i64 268435456, Value.slice (some ⟨eA, 0, none⟩) 1 1, Value.int .i64 (-1), Value.int .i64 (-1)] 38)).alloc (.cells #[Value.int .i64 0, Value.bool false] 51))).cell? ⟨w.heap.size, 0, none⟩ = some (Value.string (⟨#[84]⟩ : ByteArray)) := (hx.out).cell 0; have k1 : (((w.alloc (.cells #[Value.string (⟨#[84]⟩ : ByteArray), Value.string (⟨#[69, 85, 82]⟩ : ByteArray), Value.int .i64 1, Value.int .i64 0, Value.int .i64 268435456, Value.slice (some ⟨eA, 0, none⟩) 1 1, Value.int .i64 (-1), Value.int .i64 (-1)] 38)).alloc (.cells #[Value.int .i64 0, Value.bool false] 51))).cell? ⟨w.heap.size, 1, none⟩ = some (Value.string (⟨#[69, 85, 82]⟩ : ByteArray)) := (hx.out).cell 1; have k2 : (((w.alloc (.cells #[Value.string (⟨#[84]⟩ : ByteArray), Value.string (⟨#[69, 85, 82]⟩ : ByteArray), Value.int .i64 1, Value.int .i64 0, Value.int .i64 268435456, Value.slice (some ⟨eA, 0, none⟩) 1 1, Value.int .i64 (-1), Value.int .i64 (-1)] 38)).alloc (.cells #[Value.int .i64 0, Value.bool false] 51))).cell? ⟨w.heap.size, 2, none⟩ = some (Value.int .i64 1) := (hx.out).cell 2; have k3 : (((w.alloc (.cells #[Value.string (⟨#[84]⟩ : ByteArray), Value.string (⟨#[69, 85, 82]⟩ : ByteArray), Value.int .i64 1, Value.int .i64 0, Value.int .i64 268435456, Value.slice (some ⟨eA, 0, none⟩) 1 1, Value.int .i64 (-1), Value.int .i64 (-1)] 38)).alloc (.cells #[Value.int .i64 0, Value.bool false] 51))).cell? ⟨w.heap.size, 3, none⟩ = some (Value.int .i64 0) := (hx.out).cell 3; have k4 : (((w.alloc (.cells #[Value.string (⟨#[84]⟩ : ByteArray), Value.string (⟨#[69, 85, 82]⟩ : ByteArray), Value.int .i64 1, Value.int .i64 0, Value.int .i64 268435456, Value.slice (some ⟨eA, 0, none⟩) 1 1, Value.int .i64 (-1), Value.int .i64 (-1)] 38)).alloc (.cells #[Value.int .i64 0, Value.bool false] 51))).cell? ⟨w.heap.size, 4, none⟩ = some (Value.int .i64 268435456) := (hx.out).cell 4; have k5 : (((w.alloc (.cells #[Value.string (⟨#[84]⟩ : ByteArray), Value.string (⟨#[69, 85, 82]⟩ : ByteArray), Value.int .i64 1, Value.int .i64 0, Value.int .i64 268435456, Value.slice (some ⟨eA, 0, none⟩) 1 1, Value.int .i64 (-1), Value.int .i64 (-1)] 38)).alloc (.cells #[Value.int .i64 0, Value.bool false] 51))).cell? ⟨w.heap.size, 5, none⟩ = some (Value.slice (some ⟨eA, 0, none⟩) 1 1) := (hx.out).cell 5; have k6 : (((w.alloc (.cells #[Value.string (⟨#[84]⟩ : ByteArray), Value.string (⟨#[69, 85, 82]⟩ : ByteArray), Value.int .i64 1, Value.int .i64 0, Value.int .i64 268435456, Value.slice (some ⟨eA, 0, none⟩) 1 1, Value.int .i64 (-1), Value.int .i64 (-1)] 38)).alloc (.cells #[Value.int .i64 0, Value.bool false] 51))).cell? ⟨w.heap.size, 6, none⟩ = some (Value.int .i64 (-1)) := (hx.out).cell 6; have k7 : (((w.alloc (.cells #[Value.string (⟨#[84]⟩ : ByteArray), Value.string (⟨#[69, 85, 82]⟩ : ByteArray), Value.int .i64 1, Value.int .i64 0, Value.int .i64 268435456, Value.slice (some ⟨eA, 0, none⟩) 1 1, Value.int .i64 (-1), Value.int .i64 (-1)] 38)).alloc (.cells #[Value.int .i64 0, Value.bool false] 51))).cell? ⟨w.heap.size, 7, none⟩ = some (Value.int .i64 (-1)) := (hx.out).cell 7
  clear hx0 hz0 hb0
  replace hu := Lib.hid hu
  replace hT := Lib.hid hT
  replace hg := Lib.hid hg
  have hcnt := Lib.hid (fun gh b w2 hgw hs hu hB hBw => count_any w.heap.size gh eA cA b gu N9 cost rate start M w2 hgw hg2.out hs hu hB hBw hN hM h0 h1)
  clear hM hc0 hc1 hr0 hr1
  have hmm := @run_makeMap Tryd.prog
  go_enter Tryd.func10, Tryd.ntmps10
  go_wp2_with fail
  refine hv.out.mono ?_; rintro e w1 ⟨rfl, hq⟩
  replace hx := Lib.hid (hx.out.below hq hx.out.lt)
  replace hz := Lib.hid (hz.out.below hq hz.out.lt)
  replace hb := Lib.hid (hb.out.trans (hq.mono hb.out.size))
  clear hq hv k0 k1 k2 k3 k4 k5 k6 k7
  have z0 : (w1).cell? ⟨(w.heap.size + 1), 0, none⟩ = some (Value.int .i64 0) := (hz.out).cell 0; have z1 : (w1).cell? ⟨(w.heap.size + 1), 1, none⟩ = some (Value.bool false) := (hz.out).cell 1
  go_wp2_with fail
  clear d0 d1 d2 d3 z0 z1 h0 h1
  go_loopw [45] (fun i wr => ∃ k : Nat, k ≤ N9 ∧ i = .int .i64 k ∧ Hid (Below w1.heap.size w1 wr)) (fun i _ => N9 - (intOf i).toNat)
  case atStart => exact ⟨0, Nat.zero_le _, rfl, Below.refl _ _⟩
  case round =>
    obtain ⟨k, hkn, rfl, hb1⟩ := hrel
    have hbr : Hid (Below w.heap.size w wr) := hb.out.trans (hb1.out.mono hb.out.size)
    by_cases hlt : k < N9
    · have hkl : k < M.length := by have := hl.out; omega
      have hk0 : (0 : Int) ≤ k := by omega
      have hk1 : (k : Int) < N9 := by omega
      have hx9 := hm.out M[k] (List.getElem_mem hkl)
      obtain ⟨ad, hA, -, e0, e1⟩ := us_cells (hu.out.below hbr.out (Nat.le_refl _)) hlt
      injection hA with hA
      subst hA
      rw [add_row] at e0 e1
      generalize M[k] = x at *
      have q0 : decide (x < 0) = false := by simp; omega
      have q1 : decide ((1099511627776 : Int) < x) = false := by simp; omega
      have hN := Lib.hid (Blk.new wr 78 #[Value.int .i64 x, Value.bool (x == 0)])
      have hb2 : Hid (Below w1.heap.size w1 (wr.alloc (.cells #[Value.int .i64 x, Value.bool (x == 0)] 78))) := hb1.out.alloc hb1.out.size _
      have n0 : ((wr.alloc (.cells #[Value.int .i64 x, Value.bool (x == 0)] 78))).cell? ⟨wr.heap.size, 0, none⟩ = some (Value.int .i64 x) := (hN.out).cell 0; have n1 : ((wr.alloc (.cells #[Value.int .i64 x, Value.bool (x == 0)] 78))).cell? ⟨wr.heap.size, 1, none⟩ = some (Value.bool (x == 0)) := (hN.out).cell 1
      clear hb1 hbr hx9
      go_wp2_with fail
      go_roundw
      case rel => exact ⟨k + 1, by omega, by go_num, hb2.out⟩
      case measure => simp [intOf]; omega
    · obtain rfl : k = N9 := by omega
      have hxr := Lib.hid (hx.out.below hb1.out hx.out.lt)
      have hzr := Lib.hid (hz.out.below hb1.out hz.out.lt)
      have k0 : (wr).cell? ⟨w.heap.size, 0, none⟩ = some (Value.string (⟨#[84]⟩ : ByteArray)) := (hxr.out).cell 0; have k1 : (wr).cell? ⟨w.heap.size, 1, none⟩ = some (Value.string (⟨#[69, 85, 82]⟩ : ByteArray)) := (hxr.out).cell 1; have k2 : (wr).cell? ⟨w.heap.size, 2, none⟩ = some (Value.int .i64 1) := (hxr.out).cell 2; have k3 : (wr).cell? ⟨w.heap.size, 3, none⟩ = some (Value.int .i64 0) := (hxr.out).cell 3; have k4 : (wr).cell? ⟨w.heap.size, 4, none⟩ = some (Value.int .i64 268435456) := (hxr.out).cell 4; have k5 : (wr).cell? ⟨w.heap.size, 5, none⟩ = some (Value.slice (some ⟨eA, 0, none⟩) 1 1) := (hxr.out).cell 5; have k6 : (wr).cell? ⟨w.heap.size, 6, none⟩ = some (Value.int .i64 (-1)) := (hxr.out).cell 6; have k7 : (wr).cell? ⟨w.heap.size, 7, none⟩ = some (Value.int .i64 (-1)) := (hxr.out).cell 7
      have z0 : (wr).cell? ⟨(w.heap.size + 1), 0, none⟩ = some (Value.int .i64 0) := (hzr.out).cell 0; have z1 : (wr).cell? ⟨(w.heap.size + 1), 1, none⟩ = some (Value.bool false) := (hzr.out).cell 1
      have hbM : Below w.heap.size w (wr.alloc (.map #[] 0)) := hbr.out.alloc hbr.out.size _
      have hbS0 : Below w.heap.size w ((wr.alloc (.map #[] 0)).alloc (.cells #[Value.string (⟨#[84]⟩ : ByteArray), Value.string (⟨#[69, 85, 82]⟩ : ByteArray), Value.int .i64 1, Value.int .i64 0, Value.int .i64 268435456, Value.slice (some ⟨eA, 0, none⟩) 1 1, Value.int .i64 (-1), Value.int .i64 (-1), Value.int .i64 0, Value.bool false, Value.int .i64 start, Value.map (some wr.heap.size), Value.int .i64 0, Value.int .i64 0, Value.int .i64 0, Value.bool false, Value.int .i64 0, Value.int .i64 0, Value.int .i64 0, Value.bool false, Value.int .i64 0, Value.int .i64 0, Value.int .i64 0, Value.bool false, Value.int .i64 0, Value.int .i64 0, Value.int .i64 0, Value.bool false, Value.int .i64 0, Value.int .i64 0, Value.int .i64 0, Value.bool false] 86)) := hbM.alloc hbM.size _
      have hsS0 := Blk.new (wr.alloc (.map #[] 0)) 86 #[Value.string (⟨#[84]⟩ : ByteArray), Value.string (⟨#[69, 85, 82]⟩ : ByteArray), Value.int .i64 1, Value.int .i64 0, Value.int .i64 268435456, Value.slice (some ⟨eA, 0, none⟩) 1 1, Value.int .i64 (-1), Value.int .i64 (-1), Value.int .i64 0, Value.bool false, Value.int .i64 start, Value.map (some wr.heap.size), Value.int .i64 0, Value.int .i64 0, Value.int .i64 0, Value.bool false, Value.int .i64 0, Value.int .i64 0, Value.int .i64 0, Value.bool false, Value.int .i64 0, Value.int .i64 0, Value.int .i64 0, Value.bool false, Value.int .i64 0, Value.int .i64 0, Value.int .i64 0, Value.bool false, Value.int .i64 0, Value.int .i64 0, Value.int .i64 0, Value.bool false]
      have hmap : ((wr.alloc (.map #[] 0)).alloc (.cells #[Value.string (⟨#[84]⟩ : ByteArray), Value.string (⟨#[69, 85, 82]⟩ : ByteArray), Value.int .i64 1, Value.int .i64 0, Value.int .i64 268435456, Value.slice (some ⟨eA, 0, none⟩) 1 1, Value.int .i64 (-1), Value.int .i64 (-1), Value.int .i64 0, Value.bool false, Value.int .i64 start, Value.map (some wr.heap.size), Value.int .i64 0, Value.int .i64 0, Value.int .i64 0, Value.bool false, Value.int .i64 0, Value.int .i64 0, Value.int .i64 0, Value.bool false, Value.int .i64 0, Value.int .i64 0, Value.int .i64 0, Value.bool false, Value.int .i64 0, Value.int .i64 0, Value.int .i64 0, Value.bool false, Value.int .i64 0, Value.int .i64 0, Value.int .i64 0, Value.bool false] 86)).heap[wr.heap.size]? = some (.map #[] 0) := ((a1 (wr.alloc (.map #[] 0)) (.cells #[Value.string (⟨#[84]⟩ : ByteArray), Value.string (⟨#[69, 85, 82]⟩ : ByteArray), Value.int .i64 1, Value.int .i64 0, Value.int .i64 268435456, Value.slice (some ⟨eA, 0, none⟩) 1 1, Value.int .i64 (-1), Value.int .i64 (-1), Value.int .i64 0, Value.bool false, Value.int .i64 start, Value.map (some wr.heap.size), Value.int .i64 0, Value.int .i64 0, Value.int .i64 0, Value.bool false, Value.int .i64 0, Value.int .i64 0, Value.int .i64 0, Value.bool false, Value.int .i64 0, Value.int .i64 0, Value.int .i64 0, Value.bool false, Value.int .i64 0, Value.int .i64 0, Value.int .i64 0, Value.bool false, Value.int .i64 0, Value.int .i64 0, Value.int .i64 0, Value.bool false] 86)).block wr.heap.size (by simp)).trans (heap_alloc_new wr _)
      rw [show (wr.alloc (.map #[] 0)).heap.size = wr.heap.size + 1 by simp] at hsS0
      have hc1 := Lib.hid (hcnt.out (wr.heap.size + 1) wr.heap.size ((wr.alloc (.map #[] 0)).alloc (.cells #[Value.string (⟨#[84]⟩ : ByteArray), Value.string (⟨#[69, 85, 82]⟩ : ByteArray), Value.int .i64 1, Value.int .i64 0, Value.int .i64 268435456, Value.slice (some ⟨eA, 0, none⟩) 1 1, Value.int .i64 (-1), Value.int .i64 (-1), Value.int .i64 0, Value.bool false, Value.int .i64 start, Value.map (some wr.heap.size), Value.int .i64 0, Value.int .i64 0, Value.int .i64 0, Value.bool false, Value.int .i64 0, Value.int .i64 0, Value.int .i64 0, Value.bool false, Value.int .i64 0, Value.int .i64 0, Value.int .i64 0, Value.bool false, Value.int .i64 0, Value.int .i64 0, Value.int .i64 0, Value.bool false, Value.int .i64 0, Value.int .i64 0, Value.int .i64 0, Value.bool false] 86)) (hg.out.more hbS0) ⟨hsS0, hT.out.more hbS0, .inl ⟨rfl, 0, hmap⟩⟩ (hu.out.below hbS0 (Nat.le_refl _)) ⟨by have := hbr.out.size; omega, hbr.out.size, by omega, hltA.out.1, hltA.out.2⟩ hbS0.size)
      have hbS := Lib.hid hbS0
      clear hkn hbM hbS0 hsS0 hmap hxr hzr hcnt
      go_wp2_with (refine wpList_store_new rfl 86 (.tmp 13) (.tmp 62) rfl _ #[Value.string (⟨#[84]⟩ : ByteArray), Value.string (⟨#[69, 85, 82]⟩ : ByteArray), Value.int .i64 1, Value.int .i64 0, Value.int .i64 268435456, Value.slice (some ⟨eA, 0, none⟩) 1 1, Value.int .i64 (-1), Value.int .i64 (-1), Value.int .i64 0, Value.bool false, Value.int .i64 start, Value.map (some wr.heap.size), Value.int .i64 0, Value.int .i64 0, Value.int .i64 0, Value.bool false, Value.int .i64 0, Value.int .i64 0, Value.int .i64 0, Value.bool false, Value.int .i64 0, Value.int .i64 0, Value.int .i64 0, Value.bool false, Value.int .i64 0, Value.int .i64 0, Value.int .i64 0, Value.bool false, Value.int .i64 0, Value.int .i64 0, Value.int .i64 0, Value.bool false] 86 (wr.heap.size + 1) (by simp) rfl rfl size86 rfl (by simp [Value.oneCell']) ?_)
      refine hc1.out.mono ?_; rintro e w2 ⟨⟨v, rfl⟩, ⟨l0, l1, l2, kn, hS, hLO⟩, hq⟩
      have hb2 := Lib.hid hq
      have hrd := Lib.hid (round_any _ eA cA _ cost rate start l0 l1 l2 M.sum kn w2 hS hLO)
      replace hS := Lib.hid hS
      clear hLO hq hc1 k0 k1 k2 k3 k4 k5 k6 k7 z0 z1
      go_wp2_with fail
      refine hrd.out.mono ?_; rintro e w3 ⟨⟨v3, rfl⟩, hq⟩
      have hb3 : Hid (Below w.heap.size w w3) := (hbS.out.trans hb2.out).trans (hq.mono (hbS.out.trans hb2.out).size)
      have hch := Lib.hid (charges_any _ eA cA _ cost rate start l0 l1 l2 M.sum kn w3 (Ses.below (B := 0) hS.out hq) hsum.out)
      clear hS hq hrd hb2 hbS
      go_wp2_with fail
      refine hch.out.mono ?_; rintro e w4 ⟨⟨A, n, c, rfl, h1, h2, h3⟩, hq⟩
      have hfin : Hid (LAt (chC cost rate) 4 w4 w4.heap.size A n (chL M.sum) ∧ n ≤ c ∧ c ≤ maxLen) := ⟨h1, h2, h3⟩
      have hb4 : Hid (Below w.heap.size w w4) := hb3.out.trans (hq.mono hb3.out.size)
      clear h1 h2 h3 hq hch hb3
      go_wp2_with fail
      exact bodyPost_ret (v := .tuple #[.slice A n c, .int .i64 0]) (by simp [results, Tryd.results10, go_sem]) rfl ⟨⟨A, n, c, rfl, hfin.out⟩, hb4.out⟩
end Go.Proofs.YtbngclibfnnejaaDoor
