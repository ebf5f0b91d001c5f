/- Readings: the neighbours, enumerated; a law for the loops over them. -/
import Derived.Test.YtbngclibfnnejaaDoorBE
import Derived.Test.YtbngclibfnnejaaDoorRUI
import Derived.RangeFuncNested
import Derived.RangeFuncBound
import Derived.RangeFuncCalls
import Derived.RangeFuncLeaves
import Derived.RangeFuncBox
import Derived.Shelf.Abstract
import Derived.Shelf.RegionOpen
import Derived.OwnWalkIn
import Derived.TacticsInMore
import Derived.LoopNIn
import Derived.LoopIn
set_option linter.unusedVariables false
set_option linter.unusedSimpArgs false
namespace Go.Proofs.YtbngclibfnnejaaDoor
open Go.RowKit Go.Shelf
attribute [local go_sem] Oper.semAt_some
def F40 (l Bl len cp k : Nat) (ad : Addr) (x y : Rd) : Tmp → Value → World → Prop
  | 0, v, _ => v = .func (.yield l) #[] #[]
  | 1, v, _ => v = .pointer (some ⟨Bl, 0, none⟩)
  | 3, v, _ => v = .int .i64 (k + 1)
  | 10, v, _ => v = .func (.yield l) #[] #[]
  | 11, v, _ => v = .slice (some ad) len cp
  | 12, v, _ => v = .int .i64 (k + 1)
  | 13, v, _ => v = .int .i64 k
  | 14, v, _ => v = .pointer (some (ad.add (k * 2)))
  | 15, v, _ => v = .agg #[.int .i64 x.at_, .int .i64 x.reg]
  | 16, v, _ => v = .slice (some ad) len cp
  | 17, v, _ => v = .int .i64 (k + 1)
  | 18, v, _ => v = .pointer (some (ad.add ((k + 1) * 2)))
  | 19, v, _ => v = .agg #[.int .i64 y.at_, .int .i64 y.reg]
  | _, _, _ => True
theorem F40_more {l Bl len cp k : Nat} {ad : Addr} {x y : Rd} (d t : Tmp) (v : Value) (w w' : World) (hR : Rb w w') (hne : t ≠ d) (hc : ([] : List (Tmp × Tmp)).contains (d, t) = false) (h : F40 l Bl len cp k ad x y t v w) : F40 l Bl len cp k ad x y t v w' := by
  unfold F40 at *
  split at h <;> first | exact h
theorem F40_lit (tm : Array Value) (hs : tm.size = 22) : tm = #[tm[0]?.getD undef, tm[1]?.getD undef, tm[2]?.getD undef, tm[3]?.getD undef, tm[4]?.getD undef, tm[5]?.getD undef, tm[6]?.getD undef, tm[7]?.getD undef, tm[8]?.getD undef, tm[9]?.getD undef, tm[10]?.getD undef, tm[11]?.getD undef, tm[12]?.getD undef, tm[13]?.getD undef, tm[14]?.getD undef, tm[15]?.getD undef, tm[16]?.getD undef, tm[17]?.getD undef, tm[18]?.getD undef, tm[19]?.getD undef, tm[20]?.getD undef, tm[21]?.getD undef] := lit_arr tm 22 hs
set_option maxRecDepth 100000 in
set_option maxHeartbeats 4000000 in
theorem near_any (A : Option Addr) (n cp : Nat) (w : World) : CallsIn Fence.wide 0 Tryd.prog 20 #[.slice A n cp] w fun e w' => e = .returned (.func (.func 40) #[] #[.pointer (some ⟨w.heap.size, 0, none⟩)]) ∧ w' = w.alloc (.cells #[.slice A n cp] 22) := by
  refine callsIn_of_wp Tryd.func20 rfl trivial ?_ rfl
  simp only [Tryd.ntmps20, List.size_toArray, List.length_cons, List.length_nil, Nat.reduceAdd, Nat.reduceSub, Array.replicate_succ, Array.replicate_zero, List.push_toArray, List.append_toArray, List.nil_append, List.cons_append]
  gi_wp2
  go_ret
  exact ⟨rfl, rfl⟩
theorem cell_heap {w w' : World} {b : Nat} (h : w'.heap[b]? = w.heap[b]?) (o : Nat) : w'.cell? ⟨b, o, none⟩ = w.cell? ⟨b, o, none⟩ := by simp only [World.cell?, h]
theorem lt_of_heap2 {w w' : World} {b o : Nat} {v : Value} (h : w'.heap[b]? = w.heap[b]?) (hc : w.cell? ⟨b, o, none⟩ = some v) : b < w'.heap.size := lt_of_cell ((cell_heap h o).trans hc)
def rowR (x : Rd) : Array Value := #[.int .i64 x.at_, .int .i64 x.reg]
def rdAt (L : List Rd) (k : Nat) : Rd := L.getD k ⟨0, 0⟩
theorem rdAt_eq (L : List Rd) (k : Nat) (h : k < L.length) : rdAt L k = L[k] := by unfold rdAt; rw [List.getD_eq_getElem?_getD, List.getElem?_eq_getElem h]; rfl
set_option maxRecDepth 100000 in
set_option maxHeartbeats 4000000 in
theorem near1_in (l Bl n0 : Nat) (A : Option Addr) (len cp : Nat) (L : List Rd) (hlen : len ≤ 1000) (h1 : 1 ≤ len) (J : Nat → World → Prop) (W : World)
    (hJ : ∀ k X Y, J k X → X.grownBy Y none → J k Y)
    (hY : ∀ k Wp, J k Wp → k + 1 < len → YieldAt Fence.wide 0 Tryd.prog l #[.agg (rowR (rdAt L k)), .agg (rowR (rdAt L (k + 1)))] Wp fun e W' => e = .returned (.bool true) ∧ J (k + 1) W' ∧ Below n0 Wp W' ∧ W'.heap[Bl]? = Wp.heap[Bl]?)
    (hBl : W.cell? ⟨Bl, 0, none⟩ = some (.slice A len cp)) (hL : LAt rdC 2 W n0 A len L) (hn0 : n0 ≤ W.heap.size) (h0 : J 0 W) :
    CallsIn Fence.wide 0 Tryd.prog 40 #[.func (.yield l) #[] #[], .pointer (some ⟨Bl, 0, none⟩)] W fun e W' => (∃ v, e = .returned v) ∧ J (len - 1) W' := by
  have hn := Lib.hid hL.len
  replace hL := Lib.hid hL
  replace hBl := Lib.hid hBl
  replace h0 := Lib.hid h0
  replace hn0 := Lib.hid hn0
  refine callsIn_of_wp Tryd.func40 rfl trivial ?_ rfl
  simp only [Tryd.ntmps40, List.size_toArray, List.length_cons, List.length_nil, Nat.reduceAdd, Nat.reduceSub, Array.replicate_succ, Array.replicate_zero, List.push_toArray, List.append_toArray, List.nil_append, List.cons_append]
  gi_wp2
  gi_loopw [3] (fun i wr => ∃ k : Nat, k + 1 ≤ len ∧ i = .int .i64 (k + 1) ∧ Hid (J k wr) ∧ Hid (Below n0 W wr) ∧ Hid (wr.heap[Bl]? = W.heap[Bl]?)) (fun i _ => len - (intOf i).toNat)
  case atStart => exact ⟨0, h1, rfl, h0.out, Below.refl _ _, rfl⟩
  case round =>
    obtain ⟨k, hk, rfl, hJk, hbe, hbl⟩ := hrel
    have hBl1 : wr.cell? ⟨Bl, 0, none⟩ = some (.slice A len cp) := (cell_heap hbl.out 0).trans hBl.out
    by_cases hlt : k + 1 < len
    · have hk0 : (0 : Int) ≤ k := by omega
      have hk1 : (k : Int) < len := by omega
      have hk2 : (k : Int) + 1 < len := by omega
      have hkl : k < L.length := by have := hn.out; omega
      have hkl1 : k + 1 < L.length := by have := hn.out; omega
      obtain ⟨ad, hA, hadb, e0, e1⟩ := rd_cells (hL.out.below hbe.out (Nat.le_refl _)) (show k < len by omega)
      obtain ⟨ad2, hA2, hadb2, p0, p1⟩ := rd_cells (hL.out.below hbe.out (Nat.le_refl _)) hlt
      have hE : ad = ad2 := by rw [hA] at hA2; injection hA2
      subst hE
      subst hA
      clear hA2
      have hx := rdAt_eq L k hkl
      have hy := rdAt_eq L (k + 1) hkl1
      have hyy := hY k
      rw [hx, hy] at hyy
      clear hx hy
      generalize L[k] = x at *
      generalize L[k + 1] = y at *
      have hcell : Hid ((∀ wz, Below wr.heap.size wr wz → wz.cell? ⟨Bl, 0, none⟩ = some (.slice (some ad) len cp)) ∧ (∀ wz, Below wr.heap.size wr wz → wz.cell? (ad.add (k * 2)) = some (.int .i64 x.at_) ∧ wz.cell? ⟨(ad.add (k * 2)).block, (ad.add (k * 2)).off + 1, none⟩ = some (.int .i64 x.reg)) ∧ (∀ wz, Below wr.heap.size wr wz → wz.cell? (ad.add ((k + 1) * 2)) = some (.int .i64 y.at_) ∧ wz.cell? ⟨(ad.add ((k + 1) * 2)).block, (ad.add ((k + 1) * 2)).off + 1, none⟩ = some (.int .i64 y.reg))) := ⟨fun wz h => (h.cell (lt_of_cell hBl1)).trans hBl1, fun wz h => ⟨(h.cell (lt_of_cell e0)).trans e0, (h.cell (lt_of_cell e1)).trans e1⟩, fun wz h => ⟨(h.cell (lt_of_cell p0)).trans p0, (h.cell (lt_of_cell p1)).trans p1⟩⟩
      clear e0 e1 p0 p1
      have hk9 : (k : Int) < 1000 := by omega
      gi_wp2
      clear hBl1
      refine RUI.region [] [] 10 (F := F40 l Bl len cp k ad x y) (W := fun wz => Below wr.heap.size wr wz) (R := fun _ => Rb) rfl F40_more (by kernel_rfl) (by kernel_rfl) (by kernel_rfl) (by kernel_rfl) (by kernel_rfl) (by kernel_rfl) (fun _ => trivial) ?_ ?_ ?_ ?_
      · exact (Below.refl _ _).drew
      · intro t ht
        unfold F40
        split <;> first | trivial | exact rfl | (exact absurd ht (by decide))
      · intro i o hi ho
        have hcs : i = 0 ∨ i = 1 ∨ i = 2 ∨ i = 3 ∨ i = 4 ∨ i = 5 ∨ i = 6 ∨ i = 7 ∨ i = 8 ∨ i = 9 := by omega
        rcases hcs with rfl | rfl | rfl | rfl | rfl | rfl | rfl | rfl | rfl | rfl <;> (injection ho with ho; subst ho)
        · intro a w2 hw _ hf K hK
          have f0 := hf 0 rfl
          simp only [F40] at f0
          clear hf
          go_simp
          exact hK _ _ _ rfl rfl hw (Below.refl _ _) (fun h => absurd h (by decide))
        · intro a w2 hw _ hf K hK
          have f0 := hf 1 rfl
          simp only [F40] at f0
          clear hf
          have kb := hcell.out.1 w2 hw
          go_simp
          exact hK _ _ _ rfl rfl hw (Below.refl _ _) (fun h => absurd h (by decide))
        · intro a w2 hw _ hf K hK
          have f0 := hf 3 rfl
          simp only [F40] at f0
          clear hf
          go_simp
          exact hK _ _ _ rfl rfl hw (Below.refl _ _) (fun h => absurd h (by decide))
        · intro a w2 hw _ hf K hK
          have f0 := hf 12 rfl
          simp only [F40] at f0
          clear hf
          go_simp
          exact hK _ _ _ rfl (by show _ = _; rw [IntWalk.i64_in _ (by omega)]) hw (Below.refl _ _) (fun h => absurd h (by decide))
        · intro a w2 hw _ hf K hK
          have f0 := hf 11 rfl
          have f1 := hf 13 rfl
          simp only [F40] at f0 f1
          clear hf
          go_simp
          exact hK _ _ _ rfl rfl hw (Below.refl _ _) (fun h => absurd h (by decide))
        · intro a w2 hw _ hf K hK
          have f0 := hf 14 rfl
          simp only [F40] at f0
          clear hf
          obtain ⟨x0, x1⟩ := hcell.out.2.1 w2 hw
          go_simp
          exact hK _ _ _ rfl rfl hw (Below.refl _ _) (fun h => absurd h (by decide))
        · intro a w2 hw _ hf K hK
          have f0 := hf 1 rfl
          simp only [F40] at f0
          clear hf
          have kb := hcell.out.1 w2 hw
          go_simp
          exact hK _ _ _ rfl rfl hw (Below.refl _ _) (fun h => absurd h (by decide))
        · intro a w2 hw _ hf K hK
          have f0 := hf 3 rfl
          simp only [F40] at f0
          clear hf
          go_simp
          exact hK _ _ _ rfl rfl hw (Below.refl _ _) (fun h => absurd h (by decide))
        · intro a w2 hw _ hf K hK
          have f0 := hf 16 rfl
          have f1 := hf 17 rfl
          simp only [F40] at f0 f1
          clear hf
          go_simp
          exact hK _ _ _ rfl rfl hw (Below.refl _ _) (fun h => absurd h (by decide))
        · intro a w2 hw _ hf K hK
          have f0 := hf 18 rfl
          simp only [F40] at f0
          clear hf
          obtain ⟨y0, y1⟩ := hcell.out.2.2 w2 hw
          go_simp
          exact hK _ _ _ rfl rfl hw (Below.refl _ _) (fun h => absurd h (by decide))
      · intro a' w9 hd hs hw hout hf
        have h10 := hf 0 10 (by decide) rfl rfl
        simp only [F40] at h10
        have h15 := hf 5 15 (by decide) rfl rfl
        simp only [F40] at h15
        have h19 := hf 9 19 (by decide) rfl rfl
        simp only [F40] at h19
        have e0 : _ = some (Value.func (.yield l) #[] #[]) := hout 0 rfl
        have e2 : _ = some (undef) := hout 2 rfl
        have e1 : _ = some (Value.pointer (some ⟨Bl, 0, none⟩)) := hout 1 rfl
        have e3 : _ = some (Value.int .i64 (k + 1)) := hout 3 rfl
        obtain ⟨tm, df⟩ := a'
        simp only at hd hs h10 h15 h19 e0 e2 e1 e3
        have e := F40_lit tm hs
        simp only [h10, h15, h19, e0, e2, e1, e3, Option.getD_some] at e
        clear hf hout hs
        rw [e, hd]
        clear e hd h10 h15 h19 e0 e2 e1 e3
        generalize tm[4]?.getD undef = u4x, tm[5]?.getD undef = u5x, tm[6]?.getD undef = u6x, tm[7]?.getD undef = u7x, tm[8]?.getD undef = u8x, tm[9]?.getD undef = u9x, tm[11]?.getD undef = u11x, tm[12]?.getD undef = u12x, tm[13]?.getD undef = u13x, tm[14]?.getD undef = u14x, tm[16]?.getD undef = u16x, tm[17]?.getD undef = u17x, tm[18]?.getD undef = u18x, tm[20]?.getD undef = u20x, tm[21]?.getD undef = u21x
        have hkw := Lib.hid hw
        clear hcell hw
        obtain ⟨fn, tmps, assign, body, hyv, hR⟩ := hyy w9 (hJ k _ _ hJk.out (only_of_below hkw.out none)) hlt
        clear hyy
        unfold rowR at hyv
        replace hR := Lib.hid hR
        gi_wp2
        refine ⟨rfl, hR.out.mono ?_⟩
        rintro e W3 ⟨rfl, hJ3, hk3, hl3⟩
        have hbl3 : Hid (W3.heap[Bl]? = W.heap[Bl]?) := hl3.trans ((hkw.out.block _ (lt_of_heap2 hbl.out hBl.out)).trans hbl.out)
        have hb3 := Lib.hid (hbe.out.trans ((hkw.out.mono (by have := hbe.out.size; have := hn0.out; omega)).trans hk3))
        replace hJ3 := Lib.hid hJ3
        clear hk3 hR hyv hl3
        gi_wp2
        go_roundw
        case rel => exact ⟨k + 1, by omega, by go_num, hJ3.out, hb3.out, hbl3.out⟩
        case measure => simp [intOf]; omega
    · obtain rfl : k + 1 = len := by omega
      gi_wp2
      go_end0
      exact ⟨⟨_, rfl⟩, hJk.out⟩
def KpN (B n0 Bl : Nat) (X Y : World) : Prop := X.heap.size ≤ Y.heap.size ∧ Below n0 X Y ∧ ∀ b, (B ≤ b ∧ b ≤ B + 1 ∨ b = Bl) → Y.heap[b]? = X.heap[b]?
/-- a round goes on -/
def postN (B n0 Bl : Nat) (I : World → Prop) (X : World) : Exit → Act → World → Prop
  | .normal, _, Y => I Y ∧ KpN B n0 Bl X Y
  | _, _, _ => False
theorem range_near {ps : Array Tmp} {assign body : Code} {Q : Exit → Act → World → Prop} {a : Act} {w : World} {g : Operand} (Bl n0 len cp : Nat) (A : Option Addr) (L : List Rd)
    (hg : a.eval g = .func (.func 40) #[] #[.pointer (some ⟨Bl, 0, none⟩)]) (hps : ps.size = 2) (hlen : len ≤ 1000) (h1 : 1 ≤ len)
    (hBl : w.cell? ⟨Bl, 0, none⟩ = some (.slice A len cp)) (hL : LAt rdC 2 w n0 A len L) (hn0 : n0 ≤ w.heap.size)
    (I : Nat → World → Prop)
    (hI : ∀ k X Y row, I k X → X.grownBy Y row → (∀ r, row = some r → w.heap.size ≤ r ∧ r ≤ w.heap.size + 1) → I k Y)
    (h0 : I 0 w)
    (hround : ∀ k Wp, I k Wp → k + 1 < len → w.heap.size + 1 < Wp.heap.size →
      ∃ a1 W1, (∀ K : Act → World → Prop, K a1 W1 → assign.wpIn (Fence.wide.inRound (w.heap.size + 1)) 0 Tryd.prog (Exit.then K (fun _ _ _ => False)) { tmps := (ps.zip #[.agg (rowR (rdAt L k)), .agg (rowR (rdAt L (k + 1)))]).foldl (fun t (p, v) => t.setIfInBounds p v) a.tmps, defers := [] } Wp) ∧
        Below Wp.heap.size Wp W1 ∧
        ∀ W2, I k W2 → W1.grownBy W2 (some (w.heap.size + 1)) → body.wpIn (Fence.wide.inRound (w.heap.size + 1)) 0 Tryd.prog (postN w.heap.size n0 Bl (I (k + 1)) W2) a1 W2)
    (hdone : ∀ W, I (len - 1) W → W.heap[w.heap.size]? = some (.deferred (some [])) → Q .normal { a with defers := { target := .collected w.heap.size, args := #[] } :: a.defers } W) :
    (Code.rangeFunc g ps assign body).wpIn Fence.wide 0 Tryd.prog Q a w := by
  obtain ⟨B, hB⟩ : ∃ B, B = w.heap.size := ⟨_, rfl⟩
  have hBlt : Bl < B := by rw [hB]; exact lt_of_cell hBl
  rw [← hB] at hn0 hI hround hdone
  refine wpIn_rangeFunc fun fn hfn => ?_
  obtain ⟨rec, hrec⟩ : ∃ rec : LoopState → Option Code → Loop, rec = fun s p => { state := s, pending := p, fn := fn, tmps := a.tmps, params := ps, assign := assign, body := body, defers := w.heap.size } := ⟨_, rfl⟩
  obtain ⟨X1, hX1⟩ : ∃ X, X = (w.alloc (.deferred (some []))).alloc (.loop (rec .ready none)) := ⟨_, rfl⟩
  have hsz : X1.heap.size = B + 2 := by rw [hX1, hB]; simp
  have hbel : Below w.heap.size w X1 := by rw [hX1]; exact below_new (a1 w _) _
  have r1 : X1.heap[B + 1]? = some (.loop (rec .ready none)) := by
    have := heap_alloc_new (w.alloc (.deferred (some []))) (.loop (rec .ready none))
    rw [hX1, hB]
    simpa using this
  have r0 : X1.heap[B]? = some (.deferred (some [])) := by
    have := heap_alloc_new w (.deferred (some []))
    rw [hX1, hB]
    exact ((a1 (w.alloc (.deferred (some []))) _).block _ (by simp)).trans this
  have i0 : I 0 X1 := hI 0 _ _ none h0 (only_of_below hbel none) (fun r e => by cases e)
  refine ⟨B + 1, [{ target := .collected B, args := #[] }], X1, { target := .fn (.func 40) #[.pointer (some ⟨Bl, 0, none⟩)], args := #[.func (.yield (B + 1)) #[] #[]] }, X1, 40, #[.func (.yield (B + 1)) #[] #[], .pointer (some ⟨Bl, 0, none⟩)], X1, ?_, ?_, fun _ _ => trivial, ?_, (fun h => by cases h), ?_⟩
  · rw [hX1, hrec, hB]
    exact run_enterLoop_outer _ _ _ _ _
  · simp only [resolve, hg]
    simp [go_sem]
  · have eg := enters_of Tryd.func40 (by kernel_rfl) rfl
    simp [invoke, go_sem, eg]
  refine (near1_in (B + 1) Bl n0 A len cp L hlen h1 (fun k X => I k X ∧ X.heap[B + 1]? = some (.loop (rec .ready none)) ∧ X.heap[B]? = some (.deferred (some []))) X1 ?_ ?_ ((hbel.cell (p := ⟨Bl, 0, none⟩) (lt_of_cell hBl)).trans hBl) (hL.below hbel (hB ▸ hn0)) (by omega) ⟨i0, r1, r0⟩).mono ?_
  · rintro k X Y ⟨hi, h1, h2⟩ hgr
    exact ⟨hI k X Y none hi hgr (fun r e => by cases e), (hgr.block _ (lt_of_heap h1) (by intro e; cases e)).trans h1, (hgr.block _ (lt_of_heap h2) (by intro e; cases e)).trans h2⟩
  · rintro k Wp ⟨hi, h1, h2⟩ hlt
    obtain ⟨aa, W1, hass, hbW, hbody⟩ := hround k Wp hi hlt (lt_of_heap h1)
    have hy := run_yield (P := Tryd.prog) (args := #[.agg (rowR (rdAt L k)), .agg (rowR (rdAt L (k + 1)))]) h1 (by rw [hrec]; exact hps.symm)
    rw [hrec] at hy
    refine ⟨fn, _, assign, body, hy, roundIn_of_wpIn hfn (hass _ ?_)⟩
    have m1 := (hbW.block _ (lt_of_heap h1)).trans h1
    have m2 := (hbW.block _ (lt_of_heap h2)).trans h2
    refine ⟨_, run_beginRound m1 (by rw [hrec]), ?_⟩
    obtain ⟨W2, hW2⟩ : ∃ X, X = W1.putObj (B + 1) (.loop { rec .ready none with state := .busy }) := ⟨_, rfl⟩
    rw [← hW2]
    have hg2 : W1.grownBy W2 (some (B + 1)) := by rw [hW2]; exact grownBy_putObj' _ _ _
    have n1 : W2.heap[B + 1]? = some (.loop { rec .ready none with state := .busy }) := by rw [hW2]; exact World.putObj_heap_same (lt_of_heap m1)
    have n2 : W2.heap[B]? = some (.deferred (some [])) := (hg2.block _ (lt_of_heap m2) (by intro e; injection e with e; omega)).trans m2
    have i1 : I k W2 := hI k _ _ _ (hI k _ _ none hi (only_of_below hbW none) (fun r e => by cases e)) hg2 (fun r e => by cases e; omega)
    have hWp2 : Below n0 Wp W2 := (hbW.mono (by have := lt_of_heap h1; omega)).grown hg2 (by have := hbW.size; have := lt_of_heap h1; omega) (fun r e => by cases e; omega)
    have fin : ∀ (jump : Option Code) (W3 : World), KpN B n0 Bl W2 W3 →
        ∃ W4, (Instr.endRound (B + 1) jump).run Tryd.prog W3 = .ok (.bool jump.isNone) W4 ∧ W3.grownBy W4 (some (B + 1)) ∧ W4.heap[B + 1]? = some (.loop (rec (if jump.isNone then .ready else .done) jump)) ∧ W4.heap[B]? = some (.deferred (some [])) ∧ Below n0 Wp W4 ∧ W4.heap[Bl]? = Wp.heap[Bl]? := by
      rintro jump W3 ⟨hs3, hb3, hk3⟩
      have p1 := (hk3 (B + 1) (.inl ⟨by omega, by omega⟩)).trans n1
      have p2 := (hk3 B (.inl ⟨by omega, by omega⟩)).trans n2
      have hr := run_endRound (P := Tryd.prog) jump p1
      have hg4 := grownBy_putObj' W3 (B + 1) (.loop { ({ rec .ready none with state := .busy } : Loop) with state := if jump.isNone then .ready else .done, pending := jump })
      refine ⟨_, hr, hg4, ?_, (hg4.block _ (lt_of_heap p2) (by intro e; injection e with e; omega)).trans p2, (hWp2.trans hb3).grown hg4 (by have := lt_of_heap p2; omega) (fun r e => by cases e; omega), ?_⟩
      · rw [World.putObj_heap_same (lt_of_heap p1), hrec]
      · have q := hk3 Bl (.inr rfl)
        have b1 := (hg2.block Bl (by have := hbW.size; have := lt_of_heap h1; omega) (by intro e; injection e with e; omega)).trans (hbW.block Bl (by have := lt_of_heap h1; omega))
        exact (hg4.block Bl (by have := lt_of_heap p2; omega) (by intro e; injection e with e; omega)).trans (q.trans b1)
    refine wpIn_mono (hbody W2 i1 hg2) ?_
    intro e a3 W3 hp
    cases e with
    | normal =>
      obtain ⟨hi3, hk3⟩ := hp
      obtain ⟨W4, hr, hg4, s1, s2, s3, s4⟩ := fin none W3 hk3
      exact ⟨_, _, hr, rfl, ⟨hI _ _ _ _ hi3 hg4 (fun r e => by cases e; omega), s1, s2⟩, s3, s4⟩
    | ret => exact hp.elim
    | exit id => exact hp.elim
    | goto t => exact hp.elim
    | panic c => exact hp.elim
    | outgrown => exact hp.elim
  · rintro e X ⟨⟨v, rfl⟩, hi, h1, h2⟩
    have hr := run_endLoop (P := Tryd.prog) h1 (by rw [hrec]; simp)
    have hg4 := grownBy_putObj' X (B + 1) (.loop { rec .ready none with state := .exhausted })
    rw [hrec] at hr hg4
    refine ⟨none, _, hr, ?_⟩
    exact hdone _ (hI _ _ _ _ hi hg4 (fun r e => by cases e; omega)) ((hg4.block _ (lt_of_heap h2) (by intro e; injection e with e; omega)).trans h2)
end Go.Proofs.YtbngclibfnnejaaDoor
