/- What is billed for readings. -/
import Derived.Test.YtbngclibfnnejaaDoorBI
import Derived.Test.YtbngclibfnnejaaDoorBU
import Derived.Test.YtbngclibfnnejaaDoorRU
set_option linter.unusedVariables false
set_option linter.unusedSimpArgs false
namespace Go.Proofs.YtbngclibfnnejaaDoor
open Go.RowKit
theorem tele (f : Nat → Int) : ∀ n : Nat, ((List.range n).map fun i => f (i + 1) - f i).sum = f n - f 0
  | 0 => by simp
  | n + 1 => by
    rw [List.range_succ, List.map_append, List.sum_append, tele f n]
    simp only [List.map_cons, List.map_nil, List.sum_cons, List.sum_nil]
    omega
theorem minP_tele (x y : Rd) : minP x y = (List.range (y.at_ - x.at_).toNat).map fun i => (fun (j : Nat) => deltaR x.reg y.reg * (j : Int) / (y.at_ - x.at_)) (i + 1) - (fun (j : Nat) => deltaR x.reg y.reg * (j : Int) / (y.at_ - x.at_)) i := by
  unfold minP
  apply List.map_congr_left
  intro i _
  simp only [Int.natCast_add, Int.natCast_one]
theorem minP_sum (x y : Rd) (h : x.at_ < y.at_) : (minP x y).sum = deltaR x.reg y.reg := by
  refine (congrArg List.sum (minP_tele x y)).trans ((tele (fun (j : Nat) => deltaR x.reg y.reg * (j : Int) / (y.at_ - x.at_)) _).trans ?_)
  have e : (((y.at_ - x.at_).toNat : Nat) : Int) = y.at_ - x.at_ := by omega
  simp only [e]
  rw [Int.mul_ediv_cancel _ (by omega)]
  simp
theorem minP_in (x y : Rd) (h : x.at_ < y.at_) : ∀ e ∈ minP x y, 0 ≤ e ∧ e ≤ 1000000 := by
  intro e he
  rw [minP_tele] at he
  obtain ⟨i, hi, rfl⟩ := List.mem_map.1 he
  have hi := List.mem_range.1 hi
  have hd := deltaR_in x.reg y.reg
  have hl0 : 0 < y.at_ - x.at_ := by omega
  show 0 ≤ deltaR x.reg y.reg * ((i + 1 : Nat) : Int) / (y.at_ - x.at_) - deltaR x.reg y.reg * (i : Int) / (y.at_ - x.at_) ∧ deltaR x.reg y.reg * ((i + 1 : Nat) : Int) / (y.at_ - x.at_) - deltaR x.reg y.reg * (i : Int) / (y.at_ - x.at_) ≤ 1000000
  clear he h
  generalize y.at_ - x.at_ = l at *
  have hil : ((i + 1 : Nat) : Int) ≤ l := by omega
  have m1 : deltaR x.reg y.reg * (i : Int) ≤ deltaR x.reg y.reg * ((i + 1 : Nat) : Int) := Int.mul_le_mul_of_nonneg_left (by omega) hd.1
  have m2 : deltaR x.reg y.reg * ((i + 1 : Nat) : Int) ≤ deltaR x.reg y.reg * l := Int.mul_le_mul_of_nonneg_left hil hd.1
  have m0 : 0 ≤ deltaR x.reg y.reg * (i : Int) := Int.mul_nonneg hd.1 (by omega)
  have q1 := Int.ediv_le_ediv hl0 m1
  have q2 := Int.ediv_le_ediv hl0 m2
  rw [Int.mul_ediv_cancel _ (by omega)] at q2
  have q0 := Int.ediv_nonneg m0 (show 0 ≤ l by omega)
  omega
theorem vGo_tail {p : Option Int} {x : Rd} {r : List Rd} (h : vGo p (x :: r) = 0) : okR x = true ∧ (p.any fun q => decide (x.at_ ≤ q)) = false ∧ vGo (some x.at_) r = 0 := by
  unfold vGo at h
  split at h
  · cases h
  · rename_i h1
    split at h
    · cases h
    · rename_i h2
      exact ⟨by simpa using h1, by simpa using h2, h⟩
theorem vGo_cons {p : Option Int} {x : Rd} {r : List Rd} (h1 : okR x = true) (h2 : (p.any fun q => decide (x.at_ ≤ q)) = false) (h3 : vGo (some x.at_) r = 0) : vGo p (x :: r) = 0 := by
  unfold vGo
  rw [if_neg (by simp [h1]), if_neg (by simp [h2])]
  exact h3
theorem vGo_two {p : Option Int} {x y : Rd} {r : List Rd} (h : vGo p (x :: y :: r) = 0) : x.at_ < y.at_ ∧ vGo (some x.at_) (y :: r) = 0 := by
  obtain ⟨-, -, h3⟩ := vGo_tail h
  obtain ⟨-, h5, -⟩ := vGo_tail h3
  exact ⟨by simpa using h5, h3⟩
theorem minR_sum : ∀ (L : List Rd) (p : Option Int), vGo p L = 0 → (minR L).sum = totalR L := by
  intro L
  induction L with
  | nil => intro p _; rfl
  | cons x r ih =>
    intro p h
    cases r with
    | nil => rfl
    | cons y r =>
      obtain ⟨h1, h2⟩ := vGo_two h
      show (minP x y ++ minR (y :: r)).sum = deltaR x.reg y.reg + totalR (y :: r)
      rw [List.sum_append, minP_sum x y h1, ih _ h2]
theorem minR_in : ∀ (L : List Rd) (p : Option Int), vGo p L = 0 → ∀ e ∈ minR L, 0 ≤ e ∧ e ≤ 1000000 := by
  intro L
  induction L with
  | nil => intro p _ e he; cases he
  | cons x r ih =>
    intro p h e he
    cases r with
    | nil => cases he
    | cons y r =>
      obtain ⟨h1, h2⟩ := vGo_two h
      rcases List.mem_append.1 (show e ∈ minP x y ++ minR (y :: r) from he) with he | he
      · exact minP_in x y h1 e he
      · exact ih _ h2 e he
theorem minR_all (L : List Rd) (hv : vGo none L = 0) (h : 0 < L.length) : ((minR L).length : Int) = (L[L.length - 1]'(by omega)).at_ - L[0].at_ := by
  have := minR_len L none hv (L.length - 1) (by omega)
  rwa [show L.length - 1 + 1 = L.length by omega, List.take_length] at this
theorem vGo_weak {p : Option Int} {x : Rd} {r : List Rd} (h1 : (p.any fun q => decide (x.at_ ≤ q)) = false) (h : vGo (some x.at_) r = 0) : vGo p r = 0 := by
  cases r with
  | nil => rfl
  | cons y r =>
    obtain ⟨h2, h3, h4⟩ := vGo_tail h
    refine vGo_cons h2 ?_ h4
    cases p with
    | none => rfl
    | some q =>
      simp at h1 h3 ⊢
      omega
theorem vGo_drop : ∀ (L : List Rd) (k : Nat) (p : Option Int), vGo p L = 0 → vGo p (L.eraseIdx k) = 0 := by
  intro L
  induction L with
  | nil => intro k p _; rfl
  | cons x r ih =>
    intro k p h
    obtain ⟨h1, h2, h3⟩ := vGo_tail h
    cases k with
    | zero => exact vGo_weak h2 h3
    | succ k => exact vGo_cons h1 h2 (ih k _ h3)
end Go.Proofs.YtbngclibfnnejaaDoor
set_option linter.unusedVariables false
set_option linter.unusedSimpArgs false
namespace Go.Proofs.YtbngclibfnnejaaDoor
open Go.RowKit
/-- what 'Run' hands back -/
def RunT (cost rate S : Int) (v : Value) (w : World) : Prop := ∃ A n c, v = .tuple #[.slice A n c, .int .i64 0] ∧ LAt (chC cost rate) 4 w w.heap.size A n (chL S) ∧ n ≤ c ∧ c ≤ maxLen
def RunS (cost rate S : Int) (v : Value) (w : World) : Prop := ∃ A n c, v = .slice A n c ∧ LAt (chC cost rate) 4 w w.heap.size A n (chL S) ∧ n ≤ c ∧ c ≤ maxLen
theorem RunT.more {cost rate S : Int} {v : Value} {w w' : World} (h : RunT cost rate S v w) (hb : Below w.heap.size w w') : RunT cost rate S v w' := by
  obtain ⟨A, n, c, h1, h2, h3⟩ := h
  exact ⟨A, n, c, h1, h2.more hb, h3⟩
theorem RunS.more {cost rate S : Int} {v : Value} {w w' : World} (h : RunS cost rate S v w) (hb : Below w.heap.size w w') : RunS cost rate S v w' := by
  obtain ⟨A, n, c, h1, h2, h3⟩ := h
  exact ⟨A, n, c, h1, h2.more hb, h3⟩
theorem chL_in (S : Int) (h0 : 0 ≤ S) (h1 : S ≤ 60000000) : (chL S).sum = S ∧ (chL S).length ≤ 1 ∧ ∀ x ∈ chL S, 0 ≤ x ∧ x ≤ 100000000 := by
  unfold chL
  split
  · exact ⟨by simp; omega, by simp, by simp⟩
  · exact ⟨by simp, by simp, by simp; omega⟩
/-- the readings as the law has them -/
structure GoodR (L : List Rd) (n : Nat) : Prop where
  h1 : 1 ≤ n
  hn : n ≤ 60
  hl : L.length = n
  hv : vGo none L = 0
  hm : ((minR L).length : Int) ≤ 3000
theorem GoodR.at0 {L : List Rd} {n : Nat} (h : GoodR L n) : 0 < L.length := by have := h.hl; have := h.h1; omega
theorem GoodR.start {L : List Rd} {n : Nat} (h : GoodR L n) : 0 ≤ (L[0]'h.at0).at_ ∧ (L[0]'h.at0).at_ + (minR L).length ≤ 268435456 := by
  have hp := h.at0
  have h0 := okR_reg (vGo_ok L none h.hv _ (List.getElem_mem hp))
  have h1 := okR_reg (vGo_ok L none h.hv _ (List.getElem_mem (show L.length - 1 < L.length by omega)))
  have h2 := minR_all L h.hv hp
  omega
theorem GoodR.tot {L : List Rd} {n : Nat} (h : GoodR L n) : 0 ≤ totalR L ∧ totalR L ≤ 60000000 := by
  have h1 := totalR_in L
  have h2 := h.hl
  have h3 := h.hn
  omega
def F8a (gt eA n c gu NU : Nat) (ad : Addr) (cost rate start S : Int) : Tmp → Value → World → Prop
  | 1, v, _ => v = .slice (some ad) n c
  | 2, v, _ => v = .pointer (some ⟨gt, 0, none⟩)
  | 5, v, _ => v = .slice (some ⟨gu, 0, none⟩) NU NU
  | 7, v, w => RunS cost rate S v w
  | 18, v, w => RunT cost rate S v w
  | 19, v, _ => v = .agg #[Value.string (⟨#[84]⟩ : ByteArray), Value.string (⟨#[69, 85, 82]⟩ : ByteArray), Value.int .i64 1, Value.int .i64 0, Value.int .i64 268435456, Value.slice (some ⟨eA, 0, none⟩) 1 1, Value.int .i64 (-1), Value.int .i64 (-1)]
  | 20, v, _ => v = .agg #[Value.int .i64 0, Value.bool false]
  | 21, v, _ => v = .slice (some ad) n c
  | 22, v, _ => v = .pointer (some ad)
  | 23, v, _ => v = .pointer (some ad)
  | 24, v, _ => v = .int .i64 start
  | 25, v, _ => v = .slice (some ⟨gu, 0, none⟩) NU NU
  | 26, v, w => RunT cost rate S v w
  | 27, v, w => RunS cost rate S v w
  | 28, v, _ => v = .int .i64 0
  | _, _, _ => True
theorem F8a_more {gt eA n c gu NU : Nat} {ad : Addr} {cost rate start S : Int} (d t : Tmp) (v : Value) (w w' : World) (hR : Rb w w') (hne : t ≠ d) (hc : ([] : List (Tmp × Tmp)).contains (d, t) = false) (h : F8a gt eA n c gu NU ad cost rate start S t v w) : F8a gt eA n c gu NU ad cost rate start S t v w' := by
  unfold F8a at *
  split at h <;> first | exact h | exact RunT.more h hR | exact fun hg => RunT.more (h hg) hR | exact RunS.more h hR | exact fun hg => RunS.more (h hg) hR
theorem F8a_lit (tm : Array Value) (hs : tm.size = 43) : tm = #[tm[0]?.getD undef, tm[1]?.getD undef, tm[2]?.getD undef, tm[3]?.getD undef, tm[4]?.getD undef, tm[5]?.getD undef, tm[6]?.getD undef, tm[7]?.getD undef, tm[8]?.getD undef, tm[9]?.getD undef, tm[10]?.getD undef, tm[11]?.getD undef, tm[12]?.getD undef, tm[13]?.getD undef, tm[14]?.getD undef, tm[15]?.getD undef, tm[16]?.getD undef, tm[17]?.getD undef, tm[18]?.getD undef, tm[19]?.getD undef, tm[20]?.getD undef, tm[21]?.getD undef, tm[22]?.getD undef, tm[23]?.getD undef, tm[24]?.getD undef, tm[25]?.getD undef, tm[26]?.getD undef, tm[27]?.getD undef, tm[28]?.getD undef, tm[29]?.getD undef, tm[30]?.getD undef, tm[31]?.getD undef, tm[32]?.getD undef, tm[33]?.getD undef, tm[34]?.getD undef, tm[35]?.getD undef, tm[36]?.getD undef, tm[37]?.getD undef, tm[38]?.getD undef, tm[39]?.getD undef, tm[40]?.getD undef, tm[41]?.getD undef, tm[42]?.getD undef] := lit_arr tm 43 hs
set_option maxRecDepth 100000 in
set_option maxHeartbeats 4000000 in
theorem billed_any (eA cA n c : Nat) (ad : Addr) (L : List Rd) (cost rate : Int) (w : World) (hg : GlobOk w) (hT : TarAt w eA cA cost rate) (h : RdAt w (some ad) n L) (hG : GoodR L n) (hc0 : 0 ≤ cost) (hc1 : cost ≤ 100000) (hr0 : 0 ≤ rate) (hr1 : rate ≤ 10000) : Calls Tryd.prog 8 #[.agg #[Value.string (⟨#[84]⟩ : ByteArray), Value.string (⟨#[69, 85, 82]⟩ : ByteArray), Value.int .i64 1, Value.int .i64 0, Value.int .i64 268435456, Value.slice (some ⟨eA, 0, none⟩) 1 1, Value.int .i64 (-1), Value.int .i64 (-1)], .slice (some ad) n c] w fun e w' => e = .returned (.int .i64 (totalR L)) ∧ Below w.heap.size w w' := by
  have hnn : Hid (0 < n) := hG.h1
  have hCI := Lib.hid (chL_in (totalR L) hG.tot.1 hG.tot.2)
  have hx := Lib.hid (Blk.new w 38 #[Value.string (⟨#[84]⟩ : ByteArray), Value.string (⟨#[69, 85, 82]⟩ : ByteArray), Value.int .i64 1, Value.int .i64 0, Value.int .i64 268435456, Value.slice (some ⟨eA, 0, none⟩) 1 1, Value.int .i64 (-1), Value.int .i64 (-1)])
  have hb0 : Below w.heap.size w (w.alloc (.cells #[Value.string (⟨#[84]⟩ : ByteArray), Value.string (⟨#[69, 85, 82]⟩ : ByteArray), Value.int .i64 1, Value.int .i64 0, Value.int .i64 268435456, Value.slice (some ⟨eA, 0, none⟩) 1 1, Value.int .i64 (-1), Value.int .i64 (-1)] 38)) := a1 w _
  have huse := Lib.hid (uses_any (some ad) n c L (w.alloc (.cells #[Value.string (⟨#[84]⟩ : ByteArray), Value.string (⟨#[69, 85, 82]⟩ : ByteArray), Value.int .i64 1, Value.int .i64 0, Value.int .i64 268435456, Value.slice (some ⟨eA, 0, none⟩) 1 1, Value.int .i64 (-1), Value.int .i64 (-1)] 38)) (LAt.more h hb0) hG.h1 hG.hn hG.hv hG.hm)
  have hst := hG.start
  have hms := hG.hm
  have hrn := Lib.hid (fun gu w1 (hb : Below w.heap.size w w1) hu => run_any eA cA gu (minR L).length cost rate (L[0]'hG.at0).at_ (minR L) w1 (hg.more hb) (hT.more hb) hu (by omega) (minR_in L none hG.hv) hst.1 hst.2 hc0 hc1 hr0 hr1)
  rw [minR_sum L none hG.hv] at hrn
  obtain ⟨ad2, hA2, -, e0, -⟩ := rd_cells h (k := 0) (by have := hG.h1; omega)
  injection hA2 with hA2
  subst hA2
  rw [Nat.zero_mul, add_none] at e0
  have he0 : Hid (∀ wz, Below w.heap.size w wz → wz.cell? ad = some (Value.int .i64 (L[0]'hG.at0).at_)) := fun wz hz => (hz.cell (lt_of_cell e0)).trans e0
  generalize (L[0]'hG.at0).at_ = start at *
  obtain ⟨NU, hNU⟩ : ∃ m, m = (minR L).length := ⟨_, rfl⟩
  rw [← hNU] at huse hrn
  clear hst hms e0 hNU hc0 hc1 hr0 hr1
  replace hb := Lib.hid hb0
  clear hb0
  replace hg := Lib.hid hg
  replace hT := Lib.hid hT
  replace h := Lib.hid h
  go_enter Tryd.func8, Tryd.ntmps8
  go_wp2_with fail
  refine huse.out.mono ?_; rintro e w1 ⟨⟨g, rfl, hgu, hu⟩, hq⟩
  have hx1 := Lib.hid (hx.out.below hq hx.out.lt)
  replace hb := Lib.hid (hb.out.trans (hq.mono hb.out.size))
  replace hu := Lib.hid hu
  clear hq huse hx hgu
  go_wp2_with fail
  have hcell : Hid (∀ wz, Below w1.heap.size w1 wz → wz.cell? ⟨w.heap.size, 0, none⟩ = some (Value.string (⟨#[84]⟩ : ByteArray)) ∧ wz.cell? ⟨w.heap.size, 1, none⟩ = some (Value.string (⟨#[69, 85, 82]⟩ : ByteArray)) ∧ wz.cell? ⟨w.heap.size, 2, none⟩ = some (Value.int .i64 1) ∧ wz.cell? ⟨w.heap.size, 3, none⟩ = some (Value.int .i64 0) ∧ wz.cell? ⟨w.heap.size, 4, none⟩ = some (Value.int .i64 268435456) ∧ wz.cell? ⟨w.heap.size, 5, none⟩ = some (Value.slice (some ⟨eA, 0, none⟩) 1 1) ∧ wz.cell? ⟨w.heap.size, 6, none⟩ = some (Value.int .i64 (-1)) ∧ wz.cell? ⟨w.heap.size, 7, none⟩ = some (Value.int .i64 (-1)) ∧ wz.cell? ad = some (Value.int .i64 start)) := fun wz hz => by
    have q := hx1.out.below hz hx1.out.lt
    exact ⟨q.cell 0, q.cell 1, q.cell 2, q.cell 3, q.cell 4, q.cell 5, q.cell 6, q.cell 7, he0.out wz (hb.out.trans (hz.mono hb.out.size))⟩
  have hrun : Hid (∀ wz, Below w1.heap.size w1 wz → Calls Tryd.prog 10 #[.agg #[Value.string (⟨#[84]⟩ : ByteArray), Value.string (⟨#[69, 85, 82]⟩ : ByteArray), Value.int .i64 1, Value.int .i64 0, Value.int .i64 268435456, Value.slice (some ⟨eA, 0, none⟩) 1 1, Value.int .i64 (-1), Value.int .i64 (-1)], .agg #[Value.int .i64 0, Value.bool false], .int .i64 start, .slice (some ⟨g, 0, none⟩) NU NU] wz fun e w' => (∃ A n c, e = .returned (.tuple #[.slice A n c, .int .i64 0]) ∧ LAt (chC cost rate) 4 w' w'.heap.size A n (chL (totalR L)) ∧ n ≤ c ∧ c ≤ maxLen) ∧ Below wz.heap.size wz w') := fun wz hz => hrn.out g wz (hb.out.trans (hz.mono hb.out.size)) (hu.out.more hz)
  clear hrn hu hx1 hg hT he0 h
  refine RU.region [] [] 12 (F := F8a w.heap.size eA n c g NU ad cost rate start (totalR L)) (W := fun wz => Below w1.heap.size w1 wz) (R := fun _ => Rb) rfl F8a_more (by kernel_rfl) (by kernel_rfl) (by kernel_rfl) (by kernel_rfl) (by kernel_rfl) (by kernel_rfl) ?_ ?_ ?_ ?_
  · exact (Below.refl _ _).drew
  · intro t ht
    unfold F8a
    split <;> first | trivial | exact rfl | (exact absurd ht (by decide))
  · intro i o hi ho
    have hcs : i = 0 ∨ i = 1 ∨ i = 2 ∨ i = 3 ∨ i = 4 ∨ i = 5 ∨ i = 6 ∨ i = 7 ∨ i = 8 ∨ i = 9 ∨ i = 10 ∨ i = 11 := by omega
    rcases hcs with rfl | rfl | rfl | rfl | rfl | rfl | rfl | rfl | rfl | rfl | rfl | rfl <;> (injection ho with ho; subst ho)
    · intro a w2 hw _ hf K hK
      have f0 := hf 2 rfl
      simp only [F8a] at f0
      clear hf
      obtain ⟨k0, k1, k2, k3, k4, k5, k6, k7, e0⟩ := hcell.out w2 hw
      go_simp
      exact hK _ _ _ rfl rfl hw (Below.refl _ _) (fun h => absurd h (by decide))
    · intro a w2 hw _ hf K hK
      clear hf
      go_simp
      exact hK _ _ _ rfl rfl hw (Below.refl _ _) (fun h => absurd h (by decide))
    · intro a w2 hw _ hf K hK
      have f0 := hf 1 rfl
      simp only [F8a] at f0
      clear hf
      go_simp
      exact hK _ _ _ rfl rfl hw (Below.refl _ _) (fun h => absurd h (by decide))
    · intro a w2 hw _ hf K hK
      have f0 := hf 21 rfl
      simp only [F8a] at f0
      clear hf
      have hn1 := hnn.out
      go_simp
      exact hK _ _ _ rfl rfl hw (Below.refl _ _) (fun h => absurd h (by decide))
    · intro a w2 hw _ hf K hK
      have f0 := hf 22 rfl
      simp only [F8a] at f0
      clear hf
      go_simp
      exact hK _ _ _ rfl rfl hw (Below.refl _ _) (fun h => absurd h (by decide))
    · intro a w2 hw _ hf K hK
      have f0 := hf 23 rfl
      simp only [F8a] at f0
      clear hf
      obtain ⟨k0, k1, k2, k3, k4, k5, k6, k7, e0⟩ := hcell.out w2 hw
      go_simp
      exact hK _ _ _ rfl rfl hw (Below.refl _ _) (fun h => absurd h (by decide))
    · intro a w2 hw _ hf K hK
      have f0 := hf 5 rfl
      simp only [F8a] at f0
      clear hf
      go_simp
      exact hK _ _ _ rfl rfl hw (Below.refl _ _) (fun h => absurd h (by decide))
    · intro a w2 hw _ hf K hK
      have f0 := hf 19 rfl
      have f1 := hf 20 rfl
      have f2 := hf 24 rfl
      have f3 := hf 25 rfl
      simp only [F8a] at f0 f1 f2 f3
      clear hf
      go_simp
      refine (hrun.out w2 hw).mono ?_; rintro e w5 ⟨⟨A7, n7, c7, rfl, r1, r2, r3⟩, hb⟩
      exact hK _ _ _ rfl ⟨A7, n7, c7, rfl, r1, r2, r3⟩ (hw.trans (hb.mono hw.size)) hb (fun h => absurd h (by decide))
    · intro a w2 hw _ hf K hK
      have f0 := hf 26 rfl
      simp only [F8a] at f0
      clear hf
      obtain ⟨A7, n7, c7, e0, r1, r2, r3⟩ := f0
      go_simp
      exact hK _ _ _ rfl ⟨A7, n7, c7, rfl, r1, r2, r3⟩ hw (Below.refl _ _) (fun h => absurd h (by decide))
    · intro a w2 hw _ hf K hK
      have f0 := hf 18 rfl
      simp only [F8a] at f0
      clear hf
      obtain ⟨A7, n7, c7, e0, r1, r2, r3⟩ := f0
      go_simp
      exact hK _ _ _ rfl ⟨A7, n7, c7, rfl, r1, r2, r3⟩ hw (Below.refl _ _) (fun h => absurd h (by decide))
    · intro a w2 hw _ hf K hK
      have f0 := hf 18 rfl
      simp only [F8a] at f0
      clear hf
      obtain ⟨A7, n7, c7, e0, r1, r2, r3⟩ := f0
      go_simp
      exact hK _ _ _ rfl rfl hw (Below.refl _ _) (fun h => absurd h (by decide))
    · intro a w2 hw _ hf K hK
      have f0 := hf 27 rfl
      simp only [F8a] at f0
      clear hf
      obtain ⟨A7, n7, c7, e0, r1, r2, r3⟩ := f0
      go_simp
      exact hK _ _ _ rfl ⟨A7, n7, c7, rfl, r1, r2, r3⟩ hw (Below.refl _ _) (fun h => absurd h (by decide))
  · intro a' w9 hd hs hw hout hf
    have h7 := hf 11 7 (by decide) rfl rfl
    simp only [F8a] at h7
    have h28 := hf 10 28 (by decide) rfl rfl
    simp only [F8a] at h28
    have e2 : _ = some (Value.pointer (some ⟨w.heap.size, 0, none⟩)) := hout 2 rfl
    have e0 := hout 0 rfl
    have e1 := hout 1 rfl
    have e3 := hout 3 rfl
    have e4 := hout 4 rfl
    have e5 := hout 5 rfl
    have e8 := hout 8 rfl
    have e9 := hout 9 rfl
    have e10 := hout 10 rfl
    have e11 := hout 11 rfl
    have e12 := hout 12 rfl
    have e13 := hout 13 rfl
    have e14 := hout 14 rfl
    have e15 := hout 15 rfl
    have e16 := hout 16 rfl
    have e17 := hout 17 rfl
    have e29 := hout 29 rfl
    have e30 := hout 30 rfl
    have e31 := hout 31 rfl
    have e32 := hout 32 rfl
    have e33 := hout 33 rfl
    have e34 := hout 34 rfl
    have e35 := hout 35 rfl
    have e36 := hout 36 rfl
    have e37 := hout 37 rfl
    have e38 := hout 38 rfl
    have e39 := hout 39 rfl
    have e40 := hout 40 rfl
    have e41 := hout 41 rfl
    have e42 := hout 42 rfl
    simp only [List.getElem?_toArray, List.getElem?_cons_succ, List.getElem?_cons_zero] at e0 e1 e3 e4 e5 e8 e9 e10 e11 e12 e13 e14 e15 e16 e17 e29 e30 e31 e32 e33 e34 e35 e36 e37 e38 e39 e40 e41 e42
    obtain ⟨tm, df⟩ := a'
    simp only at hd hs h7 h28 e0 e1 e3 e4 e5 e8 e9 e10 e11 e12 e13 e14 e15 e16 e17 e29 e30 e31 e32 e33 e34 e35 e36 e37 e38 e39 e40 e41 e42 e2
    have e := F8a_lit tm hs
    simp only [h28, e0, e1, e3, e4, e5, e8, e9, e10, e11, e12, e13, e14, e15, e16, e17, e29, e30, e31, e32, e33, e34, e35, e36, e37, e38, e39, e40, e41, e42, e2, Option.getD_some] at e
    clear hf hout hs
    rw [e, hd]
    clear e hd h28 e0 e1 e3 e4 e5 e8 e9 e10 e11 e12 e13 e14 e15 e16 e17 e29 e30 e31 e32 e33 e34 e35 e36 e37 e38 e39 e40 e41 e42 e2
    generalize tm[7]?.getD undef = v7x at h7 ⊢
    generalize tm[6]?.getD undef = v6x, tm[18]?.getD undef = v18x, tm[19]?.getD undef = v19x, tm[20]?.getD undef = v20x, tm[21]?.getD undef = v21x, tm[22]?.getD undef = v22x, tm[23]?.getD undef = v23x, tm[24]?.getD undef = v24x, tm[25]?.getD undef = v25x, tm[26]?.getD undef = v26x, tm[27]?.getD undef = v27x
    obtain ⟨A7, n7, c7, rfl, r1, r2, r3⟩ := h7
    have hLc := Lib.hid r1
    have hbk : Hid (Below w.heap.size w w9) := hb.out.trans (hw.mono hb.out.size)
    clear hcell hw hb hrun r2 r3 r1
    simp only [List.drop_succ_cons, List.drop_zero]
    go_wp2_with fail
    have hl7 := Lib.hid hLc.out.len
    go_loopw [33, 8] (fun i sv wr => ∃ k : Nat, k ≤ n7 ∧ i = .int .i64 k ∧ sv = .int .i64 ((chL (totalR L)).take k).sum ∧ Hid (Below w9.heap.size w9 wr)) (fun i _ _ => n7 - (intOf i).toNat)
    case atStart => exact ⟨0, Nat.zero_le _, rfl, rfl, Below.refl _ _⟩
    case round =>
      obtain ⟨k, hkn, rfl, rfl, hb⟩ := hrel
      have h71 := hCI.out.2.1
      by_cases hlt : k < n7
      · have hkl : k < (chL (totalR L)).length := by have := hl7.out; omega
        obtain rfl : k = 0 := by omega
        have hx := hCI.out.2.2 _ (List.getElem_mem hkl)
        have h1n : n7 = 1 := by have := hl7.out; omega
        have hst : Hid (((chL (totalR L)).take 1).sum = (chL (totalR L))[0]) := by show _ = _; rw [List.take_succ_eq_append_getElem hkl]; simp
        obtain ⟨ad7, hA, -, e0, e1, e2, e3⟩ := ch_cells (hLc.out.below hb.out (Nat.le_refl _)) hlt
        generalize (chL (totalR L))[0] = x at *
        subst hA
        rw [Nat.zero_mul, add_none] at e0 e1 e2 e3
        subst h1n
        have hN := Lib.hid (Blk.new wr 73 #[Value.int .i64 2, Value.int .i64 cost, Value.int .i64 rate, Value.int .i64 x])
        have hb2 : Hid (Below w9.heap.size w9 (wr.alloc (.cells #[Value.int .i64 2, Value.int .i64 cost, Value.int .i64 rate, Value.int .i64 x] 73))) := hb.out.alloc hb.out.size _
        have n0 : ((wr.alloc (.cells #[Value.int .i64 2, Value.int .i64 cost, Value.int .i64 rate, Value.int .i64 x] 73))).cell? ⟨wr.heap.size, 0, none⟩ = some (Value.int .i64 2) := (hN.out).cell 0; have n1 : ((wr.alloc (.cells #[Value.int .i64 2, Value.int .i64 cost, Value.int .i64 rate, Value.int .i64 x] 73))).cell? ⟨wr.heap.size, 1, none⟩ = some (Value.int .i64 cost) := (hN.out).cell 1; have n2 : ((wr.alloc (.cells #[Value.int .i64 2, Value.int .i64 cost, Value.int .i64 rate, Value.int .i64 x] 73))).cell? ⟨wr.heap.size, 2, none⟩ = some (Value.int .i64 rate) := (hN.out).cell 2; have n3 : ((wr.alloc (.cells #[Value.int .i64 2, Value.int .i64 cost, Value.int .i64 rate, Value.int .i64 x] 73))).cell? ⟨wr.heap.size, 3, none⟩ = some (Value.int .i64 x) := (hN.out).cell 3
        simp only [List.take_zero, List.sum_nil]
        clear hb h71
        go_wp2_with fail
        go_roundw
        case rel => exact ⟨1, by omega, by go_num, by rw [hst.out], hb2.out⟩
        case measure => simp [intOf]
      · obtain rfl : k = n7 := by omega
        have hs8 : Hid (((chL (totalR L)).take k).sum = totalR L) := by show _ = _; rw [List.take_of_length_le (by have := hl7.out; omega)]; exact hCI.out.1
        go_wp2_with fail
        go_ret
        exact ⟨by rw [hs8.out]; rfl, hbk.out.trans (hb.out.mono hbk.out.size)⟩
end Go.Proofs.YtbngclibfnnejaaDoor
