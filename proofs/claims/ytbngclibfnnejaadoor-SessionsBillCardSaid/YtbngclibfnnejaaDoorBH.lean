/- Readings: the minutes, walked. -/
import Derived.Test.YtbngclibfnnejaaDoorBG
import Derived.Test.YtbngclibfnnejaaDoorIn
import Derived.Sort.BigQuietIn
set_option linter.unusedVariables false
set_option linter.unusedSimpArgs false
namespace Go.Proofs.YtbngclibfnnejaaDoor
open Go.RowKit Go.Shelf
attribute [local go_sem] Oper.semAt_some
theorem add_none (ad : Addr) : ad.add 0 = ad := by unfold Addr.add; split <;> simp_all
/-- a slice of one number in a block beyond B -/
def OneAt (B : Nat) (E : Int) (v : Value) (w : World) : Prop := ∃ g, v = .slice (some ⟨g, 0, none⟩) 1 1 ∧ B ≤ g ∧ Blk w g 3 #[Value.int .i64 E]
theorem OneAt.more {B : Nat} {E : Int} {v : Value} {w w' : World} (h : OneAt B E v w) (hb : Below w.heap.size w w') : OneAt B E v w' := by
  obtain ⟨g, h1, h2, h3⟩ := h
  exact ⟨g, h1, h2, h3.below hb h3.lt⟩
theorem wpListIn_append_in {F : Fence} {nF : Nat} {P : Program} {w : World} {size : Nat} {α : Type} {f : α → List Value} {l ys : List α} {ops : Array Oper} {rest : List Oper} {o : Oper} {a : Act} {Q : Exit → Act → World → Prop} (hgd : o.guard = none) (s x : Operand) (t : TypeId)
    (ho : o.op = .call { callee := .builtin .append, args := #[s, x], argTypes := #[t, t] })
    (base : Nat) (e : TypeId) (i : TypeInfo) (ht : P.underlying t = some (.slice e)) (hi : P.info? e = some i) (hsize : i.size = size)
    (g n cap : Nat) (hs : a.eval s = .slice (some ⟨g, 0, none⟩) n cap) (hown : LOwn f size e w base (.slice (some ⟨g, 0, none⟩) n cap) l) (hn : n = l.length)
    (B : Nat) (A : Option Addr) (m c : Nat) (hx : a.eval x = .slice A m c) (hr : Reads w B size A m (flat f ys)) (hm : m = ys.length) (h1 : ∀ u ∈ flat f ys, u.oneCell' = true) (hroom : n + m ≤ cap)
    (h : ∀ w', LOwn f size e w' base (.slice (some ⟨g, 0, none⟩) (n + m) cap) (l ++ ys) → w.grownBy w' (some g) → wpListIn F nF P ops Q rest (a.put o.dst (.slice (some ⟨g, 0, none⟩) (n + m) cap)) w') : wpListIn F nF P ops Q (o :: rest) a w := by
  refine wpListIn_plain hgd fun K hK => ?_
  obtain ⟨w', hrun, h2, h3⟩ := run_append_in (P := P) w base t o.type e i size ht hi hsize g n cap hown hn B A m c hr hm h1 hroom
  unfold Oper.wpIn
  refine ⟨by simp [Oper.about, ho, resolve, Target.leads, Sem.run_pure], ?_⟩
  rw [Oper.semAt_plain F _ _ (by rw [ho]; intro c hc'; cases hc')]
  simp only [execOp, ho, resolve, invoke, builtin, Sem.run_bind, Sem.run_pure, Result.andThen_ok, List.map_toArray, List.map_cons, List.map_nil, hs, hx, hrun]
  exact hK _ _ (h w' h2 h3)
theorem LOwn.grownn {α : Type} {f : α → List Value} {sz base g n c : Nat} {e : TypeId} {w w' : World} {l : List α} {row : Option Nat} (h : LOwn f sz e w base (.slice (some ⟨g, 0, none⟩) n c) l) (hg : w.grownBy w' row) (hr : some g ≠ row) : LOwn f sz e w' base (.slice (some ⟨g, 0, none⟩) n c) l :=
  ⟨h.1, World.ownsRow.kept h.2 hg (Or.inr hr)⟩
theorem KpN.grown {B n0 Bl : Nat} {X Y Z : World} {row : Option Nat} (h : KpN B n0 Bl X Y) (hg : Y.grownBy Z row) (hr : ∀ r, row = some r → n0 ≤ r ∧ r ≠ Bl ∧ ¬ (B ≤ r ∧ r ≤ B + 1)) (h1 : B + 1 < Y.heap.size) (h2 : Bl < Y.heap.size) (h3 : n0 ≤ B) : KpN B n0 Bl X Z :=
  ⟨Nat.le_trans h.1 hg.size, h.2.1.grown hg (by omega) (fun r e => (hr r e).1), fun b hb => (hg.block b (by omega) (fun e => by have := hr b e.symm; omega)).trans (h.2.2 b hb)⟩
def minP (x y : Rd) : List Int := (List.range (y.at_ - x.at_).toNat).map fun (i : Nat) => deltaR x.reg y.reg * ((i : Int) + 1) / (y.at_ - x.at_) - deltaR x.reg y.reg * (i : Int) / (y.at_ - x.at_)
def minR : List Rd → List Int
  | x :: y :: r => minP x y ++ minR (y :: r)
  | _ => []
theorem minR_step : ∀ (L : List Rd) (k : Nat) (h : k + 1 < L.length), minR (L.take (k + 1 + 1)) = minR (L.take (k + 1)) ++ minP (L[k]'(by omega)) (L[k + 1]'h) := by
  intro L
  induction L with
  | nil => intro k h; simp at h
  | cons x r ih =>
    intro k h
    cases r with
    | nil => simp at h
    | cons y r =>
      cases k with
      | zero => simp [minR]
      | succ k =>
        have h9 := ih k (by simpa using h)
        simp only [List.take_succ_cons, List.getElem_cons_succ, minR] at h9 ⊢
        rw [h9]
        simp
theorem vGo_asc : ∀ (L : List Rd) (p : Option Int), vGo p L = 0 → ∀ k, (h : k + 1 < L.length) → (L[k]'(by omega)).at_ < L[k + 1].at_ := by
  intro L
  induction L with
  | nil => intro p _ k h; simp at h
  | cons x r ih =>
    intro p hv k h
    unfold vGo at hv
    split at hv
    · cases hv
    · split at hv
      · cases hv
      · cases k with
        | succ k => exact ih _ hv k (by simpa using h)
        | zero =>
          cases r with
          | nil => simp at h
          | cons y r =>
            unfold vGo at hv
            split at hv
            · cases hv
            · split at hv
              · cases hv
              · rename_i h2
                simp at h2
                simpa using h2
theorem minP_len (x y : Rd) (h : x.at_ < y.at_) : ((minP x y).length : Int) = y.at_ - x.at_ := by unfold minP; simp; omega
theorem minR_len (L : List Rd) (p : Option Int) (hv : vGo p L = 0) : ∀ k, (h : k < L.length) → ((minR (L.take (k + 1))).length : Int) = L[k].at_ - (L[0]'(by omega)).at_ := by
  intro k
  induction k with
  | zero =>
    intro h
    cases L with
    | nil => simp at h
    | cons x r => simp [minR]
  | succ k ih =>
    intro h
    rw [minR_step L k h, List.length_append, Int.natCast_add, ih (by omega), minP_len _ _ (vGo_asc L p hv k h)]
    omega
theorem vGo_mono (L : List Rd) (p : Option Int) (hv : vGo p L = 0) : ∀ j k, (h : k < L.length) → (hj : j ≤ k) → (L[j]'(by omega)).at_ ≤ L[k].at_ := by
  intro j k
  induction k with
  | zero =>
    intro h hj
    have hj0 : j = 0 := by omega
    subst hj0
    exact Int.le_refl _
  | succ k ih =>
    intro h hj
    rcases Nat.lt_or_ge j (k + 1) with h1 | h1
    · have h2 := ih (by omega) (by omega)
      have h3 := vGo_asc L p hv k h
      omega
    · obtain rfl : j = k + 1 := by omega
      exact Int.le_refl _
/-- what the variables of Minutes hold between two rounds -/
structure IM (s s7 nn mm : Nat) (w : World) (l : List Int) (W : World) : Prop where
  m : Blk W s 3 #[Value.int .i64 1000000]
  r0 : Blk W (s + 1) 74 #[Value.slice none 0 0]
  r1 : Blk W (s + 1 + 1) 23 #[Value.int .i64 0]
  t : Blk W (s7 + 1) 74 #[Value.slice (some ⟨s7, 0, none⟩) mm nn]
  o : LOwn iC 1 3 W s7 (.slice (some ⟨s7, 0, none⟩) mm nn) l
  ml : mm = l.length
  b : Below s w W
theorem IM.step {s s7 nn mm : Nat} {w W W' : World} {l : List Int} {row : Option Nat} (i : IM s s7 nn mm w l W) (hg : W.grownBy W' row) (hr : ∀ r, row = some r → s7 + 1 < r) (hs : s + 1 + 1 + 1 ≤ s7) : IM s s7 nn mm w l W' := by
  have hne : ∀ b, b ≤ s7 + 1 → some b ≠ row := fun b hb e => by have := hr b e.symm; omega
  exact ⟨i.m.grown hg (hne _ (by omega)), i.r0.grown hg (hne _ (by omega)), i.r1.grown hg (hne _ (by omega)), i.t.grown hg (hne _ (by omega)), i.o.grownn hg (hne _ (by omega)), i.ml, i.b.grown hg (by have := i.m.lt; omega) (fun r e => by have := hr r e; omega)⟩
theorem IM.app {s s7 nn mm : Nat} {w W W' : World} {l : List Int} {E : Int} (i : IM s s7 nn mm w l W) (hg : W.grownBy W' (some s7)) (ho : LOwn iC 1 3 W' s7 (.slice (some ⟨s7, 0, none⟩) (mm + 1) nn) (l ++ [E])) (hs : s + 1 + 1 + 1 ≤ s7) : IM s s7 nn (mm + 1) w (l ++ [E]) (W'.setCell ⟨s7 + 1, 0, none⟩ (.slice (some ⟨s7, 0, none⟩) (mm + 1) nn)) := by
  have hne : ∀ b, b ≠ s7 → some b ≠ some s7 := fun b hb e => by injection e with e; exact hb e
  have hs2 := only_set (World.grownBy.refl W' (some (s7 + 1))) 0 (.slice (some ⟨s7, 0, none⟩) (mm + 1) nn)
  have hn2 : ∀ b, b ≠ s7 + 1 → some b ≠ some (s7 + 1) := fun b hb e => by injection e with e; exact hb e
  refine ⟨(i.m.grown hg (hne _ (by omega))).grown hs2 (hn2 _ (by omega)), (i.r0.grown hg (hne _ (by omega))).grown hs2 (hn2 _ (by omega)), (i.r1.grown hg (hne _ (by omega))).grown hs2 (hn2 _ (by omega)), ?_, ho.grownn hs2 (hn2 _ (by omega)), by rw [List.length_append, ← i.ml]; rfl, ?_⟩
  · have := (i.t.grown hg (hne _ (by omega))).set_ 0 (.slice (some ⟨s7, 0, none⟩) (mm + 1) nn)
    simpa using this
  · exact below_set (i.b.grown hg (by have := i.m.lt; omega) (fun r e => by cases e; omega)) (by omega) 0 _
def F22m (B s7 mm nn i len : Nat) (D : Int) : Tmp → Value → World → Prop
  | 8, v, _ => v = .pointer (some ⟨s7 + 1, 0, none⟩)
  | 11, v, _ => v = .int .i64 D
  | 13, v, _ => v = .int .i64 len
  | 14, v, _ => v = .int .i64 i
  | 62, v, _ => v = .slice (some ⟨s7, 0, none⟩) mm nn
  | 63, v, _ => v = .int .i64 D
  | 64, v, _ => v = .int .i64 i
  | 65, v, _ => v = .int .i64 (i + 1)
  | 66, v, _ => v = .int .i64 (D * ((i : Int) + 1))
  | 67, v, _ => v = .int .i64 len
  | 68, v, _ => v = .int .i64 (D * ((i : Int) + 1) / len)
  | 69, v, _ => v = .int .i64 D
  | 70, v, _ => v = .int .i64 i
  | 71, v, _ => v = .int .i64 (D * (i : Int))
  | 72, v, _ => v = .int .i64 len
  | 73, v, _ => v = .int .i64 (D * (i : Int) / len)
  | 74, v, _ => v = .int .i64 (D * ((i : Int) + 1) / len - D * (i : Int) / len)
  | 75, v, w => OneAt B (D * ((i : Int) + 1) / len - D * (i : Int) / len) v w
  | _, _, _ => True
theorem F22m_more {B s7 mm nn i len : Nat} {D : Int} (d t : Tmp) (v : Value) (w w' : World) (hR : Rb w w') (hne : t ≠ d) (hc : ([] : List (Tmp × Tmp)).contains (d, t) = false) (h : F22m B s7 mm nn i len D t v w) : F22m B s7 mm nn i len D t v w' := by
  unfold F22m at *
  split at h <;> first | exact h | exact OneAt.more h hR | exact fun hg => OneAt.more (h hg) hR
theorem F22m_lit (tm : Array Value) (hs : tm.size = 79) : tm = #[tm[0]?.getD undef, tm[1]?.getD undef, tm[2]?.getD undef, tm[3]?.getD undef, tm[4]?.getD undef, tm[5]?.getD undef, tm[6]?.getD undef, tm[7]?.getD undef, tm[8]?.getD undef, tm[9]?.getD undef, tm[10]?.getD undef, tm[11]?.getD undef, tm[12]?.getD undef, tm[13]?.getD undef, tm[14]?.getD undef, tm[15]?.getD undef, tm[16]?.getD undef, tm[17]?.getD undef, tm[18]?.getD undef, tm[19]?.getD undef, tm[20]?.getD undef, tm[21]?.getD undef, tm[22]?.getD undef, tm[23]?.getD undef, tm[24]?.getD undef, tm[25]?.getD undef, tm[26]?.getD undef, tm[27]?.getD undef, tm[28]?.getD undef, tm[29]?.getD undef, tm[30]?.getD undef, tm[31]?.getD undef, tm[32]?.getD undef, tm[33]?.getD undef, tm[34]?.getD undef, tm[35]?.getD undef, tm[36]?.getD undef, tm[37]?.getD undef, tm[38]?.getD undef, tm[39]?.getD undef, tm[40]?.getD undef, tm[41]?.getD undef, tm[42]?.getD undef, tm[43]?.getD undef, tm[44]?.getD undef, tm[45]?.getD undef, tm[46]?.getD undef, tm[47]?.getD undef, tm[48]?.getD undef, tm[49]?.getD undef, tm[50]?.getD undef, tm[51]?.getD undef, tm[52]?.getD undef, tm[53]?.getD undef, tm[54]?.getD undef, tm[55]?.getD undef, tm[56]?.getD undef, tm[57]?.getD undef, tm[58]?.getD undef, tm[59]?.getD undef, tm[60]?.getD undef, tm[61]?.getD undef, tm[62]?.getD undef, tm[63]?.getD undef, tm[64]?.getD undef, tm[65]?.getD undef, tm[66]?.getD undef, tm[67]?.getD undef, tm[68]?.getD undef, tm[69]?.getD undef, tm[70]?.getD undef, tm[71]?.getD undef, tm[72]?.getD undef, tm[73]?.getD undef, tm[74]?.getD undef, tm[75]?.getD undef, tm[76]?.getD undef, tm[77]?.getD undef, tm[78]?.getD undef] := lit_arr tm 79 hs

set_option maxRecDepth 100000 in
set_option maxHeartbeats 4000000 in
theorem minutes_any (A : Option Addr) (n cp : Nat) (L : List Rd) (w : World) (h : RdAt w A n L) (hn1 : 1 ≤ n) (hn : n ≤ 60) (hv : vGo none L = 0) (h3 : ((minR L).length : Int) ≤ 3000) : Calls Tryd.prog 22 #[.slice A n cp, .int .i64 1000000] w fun e w' => (∃ g, e = .returned (.tuple #[.slice (some ⟨g, 0, none⟩) (minR L).length (minR L).length, .int .i64 0]) ∧ w.heap.size ≤ g ∧ LAt iC 1 w' w'.heap.size (some ⟨g, 0, none⟩) (minR L).length (minR L)) ∧ Below w.heap.size w w' := by
  refine (callsIn_wide (n := 0)).1 ?_
  have hl := Lib.hid h.len
  obtain ⟨s, hs⟩ : ∃ s, s = w.heap.size := ⟨_, rfl⟩
  obtain ⟨i3, hi3, hz30, hz31, hz32⟩ := info_parts int_info
  refine callsIn_of_wp_marks Tryd.func22 rfl trivial ?_ rfl
  simp only [Tryd.ntmps22, List.size_toArray, List.length_cons, List.length_nil, Nat.reduceAdd, Nat.reduceSub, Array.replicate_succ, Array.replicate_zero, List.push_toArray, List.append_toArray, List.nil_append, List.cons_append]
  have q0 := Blk.new w 3 #[Value.int .i64 1000000]
  have q1 := Blk.new (w.alloc (.cells #[Value.int .i64 1000000] 3)) 74 #[Value.slice none 0 0]
  have q2 := Blk.new ((w.alloc (.cells #[Value.int .i64 1000000] 3)).alloc (.cells #[Value.slice none 0 0] 74)) 23 #[Value.int .i64 0]
  simp only [World.size_alloc] at q1 q2
  rw [← hs] at q0 q1 q2
  have hb0 : Below w.heap.size w (((w.alloc (.cells #[Value.int .i64 1000000] 3)).alloc (.cells #[Value.slice none 0 0] 74)).alloc (.cells #[Value.int .i64 0] 23)) := below_new (below_new (a1 w _) _) _
  have p0 := Lib.hid ((q0.alloc (.cells #[Value.slice none 0 0] 74)).alloc (.cells #[Value.int .i64 0] 23))
  have p1 := Lib.hid (q1.alloc (.cells #[Value.int .i64 0] 23))
  have p2 := Lib.hid q2
  have huv := uvalid_any A n cp L (((w.alloc (.cells #[Value.int .i64 1000000] 3)).alloc (.cells #[Value.slice none 0 0] 74)).alloc (.cells #[Value.int .i64 0] 23)) (h.more hb0) hn1 hn
  rw [hv] at huv
  replace huv := Lib.hid huv
  have hb := Lib.hid hb0
  have hok := Lib.hid (vGo_ok L none hv)
  have hasc := Lib.hid (vGo_asc L none hv)
  have hmo := Lib.hid (vGo_mono L none hv)
  have hml := Lib.hid (minR_len L none hv)
  have hnn : Hid (((minR L).length : Int) = (L[n - 1]'(by have := hl.out; omega)).at_ - (L[0]'(by have := hl.out; omega)).at_) := by
    show _ = _
    have hLn := hl.out
    have h9 := hml.out (n - 1) (by omega)
    rw [List.take_of_length_le (by omega)] at h9
    exact h9
  have hs2 := Lib.hid hs
  obtain ⟨NN, hNN⟩ : ∃ m, m = (minR L).length := ⟨_, rfl⟩
  rw [← hNN] at hnn h3 ⊢
  replace hNN := Lib.hid hNN
  have z0 := p0.out.cell 0
  replace h := Lib.hid h
  replace hi3 := Lib.hid hi3
  replace hz30 := Lib.hid hz30
  replace hz31 := Lib.hid hz31
  replace hz32 := Lib.hid hz32
  clear q0 q1 q2 hb0 hv
  gi_wp2
  refine ⟨trivial, rfl, (callsIn_wide.2 huv.out).mono ?_⟩; rintro e w1 ⟨rfl, hq⟩
  replace p0 := Lib.hid (p0.out.below hq p0.out.lt)
  replace p1 := Lib.hid (p1.out.below hq p1.out.lt)
  replace p2 := Lib.hid (p2.out.below hq p2.out.lt)
  replace hb := Lib.hid (hb.out.trans (hq.mono hb.out.size))
  have hs1 : s + 1 + 1 + 1 ≤ w1.heap.size := by have := hq.size; simp at this; omega
  replace hs1 := Lib.hid hs1
  clear hq huv z0
  have hNm : 0 ≤ n - 1 ∧ n - 1 < n := by omega
  obtain ⟨ad, hA, -, e0, -⟩ := rd_cells (h.out.below hb.out (Nat.le_refl _)) hNm.2
  obtain ⟨ad2, hA2, -, f0, -⟩ := rd_cells (h.out.below hb.out (Nat.le_refl _)) (show 0 < n by omega)
  have hE : ad = ad2 := by rw [hA] at hA2; injection hA2
  subst hE
  subst hA
  obtain ⟨m, rfl⟩ : ∃ m, n = m + 1 := ⟨n - 1, by omega⟩
  simp only [Nat.add_sub_cancel] at e0
  have hnn2 := hnn.out
  simp only [Nat.add_sub_cancel] at hnn2
  have r1 := okR_reg (hok.out _ (List.getElem_mem (show m < L.length by have := hl.out; omega)))
  have r0 := okR_reg (hok.out _ (List.getElem_mem (show 0 < L.length by have := hl.out; omega)))
  generalize hL9 : (L[m]'(by have := hl.out; omega)).at_ = aL at e0 hnn2 r1
  generalize hF9 : (L[0]'(by have := hl.out; omega)).at_ = aF at f0 hnn2 r0
  obtain ⟨-, -, r3, r4⟩ := r1
  obtain ⟨-, -, r5, r6⟩ := r0
  have haL : aL = aF + NN := by omega
  subst haL
  have hsub : aF + (NN : Int) - aF = NN := by omega
  have hd9 : decide ((20160 : Int) < NN) = false := by simp; omega
  have f1 : w1.cell? ad = some (Value.int .i64 aF) := by rw [Nat.zero_mul, add_none] at f0; exact f0
  have hFst : Hid ((L[0]'(by have := hl.out; omega)).at_ = aF) := hF9
  have hLst : Hid ((L[m]'(by have := hl.out; omega)).at_ = aF + NN) := hL9
  clear hA2 hNm hnn2 hnn f0 hL9 hF9
  gi_wp2
  gi_big_quiet_th (fail)
  have hbq := below_drewN (Below.refl w1.heap.size w1) nq
  replace p0 := Lib.hid (p0.out.below hbq p0.out.lt)
  replace p1 := Lib.hid (p1.out.below hbq p1.out.lt)
  replace p2 := Lib.hid (p2.out.below hbq p2.out.lt)
  replace hb := Lib.hid (hb.out.trans (hbq.mono hb.out.size))
  replace hs1 : s + 1 + 1 + 1 ≤ (w1.drewN nq).heap.size := hs1.out
  replace hs1 := Lib.hid hs1
  clear hbq e0 f1
  generalize w1.drewN nq = w2 at *
  have hmk := made_row (P := Tryd.prog) w2 74 3 i3 _ 1 Tryd.underlying74 hi3.out hz30.out hz31.out 0 NN 0 (NN : Int) rfl rfl (Nat.zero_le _) (by rw [hz32.out]; omega) (by omega)
  have hMs := size_madeCells (Value.int .i64 0).cells (NN * 1)
  obtain ⟨M1, hM1⟩ : ∃ M1, M1 = madeCells (Value.int .i64 0).cells (NN * 1) := ⟨_, rfl⟩
  rw [← hM1] at hmk hMs
  have hR0 : Hid (LOwn iC 1 3 (w2.alloc (.cells M1 3)) w2.heap.size (.slice (some ⟨w2.heap.size, 0, none⟩) 0 NN) []) := made_nil iC_len 3 w2 M1 NN hMs (by simp only [maxLen]; omega)
  clear hMs hM1
  gi_wp2
  refine ⟨trivial, rfl, (near_any _ _ _ _).mono ?_⟩
  rintro e w' ⟨rfl, rfl⟩
  clear hmk
  gi_wp2
  have t7 := Lib.hid ((Blk.new (w2.alloc (.cells M1 3)) 74 #[Value.slice (some ⟨w2.heap.size, 0, none⟩) 0 NN]).alloc (.cells #[Value.slice (some ad) (m + 1) cp] 22))
  have t8 := Lib.hid (Blk.new ((w2.alloc (.cells M1 3)).alloc (.cells #[Value.slice (some ⟨w2.heap.size, 0, none⟩) 0 NN] 74)) 22 #[Value.slice (some ad) (m + 1) cp])
  have hz : Hid ((w2.alloc (.cells M1 3)).heap.size = w2.heap.size + 1 ∧ ((w2.alloc (.cells M1 3)).alloc (.cells #[Value.slice (some ⟨w2.heap.size, 0, none⟩) 0 NN] 74)).heap.size = w2.heap.size + 1 + 1) := by show _ ∧ _; simp
  rw [hz.out.1] at t7
  rw [hz.out.2] at t8
  have hbN : Below w2.heap.size w2 (((w2.alloc (.cells M1 3)).alloc (.cells #[Value.slice (some ⟨w2.heap.size, 0, none⟩) 0 NN] 74)).alloc (.cells #[Value.slice (some ad) (m + 1) cp] 22)) := below_new (below_new (a1 w2 _) _) _
  replace p0 := Lib.hid (p0.out.below hbN p0.out.lt)
  replace p1 := Lib.hid (p1.out.below hbN p1.out.lt)
  replace p2 := Lib.hid (p2.out.below hbN p2.out.lt)
  replace hb := Lib.hid (hb.out.trans (hbN.mono hb.out.size))
  replace hR0 := Lib.hid ((hR0.out.alloc (.cells #[Value.slice (some ⟨w2.heap.size, 0, none⟩) 0 NN] 74)).alloc (.cells #[Value.slice (some ad) (m + 1) cp] 22))
  have hsz : Hid ((((w2.alloc (.cells M1 3)).alloc (.cells #[Value.slice (some ⟨w2.heap.size, 0, none⟩) 0 NN] 74)).alloc (.cells #[Value.slice (some ad) (m + 1) cp] 22)).heap.size = w2.heap.size + 1 + 1 + 1) := by show _ = _; simp
  replace h : Hid (LAt rdC 2 w s (some ad) (m + 1) L) := by show LAt _ _ _ _ _ _ _; rw [hs]; exact h.out
  rw [← hs] at hb ⊢
  clear hbN hz
  obtain ⟨s7, hs7⟩ : ∃ s, s = w2.heap.size := ⟨_, rfl⟩
  rw [← hs7] at t7 t8 hR0 hsz hs1 hb p0 p1 p2 ⊢
  generalize (((w2.alloc (.cells M1 3)).alloc (.cells #[Value.slice (some ⟨s7, 0, none⟩) 0 NN] 74)).alloc (.cells #[Value.slice (some ad) (m + 1) cp] 22)) = w4 at *
  clear hs hs7
  refine range_near (s7 + 1 + 1) s (m + 1) cp (some ad) L rfl rfl (by omega) hn1 (t8.out.cell 0) (h.out.below hb.out (Nat.le_refl _)) (by rw [hsz.out]; have := hs1.out; omega) (fun k W => IM s s7 NN (minR (L.take (k + 1))).length w (minR (L.take (k + 1))) W) ?_ ?_ ?_ ?_
  · intro k X Y row i hg hr
    exact i.step hg (fun r e => by have := hr r e; rw [hsz.out] at this; omega) hs1.out
  · have h0 : minR (L.take (0 + 1)) = [] := by
      cases L with
      | nil => rfl
      | cons x r => simp [minR]
    rw [h0]
    exact ⟨p0.out, p1.out, p2.out, t7.out, hR0.out, rfl, hb.out⟩
  · intro k Wp hI hlt hbs
    have hLl := hl.out
    have hkl : k + 1 < L.length := by omega
    have hst := minR_step L k hkl
    have hx := rdAt_eq L k (by omega)
    have hy := rdAt_eq L (k + 1) hkl
    have ox := okR_reg (hok.out _ (List.getElem_mem (show k < L.length by omega)))
    have oy := okR_reg (hok.out _ (List.getElem_mem hkl))
    have hlk := hml.out k (by omega)
    have hlast := hmo.out (k + 1) m (by omega) (by omega)
    have hll := hasc.out k hkl
    rw [hx, hy]
    clear hx hy
    rw [hFst.out] at hlk
    rw [hLst.out] at hlast
    generalize L[k] = x at *
    generalize L[k + 1] = y at *
    obtain ⟨xa, xr⟩ := x
    obtain ⟨ya, yr⟩ := y
    simp only at ox oy hlk hlast hll
    obtain ⟨len, hlen⟩ : ∃ len : Nat, ya = xa + (len : Int) := ⟨(ya - xa).toNat, by omega⟩
    subst hlen
    have hlen0 : 0 < len := by omega
    have hdl := delta_any xr yr
    have hdi := deltaR_in xr yr
    have hmp : minP ⟨xa, xr⟩ ⟨xa + len, yr⟩ = (List.range len).map fun (i : Nat) => deltaR xr yr * ((i : Int) + 1) / (len : Int) - deltaR xr yr * (i : Int) / (len : Int) := by
      unfold minP
      simp only
      rw [show xa + (len : Int) - xa = (len : Int) by omega, Int.toNat_natCast]
    rw [hmp] at hst
    generalize deltaR xr yr = D at *
    obtain ⟨MK, hMK⟩ : ∃ l, l = minR (L.take (k + 1)) := ⟨_, rfl⟩
    rw [← hMK] at hst hI hlk
    have hroom : MK.length + len ≤ NN := by omega
    replace hdl := Lib.hid (fun w => hdl w ox.1 ox.2.1 oy.1 oy.2.1)
    obtain ⟨hd0, hd1⟩ := hdi
    have hlen28 : (len : Int) ≤ 268435456 := by omega
    have hlsub : xa + (len : Int) - xa = len := by omega
    obtain ⟨-, -, hxa0, hxa1⟩ := ox
    obtain ⟨-, -, hya0, hya1⟩ := oy
    replace hst := Lib.hid hst
    replace hMK := Lib.hid hMK
    replace hbs := Lib.hid hbs
    clear p0 p1 p2 t7 t8 hR0 hb h hok hasc hmo hml hlk hlast hll hLl hmp
    unfold rowR
    rw [hsz.out] at hbs ⊢
    refine ⟨?a1, ?W1, ?asg, ?bl, ?bd⟩
    case asg =>
      intro K hK
      gi_wp2
      exact hK
    case bl => exact below_new (a1 _ _) _
    case bd =>
      intro W2 hI2 hg2
      rw [← hMK.out] at hI2
      have hz2 : (Wp.alloc (.cells #[Value.int .i64 xa, Value.int .i64 xr] 26)).heap.size = Wp.heap.size + 1 := by simp
      have q5 := ((Blk.new Wp 26 #[Value.int .i64 xa, Value.int .i64 xr]).alloc (.cells #[Value.int .i64 (xa + len), Value.int .i64 yr] 26)).grown hg2 (by intro e; injection e with e; have := hbs.out; omega)
      have q6 := (Blk.new (Wp.alloc (.cells #[Value.int .i64 xa, Value.int .i64 xr] 26)) 26 #[Value.int .i64 (xa + len), Value.int .i64 yr]).grown hg2 (by intro e; injection e with e; have := hbs.out; simp at e; omega)
      rw [hz2] at q6
      have hsW : W2.heap.size ≥ Wp.heap.size + 1 + 1 := by have := hg2.size; simp at this; omega
      have c1 := q5.cell 0
      have c2 := q5.cell 1
      have c3 := q6.cell 0
      have c4 := q6.cell 1
      have c5 := hI2.m.cell 0
      have hKp : Hid (KpN (s7 + 1 + 1 + 1) s (s7 + 1 + 1) W2 W2) := ⟨Nat.le_refl _, Below.refl _ _, fun _ _ => rfl⟩
      replace hsW : Hid (s7 + 1 + 1 + 1 + 1 < W2.heap.size) := by show _ < _; have := hbs.out; omega
      replace hI2 := Lib.hid hI2
      replace hI := Lib.hid hI
      replace hg2 := Lib.hid hg2
      clear q5 q6 hz2
      gi_wp2
      refine ⟨trivial, rfl, (CallsIn.inRound _ (callsIn_wide.2 (hdl.out _))).mono ?_⟩; rintro e w5 ⟨rfl, hw5⟩; subst w5
      gi_wp2
      clear c1 c2 c3 c4 c5
      gi_loopw [59] (fun iv wr => ∃ i : Nat, i ≤ len ∧ iv = .int .i64 i ∧ Hid (IM s s7 NN (MK.length + i) w (MK ++ ((List.range len).map fun (i : Nat) => D * ((i : Int) + 1) / (len : Int) - D * (i : Int) / (len : Int)).take i) wr) ∧ Hid (KpN (s7 + 1 + 1 + 1) s (s7 + 1 + 1) W2 wr)) (fun iv _ => len - (intOf iv).toNat)
      case atStart => exact ⟨0, Nat.zero_le _, rfl, by have h9 := hI2.out; rw [List.take_zero, List.append_nil, Nat.add_zero]; exact h9, hKp.out⟩
      case round =>
        clear hKp hI2
        obtain ⟨i, hi, rfl, hM, hKp⟩ := hrel
        by_cases hlt2 : i < len
        · have hi0 : (0 : Int) ≤ i := by omega
          have hi1 : (i : Int) < len := by omega
          obtain ⟨LL, hLL⟩ : ∃ l, l = MK ++ ((List.range len).map fun (i : Nat) => D * ((i : Int) + 1) / (len : Int) - D * (i : Int) / (len : Int)).take i := ⟨_, rfl⟩
          have hLn : MK ++ ((List.range len).map fun (i : Nat) => D * ((i : Int) + 1) / (len : Int) - D * (i : Int) / (len : Int)).take (i + 1) = LL ++ [(D * ((i : Int) + 1) / (len : Int) - D * (i : Int) / (len : Int))] := by
            rw [hLL, List.append_assoc]
            congr 1
            rw [List.take_succ_eq_append_getElem (by simpa using hlt2)]
            simp
          rw [← hLL] at hM
          have hP0 : 0 ≤ D * (i : Int) := Int.mul_nonneg (by omega) (by omega)
          have hP1 : D * ((i : Int) + 1) = D * (i : Int) + D := by rw [Int.mul_add, Int.mul_one]
          have hP2 : D * (i : Int) ≤ 1000000 * 268435456 := Int.mul_le_mul (by omega) (by omega) (by omega) (by omega)
          have hP3 : 0 ≤ D * ((i : Int) + 1) := by omega
          have hP4 : D * ((i : Int) + 1) ≤ 1000000 * 268435457 := by omega
          clear hP1
          have hQ0 : 0 ≤ D * (i : Int) / (len : Int) := Int.ediv_nonneg hP0 (by omega)
          have hQ1 : D * (i : Int) / (len : Int) ≤ D * (i : Int) := Int.ediv_le_self _ hP0
          have hQ2 : 0 ≤ D * ((i : Int) + 1) / (len : Int) := Int.ediv_nonneg (by omega) (by omega)
          have hQ3 : D * ((i : Int) + 1) / (len : Int) ≤ D * ((i : Int) + 1) := Int.ediv_le_self _ (by omega)
          have he0 : Hid ((D * (i : Int)).tdiv (len : Int) = D * (i : Int) / (len : Int)) := Int.tdiv_eq_ediv_of_nonneg hP0
          have he1 : Hid ((D * ((i : Int) + 1)).tdiv (len : Int) = D * ((i : Int) + 1) / (len : Int)) := Int.tdiv_eq_ediv_of_nonneg (by omega)
          have hne : Hid ((len : Int) ≠ 0) := by show _ ≠ _; omega
          have hcell : Hid (∀ wz, Below wr.heap.size wr wz → wz.cell? ⟨s7 + 1, 0, none⟩ = some (Value.slice (some ⟨s7, 0, none⟩) (MK.length + i) NN)) := fun wz h => ((hM.out.t).below h hM.out.t.lt).cell 0
          replace hLn := Lib.hid hLn
          clear hLL
          have hwrs : Hid (s7 + 1 + 1 + 1 + 1 < wr.heap.size) := Nat.lt_of_lt_of_le hsW.out hKp.out.1
          gi_wp2
          refine RUI.region [] [] 14 (F := F22m wr.heap.size s7 (MK.length + i) NN i len D) (W := fun wz => Below wr.heap.size wr wz) (R := fun _ => Rb) rfl F22m_more (by kernel_rfl) (by kernel_rfl) (by kernel_rfl) (by kernel_rfl) (by kernel_rfl) (by kernel_rfl) (fun _ => trivial) ?_ ?_ ?_ ?_
          · exact (Below.refl _ _).drew
          · intro t ht
            unfold F22m
            split <;> first | trivial | exact rfl | (exact absurd ht (by decide))
          · intro i o hi ho
            have hcs : i = 0 ∨ i = 1 ∨ i = 2 ∨ i = 3 ∨ i = 4 ∨ i = 5 ∨ i = 6 ∨ i = 7 ∨ i = 8 ∨ i = 9 ∨ i = 10 ∨ i = 11 ∨ i = 12 ∨ i = 13 := by omega
            rcases hcs with rfl | rfl | rfl | rfl | rfl | rfl | rfl | rfl | rfl | rfl | rfl | rfl | rfl | rfl <;> (injection ho with ho; subst ho)
            · intro a w2 hw _ hf K hK
              have f0 := hf 8 rfl
              simp only [F22m] at f0
              clear hf
              have kb := hcell.out w2 hw
              go_simp
              exact hK _ _ _ rfl rfl hw (Below.refl _ _) (fun h => absurd h (by decide))
            · intro a w2 hw _ hf K hK
              have f0 := hf 11 rfl
              simp only [F22m] at f0
              clear hf
              go_simp
              exact hK _ _ _ rfl rfl hw (Below.refl _ _) (fun h => absurd h (by decide))
            · intro a w2 hw _ hf K hK
              have f0 := hf 14 rfl
              simp only [F22m] at f0
              clear hf
              go_simp
              exact hK _ _ _ rfl rfl hw (Below.refl _ _) (fun h => absurd h (by decide))
            · intro a w2 hw _ hf K hK
              have f0 := hf 64 rfl
              simp only [F22m] at f0
              clear hf
              go_simp
              exact hK _ _ _ rfl (by show _ = _; rw [IntWalk.i64_in _ (by omega)]) hw (Below.refl _ _) (fun h => absurd h (by decide))
            · intro a w2 hw _ hf K hK
              have f0 := hf 63 rfl
              have f1 := hf 65 rfl
              simp only [F22m] at f0 f1
              clear hf
              go_simp
              exact hK _ _ _ rfl (by show _ = _; rw [IntWalk.i64_in _ (by omega)]) hw (Below.refl _ _) (fun h => absurd h (by decide))
            · intro a w2 hw _ hf K hK
              have f0 := hf 13 rfl
              simp only [F22m] at f0
              clear hf
              go_simp
              exact hK _ _ _ rfl rfl hw (Below.refl _ _) (fun h => absurd h (by decide))
            · intro a w2 hw _ hf K hK
              have f0 := hf 66 rfl
              have f1 := hf 67 rfl
              simp only [F22m] at f0 f1
              clear hf
              have e := he1.out
              have e9 : ¬ len = 0 := by omega
              go_simp
              exact hK _ _ _ rfl (by show _ = _; rw [IntWalk.i64_in _ (by omega)]) hw (Below.refl _ _) (fun h => absurd h (by decide))
            · intro a w2 hw _ hf K hK
              have f0 := hf 11 rfl
              simp only [F22m] at f0
              clear hf
              go_simp
              exact hK _ _ _ rfl rfl hw (Below.refl _ _) (fun h => absurd h (by decide))
            · intro a w2 hw _ hf K hK
              have f0 := hf 14 rfl
              simp only [F22m] at f0
              clear hf
              go_simp
              exact hK _ _ _ rfl rfl hw (Below.refl _ _) (fun h => absurd h (by decide))
            · intro a w2 hw _ hf K hK
              have f0 := hf 69 rfl
              have f1 := hf 70 rfl
              simp only [F22m] at f0 f1
              clear hf
              go_simp
              exact hK _ _ _ rfl (by show _ = _; rw [IntWalk.i64_in _ (by omega)]) hw (Below.refl _ _) (fun h => absurd h (by decide))
            · intro a w2 hw _ hf K hK
              have f0 := hf 13 rfl
              simp only [F22m] at f0
              clear hf
              go_simp
              exact hK _ _ _ rfl rfl hw (Below.refl _ _) (fun h => absurd h (by decide))
            · intro a w2 hw _ hf K hK
              have f0 := hf 71 rfl
              have f1 := hf 72 rfl
              simp only [F22m] at f0 f1
              clear hf
              have e := he0.out
              have e9 : ¬ len = 0 := by omega
              go_simp
              exact hK _ _ _ rfl (by show _ = _; rw [IntWalk.i64_in _ (by omega)]) hw (Below.refl _ _) (fun h => absurd h (by decide))
            · intro a w2 hw _ hf K hK
              have f0 := hf 68 rfl
              have f1 := hf 73 rfl
              simp only [F22m] at f0 f1
              clear hf
              go_simp
              exact hK _ _ _ rfl (by show _ = _; rw [IntWalk.i64_in _ (by omega)]) hw (Below.refl _ _) (fun h => absurd h (by decide))
            · intro a w2 hw _ hf K hK
              have f0 := hf 74 rfl
              simp only [F22m] at f0
              clear hf
              go_simp
              exact hK _ _ _ rfl ⟨_, rfl, hw.size, Blk.new w2 3 _⟩ (hw.alloc hw.size _) (a1 w2 _) (fun h => absurd h (by decide))
          · intro a' w9 hd hs hw hout hf
            have h62 := hf 0 62 (by decide) rfl rfl
            simp only [F22m] at h62
            have h75 := hf 13 75 (by decide) rfl rfl
            simp only [F22m] at h75
            have e0 := hout 0 rfl
            have e1 := hout 1 rfl
            have e2 := hout 2 rfl
            have e3 := hout 3 rfl
            have e4 := hout 4 rfl
            have e5 := hout 5 rfl
            have e6 := hout 6 rfl
            have e7 := hout 7 rfl
            have e8 := hout 8 rfl
            have e9 := hout 9 rfl
            have e10 := hout 10 rfl
            have e11 := hout 11 rfl
            have e12 := hout 12 rfl
            have e13 := hout 13 rfl
            have e15 := hout 15 rfl
            have e16 := hout 16 rfl
            have e17 := hout 17 rfl
            have e18 := hout 18 rfl
            have e19 := hout 19 rfl
            have e20 := hout 20 rfl
            have e21 := hout 21 rfl
            have e22 := hout 22 rfl
            have e23 := hout 23 rfl
            have e24 := hout 24 rfl
            have e25 := hout 25 rfl
            have e26 := hout 26 rfl
            have e27 := hout 27 rfl
            have e28 := hout 28 rfl
            have e29 := hout 29 rfl
            have e30 := hout 30 rfl
            have e31 := hout 31 rfl
            have e32 := hout 32 rfl
            have e33 := hout 33 rfl
            have e34 := hout 34 rfl
            have e35 := hout 35 rfl
            have e36 := hout 36 rfl
            have e37 := hout 37 rfl
            have e38 := hout 38 rfl
            have e39 := hout 39 rfl
            have e40 := hout 40 rfl
            have e41 := hout 41 rfl
            have e42 := hout 42 rfl
            have e43 := hout 43 rfl
            have e44 := hout 44 rfl
            have e45 := hout 45 rfl
            have e46 := hout 46 rfl
            have e47 := hout 47 rfl
            have e48 := hout 48 rfl
            have e49 := hout 49 rfl
            have e50 := hout 50 rfl
            have e51 := hout 51 rfl
            have e52 := hout 52 rfl
            have e53 := hout 53 rfl
            have e54 := hout 54 rfl
            have e55 := hout 55 rfl
            have e56 := hout 56 rfl
            have e57 := hout 57 rfl
            have e58 := hout 58 rfl
            have e59 := hout 59 rfl
            have e78 := hout 78 rfl
            simp only [List.getElem?_toArray, List.getElem?_cons_succ, List.getElem?_cons_zero] at e0 e1 e2 e3 e4 e5 e6 e7 e8 e9 e10 e11 e12 e13 e15 e16 e17 e18 e19 e20 e21 e22 e23 e24 e25 e26 e27 e28 e29 e30 e31 e32 e33 e34 e35 e36 e37 e38 e39 e40 e41 e42 e43 e44 e45 e46 e47 e48 e49 e50 e51 e52 e53 e54 e55 e56 e57 e58 e59 e78
            obtain ⟨tm, df⟩ := a'
            simp only at hd hs h62 h75 e0 e1 e2 e3 e4 e5 e6 e7 e8 e9 e10 e11 e12 e13 e15 e16 e17 e18 e19 e20 e21 e22 e23 e24 e25 e26 e27 e28 e29 e30 e31 e32 e33 e34 e35 e36 e37 e38 e39 e40 e41 e42 e43 e44 e45 e46 e47 e48 e49 e50 e51 e52 e53 e54 e55 e56 e57 e58 e59 e78
            have e := F22m_lit tm hs
            simp only [h62, e0, e1, e2, e3, e4, e5, e6, e7, e8, e9, e10, e11, e12, e13, e15, e16, e17, e18, e19, e20, e21, e22, e23, e24, e25, e26, e27, e28, e29, e30, e31, e32, e33, e34, e35, e36, e37, e38, e39, e40, e41, e42, e43, e44, e45, e46, e47, e48, e49, e50, e51, e52, e53, e54, e55, e56, e57, e58, e59, e78, Option.getD_some] at e
            clear hf hout hs
            rw [e, hd]
            clear e hd h62 e0 e1 e2 e3 e4 e5 e6 e7 e8 e9 e10 e11 e12 e13 e15 e16 e17 e18 e19 e20 e21 e22 e23 e24 e25 e26 e27 e28 e29 e30 e31 e32 e33 e34 e35 e36 e37 e38 e39 e40 e41 e42 e43 e44 e45 e46 e47 e48 e49 e50 e51 e52 e53 e54 e55 e56 e57 e58 e59 e78
            generalize tm[75]?.getD undef = u75x at h75 ⊢
            generalize tm[14]?.getD undef = u14x, tm[60]?.getD undef = u60x, tm[61]?.getD undef = u61x, tm[63]?.getD undef = u63x, tm[64]?.getD undef = u64x, tm[65]?.getD undef = u65x, tm[66]?.getD undef = u66x, tm[67]?.getD undef = u67x, tm[68]?.getD undef = u68x, tm[69]?.getD undef = u69x, tm[70]?.getD undef = u70x, tm[71]?.getD undef = u71x, tm[72]?.getD undef = u72x, tm[73]?.getD undef = u73x, tm[74]?.getD undef = u74x, tm[76]?.getD undef = u76x, tm[77]?.getD undef = u77x
            have hkw := Lib.hid hw
            clear hcell hw he0 he1
            have hM9 := Lib.hid (hM.out.step (only_of_below hkw.out none) (fun r e => by cases e) hs1.out)
            have hK9 := Lib.hid (hKp.out.grown (only_of_below hkw.out none) (fun r e => by cases e) (by have := hwrs.out; omega) (by have := hwrs.out; omega) (by have := hs1.out; omega))
            have hz9 : Hid (s7 + 1 + 1 + 1 + 1 < w9.heap.size) := Nat.lt_of_lt_of_le hwrs.out hkw.out.size
            clear hM hKp hkw hwrs
            obtain ⟨g75, rfl, hg75, hB75⟩ := h75
            have hrd := Lib.hid (lat_blk iC_len hB75 [(D * ((i : Int) + 1) / (len : Int) - D * (i : Int) / (len : Int))] 1 rfl (by simp [flat, iC])).2
            clear hB75 hg75
            simp only [List.drop_succ_cons, List.drop_zero]
            gi_wp2_with (gi_at_builtin
                         refine wpListIn_append_in rfl (.tmp 62) (.tmp 75) _ rfl s7 3 i3 Tryd.underlying74 hi3.out hz31.out s7 (MK.length + i) NN rfl hM9.out.o hM9.out.ml _ (some ⟨g75, 0, none⟩) 1 1 rfl hrd.out rfl (iC_one _) (by omega) ?_
                         intro w10 hown1 hg1
                         have hA := Lib.hid (hM9.out.app hg1 hown1 hs1.out)
                         have t10 := hM9.out.t.grown hg1 (by intro e; injection e with e; omega)
                         have hK10 := Lib.hid ((hK9.out.grown hg1 (fun r e => by injection e with e; have := hs1.out; omega) (by have := hz9.out; omega) (by have := hz9.out; omega) (by have := hs1.out; omega)).grown (only_set (World.grownBy.refl w10 (some (s7 + 1))) 0 (Value.slice (some ⟨s7, 0, none⟩) (MK.length + i + 1) NN)) (fun r e => by injection e with e; have := hs1.out; omega) (by have := hz9.out; have := hg1.size; omega) (by have := hz9.out; have := hg1.size; omega) (by have := hs1.out; omega))
                         have kc := t10.cell 0
                         have kf := t10.frozen 0
                         clear hown1 hg1 t10)
            go_roundw
            case rel => exact ⟨i + 1, by omega, by go_num, by rw [hLn.out]; exact hA.out, hK10.out⟩
            case measure => simp [intOf]; omega
        · have hie : i = len := by omega
          subst hie
          gi_wp2
          refine ⟨?_, hKp.out⟩
          rw [hst.out]
          have hM9 := hM.out
          rw [List.take_of_length_le (by simp)] at hM9
          have : (MK ++ (List.range i).map fun (j : Nat) => D * ((j : Int) + 1) / (i : Int) - D * (j : Int) / (i : Int)).length = MK.length + i := by simp
          rw [this]
          exact hM9
  · intro W hI hK
    have hfull : L.take (m + 1 - 1 + 1) = L := List.take_of_length_le (by have := hl.out; omega)
    rw [hfull, ← hNN.out] at hI
    obtain ⟨i0, i1, i2, i3x, i4, i5, i6⟩ := hI
    obtain ⟨y0, y1, y2, y3, y4⟩ := (show W.cell? ⟨s + 1, 0, none⟩ = some (Value.slice none 0 0) ∧ W.cell? ⟨s + 1 + 1, 0, none⟩ = some (Value.int .i64 0) ∧ W.cell? ⟨s7 + 1, 0, none⟩ = some (Value.slice (some ⟨s7, 0, none⟩) NN NN) ∧ W.frozen? ⟨s + 1, 0, none⟩ = false ∧ W.frozen? ⟨s + 1 + 1, 0, none⟩ = false from ⟨i1.cell 0, i2.cell 0, i3x.cell 0, i1.frozen 0, i2.frozen 0⟩)
    replace i0 := Lib.hid i0
    replace i1 := Lib.hid i1
    replace i2 := Lib.hid i2
    replace i3x := Lib.hid i3x
    replace i4 := Lib.hid i4
    replace i5 := Lib.hid i5
    gi_wp2
    have hK2 := (KeepsOthers.setCell (W.setCell ⟨s + 1, 0, none⟩ (Value.slice (some ⟨s7, 0, none⟩) NN NN)) ⟨s + 1 + 1, 0, none⟩ (Value.int .i64 0)).same _ _ ((KeepsOthers.setCell W ⟨s + 1, 0, none⟩ (Value.slice (some ⟨s7, 0, none⟩) NN NN)).same _ _ hK rfl) rfl
    have z0 : Blk ((W.setCell ⟨s + 1, 0, none⟩ (Value.slice (some ⟨s7, 0, none⟩) NN NN)).setCell ⟨s + 1 + 1, 0, none⟩ (Value.int .i64 0)) (s + 1) 74 #[Value.slice (some ⟨s7, 0, none⟩) NN NN] := by
      have := ((i1.out.set_ 0 (Value.slice (some ⟨s7, 0, none⟩) NN NN)).far (p := ⟨s + 1 + 1, 0, none⟩) (by simp) (Value.int .i64 0))
      simpa using this
    have z1 : Blk ((W.setCell ⟨s + 1, 0, none⟩ (Value.slice (some ⟨s7, 0, none⟩) NN NN)).setCell ⟨s + 1 + 1, 0, none⟩ (Value.int .i64 0)) (s + 1 + 1) 23 #[Value.int .i64 0] := by
      have := ((i2.out.far (p := ⟨s + 1, 0, none⟩) (by simp) (Value.slice (some ⟨s7, 0, none⟩) NN NN)).set_ 0 (Value.int .i64 0))
      simpa using this
    have zb : Below s w ((W.setCell ⟨s + 1, 0, none⟩ (Value.slice (some ⟨s7, 0, none⟩) NN NN)).setCell ⟨s + 1 + 1, 0, none⟩ (Value.int .i64 0)) := below_set (below_set i6 (by omega) 0 _) (by omega) 0 _
    have hss := hs1.out
    have zo : LOwn iC 1 3 ((W.setCell ⟨s + 1, 0, none⟩ (Value.slice (some ⟨s7, 0, none⟩) NN NN)).setCell ⟨s + 1 + 1, 0, none⟩ (Value.int .i64 0)) s7 (Value.slice (some ⟨s7, 0, none⟩) NN NN) (minR L) := (i4.out.grownn (only_set (World.grownBy.refl W (some (s + 1))) 0 _) (by intro e; injection e with e; omega)).grownn (only_set (World.grownBy.refl _ (some (s + 1 + 1))) 0 _) (by intro e; injection e with e; omega)
    generalize ((W.setCell ⟨s + 1, 0, none⟩ (Value.slice (some ⟨s7, 0, none⟩) NN NN)).setCell ⟨s + 1 + 1, 0, none⟩ (Value.int .i64 0)) = W' at hK2 z0 z1 zb zo ⊢
    refine ⟨by simp, .inl ⟨_, _, rfl, run_takeDeferred hK2, ?_⟩⟩
    have hg := grownBy_putObj' W' w4.heap.size (.deferred none)
    have e0 := (z0.grown hg (by intro e; injection e with e; have := hsz.out; omega)).cell 0
    have e1 := (z1.grown hg (by intro e; injection e with e; have := hsz.out; omega)).cell 0
    have zo2 := (zo.grownn hg (by intro e; injection e with e; have := hsz.out; omega)).reads hNN.out
    refine ⟨.tuple #[Value.slice (some ⟨s7, 0, none⟩) NN NN, .int .i64 0], ?_, ⟨s7, rfl, by rw [← hs2.out]; omega, zo2⟩, by rw [← hs2.out]; exact zb.grown hg (by have := z0.lt; omega) (fun r e => by cases e; have := hsz.out; omega)⟩
    simp at e0 e1
    simp [results, Tryd.results22, go_sem, e0, e1]
end Go.Proofs.YtbngclibfnnejaaDoor
