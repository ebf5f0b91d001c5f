/- Readings: the total, walked. -/
import Derived.Test.YtbngclibfnnejaaDoorBF
set_option linter.unusedVariables false
set_option linter.unusedSimpArgs false
namespace Go.Proofs.YtbngclibfnnejaaDoor
open Go.RowKit Go.Shelf
attribute [local go_sem] Oper.semAt_some
def totalR : List Rd → Int
  | x :: y :: r => deltaR x.reg y.reg + totalR (y :: r)
  | _ => 0
theorem vGo_ok : ∀ (L : List Rd) (p : Option Int), vGo p L = 0 → ∀ x ∈ L, okR x = true := by
  intro L
  induction L with
  | nil => intro p _ x hx; simp at hx
  | cons a r ih =>
    intro p h x hx
    unfold vGo at h
    split at h
    · cases h
    · rename_i h1
      split at h
      · cases h
      · rcases List.mem_cons.1 hx with rfl | hx
        · simpa using h1
        · exact ih _ h x hx
theorem okR_reg {x : Rd} (h : okR x = true) : 0 ≤ x.reg ∧ x.reg < 1000000 ∧ 0 ≤ x.at_ ∧ x.at_ ≤ 268435456 := by unfold okR at h; simp at h; omega
theorem totalR_step : ∀ (L : List Rd) (k : Nat) (h : k + 1 < L.length), totalR (L.take (k + 1 + 1)) = totalR (L.take (k + 1)) + deltaR (L[k]'(by omega)).reg (L[k + 1]'h).reg := by
  intro L
  induction L with
  | nil => intro k h; simp at h
  | cons x r ih =>
    intro k h
    cases r with
    | nil => simp at h
    | cons y r =>
      cases k with
      | zero => simp [totalR]
      | succ k =>
        have h9 := ih k (by simpa using h)
        simp only [List.take_succ_cons, List.getElem_cons_succ, totalR] at h9 ⊢
        rw [h9]
        omega
theorem deltaR_in (a b : Int) : 0 ≤ deltaR a b ∧ deltaR a b < 1000000 := by unfold deltaR; omega
theorem totalR_in (L : List Rd) : 0 ≤ totalR L ∧ totalR L ≤ 1000000 * (L.length : Int) := by
  induction L with
  | nil => simp [totalR]
  | cons x r ih =>
    cases r with
    | nil => simp [totalR]
    | cons y r =>
      have := deltaR_in x.reg y.reg
      simp only [totalR, List.length_cons] at ih ⊢
      omega
/-- what the variables of Total hold between two rounds -/
structure IT (s s7 : Nat) (w : World) (L : List Rd) (k : Nat) (W : World) : Prop where
  m : Blk W s 3 #[Value.int .i64 1000000]
  r0 : Blk W (s + 1) 3 #[Value.int .i64 0]
  r1 : Blk W (s + 1 + 1) 23 #[Value.int .i64 0]
  t : Blk W s7 3 #[Value.int .i64 (totalR (L.take (k + 1)))]
  b : Below s w W
set_option maxRecDepth 100000 in
set_option maxHeartbeats 4000000 in
theorem total_any (A : Option Addr) (n cp : Nat) (L : List Rd) (w : World) (h : RdAt w A n L) (hn1 : 1 ≤ n) (hn : n ≤ 60) (hv : vGo none L = 0) : Calls Tryd.prog 7 #[.slice A n cp, .int .i64 1000000] w fun e w' => e = .returned (.tuple #[.int .i64 (totalR L), .int .i64 0]) ∧ Below w.heap.size w w' := by
  refine (callsIn_wide (n := 0)).1 ?_
  have hl := Lib.hid h.len
  obtain ⟨s, hs⟩ : ∃ s, s = w.heap.size := ⟨_, rfl⟩
  refine callsIn_of_wp_marks Tryd.func7 rfl trivial ?_ rfl
  simp only [Tryd.ntmps7, List.size_toArray, List.length_cons, List.length_nil, Nat.reduceAdd, Nat.reduceSub, Array.replicate_succ, Array.replicate_zero, List.push_toArray, List.append_toArray, List.nil_append, List.cons_append]
  have q0 := Blk.new w 3 #[Value.int .i64 1000000]
  have q1 := Blk.new (w.alloc (.cells #[Value.int .i64 1000000] 3)) 3 #[Value.int .i64 0]
  have q2 := Blk.new ((w.alloc (.cells #[Value.int .i64 1000000] 3)).alloc (.cells #[Value.int .i64 0] 3)) 23 #[Value.int .i64 0]
  simp only [World.size_alloc] at q1 q2
  rw [← hs] at q0 q1 q2
  have hb0 : Below w.heap.size w (((w.alloc (.cells #[Value.int .i64 1000000] 3)).alloc (.cells #[Value.int .i64 0] 3)).alloc (.cells #[Value.int .i64 0] 23)) := below_new (below_new (a1 w _) _) _
  have p0 := Lib.hid ((q0.alloc (.cells #[Value.int .i64 0] 3)).alloc (.cells #[Value.int .i64 0] 23))
  have p1 := Lib.hid (q1.alloc (.cells #[Value.int .i64 0] 23))
  have p2 := Lib.hid q2
  have huv := uvalid_any A n cp L (((w.alloc (.cells #[Value.int .i64 1000000] 3)).alloc (.cells #[Value.int .i64 0] 3)).alloc (.cells #[Value.int .i64 0] 23)) (h.more hb0) hn1 hn
  rw [hv] at huv
  replace huv := Lib.hid huv
  have hb := Lib.hid hb0
  have hok := Lib.hid (vGo_ok L none hv)
  replace h := Lib.hid h
  have hs2 := Lib.hid hs
  clear q0 q1 q2 hb0 hv
  have z0 := p0.out.cell 0
  gi_wp2
  refine ⟨trivial, rfl, (callsIn_wide.2 huv.out).mono ?_⟩; rintro e w1 ⟨rfl, hq⟩
  have hg1 := hq
  replace p0 := Lib.hid (p0.out.below hq p0.out.lt)
  replace p1 := Lib.hid (p1.out.below hq p1.out.lt)
  replace p2 := Lib.hid (p2.out.below hq p2.out.lt)
  replace hb := Lib.hid (hb.out.trans (hq.mono hb.out.size))
  have hs1 : s + 1 + 1 + 1 ≤ w1.heap.size := by have := hq.size; simp at this; omega
  replace hs1 := Lib.hid hs1
  clear hq hg1 huv z0
  gi_wp2
  refine ⟨trivial, rfl, (near_any _ _ _ _).mono ?_⟩
  rintro e w' ⟨rfl, rfl⟩
  gi_wp2
  have t7 := Lib.hid ((Blk.new w1 3 #[Value.int .i64 0]).alloc (.cells #[Value.slice A n cp] 22))
  have t8 := Blk.new (w1.alloc (.cells #[Value.int .i64 0] 3)) 22 #[Value.slice A n cp]
  simp only [World.size_alloc] at t8
  have hbN : Below w1.heap.size w1 ((w1.alloc (.cells #[Value.int .i64 0] 3)).alloc (.cells #[Value.slice A n cp] 22)) := below_new (a1 w1 _) _
  replace p0 := Lib.hid (p0.out.below hbN p0.out.lt)
  replace p1 := Lib.hid (p1.out.below hbN p1.out.lt)
  replace p2 := Lib.hid (p2.out.below hbN p2.out.lt)
  replace hb := Lib.hid (hb.out.trans (hbN.mono hb.out.size))
  have hsz : Hid (((w1.alloc (.cells #[Value.int .i64 0] 3)).alloc (.cells #[Value.slice A n cp] 22)).heap.size = w1.heap.size + 1 + 1) := by show _ = _; simp
  replace h : Hid (LAt rdC 2 w s A n L) := by show LAt _ _ _ _ _ _ _; rw [hs]; exact h.out
  rw [← hs] at hb ⊢
  clear hbN
  replace t8 := Lib.hid t8
  obtain ⟨s7, hs7⟩ : ∃ s, s = w1.heap.size := ⟨_, rfl⟩
  rw [← hs7] at t7 t8 hsz hs1 ⊢
  generalize ((w1.alloc (.cells #[Value.int .i64 0] 3)).alloc (.cells #[Value.slice A n cp] 22)) = w4 at *
  clear hs hs7
  have hT0 : totalR (L.take (0 + 1)) = 0 := by
    cases L with
    | nil => rfl
    | cons x r => simp [totalR]
  refine range_near (s7 + 1) s n cp A L rfl rfl (by omega) hn1 (t8.out.cell 0) (h.out.below hb.out (Nat.le_refl _)) (by rw [hsz.out]; have := hs1.out; omega) (IT s s7 w L) ?_ ⟨p0.out, p1.out, p2.out, by rw [hT0]; exact t7.out, hb.out⟩ ?_ ?_
  · rintro k X Y row ⟨i0, i1, i2, i3, i4⟩ hg hr
    have hss := hs1.out
    have hne : ∀ b, b < s7 + 1 + 1 → some b ≠ row := fun b hb e => by have := hr b e.symm; rw [hsz.out] at this; omega
    exact ⟨i0.grown hg (hne _ (by omega)), i1.grown hg (hne _ (by omega)), i2.grown hg (hne _ (by omega)), i3.grown hg (hne _ (by omega)), i4.grown hg (by have := i0.lt; omega) (fun r e => by have := hr r e; rw [hsz.out] at this; omega)⟩
  · intro k Wp hI hlt hbs
    have hkl : k + 1 < L.length := by have := hl.out; omega
    have hst := totalR_step L k hkl
    have hx := rdAt_eq L k (by omega)
    have hy := rdAt_eq L (k + 1) hkl
    have ox := okR_reg (hok.out _ (List.getElem_mem (show k < L.length by omega)))
    have oy := okR_reg (hok.out _ (List.getElem_mem hkl))
    have hin := totalR_in (L.take (k + 1))
    have hle : ((L.take (k + 1)).length : Int) ≤ 60 := by have := hl.out; simp; omega
    rw [hx, hy]
    clear hx hy
    generalize L[k] = x at *
    generalize L[k + 1] = y at *
    have hdl := delta_any x.reg y.reg
    have hdi := deltaR_in x.reg y.reg
    generalize deltaR x.reg y.reg = D at *
    generalize hTT : totalR (L.take (k + 1)) = T at hst hin
    replace hdl := Lib.hid (fun w => hdl w ox.1 ox.2.1 oy.1 oy.2.1)
    obtain ⟨hd0, hd1⟩ := hdi
    obtain ⟨hT0', hT1'⟩ := hin
    have hT2 : T ≤ 60000000 := by omega
    replace hst := Lib.hid hst
    replace hI := Lib.hid hI
    replace hTT := Lib.hid hTT
    replace hbs := Lib.hid hbs
    clear ox oy hT0 hT1' hle p0 p1 p2 t7 t8 hb h hok
    unfold rowR
    rw [hsz.out] at hbs ⊢
    refine ⟨{ tmps := #[.slice A n cp, .int .i64 1000000, undef, .pointer (some ⟨s, 0, none⟩), .pointer (some ⟨s + 1, 0, none⟩), .pointer (some ⟨s + 1 + 1, 0, none⟩), .int .i64 0, .pointer (some ⟨s7, 0, none⟩), .pointer (some ⟨Wp.heap.size, 0, none⟩), .pointer (some ⟨Wp.heap.size + 1, 0, none⟩), undef, undef, .slice A n cp, .int .i64 1000000, .int .i64 0, .int .i64 0, .bool false, undef, .slice A n cp, .func (.func 40) #[] #[.pointer (some ⟨s7 + 1, 0, none⟩)], .agg #[Value.int .i64 x.at_, Value.int .i64 x.reg], .agg #[Value.int .i64 y.at_, Value.int .i64 y.reg], undef, undef, undef, undef, undef, undef, undef, undef, undef, undef, undef, undef, undef, undef, undef, undef], defers := [] }, ((Wp.alloc (.cells #[Value.int .i64 x.at_, Value.int .i64 x.reg] 26)).alloc (.cells #[Value.int .i64 y.at_, Value.int .i64 y.reg] 26)), fun K hK => ?_, below_new (a1 _ _) _, fun W2 hI2 hg2 => ?_⟩
    · gi_wp2
      exact hK
    have hz2 : (Wp.alloc (.cells #[Value.int .i64 x.at_, Value.int .i64 x.reg] 26)).heap.size = Wp.heap.size + 1 := by simp
    have q5 := ((Blk.new Wp 26 #[Value.int .i64 x.at_, Value.int .i64 x.reg]).alloc (.cells #[Value.int .i64 y.at_, Value.int .i64 y.reg] 26)).grown hg2 (by intro e; injection e with e; have := hbs.out; omega)
    have q6 := (Blk.new (Wp.alloc (.cells #[Value.int .i64 x.at_, Value.int .i64 x.reg] 26)) 26 #[Value.int .i64 y.at_, Value.int .i64 y.reg]).grown hg2 (by intro e; injection e with e; have := hbs.out; simp at e; omega)
    rw [hz2] at q6
    have hsW : W2.heap.size ≥ Wp.heap.size + 1 + 1 := by have := hg2.size; simp at this; omega
    obtain ⟨i0, i1, i2, i3, i4⟩ := hI2
    have c1 := q5.cell 1
    have c2 := q6.cell 1
    have c3 := i0.cell 0
    have c7 : W2.cell? ⟨s7, 0, none⟩ = some (Value.int .i64 T) := by have := i3.cell 0; rw [hTT.out] at this; exact this
    have c8 := i3.frozen 0
    have hbs2 := hbs.out
    have hss := hs1.out
    replace i0 := Lib.hid i0
    replace i1 := Lib.hid i1
    replace i2 := Lib.hid i2
    replace i3 := Lib.hid i3
    replace i4 := Lib.hid i4
    replace hg2 := Lib.hid hg2
    replace hbs2 := Lib.hid hbs2
    replace hsW := Lib.hid hsW
    replace hss := Lib.hid hss
    clear q5 q6 hz2
    gi_wp2
    refine ⟨trivial, rfl, (CallsIn.inRound _ (callsIn_wide.2 (hdl.out _))).mono ?_⟩; rintro e w5 ⟨rfl, hw5⟩; subst w5
    gi_wp2
    have z0 := i0.out.far (p := ⟨s7, 0, none⟩) (by have := hss.out; simp; omega) (Value.int .i64 (T + D))
    have z1 := i1.out.far (p := ⟨s7, 0, none⟩) (by have := hss.out; simp; omega) (Value.int .i64 (T + D))
    have z2 := i2.out.far (p := ⟨s7, 0, none⟩) (by have := hss.out; simp; omega) (Value.int .i64 (T + D))
    have z3 : Blk (W2.setCell ⟨s7, 0, none⟩ (Value.int .i64 (T + D))) s7 3 #[Value.int .i64 (totalR (L.take (k + 1 + 1)))] := by rw [hst.out]; have := i3.out.set_ 0 (Value.int .i64 (T + D)); simpa using this
    refine ⟨⟨z0, z1, z2, z3, below_set i4.out (by have := hss.out; omega) 0 _⟩, by simp, below_set (Below.refl _ _) (by have := hss.out; omega) 0 _, fun b hb => ?_⟩
    exact Below.heap_setCell _ _ _ b (by show b ≠ s7; have := hsz.out; omega)
  · intro W hI hK
    obtain ⟨i0, i1, i2, i3, i4⟩ := hI
    have hfull : L.take (n - 1 + 1) = L := List.take_of_length_le (by have := hl.out; omega)
    rw [hfull] at i3
    obtain ⟨y0, y1, y2, y3, y4⟩ := (show W.cell? ⟨s + 1, 0, none⟩ = some (Value.int .i64 0) ∧ W.cell? ⟨s + 1 + 1, 0, none⟩ = some (Value.int .i64 0) ∧ W.cell? ⟨s7, 0, none⟩ = some (Value.int .i64 (totalR L)) ∧ W.frozen? ⟨s + 1, 0, none⟩ = false ∧ W.frozen? ⟨s + 1 + 1, 0, none⟩ = false from ⟨i1.cell 0, i2.cell 0, i3.cell 0, i1.frozen 0, i2.frozen 0⟩)
    replace i0 := Lib.hid i0
    replace i1 := Lib.hid i1
    replace i2 := Lib.hid i2
    replace i3 := Lib.hid i3
    gi_wp2
    have hK2 := (KeepsOthers.setCell (W.setCell ⟨s + 1, 0, none⟩ (Value.int .i64 (totalR L))) ⟨s + 1 + 1, 0, none⟩ (Value.int .i64 0)).same _ _ ((KeepsOthers.setCell W ⟨s + 1, 0, none⟩ (Value.int .i64 (totalR L))).same _ _ hK rfl) rfl
    have z0 : Blk ((W.setCell ⟨s + 1, 0, none⟩ (Value.int .i64 (totalR L))).setCell ⟨s + 1 + 1, 0, none⟩ (Value.int .i64 0)) (s + 1) 3 #[Value.int .i64 (totalR L)] := by
      have := ((i1.out.set_ 0 (Value.int .i64 (totalR L))).far (p := ⟨s + 1 + 1, 0, none⟩) (by simp) (Value.int .i64 0))
      simpa using this
    have z1 : Blk ((W.setCell ⟨s + 1, 0, none⟩ (Value.int .i64 (totalR L))).setCell ⟨s + 1 + 1, 0, none⟩ (Value.int .i64 0)) (s + 1 + 1) 23 #[Value.int .i64 0] := by
      have := ((i2.out.far (p := ⟨s + 1, 0, none⟩) (by simp) (Value.int .i64 (totalR L))).set_ 0 (Value.int .i64 0))
      simpa using this
    have zb : Below s w ((W.setCell ⟨s + 1, 0, none⟩ (Value.int .i64 (totalR L))).setCell ⟨s + 1 + 1, 0, none⟩ (Value.int .i64 0)) := below_set (below_set i4 (by omega) 0 _) (by omega) 0 _
    generalize ((W.setCell ⟨s + 1, 0, none⟩ (Value.int .i64 (totalR L))).setCell ⟨s + 1 + 1, 0, none⟩ (Value.int .i64 0)) = W' at hK2 z0 z1 zb ⊢
    refine ⟨by simp, .inl ⟨_, _, rfl, run_takeDeferred hK2, ?_⟩⟩
    have hg := grownBy_putObj' W' w4.heap.size (.deferred none)
    have hss := hs1.out
    have e0 := (z0.grown hg (by intro e; injection e with e; have := hsz.out; omega)).cell 0
    have e1 := (z1.grown hg (by intro e; injection e with e; have := hsz.out; omega)).cell 0
    refine ⟨.tuple #[.int .i64 (totalR L), .int .i64 0], ?_, rfl, by rw [← hs2.out]; exact zb.grown hg (by have := z0.lt; omega) (fun r e => by cases e; have := hsz.out; omega)⟩
    simp at e0 e1
    simp [results, Tryd.results7, go_sem, e0, e1]
end Go.Proofs.YtbngclibfnnejaaDoor
