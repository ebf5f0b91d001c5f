/- Replicated servers: the reference's Tick, walked. -/
import Derived.Test.YtiapeenfggjpnaaQB
import Derived.Test.YtiapeenfggjpnaaPP
set_option linter.unusedVariables false
set_option linter.unusedSimpArgs false
namespace Go.Proofs.Ytiapeenfggjpnaa
open Go.RowKit
def F34b (g9 g n cap k ln lc base : Nat) (lA : Option Addr) (view : Int) (lv : List En) : Tmp → Value → World → Prop
  | 3, v, _ => v = .pointer (some ⟨g9, 0, none⟩)
  | 4, v, _ => v = .slice lA ln lc
  | 5, v, _ => v = .int .i64 (k : Int)
  | 52, v, _ => v = .pointer (some ⟨g9, 3, none⟩)
  | 53, v, _ => v = .slice (some ⟨g, 0, none⟩) n cap
  | 54, v, _ => v = .int .i64 (k : Int)
  | 55, v, _ => v = .pointer (some ⟨g9, 1, none⟩)
  | 56, v, _ => v = .int .i64 view
  | 57, v, _ => v = .slice lA ln lc
  | 58, v, w => LogV base ln lv v w
  | 59, v, w => SvB base ln view lv v w
  | _, _, _ => True
theorem F34b_more {g9 g n cap k ln lc base : Nat} {lA : Option Addr} {view : Int} {lv : List En} (d t : Tmp) (v : Value) (w w' : World) (hR : Rb w w') (hne : t ≠ d) (hc : ([] : List (Tmp × Tmp)).contains (d, t) = false) (h : F34b g9 g n cap k ln lc base lA view lv t v w) : F34b g9 g n cap k ln lc base lA view lv t v w' := by
  unfold F34b at *
  split at h <;> first | exact h | exact LogV.more h hR | exact fun hg => LogV.more (h hg) hR | exact SvB.more h hR | exact fun hg => SvB.more (h hg) hR
theorem F34b_lit (tm : Array Value) (hs : tm.size = 65) : tm = #[tm[0]?.getD undef, tm[1]?.getD undef, tm[2]?.getD undef, tm[3]?.getD undef, tm[4]?.getD undef, tm[5]?.getD undef, tm[6]?.getD undef, tm[7]?.getD undef, tm[8]?.getD undef, tm[9]?.getD undef, tm[10]?.getD undef, tm[11]?.getD undef, tm[12]?.getD undef, tm[13]?.getD undef, tm[14]?.getD undef, tm[15]?.getD undef, tm[16]?.getD undef, tm[17]?.getD undef, tm[18]?.getD undef, tm[19]?.getD undef, tm[20]?.getD undef, tm[21]?.getD undef, tm[22]?.getD undef, tm[23]?.getD undef, tm[24]?.getD undef, tm[25]?.getD undef, tm[26]?.getD undef, tm[27]?.getD undef, tm[28]?.getD undef, tm[29]?.getD undef, tm[30]?.getD undef, tm[31]?.getD undef, tm[32]?.getD undef, tm[33]?.getD undef, tm[34]?.getD undef, tm[35]?.getD undef, tm[36]?.getD undef, tm[37]?.getD undef, tm[38]?.getD undef, tm[39]?.getD undef, tm[40]?.getD undef, tm[41]?.getD undef, tm[42]?.getD undef, tm[43]?.getD undef, tm[44]?.getD undef, tm[45]?.getD undef, tm[46]?.getD undef, tm[47]?.getD undef, tm[48]?.getD undef, tm[49]?.getD undef, tm[50]?.getD undef, tm[51]?.getD undef, tm[52]?.getD undef, tm[53]?.getD undef, tm[54]?.getD undef, tm[55]?.getD undef, tm[56]?.getD undef, tm[57]?.getD undef, tm[58]?.getD undef, tm[59]?.getD undef, tm[60]?.getD undef, tm[61]?.getD undef, tm[62]?.getD undef, tm[63]?.getD undef, tm[64]?.getD undef] := lit_arr tm 65 hs
set_option maxRecDepth 100000 in
set_option maxHeartbeats 8000000 in
theorem rtick_any (k : Cm) (w : World) {Q : Nat → Prop} (h : CmAt w Q k) (hs : CmSm2 k) (hp1 : k.primary < k.n) (hv : 1 ≤ k.view ∧ k.view ≤ 2147483647) (hpup0 : ∀ p, primOf k.val = some p → p.up = true) :
    Calls Try.prog 34 #[clV k] w fun e w' => ResT Q w w' (tickC k.val) e ∧ Below w.heap.size w w' := by
  obtain ⟨r, hr⟩ : ∃ r, r = tickC k.val := ⟨_, rfl⟩
  rw [← hr]
  have hl : Hid (k.servers.length = k.n) := h.len
  have hcm := Lib.hid h.lt
  have hpu := Lib.hid hpup0
  have hs1 : Hid (CmSm k) := ⟨hs.1, Nat.le_trans hs.2.1 (by decide), fun s hx => ⟨(hs.2.2 s hx).1, Nat.le_trans (hs.2.2 s hx).2 (by decide)⟩⟩
  obtain ⟨hn1, hn7, hsm⟩ := hs
  have e : k.val.servers.length = k.n := by show (k.servers.map Sm.val).length = _; rw [List.length_map]; exact hl.out
  obtain ⟨mj, hmj0⟩ : ∃ mj, mj = majN k.n (countUp (k.servers.map Sm.val)) := ⟨_, rfl⟩
  have hno : Hid (mj = false ∨ (k.primary < 0 ∧ 2147483647 ≤ k.view) → tickC k.val = k.val) := by
    intro hb
    rcases hb with hb | hb
    · refine tick_no _ ?_
      rw [e]
      exact hmj0.symm.trans hb
    · exact tick_end _ hb
  have hmj : Hid (∀ wz, Below w.heap.size w wz → Calls Try.prog 56 #[clV k] wz fun e w' => e = .returned (.bool mj) ∧ Below wz.heap.size wz w') := fun wz hz => by rw [hmj0]; exact rmajority_any k wz (h.more hz) hn7
  clear h e hpup0
  replace hmj0 := Lib.hid hmj0
  replace hr := Lib.hid hr
  replace hsm := Lib.hid hsm
  obtain ⟨primary, view, commit, A, n, c, sl⟩ := k
  simp only [clV] at *
  have hx0 := Lib.hid ((Blk.new w 24 #[Value.int .i64 primary, Value.int .i64 view, Value.int .i64 commit, Value.slice A n c]).alloc (.cells #[Value.int .i64 0, Value.int .i64 0, Value.int .i64 0, Value.slice none 0 0] 24))
  have hz0 := Blk.new (w.alloc (.cells #[Value.int .i64 primary, Value.int .i64 view, Value.int .i64 commit, Value.slice A n c] 24)) 24 #[Value.int .i64 0, Value.int .i64 0, Value.int .i64 0, Value.slice none 0 0]
  rw [show (w.alloc (.cells #[Value.int .i64 primary, Value.int .i64 view, Value.int .i64 commit, Value.slice A n c] 24)).heap.size = w.heap.size + 1 by simp] at hz0
  replace hz0 := Lib.hid hz0
  have hb0 : Hid (Below w.heap.size w ((w.alloc (.cells #[Value.int .i64 primary, Value.int .i64 view, Value.int .i64 commit, Value.slice A n c] 24)).alloc (.cells #[Value.int .i64 0, Value.int .i64 0, Value.int .i64 0, Value.slice none 0 0] 24))) := (a1 w _).alloc (by simp) _
  obtain ⟨k0, k1, k2, k3⟩ := cells4 (((w.alloc (.cells #[Value.int .i64 primary, Value.int .i64 view, Value.int .i64 commit, Value.slice A n c] 24)).alloc (.cells #[Value.int .i64 0, Value.int .i64 0, Value.int .i64 0, Value.slice none 0 0] 24))) (w.heap.size) (Value.int .i64 primary) (Value.int .i64 view) (Value.int .i64 commit) (Value.slice A n c) (hx0.out)
  go_enter Try.func34, Try.ntmps34
  go_wp2_with fail
  refine (hmj.out _ hb0.out).mono ?_; rintro e w1 ⟨rfl, hq⟩
  have hX1 := Lib.hid (hx0.out.below hq hx0.out.lt)
  have hZ1 := Lib.hid (hz0.out.below hq hz0.out.lt)
  have hb1 := Lib.hid (hb0.out.trans (hq.mono hb0.out.size))
  clear hq hx0 hz0 hb0 k0 k1 k2 k3
  cases mj with
  | false =>
    have hF : Hid (r = ⟨primary, view, commit, sl.map Sm.val⟩) := by show _ = _; rw [hr.out]; exact hno.out (.inl rfl)
    obtain ⟨k0, k1, k2, k3⟩ := cells4 (w1) (w.heap.size) (Value.int .i64 primary) (Value.int .i64 view) (Value.int .i64 commit) (Value.slice A n c) (hX1.out)
    obtain ⟨u0, u1, u2, u3, y0, y1, y2, y3⟩ := cells4z (w1) ((w.heap.size + 1)) (Value.int .i64 0) (Value.int .i64 0) (Value.int .i64 0) (Value.slice none 0 0) (hZ1.out)
    go_wp2_with fail
    (try simp only [Exit.inBlock, Exit.then])
    have hBF := cl_set4 hZ1.out (Value.int .i64 primary) (Value.int .i64 view) (Value.int .i64 commit) (Value.slice A n c)
    have hbF := below_set4 hb1.out (Nat.le_succ _) (Value.int .i64 primary) (Value.int .i64 view) (Value.int .i64 commit) (Value.slice A n c)
    have hgF := grown_set4 (w1) (w.heap.size + 1) (Value.int .i64 primary) (Value.int .i64 view) (Value.int .i64 commit) (Value.slice A n c)
    refine bodyPost_ret (v := .agg #[Value.int .i64 primary, Value.int .i64 view, Value.int .i64 commit, Value.slice A n c]) ?_ rfl ?_
    · exact results_cell_row (h := rfl) _ _ (w.heap.size + 1) 24 _ (0, 0) _ rfl hBF Try.underlying24 rfl (by kernel_rfl)
    clear hBF
    generalize ((((w1.setCell ⟨(w.heap.size + 1), 0, none⟩ (Value.int .i64 primary)).setCell ⟨(w.heap.size + 1), 1, none⟩ (Value.int .i64 view)).setCell ⟨(w.heap.size + 1), 2, none⟩ (Value.int .i64 commit)).setCell ⟨(w.heap.size + 1), 3, none⟩ (Value.slice A n c)) = wF at *
    exact ⟨⟨⟨primary, view, commit, A, n, c, sl⟩, by first | rfl | (rw [hF.out]; rfl), ((hcm.out.more hb1.out).st hgF (fun b hb e => by injection e with e; have := hb.2; omega)).imp (fun b hb => Or.inl hb.1), by rw [hF.out]; rfl⟩, hbF⟩
  | true =>
  have hmj1 : Hid (majN n (countUp (sl.map Sm.val)) = true) := hmj0.out.symm
  clear hmj0 hmj
  by_cases q1 : primary < 0
  · have q1d : decide (primary < 0) = true := by simpa using q1
    by_cases q2 : 2147483647 ≤ view
    · have q2d : decide (2147483647 ≤ view) = true := by simpa using q2
      have hF : Hid (r = ⟨primary, view, commit, sl.map Sm.val⟩) := by show _ = _; rw [hr.out]; exact hno.out (.inr ⟨q1, q2⟩)
      obtain ⟨k0, k1, k2, k3⟩ := cells4 (w1) (w.heap.size) (Value.int .i64 primary) (Value.int .i64 view) (Value.int .i64 commit) (Value.slice A n c) (hX1.out)
      obtain ⟨u0, u1, u2, u3, y0, y1, y2, y3⟩ := cells4z (w1) ((w.heap.size + 1)) (Value.int .i64 0) (Value.int .i64 0) (Value.int .i64 0) (Value.slice none 0 0) (hZ1.out)
      go_wp2_with fail
      (try simp only [Exit.inBlock, Exit.then])
      have hBF := cl_set4 hZ1.out (Value.int .i64 primary) (Value.int .i64 view) (Value.int .i64 commit) (Value.slice A n c)
      have hbF := below_set4 hb1.out (Nat.le_succ _) (Value.int .i64 primary) (Value.int .i64 view) (Value.int .i64 commit) (Value.slice A n c)
      have hgF := grown_set4 (w1) (w.heap.size + 1) (Value.int .i64 primary) (Value.int .i64 view) (Value.int .i64 commit) (Value.slice A n c)
      refine bodyPost_ret (v := .agg #[Value.int .i64 primary, Value.int .i64 view, Value.int .i64 commit, Value.slice A n c]) ?_ rfl ?_
      · exact results_cell_row (h := rfl) _ _ (w.heap.size + 1) 24 _ (0, 0) _ rfl hBF Try.underlying24 rfl (by kernel_rfl)
      clear hBF
      generalize ((((w1.setCell ⟨(w.heap.size + 1), 0, none⟩ (Value.int .i64 primary)).setCell ⟨(w.heap.size + 1), 1, none⟩ (Value.int .i64 view)).setCell ⟨(w.heap.size + 1), 2, none⟩ (Value.int .i64 commit)).setCell ⟨(w.heap.size + 1), 3, none⟩ (Value.slice A n c)) = wF at *
      exact ⟨⟨⟨primary, view, commit, A, n, c, sl⟩, by first | rfl | (rw [hF.out]; rfl), ((hcm.out.more hb1.out).st hgF (fun b hb e => by injection e with e; have := hb.2; omega)).imp (fun b hb => Or.inl hb.1), by rw [hF.out]; rfl⟩, hbF⟩
    · have q2d : decide (2147483647 ≤ view) = false := by simpa using q2
      clear hno
      obtain ⟨ad, hA, -, -, -, -⟩ := sv_cells hcm.out.at_ (show 0 < n by omega)
      (try simp only at hA)
      subst hA
      obtain ⟨k0, k1, k2, k3⟩ := cells4 (w1) (w.heap.size) (Value.int .i64 primary) (Value.int .i64 view) (Value.int .i64 commit) (Value.slice (some ad) n c) (hX1.out)
      go_wp2_with fail
      refine (own_any (⟨primary, view, commit, some ad, n, c, sl⟩ : Cm) w1 (hcm.out.more hb1.out) hs1.out).mono ?_; rintro e w4 ⟨⟨g, cap, sl4, rfl, hrow4, hE4, hv4⟩, hq⟩
      clear k0 k1 k2 k3
      obtain ⟨g9, hg9⟩ : ∃ g9, g9 = w4.heap.size := ⟨_, rfl⟩
      have hX4 := Lib.hid (hX1.out.below hq hX1.out.lt)
      have hZ4 := Lib.hid (hZ1.out.below hq hZ1.out.lt)
      have hb4 := Lib.hid (hb1.out.trans (hq.mono hb1.out.size))
      (try simp only at hrow4 hE4 hv4)
      have hl4 : sl4.length = n := by
        have := congrArg List.length hv4
        simp only [List.length_map] at this
        rw [this]; exact hl.out
      have hgw4 := hrow4.grown_base hl4.symm
      have hz2 := hZ1.out.lt
      have hgg : Hid (g < g9) := by show g < g9; rw [hg9]; exact hgw4.2
      have hg9w : Hid (w.heap.size + 2 ≤ g ∧ w.heap.size + 2 ≤ g9 ∧ w.heap.size + 1 < g) := by have := hgg.out; show _ ∧ _ ∧ _; omega
      have hE4' : Hid (∀ s ∈ sl4, SmAt w4 (fun b => ((Q b ∧ b < w.heap.size) ∨ w.heap.size + 2 ≤ b) ∧ b ≠ g ∧ b ≠ g9) s) := fun s hs => (hE4 s hs).lt.imp (Q' := (fun b => ((Q b ∧ b < w.heap.size) ∨ w.heap.size + 2 ≤ b) ∧ b ≠ g ∧ b ≠ g9)) (fun b hb => ⟨hb.1.1.elim (fun h => Or.inl h) (fun h => Or.inr (by omega)), hb.1.2, by have := hb.2; omega⟩)
      have hrow4' := Lib.hid (hrow4.mono (show w.heap.size + 2 ≤ w1.heap.size by omega))
      replace hv4 := Lib.hid hv4
      replace hl4 := Lib.hid hl4
      clear hq hrow4 hE4 hX1 hZ1 hb1 hgw4
      obtain ⟨pj, p, hgr, hpn, hpx0, -, hr20⟩ := tick_elect (⟨primary, view, commit, some ad, n, c, sl⟩ : Cm) hl.out hmj1.out q1 (by show ¬ 2147483647 ≤ view; omega)
      have hpx := Lib.hid hpx0
      have hr2 : Hid (r = ⟨(pj : Int), view + 1, ((p.log.map Em.val).length : Int), bringS (view + 1) (p.log.map Em.val) (sl.map Sm.val)⟩) := by show _ = _; rw [hr.out]; exact hr20
      clear hpx0 hr20
      have hwv : IntKind.i64.wrap (view + 1) = view + 1 := IntWalk.i64_in _ (by omega)
      have hX5 := Lib.hid (hX4.out.alloc (.cells #[Value.int .i64 primary, Value.int .i64 (view + 1), Value.int .i64 commit, Value.slice (some ⟨g, 0, none⟩) n cap] 24))
      have hZ5 := Lib.hid (hZ4.out.alloc (.cells #[Value.int .i64 primary, Value.int .i64 (view + 1), Value.int .i64 commit, Value.slice (some ⟨g, 0, none⟩) n cap] 24))
      have hN5 := Lib.hid (Blk.new w4 24 #[Value.int .i64 primary, Value.int .i64 (view + 1), Value.int .i64 commit, Value.slice (some ⟨g, 0, none⟩) n cap])
      have hb5 := Lib.hid (hb4.out.alloc hb4.out.size (.cells #[Value.int .i64 primary, Value.int .i64 (view + 1), Value.int .i64 commit, Value.slice (some ⟨g, 0, none⟩) n cap] 24))
      have hrow5 := Lib.hid (hrow4'.out.kept (a1 w4 (.cells #[Value.int .i64 primary, Value.int .i64 (view + 1), Value.int .i64 commit, Value.slice (some ⟨g, 0, none⟩) n cap] 24)))
      have hE5 : Hid (∀ s ∈ sl4, SmAt (w4.alloc (.cells #[Value.int .i64 primary, Value.int .i64 (view + 1), Value.int .i64 commit, Value.slice (some ⟨g, 0, none⟩) n cap] 24)) (fun b => ((Q b ∧ b < w.heap.size) ∨ w.heap.size + 2 ≤ b) ∧ b ≠ g ∧ b ≠ g9) s) := fun s hs => (hE4'.out s hs).more (a1 w4 _)
      have hn0 := Lib.hid (Blk.new w4 24 #[Value.int .i64 primary, Value.int .i64 view, Value.int .i64 commit, Value.slice (some ⟨g, 0, none⟩) n cap])
      obtain ⟨q0, q1, q2, q3, x0, x1, x2, x3⟩ := cells4z ((w4.alloc (.cells #[Value.int .i64 primary, Value.int .i64 view, Value.int .i64 commit, Value.slice (some ⟨g, 0, none⟩) n cap] 24))) (w4.heap.size) (Value.int .i64 primary) (Value.int .i64 view) (Value.int .i64 commit) (Value.slice (some ⟨g, 0, none⟩) n cap) (hn0.out)
      obtain ⟨m0, m1, m2, m3⟩ := cells4 ((w4.alloc (.cells #[Value.int .i64 primary, Value.int .i64 (view + 1), Value.int .i64 commit, Value.slice (some ⟨g, 0, none⟩) n cap] 24))) (w4.heap.size) (Value.int .i64 primary) (Value.int .i64 (view + 1)) (Value.int .i64 commit) (Value.slice (some ⟨g, 0, none⟩) n cap) (hN5.out)
      clear hX4 hZ4 hb4 hrow4' hE4' hn0
      have hCm := CmAt.of_own (p := primary) (v := view + 1) (m := commit) (Q := (fun b => ((Q b ∧ b < w.heap.size) ∨ w.heap.size + 2 ≤ b) ∧ b ≠ g9)) hrow5.out hl4.out (fun s hs => (hE5.out s hs).imp (fun b hb => ⟨hb.1, hb.2.2⟩)) ⟨Or.inr (by have := hg9w.out; omega), by have := hgg.out; omega⟩
      have hfu := Lib.hid (firstU_any _ _ hCm (show n ≤ 1000 by omega))
      simp only [clV] at hfu
      rw [hv4.out, show (⟨primary, view, commit, some ad, n, c, sl⟩ : Cm).servers.map Sm.val = sl.map Sm.val from rfl, hgr, show idxO (some (pj, p.val)) = (pj : Int) from rfl] at hfu
      replace hgr := Lib.hid hgr
      clear hCm
      go_wp2_with fail
      refine hfu.out.mono ?_; rintro e w6 ⟨rfl, hq⟩
      clear hfu q0 q1 q2 q3 x0 x1 x2 x3 m0 m1 m2 m3
      rw [← hg9] at hN5 ⊢
      have hX6 := Lib.hid (hX5.out.below hq hX5.out.lt)
      have hZ6 := Lib.hid (hZ5.out.below hq hZ5.out.lt)
      have hN6 := Lib.hid (hN5.out.below hq hN5.out.lt)
      have hb6 := Lib.hid (hb5.out.trans (hq.mono hb5.out.size))
      have hrow6 := Lib.hid (hrow5.out.kept hq)
      have hE6 : Hid (∀ s ∈ sl4, SmAt w6 (fun b => ((Q b ∧ b < w.heap.size) ∨ w.heap.size + 2 ≤ b) ∧ b ≠ g ∧ b ≠ g9) s) := fun s hs => (hE5.out s hs).more hq
      clear hq hX5 hZ5 hN5 hb5 hrow5 hE5
      obtain ⟨q0, q1, q2, q3, x0, x1, x2, x3⟩ := cells4z (w6) (g9) (Value.int .i64 primary) (Value.int .i64 (view + 1)) (Value.int .i64 commit) (Value.slice (some ⟨g, 0, none⟩) n cap) (hN6.out)
      have hgA : Hid (w6.grownBy (w6.setCell ⟨g9, 0, none⟩ (Value.int .i64 (pj : Int))) (some g9)) := only_set (World.grownBy.refl _ _) _ _
      have hN5 := Lib.hid (hN6.out.set_ 0 (Value.int .i64 (pj : Int)))
      have hX5 := Lib.hid (hX6.out.grown hgA.out (by intro e; injection e with e; have := hg9w.out; omega))
      have hZ5 := Lib.hid (hZ6.out.grown hgA.out (by intro e; injection e with e; have := hg9w.out; omega))
      have hb5 := Lib.hid (below_set hb6.out (show w.heap.size ≤ g9 by have := hg9w.out; omega) 0 (Value.int .i64 (pj : Int)))
      have hrow5 := Lib.hid (hrow6.out.grownO hgA.out (.inr (by intro e; simp [Value.ownBlock] at e; have := hgg.out; omega)))
      have hE5 : Hid (∀ s ∈ sl4, SmAt (w6.setCell ⟨g9, 0, none⟩ (Value.int .i64 (pj : Int))) (fun b => ((Q b ∧ b < w.heap.size) ∨ w.heap.size + 2 ≤ b) ∧ b ≠ g ∧ b ≠ g9) s) := fun s hs => (hE6.out s hs).st hgA.out (fun b hb e => by injection e with e; exact hb.2.2 e)
      clear hX6 hZ6 hN6 hb6 hrow6 hE6 hgA
      replace hg9 := Lib.hid hg9
      have hpl4 : pj < sl4.length := by rw [hl4.out]; exact hpn
      obtain ⟨x4, hx4⟩ : ∃ x4, sl4[pj] = x4 := ⟨_, rfl⟩
      have hx4v : x4.val = p.val := by
        have e1 : (sl4.map Sm.val)[pj]? = (sl.map Sm.val)[pj]? := by rw [hv4.out]
        rw [List.getElem?_map, List.getElem?_map, List.getElem?_eq_getElem hpl4, hpx.out, hx4] at e1
        injection e1
      have hLR5 : Hid (SmAt (w6.setCell ⟨g9, 0, none⟩ (Value.int .i64 (pj : Int))) (fun b => ((Q b ∧ b < w.heap.size) ∨ w.heap.size + 2 ≤ b) ∧ b ≠ g ∧ b ≠ g9) x4) := hE5.out _ (by rw [← hx4]; exact List.getElem_mem hpl4)
      replace hx4 := Lib.hid hx4
      obtain ⟨yu, yv, lA, ln, lc, L8⟩ := x4
      replace hLR5 : Hid (LogAt (w6.setCell ⟨g9, 0, none⟩ (Value.int .i64 (pj : Int))) (fun b => ((Q b ∧ b < w.heap.size) ∨ w.heap.size + 2 ≤ b) ∧ b ≠ g ∧ b ≠ g9) lA ln lc L8) := hLR5
      obtain ⟨nl, hnl⟩ : ∃ nl, nl = p.log.map Em.val := ⟨_, rfl⟩
      have hL8 : Hid (L8.map Em.val = nl) := (congrArg Sv.log hx4v).trans hnl.symm
      have hnll : Hid (nl.length = ln) := by show _ = _; rw [← hL8.out, List.length_map]; exact hLR5.out.len
      rw [← hnl] at hr2
      have hlnb : Hid (ln ≤ 5000 ∧ sumD L8 ≤ 1000000) := by
        have h1 := hsm.out p (List.mem_of_getElem? hpx.out)
        have h2 : p.log.length = p.n := LogAt.len (hcm.out.els p (List.mem_of_getElem? hpx.out))
        have h3 := hnll.out
        rw [hnl, List.length_map] at h3
        refine ⟨by omega, ?_⟩
        rw [← sumD_val0, hL8.out, hnl, sumD_val0]
        omega
      have hpnn : (pj : Int) < n := by omega
      have hp00 : (0 : Int) ≤ pj := by omega
      have c6 : (w6.setCell ⟨g9, 0, none⟩ (Value.int .i64 (pj : Int))).cell? ⟨g, pj * 3 + 2, none⟩ = some (Value.slice lA ln lc) := by
        have := hrow5.out.cellAt hl4.out.symm (k := pj) hpl4 (j := 2) (by decide); rw [hx4.out] at this; exact this
      obtain ⟨m0, m1, m2, m3⟩ := cells4 ((w6.setCell ⟨g9, 0, none⟩ (Value.int .i64 (pj : Int)))) (g9) (Value.int .i64 (pj : Int)) (Value.int .i64 (view + 1)) (Value.int .i64 commit) (Value.slice (some ⟨g, 0, none⟩) n cap) (hN5.out)
      replace hnl := Lib.hid hnl
      clear hx4v
      go_wp2_with fail
      clear m0 m1 m2 m3 c6
      clear q0 q1 q2 q3 x0 x1 x2 x3
      generalize (w6.setCell ⟨g9, 0, none⟩ (Value.int .i64 (pj : Int))) = w5 at *
      go_loopw [5] (fun i wr => ∃ (k : Nat) (T : List Sm), k ≤ n ∧ i = .int .i64 k ∧ Hid (T.length = n) ∧ Hid (LOwn svC 3 47 wr (w.heap.size + 2) (.slice (some ⟨g, 0, none⟩) n cap) T) ∧ Hid (∀ s ∈ T, SmAt wr (fun b => ((Q b ∧ b < w.heap.size) ∨ w.heap.size + 2 ≤ b) ∧ b ≠ g ∧ b ≠ g9) s) ∧ Hid (T.map Sm.val = (bringS (view + 1) nl (sl.map Sm.val)).take k ++ (sl.map Sm.val).drop k) ∧ Hid (Blk wr w.heap.size 24 #[Value.int .i64 primary, Value.int .i64 view, Value.int .i64 commit, Value.slice (some ad) n c]) ∧ Hid (Blk wr (w.heap.size + 1) 24 #[Value.int .i64 0, Value.int .i64 0, Value.int .i64 0, Value.slice none 0 0]) ∧ Hid (Blk wr g9 24 #[Value.int .i64 (pj : Int), Value.int .i64 (view + 1), Value.int .i64 commit, Value.slice (some ⟨g, 0, none⟩) n cap]) ∧ Hid (LogAt wr (fun b => ((Q b ∧ b < w.heap.size) ∨ w.heap.size + 2 ≤ b) ∧ b ≠ g ∧ b ≠ g9) lA ln lc L8) ∧ Hid (Below w.heap.size w wr)) (fun i _ => n - (intOf i).toNat)
      case atStart => exact ⟨0, _, Nat.zero_le _, rfl, hl4.out, hrow5.out, hE5.out, by show _ = _; rw [hv4.out]; rfl, hX5.out, hZ5.out, hN5.out, hLR5.out, hb5.out⟩
      clear hrow5 hE5 hX5 hZ5 hN5 hLR5 hb5
      case round =>
        obtain ⟨k, T, hkn, rfl, hTn, hrow, hE, hRk, hX, hZ, hN, hLR, hb⟩ := hrel
        by_cases hlt : k < n
        · have hkT : k < T.length := by rw [hTn.out]; exact hlt
          have hk0 : (0 : Int) ≤ k := by omega
          have hk1 : (k : Int) < n := by omega
          obtain ⟨x, hx⟩ : ∃ x, T[k]? = some x := ⟨_, List.getElem?_eq_getElem hkT⟩
          have hxe : Hid (T[k] = x) := (List.getElem?_eq_some_iff.1 hx).2
          have hUx : Hid ((T.map Sm.val)[k]? = some x.val) := by show _ = _; rw [List.getElem?_map, hx]; rfl
          clear hx
          obtain ⟨xu, xv, xA, xn, xc, xl⟩ := x
          have e0 : wr.cell? ⟨g, k * 3, none⟩ = some (Value.bool xu) := by
            have := hrow.out.cellAt hTn.out.symm (k := k) hkT (j := 0) (by decide); rw [hxe.out] at this; exact this
          obtain ⟨q0, q1, q2, q3⟩ := cells4 (wr) (g9) (Value.int .i64 (pj : Int)) (Value.int .i64 (view + 1)) (Value.int .i64 commit) (Value.slice (some ⟨g, 0, none⟩) n cap) (hN.out)
          cases xu with
          | false =>
            have hR1 : Hid (T.map Sm.val = (bringS (view + 1) nl (sl.map Sm.val)).take (k + 1) ++ (sl.map Sm.val).drop (k + 1)) := bring_skip hRk.out hUx.out rfl
            go_wp2_with fail
            go_roundw
            case rel => exact ⟨k + 1, T, by omega, by go_num, hTn.out, hrow.out, hE.out, hR1.out, hX.out, hZ.out, hN.out, hLR.out, hb.out⟩
            case measure => simp [intOf]; omega
          | true =>
            have hcell : Hid (∀ wz, Below wr.heap.size wr wz → wz.cell? ⟨g9, 3, none⟩ = some (Value.slice (some ⟨g, 0, none⟩) n cap) ∧ wz.cell? ⟨g9, 1, none⟩ = some (Value.int .i64 (view + 1))) := fun wz hz => ⟨(hN.out.below hz hN.out.lt).cell 3, (hN.out.below hz hN.out.lt).cell 1⟩
            have hcl : Hid (∀ wz, Below wr.heap.size wr wz → Calls Try.prog 57 #[.slice lA ln lc] wz fun e w' => CopR wz.heap.size nl w' e ∧ Below wz.heap.size wz w') := fun wz hz => by
              rw [← hL8.out]
              exact copied_any lA ln lc L8 wz (hLR.out.more hz) hlnb.out.1 hlnb.out.2
            have hlvl : Hid (nl.length = ln) := hnll
            go_wp2_with fail
            refine RU.region [] [] 8 (F := F34b g9 g n cap k ln lc wr.heap.size lA (view + 1) nl) (W := fun wz => Below wr.heap.size wr wz) (R := fun _ => Rb) rfl F34b_more (by kernel_rfl) (by kernel_rfl) (by kernel_rfl) (by kernel_rfl) (by kernel_rfl) (by kernel_rfl) ?_ ?_ ?_ ?_
            · exact (Below.refl _ _).drew
            · intro t ht
              unfold F34b
              split <;> first | trivial | exact rfl | (exact absurd ht (by decide))
            · intro i o hi ho
              have hcs : i = 0 ∨ i = 1 ∨ i = 2 ∨ i = 3 ∨ i = 4 ∨ i = 5 ∨ i = 6 ∨ i = 7 := by omega
              rcases hcs with rfl | rfl | rfl | rfl | rfl | rfl | rfl | rfl <;> (injection ho with ho; subst ho)
              · intro a w2 hw _ hf K hK
                have f0 := hf 3 rfl
                simp only [F34b] at f0
                clear hf
                go_simp
                exact hK _ _ _ rfl rfl hw (Below.refl _ _) (fun h => absurd h (by decide))
              · intro a w2 hw _ hf K hK
                have f0 := hf 52 rfl
                simp only [F34b] at f0
                clear hf
                have e := (hcell.out w2 hw).1
                go_simp
                exact hK _ _ _ rfl rfl hw (Below.refl _ _) (fun h => absurd h (by decide))
              · intro a w2 hw _ hf K hK
                have f0 := hf 5 rfl
                simp only [F34b] at f0
                clear hf
                go_simp
                exact hK _ _ _ rfl rfl hw (Below.refl _ _) (fun h => absurd h (by decide))
              · intro a w2 hw _ hf K hK
                have f0 := hf 3 rfl
                simp only [F34b] at f0
                clear hf
                go_simp
                exact hK _ _ _ rfl rfl hw (Below.refl _ _) (fun h => absurd h (by decide))
              · intro a w2 hw _ hf K hK
                have f0 := hf 55 rfl
                simp only [F34b] at f0
                clear hf
                have e := (hcell.out w2 hw).2
                go_simp
                exact hK _ _ _ rfl rfl hw (Below.refl _ _) (fun h => absurd h (by decide))
              · intro a w2 hw _ hf K hK
                have f0 := hf 4 rfl
                simp only [F34b] at f0
                clear hf
                go_simp
                exact hK _ _ _ rfl rfl hw (Below.refl _ _) (fun h => absurd h (by decide))
              · intro a w2 hw _ hf K hK
                have f0 := hf 57 rfl
                simp only [F34b] at f0
                clear hf
                go_simp
                refine (hcl.out w2 hw).mono ?_; rintro e w5 ⟨⟨v5, L5, rfl, hL5, hv5⟩, hbq⟩
                obtain ⟨A5, c5, rfl⟩ := hL5.form
                have hn5 : L5.length = ln := by have := congrArg List.length hv5; rw [List.length_map] at this; rw [this]; exact hlvl.out
                rw [hn5] at hL5 ⊢
                exact hK _ _ _ rfl ⟨A5, c5, L5, rfl, (hL5.at_ hn5).imp (fun b hb => Nat.le_trans hw.size hb), hv5⟩ (hw.trans (hbq.mono hw.size)) hbq (fun h => absurd h (by decide))
              · intro a w2 hw _ hf K hK
                have f0 := hf 56 rfl
                have f1 := hf 58 rfl
                simp only [F34b] at f0 f1
                clear hf
                obtain ⟨A5, c5, l5, e5, h51, h52⟩ := f1
                have h51 := Lib.hid h51
                have h52 := Lib.hid h52
                go_simp
                exact hK _ _ _ rfl ⟨A5, c5, l5, rfl, h51.out, h52.out⟩ hw (Below.refl _ _) (fun h => absurd h (by decide))
            · intro a' w9 hd hs hw hout hf
              have h59 := hf 7 59 (by decide) rfl rfl
              simp only [F34b] at h59
              have h53 := hf 1 53 (by decide) rfl rfl
              simp only [F34b] at h53
              have h54 := hf 2 54 (by decide) rfl rfl
              simp only [F34b] at h54
              have e0 := hout 0 rfl
              have e1 := hout 1 rfl
              have e2 := hout 2 rfl
              have e3 := hout 3 rfl
              have e4 := hout 4 rfl
              have e5 := hout 5 rfl
              have e6 := hout 6 rfl
              have e7 := hout 7 rfl
              have e8 := hout 8 rfl
              have e9 := hout 9 rfl
              have e10 := hout 10 rfl
              have e11 := hout 11 rfl
              have e12 := hout 12 rfl
              have e13 := hout 13 rfl
              have e14 := hout 14 rfl
              have e15 := hout 15 rfl
              have e16 := hout 16 rfl
              have e17 := hout 17 rfl
              have e18 := hout 18 rfl
              have e19 := hout 19 rfl
              have e20 := hout 20 rfl
              have e21 := hout 21 rfl
              have e22 := hout 22 rfl
              have e23 := hout 23 rfl
              have e24 := hout 24 rfl
              have e25 := hout 25 rfl
              have e26 := hout 26 rfl
              have e27 := hout 27 rfl
              have e28 := hout 28 rfl
              have e29 := hout 29 rfl
              have e30 := hout 30 rfl
              have e31 := hout 31 rfl
              have e32 := hout 32 rfl
              have e33 := hout 33 rfl
              have e34 := hout 34 rfl
              have e35 := hout 35 rfl
              have e36 := hout 36 rfl
              have e37 := hout 37 rfl
              have e38 := hout 38 rfl
              have e39 := hout 39 rfl
              have e40 := hout 40 rfl
              have e41 := hout 41 rfl
              have e42 := hout 42 rfl
              have e43 := hout 43 rfl
              have e44 := hout 44 rfl
              have e45 := hout 45 rfl
              have e46 := hout 46 rfl
              have e47 := hout 47 rfl
              have e48 := hout 48 rfl
              have e49 := hout 49 rfl
              have e50 := hout 50 rfl
              have e51 := hout 51 rfl
              have e61 := hout 61 rfl
              have e62 := hout 62 rfl
              have e63 := hout 63 rfl
              have e64 := hout 64 rfl
              simp only [List.getElem?_toArray, List.getElem?_cons_succ, List.getElem?_cons_zero] at e0 e1 e2 e3 e4 e5 e6 e7 e8 e9 e10 e11 e12 e13 e14 e15 e16 e17 e18 e19 e20 e21 e22 e23 e24 e25 e26 e27 e28 e29 e30 e31 e32 e33 e34 e35 e36 e37 e38 e39 e40 e41 e42 e43 e44 e45 e46 e47 e48 e49 e50 e51 e61 e62 e63 e64
              obtain ⟨tm, df⟩ := a'
              simp only at hd hs h59 h53 h54 e0 e1 e2 e3 e4 e5 e6 e7 e8 e9 e10 e11 e12 e13 e14 e15 e16 e17 e18 e19 e20 e21 e22 e23 e24 e25 e26 e27 e28 e29 e30 e31 e32 e33 e34 e35 e36 e37 e38 e39 e40 e41 e42 e43 e44 e45 e46 e47 e48 e49 e50 e51 e61 e62 e63 e64
              have e := F34b_lit tm hs
              simp only [h53, h54, e0, e1, e2, e3, e4, e5, e6, e7, e8, e9, e10, e11, e12, e13, e14, e15, e16, e17, e18, e19, e20, e21, e22, e23, e24, e25, e26, e27, e28, e29, e30, e31, e32, e33, e34, e35, e36, e37, e38, e39, e40, e41, e42, e43, e44, e45, e46, e47, e48, e49, e50, e51, e61, e62, e63, e64, Option.getD_some] at e
              clear hf hout hs
              rw [e, hd]
              clear e hd h53 h54 e0 e1 e2 e3 e4 e5 e6 e7 e8 e9 e10 e11 e12 e13 e14 e15 e16 e17 e18 e19 e20 e21 e22 e23 e24 e25 e26 e27 e28 e29 e30 e31 e32 e33 e34 e35 e36 e37 e38 e39 e40 e41 e42 e43 e44 e45 e46 e47 e48 e49 e50 e51 e61 e62 e63 e64
              generalize tm[59]?.getD undef = u59x at h59 ⊢
              generalize tm[52]?.getD undef = u52x, tm[55]?.getD undef = u55x, tm[56]?.getD undef = u56x, tm[57]?.getD undef = u57x, tm[58]?.getD undef = u58x, tm[60]?.getD undef = u60x
              obtain ⟨A9, c9, l9, rfl, hl9, hv9⟩ := h59
              have hrow9 := Lib.hid (hrow.out.kept hw)
              have hX9 := Lib.hid (hX.out.below hw hX.out.lt)
              have hZ9 := Lib.hid (hZ.out.below hw hZ.out.lt)
              have hN9 := Lib.hid (hN.out.below hw hN.out.lt)
              have hb9 : Hid (Below w.heap.size w w9) := hb.out.trans (hw.mono hb.out.size)
              have hE9 : Hid (∀ s ∈ T, SmAt w9 (fun b => ((Q b ∧ b < w.heap.size) ∨ w.heap.size + 2 ≤ b) ∧ b ≠ g ∧ b ≠ g9) s) := fun s hs => (hE.out s hs).more hw
              have hLR9 := Lib.hid (hLR.out.more hw)
              have hgX : Hid (g < wr.heap.size ∧ g9 < wr.heap.size) := ⟨(hrow.out.grown_base hTn.out.symm).2, hN.out.lt⟩
              have hwr2 : Hid (w.heap.size + 2 ≤ wr.heap.size) := hZ.out.lt
              replace hl9 := Lib.hid hl9
              replace hv9 := Lib.hid hv9
              clear hw hcell hcl hrow hX hZ hN hb hE hLR
              obtain ⟨q0, q1, q2, q3⟩ := cells4 (w9) (g9) (Value.int .i64 (pj : Int)) (Value.int .i64 (view + 1)) (Value.int .i64 commit) (Value.slice (some ⟨g, 0, none⟩) n cap) (hN9.out)
              obtain ⟨c5, c6, c7⟩ := (show w9.cell? ⟨g, k * 3, none⟩ = some (Value.bool true) ∧ w9.cell? ⟨g, k * 3 + 1, none⟩ = some (Value.int .i64 xv) ∧ w9.cell? ⟨g, k * 3 + 2, none⟩ = some (Value.slice xA xn xc) from by
                refine ⟨?_, ?_, ?_⟩
                · have := hrow9.out.cellAt hTn.out.symm (k := k) hkT (j := 0) (by decide); rw [hxe.out] at this; exact this
                · have := hrow9.out.cellAt hTn.out.symm (k := k) hkT (j := 1) (by decide); rw [hxe.out] at this; exact this
                · have := hrow9.out.cellAt hTn.out.symm (k := k) hkT (j := 2) (by decide); rw [hxe.out] at this; exact this)
              have z5 : w9.frozen? ⟨g, k * 3, none⟩ = false := hrow9.out.frozenAt hTn.out.symm _
              have z6 : w9.frozen? ⟨g, k * 3 + 1, none⟩ = false := hrow9.out.frozenAt hTn.out.symm _
              have z7 : w9.frozen? ⟨g, k * 3 + 2, none⟩ = false := hrow9.out.frozenAt hTn.out.symm _
              have hst := hrow9.out.store hTn.out.symm (k := k) hkT (⟨true, (view + 1), A9, ln, c9, l9⟩ : Sm)
              have hrow3 : Hid (LOwn svC 3 47 (((w9.setCell ⟨g, k * 3, none⟩ (Value.bool true)).setCell ⟨g, k * 3 + 1, none⟩ (Value.int .i64 (view + 1))).setCell ⟨g, k * 3 + 2, none⟩ (Value.slice A9 ln c9)) (w.heap.size + 2) (.slice (some ⟨g, 0, none⟩) n cap) (T.set k (⟨true, (view + 1), A9, ln, c9, l9⟩ : Sm))) := hst.1
              have hg3 : Hid (w9.grownBy (((w9.setCell ⟨g, k * 3, none⟩ (Value.bool true)).setCell ⟨g, k * 3 + 1, none⟩ (Value.int .i64 (view + 1))).setCell ⟨g, k * 3 + 2, none⟩ (Value.slice A9 ln c9)) (some g)) := hst.2
              have hE3 : Hid (∀ s ∈ T.set k (⟨true, (view + 1), A9, ln, c9, l9⟩ : Sm), SmAt (((w9.setCell ⟨g, k * 3, none⟩ (Value.bool true)).setCell ⟨g, k * 3 + 1, none⟩ (Value.int .i64 (view + 1))).setCell ⟨g, k * 3 + 2, none⟩ (Value.slice A9 ln c9)) (fun b => ((Q b ∧ b < w.heap.size) ∨ w.heap.size + 2 ≤ b) ∧ b ≠ g ∧ b ≠ g9) s) := fun s hs => by
                rcases List.mem_or_eq_of_mem_set hs with hs | rfl
                · exact (hE9.out s hs).st hg3.out (fun b hb e => by injection e with e; exact hb.2.1 e)
                · show LogAt _ (fun b => ((Q b ∧ b < w.heap.size) ∨ w.heap.size + 2 ≤ b) ∧ b ≠ g ∧ b ≠ g9) _ _ _ _
                  have h1 := hgX.out
                  have h2 := hwr2.out
                  refine LogAt.imp (LogAt.st hl9.out hg3.out (fun b hb e => ?_)) (fun b hb => ⟨Or.inr (by omega), by omega, by omega⟩)
                  injection e with e; omega
              have hU3 : (T.set k (⟨true, (view + 1), A9, ln, c9, l9⟩ : Sm)).map Sm.val = (T.map Sm.val).set k ⟨true, (view + 1), nl⟩ := by
                rw [List.map_set]
                show _ = _
                congr 1
                show Sv.mk true (view + 1) (l9.map Em.val) = _
                rw [hv9.out]
              have hX3 := Lib.hid (hX9.out.grown hg3.out (by intro e; injection e with e; have := hg9w.out; have := hgg.out; omega))
              have hZ3 := Lib.hid (hZ9.out.grown hg3.out (by intro e; injection e with e; have := hg9w.out; have := hgg.out; omega))
              have hN3 := Lib.hid (hN9.out.grown hg3.out (by intro e; injection e with e; have := hg9w.out; have := hgg.out; omega))
              have hLR3 := Lib.hid (hLR9.out.st hg3.out (fun b hb e => by injection e with e; exact hb.2.1 e))
              have hb3 := Lib.hid (hb9.out.grown hg3.out hb9.out.size (fun g8 e8 => by injection e8 with e8; have := hg9w.out; have := hgg.out; omega))
              have hl3 : Hid ((T.set k (⟨true, (view + 1), A9, ln, c9, l9⟩ : Sm)).length = n) := by show _ = _; rw [List.length_set]; exact hTn.out
              have hR3 : Hid ((T.set k (⟨true, (view + 1), A9, ln, c9, l9⟩ : Sm)).map Sm.val = (bringS (view + 1) nl (sl.map Sm.val)).take (k + 1) ++ (sl.map Sm.val).drop (k + 1)) := by
                show _ = _
                rw [hU3]
                exact bring_up hRk.out hUx.out rfl
              clear hU3 hst hRk hE9 hrow9 hX9 hZ9 hN9 hLR9 hb9 hl9
              go_wp2_with fail
              go_roundw
              case rel => exact ⟨k + 1, T.set k (⟨true, (view + 1), A9, ln, c9, l9⟩ : Sm), by omega, by go_num, hl3.out, hrow3.out, hE3.out, hR3.out, hX3.out, hZ3.out, hN3.out, hLR3.out, hb3.out⟩
              case measure => simp [intOf]; omega
        · obtain rfl : n = k := by omega
          have hRf : Hid (T.map Sm.val = bringS (view + 1) nl (sl.map Sm.val)) := by
            show _ = _
            have e1 : (bringS (view + 1) nl (sl.map Sm.val)).length = n := by unfold bringS; rw [List.length_map, List.length_map]; exact hl.out
            rw [hRk.out, List.take_of_length_le (by rw [e1]; exact Nat.le_refl _), List.drop_eq_nil_of_le (by rw [List.length_map, hl.out]; exact Nat.le_refl _), List.append_nil]
          have hF : Hid (r = ⟨(pj : Int), (view + 1), (ln : Int), T.map Sm.val⟩) := by show _ = _; rw [hr2.out, hRf.out, ← hnll.out]
          clear hRk
          have hgA : Hid (wr.grownBy (wr.setCell ⟨g9, 2, none⟩ (Value.int .i64 (ln : Int))) (some g9)) := only_set (World.grownBy.refl _ _) _ _
          have hNA := Lib.hid (hN.out.set_ 2 (Value.int .i64 (ln : Int)))
          have hZA := Lib.hid (hZ.out.grown hgA.out (by intro e; injection e with e; have := hg9w.out; omega))
          have hbA := Lib.hid (below_set hb.out (show w.heap.size ≤ g9 by have := hg9w.out; omega) 2 (Value.int .i64 (ln : Int)))
          have hrowA := Lib.hid (hrow.out.grownO hgA.out (.inr (by intro e; simp [Value.ownBlock] at e; have := hgg.out; omega)))
          have hEA : Hid (∀ s ∈ T, SmAt (wr.setCell ⟨g9, 2, none⟩ (Value.int .i64 (ln : Int))) (fun b => (Q b ∧ b < w.heap.size) ∨ w.heap.size + 2 ≤ b) s) := fun s hs => ((hE.out s hs).st hgA.out (fun b hb e => by injection e with e; exact hb.2.2 e)).imp (fun b hb => hb.1)
          obtain ⟨q0, q1, q2, q3, x0, x1, x2, x3⟩ := cells4z (wr) (g9) (Value.int .i64 (pj : Int)) (Value.int .i64 (view + 1)) (Value.int .i64 commit) (Value.slice (some ⟨g, 0, none⟩) n cap) (hN.out)
          obtain ⟨m0, m1, m2, m3⟩ := cells4 ((wr.setCell ⟨g9, 2, none⟩ (Value.int .i64 (ln : Int)))) (g9) (Value.int .i64 (pj : Int)) (Value.int .i64 (view + 1)) (Value.int .i64 (ln : Int)) (Value.slice (some ⟨g, 0, none⟩) n cap) (hNA.out)
          obtain ⟨u0, u1, u2, u3, y0, y1, y2, y3⟩ := cells4z ((wr.setCell ⟨g9, 2, none⟩ (Value.int .i64 (ln : Int)))) ((w.heap.size + 1)) (Value.int .i64 0) (Value.int .i64 0) (Value.int .i64 0) (Value.slice none 0 0) (hZA.out)
          go_wp2_with fail
          (try simp only [Exit.inBlock, Exit.then])
          have hBF := cl_set4 hZA.out (Value.int .i64 (pj : Int)) (Value.int .i64 (view + 1)) (Value.int .i64 (ln : Int)) (Value.slice (some ⟨g, 0, none⟩) n cap)
          have hbF := below_set4 hbA.out (Nat.le_succ _) (Value.int .i64 (pj : Int)) (Value.int .i64 (view + 1)) (Value.int .i64 (ln : Int)) (Value.slice (some ⟨g, 0, none⟩) n cap)
          have hgF := grown_set4 ((wr.setCell ⟨g9, 2, none⟩ (Value.int .i64 (ln : Int)))) (w.heap.size + 1) (Value.int .i64 (pj : Int)) (Value.int .i64 (view + 1)) (Value.int .i64 (ln : Int)) (Value.slice (some ⟨g, 0, none⟩) n cap)
          refine bodyPost_ret (v := .agg #[Value.int .i64 (pj : Int), Value.int .i64 (view + 1), Value.int .i64 (ln : Int), Value.slice (some ⟨g, 0, none⟩) n cap]) ?_ rfl ?_
          · exact results_cell_row (h := rfl) _ _ (w.heap.size + 1) 24 _ (0, 0) _ rfl hBF Try.underlying24 rfl (by kernel_rfl)
          clear hBF
          generalize (((((wr.setCell ⟨g9, 2, none⟩ (Value.int .i64 (ln : Int))).setCell ⟨(w.heap.size + 1), 0, none⟩ (Value.int .i64 (pj : Int))).setCell ⟨(w.heap.size + 1), 1, none⟩ (Value.int .i64 (view + 1))).setCell ⟨(w.heap.size + 1), 2, none⟩ (Value.int .i64 (ln : Int))).setCell ⟨(w.heap.size + 1), 3, none⟩ (Value.slice (some ⟨g, 0, none⟩) n cap)) = wF at *
          have hC := CmAt.of_own (p := (pj : Int)) (v := (view + 1)) (m := (ln : Int)) (Q := (fun b => (Q b ∧ b < w.heap.size) ∨ w.heap.size + 2 ≤ b)) (hrowA.out.grownO hgF (.inr (by intro e; simp [Value.ownBlock] at e; have := hgg.out; have := hg9w.out; omega))) hTn.out (fun s hs => (hEA.out s hs).st hgF (fun b hb e => by injection e with e; rcases hb with hb | hb <;> omega)) (Or.inr (by have := hgg.out; have := hg9w.out; omega))
          refine ⟨⟨_, rfl, hC.imp (fun b hb => hb.elim (fun h => Or.inl h.1) (fun h => Or.inr (by omega))), ?_⟩, hbF⟩
          rw [hF.out]
          rfl
  · have q1d : decide (primary < 0) = false := by simpa using q1
    obtain ⟨pj, rfl⟩ : ∃ pj : Nat, primary = (pj : Int) := ⟨primary.toNat, by omega⟩
    have hpn : pj < n := by omega
    clear hno q1 q1d
    obtain ⟨ad, hA, -, -, -, -⟩ := sv_cells hcm.out.at_ (show 0 < n by omega)
    (try simp only at hA)
    subst hA
    obtain ⟨k0, k1, k2, k3⟩ := cells4 (w1) (w.heap.size) (Value.int .i64 (pj : Int)) (Value.int .i64 view) (Value.int .i64 commit) (Value.slice (some ad) n c) (hX1.out)
    go_wp2_with fail
    refine (own_any (⟨(pj : Int), view, commit, some ad, n, c, sl⟩ : Cm) w1 (hcm.out.more hb1.out) hs1.out).mono ?_; rintro e w4 ⟨⟨g, cap, sl4, rfl, hrow4, hE4, hv4⟩, hq⟩
    clear k0 k1 k2 k3
    obtain ⟨g9, hg9⟩ : ∃ g9, g9 = w4.heap.size := ⟨_, rfl⟩
    have hX4 := Lib.hid (hX1.out.below hq hX1.out.lt)
    have hZ4 := Lib.hid (hZ1.out.below hq hZ1.out.lt)
    have hb4 := Lib.hid (hb1.out.trans (hq.mono hb1.out.size))
    (try simp only at hrow4 hE4 hv4)
    have hl4 : sl4.length = n := by
      have := congrArg List.length hv4
      simp only [List.length_map] at this
      rw [this]; exact hl.out
    have hgw4 := hrow4.grown_base hl4.symm
    have hz2 := hZ1.out.lt
    have hgg : Hid (g < g9) := by show g < g9; rw [hg9]; exact hgw4.2
    have hg9w : Hid (w.heap.size + 2 ≤ g ∧ w.heap.size + 2 ≤ g9 ∧ w.heap.size + 1 < g) := by have := hgg.out; show _ ∧ _ ∧ _; omega
    have hE4' : Hid (∀ s ∈ sl4, SmAt w4 (fun b => ((Q b ∧ b < w.heap.size) ∨ w.heap.size + 2 ≤ b) ∧ b ≠ g ∧ b ≠ g9) s) := fun s hs => (hE4 s hs).lt.imp (Q' := (fun b => ((Q b ∧ b < w.heap.size) ∨ w.heap.size + 2 ≤ b) ∧ b ≠ g ∧ b ≠ g9)) (fun b hb => ⟨hb.1.1.elim (fun h => Or.inl h) (fun h => Or.inr (by omega)), hb.1.2, by have := hb.2; omega⟩)
    have hrow4' := Lib.hid (hrow4.mono (show w.heap.size + 2 ≤ w1.heap.size by omega))
    replace hv4 := Lib.hid hv4
    replace hl4 := Lib.hid hl4
    clear hq hrow4 hE4 hX1 hZ1 hb1 hgw4
    obtain ⟨p, hpx0, -, hr20⟩ := tick_prim (⟨(pj : Int), view, commit, some ad, n, c, sl⟩ : Cm) pj hl.out hmj1.out rfl hpn hpu.out
    have hpx := Lib.hid hpx0
    have hr2 : Hid (r = ⟨(pj : Int), view, ((p.log.map Em.val).length : Int), bringS view (p.log.map Em.val) (sl.map Sm.val)⟩) := by show _ = _; rw [hr.out]; exact hr20
    clear hpx0 hr20
    have hX5 := Lib.hid (hX4.out.alloc (.cells #[Value.int .i64 (pj : Int), Value.int .i64 view, Value.int .i64 commit, Value.slice (some ⟨g, 0, none⟩) n cap] 24))
    have hZ5 := Lib.hid (hZ4.out.alloc (.cells #[Value.int .i64 (pj : Int), Value.int .i64 view, Value.int .i64 commit, Value.slice (some ⟨g, 0, none⟩) n cap] 24))
    have hN5 := Lib.hid (Blk.new w4 24 #[Value.int .i64 (pj : Int), Value.int .i64 view, Value.int .i64 commit, Value.slice (some ⟨g, 0, none⟩) n cap])
    have hb5 := Lib.hid (hb4.out.alloc hb4.out.size (.cells #[Value.int .i64 (pj : Int), Value.int .i64 view, Value.int .i64 commit, Value.slice (some ⟨g, 0, none⟩) n cap] 24))
    have hrow5 := Lib.hid (hrow4'.out.kept (a1 w4 (.cells #[Value.int .i64 (pj : Int), Value.int .i64 view, Value.int .i64 commit, Value.slice (some ⟨g, 0, none⟩) n cap] 24)))
    have hE5 : Hid (∀ s ∈ sl4, SmAt (w4.alloc (.cells #[Value.int .i64 (pj : Int), Value.int .i64 view, Value.int .i64 commit, Value.slice (some ⟨g, 0, none⟩) n cap] 24)) (fun b => ((Q b ∧ b < w.heap.size) ∨ w.heap.size + 2 ≤ b) ∧ b ≠ g ∧ b ≠ g9) s) := fun s hs => (hE4'.out s hs).more (a1 w4 _)
    clear hX4 hZ4 hb4 hrow4' hE4'
    have hp0d : decide ((pj : Int) < 0) = false := by simp
    have hp0i : ¬ (pj : Int) < 0 := by omega
    have hpl4 : pj < sl4.length := by rw [hl4.out]; exact hpn
    obtain ⟨x4, hx4⟩ : ∃ x4, sl4[pj] = x4 := ⟨_, rfl⟩
    have hx4v : x4.val = p.val := by
      have e1 : (sl4.map Sm.val)[pj]? = (sl.map Sm.val)[pj]? := by rw [hv4.out]
      rw [List.getElem?_map, List.getElem?_map, List.getElem?_eq_getElem hpl4, hpx.out, hx4] at e1
      injection e1
    have hLR5 : Hid (SmAt (w4.alloc (.cells #[Value.int .i64 (pj : Int), Value.int .i64 view, Value.int .i64 commit, Value.slice (some ⟨g, 0, none⟩) n cap] 24)) (fun b => ((Q b ∧ b < w.heap.size) ∨ w.heap.size + 2 ≤ b) ∧ b ≠ g ∧ b ≠ g9) x4) := hE5.out _ (by rw [← hx4]; exact List.getElem_mem hpl4)
    replace hx4 := Lib.hid hx4
    obtain ⟨yu, yv, lA, ln, lc, L8⟩ := x4
    replace hLR5 : Hid (LogAt (w4.alloc (.cells #[Value.int .i64 (pj : Int), Value.int .i64 view, Value.int .i64 commit, Value.slice (some ⟨g, 0, none⟩) n cap] 24)) (fun b => ((Q b ∧ b < w.heap.size) ∨ w.heap.size + 2 ≤ b) ∧ b ≠ g ∧ b ≠ g9) lA ln lc L8) := hLR5
    obtain ⟨nl, hnl⟩ : ∃ nl, nl = p.log.map Em.val := ⟨_, rfl⟩
    have hL8 : Hid (L8.map Em.val = nl) := (congrArg Sv.log hx4v).trans hnl.symm
    have hnll : Hid (nl.length = ln) := by show _ = _; rw [← hL8.out, List.length_map]; exact hLR5.out.len
    rw [← hnl] at hr2
    have hlnb : Hid (ln ≤ 5000 ∧ sumD L8 ≤ 1000000) := by
      have h1 := hsm.out p (List.mem_of_getElem? hpx.out)
      have h2 : p.log.length = p.n := LogAt.len (hcm.out.els p (List.mem_of_getElem? hpx.out))
      have h3 := hnll.out
      rw [hnl, List.length_map] at h3
      refine ⟨by omega, ?_⟩
      rw [← sumD_val0, hL8.out, hnl, sumD_val0]
      omega
    have hpnn : (pj : Int) < n := by omega
    have hp00 : (0 : Int) ≤ pj := by omega
    have c6 : (w4.alloc (.cells #[Value.int .i64 (pj : Int), Value.int .i64 view, Value.int .i64 commit, Value.slice (some ⟨g, 0, none⟩) n cap] 24)).cell? ⟨g, pj * 3 + 2, none⟩ = some (Value.slice lA ln lc) := by
      have := hrow5.out.cellAt hl4.out.symm (k := pj) hpl4 (j := 2) (by decide); rw [hx4.out] at this; exact this
    obtain ⟨m0, m1, m2, m3⟩ := cells4 ((w4.alloc (.cells #[Value.int .i64 (pj : Int), Value.int .i64 view, Value.int .i64 commit, Value.slice (some ⟨g, 0, none⟩) n cap] 24))) (w4.heap.size) (Value.int .i64 (pj : Int)) (Value.int .i64 view) (Value.int .i64 commit) (Value.slice (some ⟨g, 0, none⟩) n cap) (hN5.out)
    replace hnl := Lib.hid hnl
    clear hx4v
    go_wp2_with fail
    clear m0 m1 m2 m3 c6
    rw [← hg9] at hN5 ⊢
    replace hg9 := Lib.hid hg9
    generalize (w4.alloc (.cells #[Value.int .i64 (pj : Int), Value.int .i64 view, Value.int .i64 commit, Value.slice (some ⟨g, 0, none⟩) n cap] 24)) = w5 at *
    go_loopw [5] (fun i wr => ∃ (k : Nat) (T : List Sm), k ≤ n ∧ i = .int .i64 k ∧ Hid (T.length = n) ∧ Hid (LOwn svC 3 47 wr (w.heap.size + 2) (.slice (some ⟨g, 0, none⟩) n cap) T) ∧ Hid (∀ s ∈ T, SmAt wr (fun b => ((Q b ∧ b < w.heap.size) ∨ w.heap.size + 2 ≤ b) ∧ b ≠ g ∧ b ≠ g9) s) ∧ Hid (T.map Sm.val = (bringS view nl (sl.map Sm.val)).take k ++ (sl.map Sm.val).drop k) ∧ Hid (Blk wr w.heap.size 24 #[Value.int .i64 (pj : Int), Value.int .i64 view, Value.int .i64 commit, Value.slice (some ad) n c]) ∧ Hid (Blk wr (w.heap.size + 1) 24 #[Value.int .i64 0, Value.int .i64 0, Value.int .i64 0, Value.slice none 0 0]) ∧ Hid (Blk wr g9 24 #[Value.int .i64 (pj : Int), Value.int .i64 view, Value.int .i64 commit, Value.slice (some ⟨g, 0, none⟩) n cap]) ∧ Hid (LogAt wr (fun b => ((Q b ∧ b < w.heap.size) ∨ w.heap.size + 2 ≤ b) ∧ b ≠ g ∧ b ≠ g9) lA ln lc L8) ∧ Hid (Below w.heap.size w wr)) (fun i _ => n - (intOf i).toNat)
    case atStart => exact ⟨0, _, Nat.zero_le _, rfl, hl4.out, hrow5.out, hE5.out, by show _ = _; rw [hv4.out]; rfl, hX5.out, hZ5.out, hN5.out, hLR5.out, hb5.out⟩
    clear hrow5 hE5 hX5 hZ5 hN5 hLR5 hb5
    case round =>
      obtain ⟨k, T, hkn, rfl, hTn, hrow, hE, hRk, hX, hZ, hN, hLR, hb⟩ := hrel
      by_cases hlt : k < n
      · have hkT : k < T.length := by rw [hTn.out]; exact hlt
        have hk0 : (0 : Int) ≤ k := by omega
        have hk1 : (k : Int) < n := by omega
        obtain ⟨x, hx⟩ : ∃ x, T[k]? = some x := ⟨_, List.getElem?_eq_getElem hkT⟩
        have hxe : Hid (T[k] = x) := (List.getElem?_eq_some_iff.1 hx).2
        have hUx : Hid ((T.map Sm.val)[k]? = some x.val) := by show _ = _; rw [List.getElem?_map, hx]; rfl
        clear hx
        obtain ⟨xu, xv, xA, xn, xc, xl⟩ := x
        have e0 : wr.cell? ⟨g, k * 3, none⟩ = some (Value.bool xu) := by
          have := hrow.out.cellAt hTn.out.symm (k := k) hkT (j := 0) (by decide); rw [hxe.out] at this; exact this
        obtain ⟨q0, q1, q2, q3⟩ := cells4 (wr) (g9) (Value.int .i64 (pj : Int)) (Value.int .i64 view) (Value.int .i64 commit) (Value.slice (some ⟨g, 0, none⟩) n cap) (hN.out)
        cases xu with
        | false =>
          have hR1 : Hid (T.map Sm.val = (bringS view nl (sl.map Sm.val)).take (k + 1) ++ (sl.map Sm.val).drop (k + 1)) := bring_skip hRk.out hUx.out rfl
          go_wp2_with fail
          go_roundw
          case rel => exact ⟨k + 1, T, by omega, by go_num, hTn.out, hrow.out, hE.out, hR1.out, hX.out, hZ.out, hN.out, hLR.out, hb.out⟩
          case measure => simp [intOf]; omega
        | true =>
          have hcell : Hid (∀ wz, Below wr.heap.size wr wz → wz.cell? ⟨g9, 3, none⟩ = some (Value.slice (some ⟨g, 0, none⟩) n cap) ∧ wz.cell? ⟨g9, 1, none⟩ = some (Value.int .i64 view)) := fun wz hz => ⟨(hN.out.below hz hN.out.lt).cell 3, (hN.out.below hz hN.out.lt).cell 1⟩
          have hcl : Hid (∀ wz, Below wr.heap.size wr wz → Calls Try.prog 57 #[.slice lA ln lc] wz fun e w' => CopR wz.heap.size nl w' e ∧ Below wz.heap.size wz w') := fun wz hz => by
            rw [← hL8.out]
            exact copied_any lA ln lc L8 wz (hLR.out.more hz) hlnb.out.1 hlnb.out.2
          have hlvl : Hid (nl.length = ln) := hnll
          go_wp2_with fail
          refine RU.region [] [] 8 (F := F34b g9 g n cap k ln lc wr.heap.size lA view nl) (W := fun wz => Below wr.heap.size wr wz) (R := fun _ => Rb) rfl F34b_more (by kernel_rfl) (by kernel_rfl) (by kernel_rfl) (by kernel_rfl) (by kernel_rfl) (by kernel_rfl) ?_ ?_ ?_ ?_
          · exact (Below.refl _ _).drew
          · intro t ht
            unfold F34b
            split <;> first | trivial | exact rfl | (exact absurd ht (by decide))
          · intro i o hi ho
            have hcs : i = 0 ∨ i = 1 ∨ i = 2 ∨ i = 3 ∨ i = 4 ∨ i = 5 ∨ i = 6 ∨ i = 7 := by omega
            rcases hcs with rfl | rfl | rfl | rfl | rfl | rfl | rfl | rfl <;> (injection ho with ho; subst ho)
            · intro a w2 hw _ hf K hK
              have f0 := hf 3 rfl
              simp only [F34b] at f0
              clear hf
              go_simp
              exact hK _ _ _ rfl rfl hw (Below.refl _ _) (fun h => absurd h (by decide))
            · intro a w2 hw _ hf K hK
              have f0 := hf 52 rfl
              simp only [F34b] at f0
              clear hf
              have e := (hcell.out w2 hw).1
              go_simp
              exact hK _ _ _ rfl rfl hw (Below.refl _ _) (fun h => absurd h (by decide))
            · intro a w2 hw _ hf K hK
              have f0 := hf 5 rfl
              simp only [F34b] at f0
              clear hf
              go_simp
              exact hK _ _ _ rfl rfl hw (Below.refl _ _) (fun h => absurd h (by decide))
            · intro a w2 hw _ hf K hK
              have f0 := hf 3 rfl
              simp only [F34b] at f0
              clear hf
              go_simp
              exact hK _ _ _ rfl rfl hw (Below.refl _ _) (fun h => absurd h (by decide))
            · intro a w2 hw _ hf K hK
              have f0 := hf 55 rfl
              simp only [F34b] at f0
              clear hf
              have e := (hcell.out w2 hw).2
              go_simp
              exact hK _ _ _ rfl rfl hw (Below.refl _ _) (fun h => absurd h (by decide))
            · intro a w2 hw _ hf K hK
              have f0 := hf 4 rfl
              simp only [F34b] at f0
              clear hf
              go_simp
              exact hK _ _ _ rfl rfl hw (Below.refl _ _) (fun h => absurd h (by decide))
            · intro a w2 hw _ hf K hK
              have f0 := hf 57 rfl
              simp only [F34b] at f0
              clear hf
              go_simp
              refine (hcl.out w2 hw).mono ?_; rintro e w5 ⟨⟨v5, L5, rfl, hL5, hv5⟩, hbq⟩
              obtain ⟨A5, c5, rfl⟩ := hL5.form
              have hn5 : L5.length = ln := by have := congrArg List.length hv5; rw [List.length_map] at this; rw [this]; exact hlvl.out
              rw [hn5] at hL5 ⊢
              exact hK _ _ _ rfl ⟨A5, c5, L5, rfl, (hL5.at_ hn5).imp (fun b hb => Nat.le_trans hw.size hb), hv5⟩ (hw.trans (hbq.mono hw.size)) hbq (fun h => absurd h (by decide))
            · intro a w2 hw _ hf K hK
              have f0 := hf 56 rfl
              have f1 := hf 58 rfl
              simp only [F34b] at f0 f1
              clear hf
              obtain ⟨A5, c5, l5, e5, h51, h52⟩ := f1
              have h51 := Lib.hid h51
              have h52 := Lib.hid h52
              go_simp
              exact hK _ _ _ rfl ⟨A5, c5, l5, rfl, h51.out, h52.out⟩ hw (Below.refl _ _) (fun h => absurd h (by decide))
          · intro a' w9 hd hs hw hout hf
            have h59 := hf 7 59 (by decide) rfl rfl
            simp only [F34b] at h59
            have h53 := hf 1 53 (by decide) rfl rfl
            simp only [F34b] at h53
            have h54 := hf 2 54 (by decide) rfl rfl
            simp only [F34b] at h54
            have e0 := hout 0 rfl
            have e1 := hout 1 rfl
            have e2 := hout 2 rfl
            have e3 := hout 3 rfl
            have e4 := hout 4 rfl
            have e5 := hout 5 rfl
            have e6 := hout 6 rfl
            have e7 := hout 7 rfl
            have e8 := hout 8 rfl
            have e9 := hout 9 rfl
            have e10 := hout 10 rfl
            have e11 := hout 11 rfl
            have e12 := hout 12 rfl
            have e13 := hout 13 rfl
            have e14 := hout 14 rfl
            have e15 := hout 15 rfl
            have e16 := hout 16 rfl
            have e17 := hout 17 rfl
            have e18 := hout 18 rfl
            have e19 := hout 19 rfl
            have e20 := hout 20 rfl
            have e21 := hout 21 rfl
            have e22 := hout 22 rfl
            have e23 := hout 23 rfl
            have e24 := hout 24 rfl
            have e25 := hout 25 rfl
            have e26 := hout 26 rfl
            have e27 := hout 27 rfl
            have e28 := hout 28 rfl
            have e29 := hout 29 rfl
            have e30 := hout 30 rfl
            have e31 := hout 31 rfl
            have e32 := hout 32 rfl
            have e33 := hout 33 rfl
            have e34 := hout 34 rfl
            have e35 := hout 35 rfl
            have e36 := hout 36 rfl
            have e37 := hout 37 rfl
            have e38 := hout 38 rfl
            have e39 := hout 39 rfl
            have e40 := hout 40 rfl
            have e41 := hout 41 rfl
            have e42 := hout 42 rfl
            have e43 := hout 43 rfl
            have e44 := hout 44 rfl
            have e45 := hout 45 rfl
            have e46 := hout 46 rfl
            have e47 := hout 47 rfl
            have e48 := hout 48 rfl
            have e49 := hout 49 rfl
            have e50 := hout 50 rfl
            have e51 := hout 51 rfl
            have e61 := hout 61 rfl
            have e62 := hout 62 rfl
            have e63 := hout 63 rfl
            have e64 := hout 64 rfl
            simp only [List.getElem?_toArray, List.getElem?_cons_succ, List.getElem?_cons_zero] at e0 e1 e2 e3 e4 e5 e6 e7 e8 e9 e10 e11 e12 e13 e14 e15 e16 e17 e18 e19 e20 e21 e22 e23 e24 e25 e26 e27 e28 e29 e30 e31 e32 e33 e34 e35 e36 e37 e38 e39 e40 e41 e42 e43 e44 e45 e46 e47 e48 e49 e50 e51 e61 e62 e63 e64
            obtain ⟨tm, df⟩ := a'
            simp only at hd hs h59 h53 h54 e0 e1 e2 e3 e4 e5 e6 e7 e8 e9 e10 e11 e12 e13 e14 e15 e16 e17 e18 e19 e20 e21 e22 e23 e24 e25 e26 e27 e28 e29 e30 e31 e32 e33 e34 e35 e36 e37 e38 e39 e40 e41 e42 e43 e44 e45 e46 e47 e48 e49 e50 e51 e61 e62 e63 e64
            have e := F34b_lit tm hs
            simp only [h53, h54, e0, e1, e2, e3, e4, e5, e6, e7, e8, e9, e10, e11, e12, e13, e14, e15, e16, e17, e18, e19, e20, e21, e22, e23, e24, e25, e26, e27, e28, e29, e30, e31, e32, e33, e34, e35, e36, e37, e38, e39, e40, e41, e42, e43, e44, e45, e46, e47, e48, e49, e50, e51, e61, e62, e63, e64, Option.getD_some] at e
            clear hf hout hs
            rw [e, hd]
            clear e hd h53 h54 e0 e1 e2 e3 e4 e5 e6 e7 e8 e9 e10 e11 e12 e13 e14 e15 e16 e17 e18 e19 e20 e21 e22 e23 e24 e25 e26 e27 e28 e29 e30 e31 e32 e33 e34 e35 e36 e37 e38 e39 e40 e41 e42 e43 e44 e45 e46 e47 e48 e49 e50 e51 e61 e62 e63 e64
            generalize tm[59]?.getD undef = u59x at h59 ⊢
            generalize tm[52]?.getD undef = u52x, tm[55]?.getD undef = u55x, tm[56]?.getD undef = u56x, tm[57]?.getD undef = u57x, tm[58]?.getD undef = u58x, tm[60]?.getD undef = u60x
            obtain ⟨A9, c9, l9, rfl, hl9, hv9⟩ := h59
            have hrow9 := Lib.hid (hrow.out.kept hw)
            have hX9 := Lib.hid (hX.out.below hw hX.out.lt)
            have hZ9 := Lib.hid (hZ.out.below hw hZ.out.lt)
            have hN9 := Lib.hid (hN.out.below hw hN.out.lt)
            have hb9 : Hid (Below w.heap.size w w9) := hb.out.trans (hw.mono hb.out.size)
            have hE9 : Hid (∀ s ∈ T, SmAt w9 (fun b => ((Q b ∧ b < w.heap.size) ∨ w.heap.size + 2 ≤ b) ∧ b ≠ g ∧ b ≠ g9) s) := fun s hs => (hE.out s hs).more hw
            have hLR9 := Lib.hid (hLR.out.more hw)
            have hgX : Hid (g < wr.heap.size ∧ g9 < wr.heap.size) := ⟨(hrow.out.grown_base hTn.out.symm).2, hN.out.lt⟩
            have hwr2 : Hid (w.heap.size + 2 ≤ wr.heap.size) := hZ.out.lt
            replace hl9 := Lib.hid hl9
            replace hv9 := Lib.hid hv9
            clear hw hcell hcl hrow hX hZ hN hb hE hLR
            obtain ⟨q0, q1, q2, q3⟩ := cells4 (w9) (g9) (Value.int .i64 (pj : Int)) (Value.int .i64 view) (Value.int .i64 commit) (Value.slice (some ⟨g, 0, none⟩) n cap) (hN9.out)
            obtain ⟨c5, c6, c7⟩ := (show w9.cell? ⟨g, k * 3, none⟩ = some (Value.bool true) ∧ w9.cell? ⟨g, k * 3 + 1, none⟩ = some (Value.int .i64 xv) ∧ w9.cell? ⟨g, k * 3 + 2, none⟩ = some (Value.slice xA xn xc) from by
              refine ⟨?_, ?_, ?_⟩
              · have := hrow9.out.cellAt hTn.out.symm (k := k) hkT (j := 0) (by decide); rw [hxe.out] at this; exact this
              · have := hrow9.out.cellAt hTn.out.symm (k := k) hkT (j := 1) (by decide); rw [hxe.out] at this; exact this
              · have := hrow9.out.cellAt hTn.out.symm (k := k) hkT (j := 2) (by decide); rw [hxe.out] at this; exact this)
            have z5 : w9.frozen? ⟨g, k * 3, none⟩ = false := hrow9.out.frozenAt hTn.out.symm _
            have z6 : w9.frozen? ⟨g, k * 3 + 1, none⟩ = false := hrow9.out.frozenAt hTn.out.symm _
            have z7 : w9.frozen? ⟨g, k * 3 + 2, none⟩ = false := hrow9.out.frozenAt hTn.out.symm _
            have hst := hrow9.out.store hTn.out.symm (k := k) hkT (⟨true, view, A9, ln, c9, l9⟩ : Sm)
            have hrow3 : Hid (LOwn svC 3 47 (((w9.setCell ⟨g, k * 3, none⟩ (Value.bool true)).setCell ⟨g, k * 3 + 1, none⟩ (Value.int .i64 view)).setCell ⟨g, k * 3 + 2, none⟩ (Value.slice A9 ln c9)) (w.heap.size + 2) (.slice (some ⟨g, 0, none⟩) n cap) (T.set k (⟨true, view, A9, ln, c9, l9⟩ : Sm))) := hst.1
            have hg3 : Hid (w9.grownBy (((w9.setCell ⟨g, k * 3, none⟩ (Value.bool true)).setCell ⟨g, k * 3 + 1, none⟩ (Value.int .i64 view)).setCell ⟨g, k * 3 + 2, none⟩ (Value.slice A9 ln c9)) (some g)) := hst.2
            have hE3 : Hid (∀ s ∈ T.set k (⟨true, view, A9, ln, c9, l9⟩ : Sm), SmAt (((w9.setCell ⟨g, k * 3, none⟩ (Value.bool true)).setCell ⟨g, k * 3 + 1, none⟩ (Value.int .i64 view)).setCell ⟨g, k * 3 + 2, none⟩ (Value.slice A9 ln c9)) (fun b => ((Q b ∧ b < w.heap.size) ∨ w.heap.size + 2 ≤ b) ∧ b ≠ g ∧ b ≠ g9) s) := fun s hs => by
              rcases List.mem_or_eq_of_mem_set hs with hs | rfl
              · exact (hE9.out s hs).st hg3.out (fun b hb e => by injection e with e; exact hb.2.1 e)
              · show LogAt _ (fun b => ((Q b ∧ b < w.heap.size) ∨ w.heap.size + 2 ≤ b) ∧ b ≠ g ∧ b ≠ g9) _ _ _ _
                have h1 := hgX.out
                have h2 := hwr2.out
                refine LogAt.imp (LogAt.st hl9.out hg3.out (fun b hb e => ?_)) (fun b hb => ⟨Or.inr (by omega), by omega, by omega⟩)
                injection e with e; omega
            have hU3 : (T.set k (⟨true, view, A9, ln, c9, l9⟩ : Sm)).map Sm.val = (T.map Sm.val).set k ⟨true, view, nl⟩ := by
              rw [List.map_set]
              show _ = _
              congr 1
              show Sv.mk true view (l9.map Em.val) = _
              rw [hv9.out]
            have hX3 := Lib.hid (hX9.out.grown hg3.out (by intro e; injection e with e; have := hg9w.out; have := hgg.out; omega))
            have hZ3 := Lib.hid (hZ9.out.grown hg3.out (by intro e; injection e with e; have := hg9w.out; have := hgg.out; omega))
            have hN3 := Lib.hid (hN9.out.grown hg3.out (by intro e; injection e with e; have := hg9w.out; have := hgg.out; omega))
            have hLR3 := Lib.hid (hLR9.out.st hg3.out (fun b hb e => by injection e with e; exact hb.2.1 e))
            have hb3 := Lib.hid (hb9.out.grown hg3.out hb9.out.size (fun g8 e8 => by injection e8 with e8; have := hg9w.out; have := hgg.out; omega))
            have hl3 : Hid ((T.set k (⟨true, view, A9, ln, c9, l9⟩ : Sm)).length = n) := by show _ = _; rw [List.length_set]; exact hTn.out
            have hR3 : Hid ((T.set k (⟨true, view, A9, ln, c9, l9⟩ : Sm)).map Sm.val = (bringS view nl (sl.map Sm.val)).take (k + 1) ++ (sl.map Sm.val).drop (k + 1)) := by
              show _ = _
              rw [hU3]
              exact bring_up hRk.out hUx.out rfl
            clear hU3 hst hRk hE9 hrow9 hX9 hZ9 hN9 hLR9 hb9 hl9
            go_wp2_with fail
            go_roundw
            case rel => exact ⟨k + 1, T.set k (⟨true, view, A9, ln, c9, l9⟩ : Sm), by omega, by go_num, hl3.out, hrow3.out, hE3.out, hR3.out, hX3.out, hZ3.out, hN3.out, hLR3.out, hb3.out⟩
            case measure => simp [intOf]; omega
      · obtain rfl : n = k := by omega
        have hRf : Hid (T.map Sm.val = bringS view nl (sl.map Sm.val)) := by
          show _ = _
          have e1 : (bringS view nl (sl.map Sm.val)).length = n := by unfold bringS; rw [List.length_map, List.length_map]; exact hl.out
          rw [hRk.out, List.take_of_length_le (by rw [e1]; exact Nat.le_refl _), List.drop_eq_nil_of_le (by rw [List.length_map, hl.out]; exact Nat.le_refl _), List.append_nil]
        have hF : Hid (r = ⟨(pj : Int), view, (ln : Int), T.map Sm.val⟩) := by show _ = _; rw [hr2.out, hRf.out, ← hnll.out]
        clear hRk
        have hgA : Hid (wr.grownBy (wr.setCell ⟨g9, 2, none⟩ (Value.int .i64 (ln : Int))) (some g9)) := only_set (World.grownBy.refl _ _) _ _
        have hNA := Lib.hid (hN.out.set_ 2 (Value.int .i64 (ln : Int)))
        have hZA := Lib.hid (hZ.out.grown hgA.out (by intro e; injection e with e; have := hg9w.out; omega))
        have hbA := Lib.hid (below_set hb.out (show w.heap.size ≤ g9 by have := hg9w.out; omega) 2 (Value.int .i64 (ln : Int)))
        have hrowA := Lib.hid (hrow.out.grownO hgA.out (.inr (by intro e; simp [Value.ownBlock] at e; have := hgg.out; omega)))
        have hEA : Hid (∀ s ∈ T, SmAt (wr.setCell ⟨g9, 2, none⟩ (Value.int .i64 (ln : Int))) (fun b => (Q b ∧ b < w.heap.size) ∨ w.heap.size + 2 ≤ b) s) := fun s hs => ((hE.out s hs).st hgA.out (fun b hb e => by injection e with e; exact hb.2.2 e)).imp (fun b hb => hb.1)
        obtain ⟨q0, q1, q2, q3, x0, x1, x2, x3⟩ := cells4z (wr) (g9) (Value.int .i64 (pj : Int)) (Value.int .i64 view) (Value.int .i64 commit) (Value.slice (some ⟨g, 0, none⟩) n cap) (hN.out)
        obtain ⟨m0, m1, m2, m3⟩ := cells4 ((wr.setCell ⟨g9, 2, none⟩ (Value.int .i64 (ln : Int)))) (g9) (Value.int .i64 (pj : Int)) (Value.int .i64 view) (Value.int .i64 (ln : Int)) (Value.slice (some ⟨g, 0, none⟩) n cap) (hNA.out)
        obtain ⟨u0, u1, u2, u3, y0, y1, y2, y3⟩ := cells4z ((wr.setCell ⟨g9, 2, none⟩ (Value.int .i64 (ln : Int)))) ((w.heap.size + 1)) (Value.int .i64 0) (Value.int .i64 0) (Value.int .i64 0) (Value.slice none 0 0) (hZA.out)
        go_wp2_with fail
        (try simp only [Exit.inBlock, Exit.then])
        have hBF := cl_set4 hZA.out (Value.int .i64 (pj : Int)) (Value.int .i64 view) (Value.int .i64 (ln : Int)) (Value.slice (some ⟨g, 0, none⟩) n cap)
        have hbF := below_set4 hbA.out (Nat.le_succ _) (Value.int .i64 (pj : Int)) (Value.int .i64 view) (Value.int .i64 (ln : Int)) (Value.slice (some ⟨g, 0, none⟩) n cap)
        have hgF := grown_set4 ((wr.setCell ⟨g9, 2, none⟩ (Value.int .i64 (ln : Int)))) (w.heap.size + 1) (Value.int .i64 (pj : Int)) (Value.int .i64 view) (Value.int .i64 (ln : Int)) (Value.slice (some ⟨g, 0, none⟩) n cap)
        refine bodyPost_ret (v := .agg #[Value.int .i64 (pj : Int), Value.int .i64 view, Value.int .i64 (ln : Int), Value.slice (some ⟨g, 0, none⟩) n cap]) ?_ rfl ?_
        · exact results_cell_row (h := rfl) _ _ (w.heap.size + 1) 24 _ (0, 0) _ rfl hBF Try.underlying24 rfl (by kernel_rfl)
        clear hBF
        generalize (((((wr.setCell ⟨g9, 2, none⟩ (Value.int .i64 (ln : Int))).setCell ⟨(w.heap.size + 1), 0, none⟩ (Value.int .i64 (pj : Int))).setCell ⟨(w.heap.size + 1), 1, none⟩ (Value.int .i64 view)).setCell ⟨(w.heap.size + 1), 2, none⟩ (Value.int .i64 (ln : Int))).setCell ⟨(w.heap.size + 1), 3, none⟩ (Value.slice (some ⟨g, 0, none⟩) n cap)) = wF at *
        have hC := CmAt.of_own (p := (pj : Int)) (v := view) (m := (ln : Int)) (Q := (fun b => (Q b ∧ b < w.heap.size) ∨ w.heap.size + 2 ≤ b)) (hrowA.out.grownO hgF (.inr (by intro e; simp [Value.ownBlock] at e; have := hgg.out; have := hg9w.out; omega))) hTn.out (fun s hs => (hEA.out s hs).st hgF (fun b hb e => by injection e with e; rcases hb with hb | hb <;> omega)) (Or.inr (by have := hgg.out; have := hg9w.out; omega))
        refine ⟨⟨_, rfl, hC.imp (fun b hb => hb.elim (fun h => Or.inl h.1) (fun h => Or.inr (by omega))), ?_⟩, hbF⟩
        rw [hF.out]
        rfl
end Go.Proofs.Ytiapeenfggjpnaa
