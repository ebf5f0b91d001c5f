/- Orders: the reference's moved and Close, walked. -/
import Derived.Test.YtpejfnfhbpckiaaOG
set_option linter.unusedVariables false
set_option linter.unusedSimpArgs false
namespace Go.Proofs.Ytpejfnfhbpckiaa
open Go.RowKit Go.Proofs.Ytpejfnfhbpckiaa.Ord
theorem own_some {w : World} {base n : Nat} {v : Value} {l : List O} (h : OOwn w base v l) (hn : l.length = n) (h0 : 0 < n) : ∃ g c, v = .slice (some ⟨g, 0, none⟩) n c ∧ OOwn w base (.slice (some ⟨g, 0, none⟩) n c) l ∧ base ≤ g ∧ n ≤ c ∧ c ≤ maxLen := by
  subst hn
  rcases h.2.2 with ⟨_, hl⟩ | ⟨g, c, cur, rfl, a, b, q1, q2, _⟩
  · omega
  · exact ⟨g, c, rfl, h, a, q1, q2⟩
set_option maxRecDepth 100000 in
set_option maxHeartbeats 2000000 in
theorem moved_any (A : Option Addr) (l : List O) (n cap i : Nat) (s : Int) (w : World) (h : OAt w w.heap.size A n l) (hc : n ≤ cap) (hm : cap ≤ maxLen) (h1 : n ≤ 1000) (hno : ∀ o ∈ l, 0 ≤ o.notes ∧ o.notes ≤ 2147483647)
    (hi : i < l.length) :
    Calls Try.prog 40 #[.slice A n cap, .int .i64 i, .int .i64 s] w fun e w' => ∃ g c, e = .returned (.slice (some ⟨g, 0, none⟩) n c) ∧ OOwn w' w.heap.size (.slice (some ⟨g, 0, none⟩) n c) (l.set i (movedO l[i] s)) ∧ Below w.heap.size w w' := by
  obtain ⟨i0, hi0', hz0, hz1, hz2⟩ := info_parts o_info
  have hn := Lib.hid h.len
  have hin : i < n := by have := hn.out; omega
  have hi0 : (0 : Int) ≤ i := by omega
  have hi1 : (i : Int) < n := by omega
  have hno2 := hno _ (List.getElem_mem hi)
  obtain ⟨x, hx⟩ : ∃ x, l[i] = x := ⟨_, rfl⟩
  rw [hx] at hno2 ⊢
  replace hx := Lib.hid hx
  have hown0 : Hid ((w.alloc (.cells #[] 33)).ownsRow w.heap.size 33 7 (.slice (some ⟨w.heap.size, 0, none⟩) 0 0) 0 []) := World.ownsRow_lit w #[] 0 (Nat.le_refl _) (Nat.zero_le _) rfl
  have hrd : Hid (Reads (w.alloc (.cells #[] 33)) w.heap.size 7 A n (flat oC l)) := h.2.alloc (Nat.le_refl _) _
  replace h := Lib.hid h
  clear hno
  obtain ⟨x0, x1, x2, x3, x4, x5, x6⟩ := x
  simp only at hno2
  obtain ⟨hn1, hn2⟩ := hno2
  by_cases hs : x5 = s
  · have hd : (x5 != s) = false := by simpa using hs
    have hF : Hid (movedO ⟨x0, x1, x2, x3, x4, x5, x6⟩ s = ⟨x0, x1, x2, x3, x4, x5, x6⟩) := by show _ = _; rw [movedO, if_neg (by simpa using hs)]
    replace hs := Lib.hid hs
    go_enter Try.func40, Try.ntmps40
    go_wp2_with (at_builtin; refine wpList_append_any _ rfl (.tmp 8) (.tmp 9) _ rfl w.heap.size 33 i0 _ 7 64 Try.underlying22 hi0' hz0 hz1 hz2 rfl (by omega) (.slice (some ⟨w.heap.size, 0, none⟩) 0 0) 0 [] rfl hown0.out w.heap.size A n cap (flat oC l) rfl hrd.out (o_one _) (by simp only [maxLen]; omega) (by omega) (by simp) ?_; intro v' w1 hown1 hg1 hat1; have ho1 : OOwn w1 w.heap.size v' l := ⟨oC_len, by rw [hn.out]; simpa using hown1⟩; have hb1 : Hid (Below w.heap.size w w1) := (a1 w (.cells #[] 33)).grown hg1 (by simp) (fun k hk => by simp [Value.ownBlock] at hk; omega); clear hown1 hg1 hat1; obtain ⟨g, cp2, rfl, ho2, hgb, hq1, q2⟩ := own_some ho1 hn.out (by omega); clear ho1; replace ho2 := Lib.hid ho2; replace hgb := Lib.hid hgb; replace q2 : cp2 ≤ 2 ^ 63 - 1 := q2; obtain ⟨c0, c1, c2, c3, c4, c5, c6, f0, f1, f2, f3, f4, f5, f6⟩ := own_slots ho2.out hn.out hi hx.out; simp only at c0 c1 c2 c3 c4 c5 c6)
    go_ret
    exact ⟨g, cp2, rfl, by rw [hF.out, ← hx.out, List.set_getElem_self]; exact ho2.out, hb1.out⟩
  · have hd : (x5 != s) = true := by simpa using hs
    have hF : Hid (movedO ⟨x0, x1, x2, x3, x4, x5, x6⟩ s = ⟨x0, x1, x2, x3, x4, s, min (x6 + 1) 2147483647⟩) := by show _ = _; rw [movedO, if_pos (by simpa using hs)]
    replace hs := Lib.hid hs
    by_cases hmn : x6 < 2147483647
    · have hmm : Hid (x6 + 1 = min (x6 + 1) 2147483647) := by show _ = _; omega
      go_enter Try.func40, Try.ntmps40
      go_wp2_with (at_builtin; refine wpList_append_any _ rfl (.tmp 8) (.tmp 9) _ rfl w.heap.size 33 i0 _ 7 64 Try.underlying22 hi0' hz0 hz1 hz2 rfl (by omega) (.slice (some ⟨w.heap.size, 0, none⟩) 0 0) 0 [] rfl hown0.out w.heap.size A n cap (flat oC l) rfl hrd.out (o_one _) (by simp only [maxLen]; omega) (by omega) (by simp) ?_; intro v' w1 hown1 hg1 hat1; have ho1 : OOwn w1 w.heap.size v' l := ⟨oC_len, by rw [hn.out]; simpa using hown1⟩; have hb1 : Hid (Below w.heap.size w w1) := (a1 w (.cells #[] 33)).grown hg1 (by simp) (fun k hk => by simp [Value.ownBlock] at hk; omega); clear hown1 hg1 hat1; obtain ⟨g, cp2, rfl, ho2, hgb, hq1, q2⟩ := own_some ho1 hn.out (by omega); clear ho1; replace ho2 := Lib.hid ho2; replace hgb := Lib.hid hgb; replace q2 : cp2 ≤ 2 ^ 63 - 1 := q2; obtain ⟨c0, c1, c2, c3, c4, c5, c6, f0, f1, f2, f3, f4, f5, f6⟩ := own_slots ho2.out hn.out hi hx.out; simp only at c0 c1 c2 c3 c4 c5 c6)
      all_goals
        have hfin := 0
        clear hfin
        have hfin : Hid (∀ m : Int, m = min (x6 + 1) 2147483647 → OOwn ((w1.setCell ⟨g, i * 7 + 5, none⟩ (.int .i64 s)).setCell ⟨g, i * 7 + 6, none⟩ (.int .i64 m)) w.heap.size (.slice (some ⟨g, 0, none⟩) n cp2) (l.set i ⟨x0, x1, x2, x3, x4, s, min (x6 + 1) 2147483647⟩) ∧ w1.grownBy ((w1.setCell ⟨g, i * 7 + 5, none⟩ (.int .i64 s)).setCell ⟨g, i * 7 + 6, none⟩ (.int .i64 m)) (some g)) := fun m hm => by
          rw [← hm]
          exact ho2.out.storep hn.out.symm hi ⟨x0, x1, x2, x3, x4, s, m⟩ 5 [.int .i64 s, .int .i64 m] (by simp) (fun j hj => by
            rw [hx.out]
            rcases j with _ | _ | _ | _ | _ | _ | _ | j <;> first | rfl | omega)
        go_ret
        obtain ⟨q5, q6⟩ := hfin.out _ (by first | exact hmm.out | omega)
        exact ⟨g, cp2, rfl, by rw [hF.out]; exact q5, below_grown hb1.out q6 hgb.out⟩
    · have hmm : Hid (2147483647 = min (x6 + 1) 2147483647) := by show _ = _; omega
      go_enter Try.func40, Try.ntmps40
      go_wp2_with (at_builtin; refine wpList_append_any _ rfl (.tmp 8) (.tmp 9) _ rfl w.heap.size 33 i0 _ 7 64 Try.underlying22 hi0' hz0 hz1 hz2 rfl (by omega) (.slice (some ⟨w.heap.size, 0, none⟩) 0 0) 0 [] rfl hown0.out w.heap.size A n cap (flat oC l) rfl hrd.out (o_one _) (by simp only [maxLen]; omega) (by omega) (by simp) ?_; intro v' w1 hown1 hg1 hat1; have ho1 : OOwn w1 w.heap.size v' l := ⟨oC_len, by rw [hn.out]; simpa using hown1⟩; have hb1 : Hid (Below w.heap.size w w1) := (a1 w (.cells #[] 33)).grown hg1 (by simp) (fun k hk => by simp [Value.ownBlock] at hk; omega); clear hown1 hg1 hat1; obtain ⟨g, cp2, rfl, ho2, hgb, hq1, q2⟩ := own_some ho1 hn.out (by omega); clear ho1; replace ho2 := Lib.hid ho2; replace hgb := Lib.hid hgb; replace q2 : cp2 ≤ 2 ^ 63 - 1 := q2; obtain ⟨c0, c1, c2, c3, c4, c5, c6, f0, f1, f2, f3, f4, f5, f6⟩ := own_slots ho2.out hn.out hi hx.out; simp only at c0 c1 c2 c3 c4 c5 c6)
      all_goals
        have hfin := 0
        clear hfin
        have hfin : Hid (∀ m : Int, m = min (x6 + 1) 2147483647 → OOwn ((w1.setCell ⟨g, i * 7 + 5, none⟩ (.int .i64 s)).setCell ⟨g, i * 7 + 6, none⟩ (.int .i64 m)) w.heap.size (.slice (some ⟨g, 0, none⟩) n cp2) (l.set i ⟨x0, x1, x2, x3, x4, s, min (x6 + 1) 2147483647⟩) ∧ w1.grownBy ((w1.setCell ⟨g, i * 7 + 5, none⟩ (.int .i64 s)).setCell ⟨g, i * 7 + 6, none⟩ (.int .i64 m)) (some g)) := fun m hm => by
          rw [← hm]
          exact ho2.out.storep hn.out.symm hi ⟨x0, x1, x2, x3, x4, s, m⟩ 5 [.int .i64 s, .int .i64 m] (by simp) (fun j hj => by
            rw [hx.out]
            rcases j with _ | _ | _ | _ | _ | _ | _ | j <;> first | rfl | omega)
        go_ret
        obtain ⟨q5, q6⟩ := hfin.out _ (by first | exact hmm.out | omega)
        exact ⟨g, cp2, rfl, by rw [hF.out]; exact q5, below_grown hb1.out q6 hgb.out⟩
set_option maxRecDepth 100000 in
set_option maxHeartbeats 2000000 in
theorem rclose_some (A : Option Addr) (l : List O) (n cap : Nat) (id : Int) (done : Bool) (w : World) (h : OAt w w.heap.size A n l) (hc : n ≤ cap) (hm : cap ≤ maxLen) (h1 : n ≤ 1000) (hno : ∀ o ∈ l, 0 ≤ o.notes ∧ o.notes ≤ 2147483647)
    (i : Nat) (hi : i < l.length) (hid : idx id 0 l = i) (hs1 : 1 ≤ l[i].state) :
    Calls Try.prog 31 #[.slice A n cap, .int .i64 id, .bool done] w fun e w' => ∃ v, e = .returned (.tuple #[v, .int .i64 (if (done = true ∧ l[i].state ≠ 3) ∨ 3 < l[i].state then 10 else 0)]) ∧ OutV w w' (if (done = true ∧ l[i].state ≠ 3) ∨ 3 < l[i].state then l else l.set i (movedO l[i] (if done then 4 else 5))) v := by
  have hn := Lib.hid h.len
  have hin : i < n := by have := hn.out; omega
  have hi0 : (0 : Int) ≤ i := by omega
  have hi1 : (i : Int) < n := by omega
  have hmv := fun s w h => moved_any A l n cap i s w h hc hm h1 hno hi
  obtain ⟨x, hx⟩ : ∃ x, l[i] = x := ⟨_, rfl⟩
  rw [hx] at hs1 ⊢
  obtain ⟨ad, rfl, hbl, hk⟩ := h.kept hi hx
  rw [hx] at hmv
  replace hmv := Lib.hid hmv
  replace hx := Lib.hid hx
  replace h := Lib.hid h
  replace hk := Lib.hid hk
  clear hno
  replace hid := Lib.hid hid
  obtain ⟨x0, x1, x2, x3, x4, x5, x6⟩ := x
  simp only at hk hs1 ⊢
  by_cases hbad : (done = true ∧ x5 ≠ 3) ∨ 3 < x5
  · rw [if_pos hbad, if_pos hbad]
    have hb2 : (done = true ∧ x5 ≠ 3) ∨ (¬ (done = true ∧ x5 ≠ 3) ∧ 3 < x5) := by
      by_cases g : done = true ∧ x5 ≠ 3
      · exact .inl g
      · exact .inr ⟨g, hbad.resolve_left g⟩
    clear hbad
    rcases hb2 with ⟨rfl, hq⟩ | ⟨hq, hq2⟩
    · have hd : (x5 != 3) = true := by simpa using hq
      replace hq := Lib.hid hq
      go_enter Try.func31, Try.ntmps31
      go_wp2_with fail
      refine (find_any (some ad) l n cap id _ h.out (Nat.le_trans hc hm)).mono ?_; rintro e w1 ⟨rfl, hb1⟩
      rw [hid.out]
      obtain ⟨e0, e1, e2, e3, e4, e5, e6⟩ := hk.out _ hb1
      replace hb1 := Lib.hid hb1
      go_wp2_with fail
      go_ret2
      exact ⟨_, rfl, OutV.same h.out hc hm hb1.out⟩
    · have hd : (x5 != 3) = true := by simp; omega
      obtain rfl : done = false := by
        cases done
        · rfl
        · exact absurd ⟨rfl, by omega⟩ hq
      clear hq
      go_enter Try.func31, Try.ntmps31
      go_wp2_with fail
      refine (find_any (some ad) l n cap id _ h.out (Nat.le_trans hc hm)).mono ?_; rintro e w1 ⟨rfl, hb1⟩
      rw [hid.out]
      obtain ⟨e0, e1, e2, e3, e4, e5, e6⟩ := hk.out _ hb1
      replace hb1 := Lib.hid hb1
      go_wp2_with fail
      go_ret2
      exact ⟨_, rfl, OutV.same h.out hc hm hb1.out⟩
  · rw [if_neg hbad, if_neg hbad]
    have h3 : ¬ (3 < x5) := fun g => hbad (.inr g)
    have h3' : x5 ≤ 3 := by omega
    cases done
    · clear hbad h3
      rw [if_neg (by simp)]
      go_enter Try.func31, Try.ntmps31
      go_wp2_with fail
      refine (find_any (some ad) l n cap id _ h.out (Nat.le_trans hc hm)).mono ?_; rintro e w1 ⟨rfl, hb1⟩
      rw [hid.out]
      obtain ⟨e0, e1, e2, e3, e4, e5, e6⟩ := hk.out _ hb1
      replace hb1 := Lib.hid hb1
      go_wp2_with fail
      refine (hmv.out 5 _ (h.out.more hb1.out)).mono ?_; rintro e w2 ⟨g, c, rfl, ho2, hb2⟩
      replace ho2 := Lib.hid ho2
      replace hb2 : Hid (Below w.heap.size w w2) := hb1.out.trans (hb2.mono hb1.out.size)
      clear e0 e1 e2 e3 e4 e5 e6
      go_wp2_with fail
      go_ret2
      exact ⟨_, rfl, OutV.own ho2.out hb2.out⟩
    · have hx3 : x5 = 3 := by
        rcases (show x5 < 3 ∨ x5 = 3 by omega) with g | g
        · exact absurd (.inl ⟨rfl, by omega⟩) hbad
        · exact g
      subst hx3
      clear hbad h3
      rw [if_pos rfl]
      go_enter Try.func31, Try.ntmps31
      go_wp2_with fail
      refine (find_any (some ad) l n cap id _ h.out (Nat.le_trans hc hm)).mono ?_; rintro e w1 ⟨rfl, hb1⟩
      rw [hid.out]
      obtain ⟨e0, e1, e2, e3, e4, e5, e6⟩ := hk.out _ hb1
      replace hb1 := Lib.hid hb1
      go_wp2_with fail
      refine (hmv.out 4 _ (h.out.more hb1.out)).mono ?_; rintro e w2 ⟨g, c, rfl, ho2, hb2⟩
      replace ho2 := Lib.hid ho2
      replace hb2 : Hid (Below w.heap.size w w2) := hb1.out.trans (hb2.mono hb1.out.size)
      clear e0 e1 e2 e3 e4 e5 e6
      go_wp2_with fail
      go_ret2
      exact ⟨_, rfl, OutV.own ho2.out hb2.out⟩
theorem rclose_any (A : Option Addr) (l : List O) (n cap : Nat) (id : Int) (done : Bool) (w : World) (h : OAt w w.heap.size A n l) (hc : n ≤ cap) (hm : cap ≤ maxLen) (v : Vld nameB l) :
    Calls Try.prog 31 #[.slice A n cap, .int .i64 id, .bool done] w fun e w' => ∃ v, e = .returned (.tuple #[v, .int .i64 (closeF l id done).2]) ∧ OutV w w' (closeF l id done).1 v := by
  have h1 : n ≤ 1000 := by have := v.len; have := h.len; omega
  have hno : ∀ o ∈ l, 0 ≤ o.notes ∧ o.notes ≤ 2147483647 := fun o ho => by
    obtain ⟨j, hj, rfl⟩ := List.mem_iff_getElem.1 ho
    exact ⟨(v.ok j hj).n1, (v.ok j hj).n2⟩
  rcases idx_bd id l 0 with ⟨hid, _⟩ | ⟨i, hi, hid, _⟩
  · have e : closeF l id done = (l, 8) := by
      unfold closeF
      split
      · rfl
      · rw [if_pos (by rw [hid]; decide)]
    rw [e]
    exact rclose_none A l n cap id done w h hc hm hid
  · have hid' : idx id 0 l = i := by simpa using hid
    have k := v.ok i hi
    have s1 := k.s1
    have e : closeF l id done = if (done = true ∧ l[i].state ≠ 3) ∨ 3 < l[i].state then (l, 10) else (l.set i (movedO l[i] (if done then 4 else 5)), 0) := by
      unfold closeF
      rw [hid', Int.toNat_natCast, List.getElem?_eq_getElem hi]
      simp only
      rw [if_neg (by omega)]
      by_cases g : (done = true ∧ l[i].state ≠ 3) ∨ 3 < l[i].state
      · rw [if_pos g, if_pos]
        rcases g with ⟨rfl, g⟩ | g
        · exact ⟨g, .inl rfl⟩
        · exact ⟨by omega, .inr ⟨by omega, by omega⟩⟩
      · rw [if_neg g, if_neg, moved_enter k]
        · cases done
          · simp only [Bool.false_eq_true, if_false]; simp at g; omega
          · simp only [if_true]; simp at g; omega
        · rintro ⟨a, b⟩
          apply g
          rcases b with b | b
          · exact .inl ⟨b, a⟩
          · exact .inr (by omega)
    have hh := rclose_some A l n cap id done w h hc hm h1 hno i hi hid' s1
    rw [e]
    split
    · rename_i g
      rw [if_pos g, if_pos g] at hh
      exact hh
    · rename_i g
      rw [if_neg g, if_neg g] at hh
      exact hh
end Go.Proofs.Ytpejfnfhbpckiaa
