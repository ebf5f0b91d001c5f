/- Series: the reference's Valid; Span, limited and put of both. -/
import Derived.Test.YtljagdfgfgpdbaaA
set_option linter.unusedVariables false
namespace Go.Proofs.Ytljagdfgfgpdbaa
open Go.RowKit
set_option maxRecDepth 100000 in
set_option maxHeartbeats 2000000 in
theorem rvalid_any (A : Option Addr) (l : List Ser.Step) (n cap : Nat) (w : World) (h : SAt w w.heap.size A n l) (hm : n ≤ maxLen) :
    Calls Try.prog 26 #[.slice A n cap] w fun e w' => e = .returned (.int .i64 (Ser.valid l)) ∧ Below w.heap.size w w' := by
  unfold maxLen at hm
  have hn := Lib.hid h.len
  replace h := Lib.hid h
  by_cases hl : 512 < n
  · go_enter Try.func26, Try.ntmps26
    go_wp2_with fail
    go_ret
    exact ⟨ret_int (by rw [Ser.valid, if_pos (by rw [hn.out]; exact hl)]), Below.refl _ _⟩
  · have hv : Hid (Ser.valid l = Ser.vchk (prevT l 0) (l.drop 0)) := by show _ = _; rw [Ser.valid, if_neg (by rw [hn.out]; exact hl)]; rfl
    go_enter Try.func26, Try.ntmps26
    go_wp2_with fail
    go_loopw [3] (fun i wr => ∃ k : Nat, k ≤ n ∧ i = .int .i64 k ∧ Below w.heap.size w wr ∧ Ser.valid l = Ser.vchk (prevT l k) (l.drop k)) (fun i _ => n - (intOf i).toNat)
    case atStart => exact ⟨0, Nat.zero_le _, rfl, Below.refl _ _, hv.out⟩
    case round =>
      obtain ⟨k, hk, rfl, hb, hx⟩ := hrel
      clear hv
      by_cases hlt : k < n
      · have hkl : k < l.length := by rw [hn.out]; exact hlt
        have HS := Lib.hid (vchk_step l k hkl _ hx)
        clear hx
        obtain ⟨ad, hA, hbl, c0, c1⟩ := (h.out.below hb (Nat.le_refl _)).at_ hlt
        subst hA
        have hp : Hid (∀ h0 : 0 < k, wr.cell? (ad.add ((k - 1) * 2)) = some (.int .i64 (l[k - 1]'(by omega)).1)) := fun h0 => by
          obtain ⟨ad', hA, _, c, _⟩ := (h.out.below hb (Nat.le_refl _)).at_ (k := k - 1) (by omega)
          cases hA; exact c
        replace hb := Lib.hid hb
        generalize l[k].fst = t at *
        generalize l[k].snd = v at *
        by_cases ht : 0 ≤ t ∧ t ≤ 268435456
        · obtain ⟨t1, t2⟩ := ht
          have ht : Hid (Ser.okTime t = true) := by show _ = _; simp [Ser.okTime, t1, t2]
          by_cases hv : -1099511627776 ≤ v ∧ v ≤ 1099511627776
          · obtain ⟨v1, v2⟩ := hv
            have hv : Hid (Ser.okVal v = true) := by show _ = _; simp [Ser.okVal, v1, v2]
            by_cases h0 : 0 < k
            · have hq := hp.out h0
              have hd : decide ((0 : Int) < k) = true := by simp; omega
              by_cases hle : t ≤ l[k - 1].fst
              · have hx := Lib.hid (HS.out.2.2.2.1 ht.out hv.out h0 hle)
                go_wp2_with fail
                go_quiet (fail)
                go_wp2_with fail
                go_ret
                exact ⟨ret_int hx.out.symm, below_drewN hb.out _⟩
              · have hx := Lib.hid (HS.out.2.2.2.2 ht.out hv.out h0 hle)
                go_wp2_with fail
                go_quiet (fail)
                go_wp2_with fail
                go_roundw
                case rel => exact ⟨k + 1, by omega, by go_num, below_drewN hb.out _, hx.out⟩
                case measure => simp [intOf]; omega
            · have hx := Lib.hid (HS.out.2.2.1 ht.out hv.out (by omega))
              have hd : decide ((0 : Int) < k) = false := by simp; omega
              go_wp2_with fail
              go_quiet (fail)
              go_wp2_with fail
              go_roundw
              case rel => exact ⟨k + 1, by omega, by go_num, below_drewN hb.out _, hx.out⟩
              case measure => simp [intOf]; omega
          · have hx := Lib.hid (HS.out.2.1 ht.out (by simp [Ser.okVal]; omega))
            rcases (show v < -1099511627776 ∨ (-1099511627776 ≤ v ∧ 1099511627776 < v) by omega) with hv | ⟨hv1, hv⟩
            all_goals
              go_wp2_with fail
              go_ret
              exact ⟨ret_int hx.out.symm, hb.out⟩
        · have hx := Lib.hid (HS.out.1 (by simp [Ser.okTime]; omega))
          rcases (show t < 0 ∨ (0 ≤ t ∧ 268435456 < t) by omega) with ht | ⟨ht1, ht⟩
          all_goals
            go_wp2_with fail
            go_ret
            exact ⟨ret_int hx.out.symm, hb.out⟩
      · obtain rfl : k = n := by omega
        have hx2 := Lib.hid hx
        clear hx
        go_wp2_with fail
        go_ret
        exact ⟨ret_int (by rw [hx2.out, List.drop_of_length_le (by rw [hn.out]; omega)]; rfl), hb⟩
def isSpan (F T : Int) : Bool := decide (0 ≤ F) && decide (F ≤ T) && decide (T ≤ 268435456)
theorem isSpan_any (F T : Int) (w : World) : Calls Try.prog 38 #[.agg #[.int .i64 F, .int .i64 T]] w fun e w' => e = .returned (.bool (isSpan F T)) ∧ Below w.heap.size w w' := by
  by_cases h0 : 0 ≤ F
  · by_cases h1 : F ≤ T
    · go_enter Try.func38, Try.ntmps38
      go_wp2_with fail
      go_ret
      exact ⟨by simp [isSpan, h0, h1], (Below.refl _ _).alloc (Nat.le_refl _) _⟩
    · go_enter Try.func38, Try.ntmps38
      go_wp2_with fail
      go_ret
      exact ⟨by simp [isSpan]; omega, (Below.refl _ _).alloc (Nat.le_refl _) _⟩
  · go_enter Try.func38, Try.ntmps38
    go_wp2_with fail
    go_ret
    exact ⟨by simp [isSpan]; omega, (Below.refl _ _).alloc (Nat.le_refl _) _⟩
theorem rspan_any (F T : Int) (w : World) : Calls Try.prog 40 #[.agg #[.int .i64 F, .int .i64 T]] w fun e w' => e = .returned (.bool (isSpan F T)) ∧ Below w.heap.size w w' := by
  by_cases h0 : 0 ≤ F
  · by_cases h1 : F ≤ T
    · go_enter Try.func40, Try.ntmps40
      go_wp2_with fail
      go_ret
      exact ⟨by simp [isSpan, h0, h1], (Below.refl _ _).alloc (Nat.le_refl _) _⟩
    · go_enter Try.func40, Try.ntmps40
      go_wp2_with fail
      go_ret
      exact ⟨by simp [isSpan]; omega, (Below.refl _ _).alloc (Nat.le_refl _) _⟩
  · go_enter Try.func40, Try.ntmps40
    go_wp2_with fail
    go_ret
    exact ⟨by simp [isSpan]; omega, (Below.refl _ _).alloc (Nat.le_refl _) _⟩
theorem limited_yes (A : Option Addr) (n cap : Nat) (w : World) (h : n ≤ 512) : Calls Try.prog 34 #[.slice A n cap] w fun e w' => e = .returned (.tuple #[.slice A n cap, .int .i64 0]) ∧ w = w' := by
  go_enter Try.func34, Try.ntmps34
  go_wp2_with fail
  go_ret2
  exact ⟨rfl, rfl⟩
theorem limited_no (A : Option Addr) (n cap : Nat) (w : World) (h : 512 < n) : Calls Try.prog 34 #[.slice A n cap] w fun e w' => e = .returned (.tuple #[.slice none 0 0, .int .i64 3]) ∧ w = w' := by
  go_enter Try.func34, Try.ntmps34
  go_wp2_with fail
  go_ret2
  exact ⟨rfl, rfl⟩
theorem rlimited_yes (A : Option Addr) (n cap : Nat) (w : World) (h : n ≤ 512) : Calls Try.prog 36 #[.slice A n cap] w fun e w' => e = .returned (.tuple #[.slice A n cap, .int .i64 0]) ∧ w = w' := by
  go_enter Try.func36, Try.ntmps36
  go_wp2_with fail
  go_ret2
  exact ⟨rfl, rfl⟩
theorem rlimited_no (A : Option Addr) (n cap : Nat) (w : World) (h : 512 < n) : Calls Try.prog 36 #[.slice A n cap] w fun e w' => e = .returned (.tuple #[.slice none 0 0, .int .i64 3]) ∧ w = w' := by
  go_enter Try.func36, Try.ntmps36
  go_wp2_with fail
  go_ret2
  exact ⟨rfl, rfl⟩
/-- the last value, or 0 -/
def lastV (l : List Ser.Step) : Int := match l.getLast? with | some s => s.2 | none => 0
theorem lastV_emit (l : List Ser.Step) (t v : Int) : lastV (l ++ Ser.emit (lastV l) t v) = v := by
  unfold Ser.emit
  split
  · rename_i h; rw [List.append_nil, h]
  · simp [lastV]
theorem step_info : (Try.prog.info? 29).map (fun i => (i.zero, i.size, i.bytes)) = some (some (.agg #[.int .i64 0, .int .i64 0]), 2, 16) := by kernel_rfl
/-- a slice of the call's own that reads as l -/
def SOwn (w : World) (base : Nat) (v : Value) (l : List Ser.Step) : Prop := w.ownsRow base 29 2 v l.length (scells l)
theorem SOwn.nil (w : World) (base : Nat) : SOwn w base (.slice none 0 0) [] := World.ownsRow_nil _ _ _ _
theorem SOwn.form {w : World} {base : Nat} {v : Value} {l : List Ser.Step} (h : SOwn w base v l) : ∃ A cap, v = .slice A l.length cap ∧ l.length ≤ cap ∧ cap ≤ maxLen ∧ (∀ ad, A = some ad → base ≤ ad.block ∧ ad.block < w.heap.size) ∧ SAt w w.heap.size A l.length l := by
  rcases h.2 with ⟨rfl, hl⟩ | ⟨g, c, cur, rfl, h1, h2, h3, h4, h5⟩
  · obtain rfl : l = [] := List.eq_nil_of_length_eq_zero hl
    exact ⟨none, 0, rfl, Nat.le_refl _, Nat.zero_le _, fun _ h => (by cases h), SAt.nil _ _⟩
  · exact ⟨_, c, rfl, h3, h4, fun ad h => by cases h; exact ⟨h1, lt_of_heap h2⟩, Reads.of_own h⟩
theorem SOwn.kept {w w' : World} {base : Nat} {v : Value} {l : List Ser.Step} (h : SOwn w base v l) (hb : Below w.heap.size w w') : SOwn w' base v l := by
  rcases h.2 with ⟨rfl, hl⟩ | ⟨g, c, cur, rfl, h1, h2, h3, h4, h5, h6⟩
  · exact ⟨h.1, .inl ⟨rfl, hl⟩⟩
  · exact ⟨h.1, .inr ⟨g, c, cur, rfl, h1, (hb.block g (lt_of_heap h2)).trans h2, h3, h4, h5, h6⟩⟩
set_option maxRecDepth 100000 in
set_option maxHeartbeats 1000000 in
theorem put_any (base : Nat) (v : Value) (l : List Ser.Step) (t x : Int) (w : World) (hown : SOwn w base v l) (hb : base ≤ w.heap.size) (hl : l.length ≤ 1000000) :
    Calls Try.prog 39 #[v, .int .i64 t, .int .i64 x] w fun e w' => ∃ v', e = .returned v' ∧ SOwn w' base v' (l ++ Ser.emit (lastV l) t x) ∧ Below base w w' := by
  obtain ⟨A, cap, rfl, hcap, hmax, hbase, hat⟩ := hown.form
  obtain ⟨i0, hi0, hz0, hz1, hz2⟩ := info_parts step_info
  replace hown := Lib.hid hown
  replace hat := Lib.hid hat
  unfold maxLen at hmax
  clear hbase
  by_cases h0 : 0 < l.length
  · obtain ⟨ad, hA, hbl, c0, c1⟩ := hat.out.at_ (k := l.length - 1) (by omega)
    subst hA
    have hlast : Hid (lastV l = (l[l.length - 1]).2) := by show _ = _; simp [lastV, List.getLast?_eq_getElem?, List.getElem?_eq_getElem (show l.length - 1 < l.length by omega)]
    generalize (l[l.length - 1]).2 = y at *
    by_cases hx : x = y
    · have hd : (x == y) = true := by simpa using hx
      replace hx := Lib.hid hx
      go_enter Try.func39, Try.ntmps39
      go_wp2_with fail
      go_ret
      refine ⟨_, rfl, ?_, Below.refl _ _⟩
      rw [Ser.emit, if_pos (by rw [hlast.out]; exact hx.out), List.append_nil]
      exact hown.out
    · have hd : (x == y) = false := by simpa using hx
      have hem : Hid (l ++ Ser.emit (lastV l) t x = l ++ [(t, x)]) := by show _ = _; rw [hlast.out, Ser.emit, if_neg hx]
      replace hx := Lib.hid hx
      go_enter Try.func39, Try.ntmps39
      go_wp2_with (at_builtin; refine wpList_append_any _ rfl (.tmp 22) (.tmp 26) _ rfl base 29 i0 _ 2 16 Try.underlying22 hi0 hz0 hz1 hz2 rfl (by omega) (.slice (some ad) l.length cap) l.length (scells l) rfl (World.ownsRow.alloc hown.out _) (w.heap.size + 1) (some ⟨w.heap.size, 0, none⟩) 1 1 (scells [(t, x)]) rfl (reads_new w _ 29 2 1 _ rfl (by omega)) (scells_one _) (by simp only [maxLen]; omega) (by omega) (by simp; omega) ?_; intro v' w1 hown1 hg1 hat1)
      have hb1 : Below base w w1 := ((Below.refl _ _).alloc hb _).grown hg1 (by simp; omega) (fun g hg => ?_)
      · go_ret
        refine ⟨_, rfl, ?_, hb1⟩
        unfold SOwn
        rw [hem.out, List.length_append, scells_append]
        exact hown1
      · obtain ⟨h1, _⟩ := hown.out.lt g hg
        exact h1

  · obtain rfl : l = [] := List.eq_nil_of_length_eq_zero (by omega)
    by_cases hx : x = 0
    · subst hx
      go_enter Try.func39, Try.ntmps39
      go_wp2_with fail
      go_ret
      exact ⟨_, rfl, by simpa [Ser.emit, lastV] using hown.out, Below.refl _ _⟩
    · have hd : (x == 0) = false := by simpa using hx
      have hem : Hid (Ser.emit (lastV []) t x = [(t, x)]) := by show _ = _; rw [Ser.emit, if_neg (by simpa [lastV] using hx)]
      replace hx := Lib.hid hx
      go_enter Try.func39, Try.ntmps39
      go_wp2_with (at_builtin; refine wpList_append_any _ rfl (.tmp 22) (.tmp 26) _ rfl base 29 i0 _ 2 16 Try.underlying22 hi0 hz0 hz1 hz2 rfl (by omega) (.slice A ([] : List Ser.Step).length cap) ([] : List Ser.Step).length (scells ([] : List Ser.Step)) rfl (World.ownsRow.alloc hown.out _) (w.heap.size + 1) (some ⟨w.heap.size, 0, none⟩) 1 1 (scells [(t, x)]) rfl (reads_new w _ 29 2 1 _ rfl (by omega)) (scells_one _) (by simp only [maxLen]; omega) (by omega) (by simp; omega) ?_; intro v' w1 hown1 hg1 hat1)
      have hb1 : Below base w w1 := ((Below.refl _ _).alloc hb _).grown hg1 (by simp; omega) (fun g hg => ?_)
      · go_ret
        refine ⟨_, rfl, ?_, hb1⟩
        unfold SOwn
        rw [hem.out]
        exact hown1
      · obtain ⟨h1, _⟩ := hown.out.lt g hg
        exact h1
set_option maxRecDepth 100000 in
set_option maxHeartbeats 1000000 in
theorem rput_any (base : Nat) (v : Value) (l : List Ser.Step) (t x : Int) (w : World) (hown : SOwn w base v l) (hb : base ≤ w.heap.size) (hl : l.length ≤ 1000000) :
    Calls Try.prog 41 #[v, .int .i64 t, .int .i64 x] w fun e w' => ∃ v', e = .returned v' ∧ SOwn w' base v' (l ++ Ser.emit (lastV l) t x) ∧ Below base w w' := by
  obtain ⟨A, cap, rfl, hcap, hmax, hbase, hat⟩ := hown.form
  obtain ⟨i0, hi0, hz0, hz1, hz2⟩ := info_parts step_info
  replace hown := Lib.hid hown
  replace hat := Lib.hid hat
  unfold maxLen at hmax
  clear hbase
  by_cases h0 : 0 < l.length
  · obtain ⟨ad, hA, hbl, c0, c1⟩ := hat.out.at_ (k := l.length - 1) (by omega)
    subst hA
    have hlast : Hid (lastV l = (l[l.length - 1]).2) := by show _ = _; simp [lastV, List.getLast?_eq_getElem?, List.getElem?_eq_getElem (show l.length - 1 < l.length by omega)]
    generalize (l[l.length - 1]).2 = y at *
    by_cases hx : x = y
    · have hd : (x == y) = true := by simpa using hx
      replace hx := Lib.hid hx
      go_enter Try.func41, Try.ntmps41
      go_wp2_with fail
      go_ret
      refine ⟨_, rfl, ?_, Below.refl _ _⟩
      rw [Ser.emit, if_pos (by rw [hlast.out]; exact hx.out), List.append_nil]
      exact hown.out
    · have hd : (x == y) = false := by simpa using hx
      have hem : Hid (l ++ Ser.emit (lastV l) t x = l ++ [(t, x)]) := by show _ = _; rw [hlast.out, Ser.emit, if_neg hx]
      replace hx := Lib.hid hx
      go_enter Try.func41, Try.ntmps41
      go_wp2_with (at_builtin; refine wpList_append_any _ rfl (.tmp 22) (.tmp 26) _ rfl base 29 i0 _ 2 16 Try.underlying22 hi0 hz0 hz1 hz2 rfl (by omega) (.slice (some ad) l.length cap) l.length (scells l) rfl (World.ownsRow.alloc hown.out _) (w.heap.size + 1) (some ⟨w.heap.size, 0, none⟩) 1 1 (scells [(t, x)]) rfl (reads_new w _ 29 2 1 _ rfl (by omega)) (scells_one _) (by simp only [maxLen]; omega) (by omega) (by simp; omega) ?_; intro v' w1 hown1 hg1 hat1)
      have hb1 : Below base w w1 := ((Below.refl _ _).alloc hb _).grown hg1 (by simp; omega) (fun g hg => ?_)
      · go_ret
        refine ⟨_, rfl, ?_, hb1⟩
        unfold SOwn
        rw [hem.out, List.length_append, scells_append]
        exact hown1
      · obtain ⟨h1, _⟩ := hown.out.lt g hg
        exact h1

  · obtain rfl : l = [] := List.eq_nil_of_length_eq_zero (by omega)
    by_cases hx : x = 0
    · subst hx
      go_enter Try.func41, Try.ntmps41
      go_wp2_with fail
      go_ret
      exact ⟨_, rfl, by simpa [Ser.emit, lastV] using hown.out, Below.refl _ _⟩
    · have hd : (x == 0) = false := by simpa using hx
      have hem : Hid (Ser.emit (lastV []) t x = [(t, x)]) := by show _ = _; rw [Ser.emit, if_neg (by simpa [lastV] using hx)]
      replace hx := Lib.hid hx
      go_enter Try.func41, Try.ntmps41
      go_wp2_with (at_builtin; refine wpList_append_any _ rfl (.tmp 22) (.tmp 26) _ rfl base 29 i0 _ 2 16 Try.underlying22 hi0 hz0 hz1 hz2 rfl (by omega) (.slice A ([] : List Ser.Step).length cap) ([] : List Ser.Step).length (scells ([] : List Ser.Step)) rfl (World.ownsRow.alloc hown.out _) (w.heap.size + 1) (some ⟨w.heap.size, 0, none⟩) 1 1 (scells [(t, x)]) rfl (reads_new w _ 29 2 1 _ rfl (by omega)) (scells_one _) (by simp only [maxLen]; omega) (by omega) (by simp; omega) ?_; intro v' w1 hown1 hg1 hat1)
      have hb1 : Below base w w1 := ((Below.refl _ _).alloc hb _).grown hg1 (by simp; omega) (fun g hg => ?_)
      · go_ret
        refine ⟨_, rfl, ?_, hb1⟩
        unfold SOwn
        rw [hem.out]
        exact hown1
      · obtain ⟨h1, _⟩ := hown.out.lt g hg
        exact h1
end Go.Proofs.Ytljagdfgfgpdbaa
