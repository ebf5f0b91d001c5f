/- Series: Add and Least, walked: the reference's. -/
import Derived.Test.YtljagdfgfgpdbaaF
set_option linter.unusedVariables false
namespace Go.Proofs.Ytljagdfgfgpdbaa
open Go.RowKit
theorem wide_snoc (l : List Ser.Step) (k : Nat) (h : k < l.length) : Ser.wide (l.take (k + 1)) = (Ser.wide (l.take k) || !Ser.okVal (l[k]).2) := by
  unfold Ser.wide; rw [List.take_succ_eq_append_getElem h, List.any_append, List.any_cons, List.any_nil, Bool.or_false]
theorem wide_of_take (l : List Ser.Step) (k : Nat) (h : Ser.wide (l.take k) = true) : Ser.wide l = true := by
  unfold Ser.wide at *
  rw [List.any_eq_true] at *
  obtain ⟨x, hx, h2⟩ := h
  exact ⟨x, List.mem_of_mem_take hx, h2⟩
theorem mrgLen (f : Int → Int → Int) : ∀ (n : Nat) (a b : List Ser.Step) (x y last : Int), (Ser.mrg f n a b x y last).length ≤ n
  | 0, _, _, _, _, _ => Nat.le_refl _
  | n + 1, [], [], _, _, _ => Nat.zero_le _
  | n + 1, s :: a, [], x, y, last => by simp only [Ser.mrg, List.length_append]; have := mrgLen f n a [] s.2 y (f s.2 y); have := emit_len last s.1 (f s.2 y); omega
  | n + 1, [], r :: b, x, y, last => by simp only [Ser.mrg, List.length_append]; have := mrgLen f n [] b x r.2 (f x r.2); have := emit_len last r.1 (f x r.2); omega
  | n + 1, s :: a, r :: b, x, y, last => by
    simp only [Ser.mrg]
    split
    · simp only [List.length_append]; have := mrgLen f n a (r :: b) s.2 y (f s.2 y); have := emit_len last s.1 (f s.2 y); omega
    · split
      · simp only [List.length_append]; have := mrgLen f n (s :: a) b x r.2 (f x r.2); have := emit_len last r.1 (f x r.2); omega
      · simp only [List.length_append]; have := mrgLen f n a b s.2 r.2 (f s.2 r.2); have := emit_len last s.1 (f s.2 r.2); omega
theorem combLen (f : Int → Int → Int) (a b : List Ser.Step) (h : a.length + b.length ≤ 1000000) : (Ser.comb f a b).length ≤ 1000000 := Nat.le_trans (mrgLen f _ a b 0 0 0) h
set_option maxRecDepth 100000 in
set_option maxHeartbeats 1000000 in
theorem radd_any (A1 A2 : Option Addr) (a b : List Ser.Step) (n1 c1 n2 c2 : Nat) (w : World) (ha : SAt w w.heap.size A1 n1 a) (hb : SAt w w.heap.size A2 n2 b) (h1 : n1 ≤ c1) (h2 : n2 ≤ c2) (m1 : c1 ≤ maxLen) (m2 : c2 ≤ maxLen) :
    Calls Try.prog 13 #[.slice A1 n1 c1, .slice A2 n2 c2] w fun e w' => ∃ v, e = .returned (.tuple #[v, .int .i64 (addF a b).2]) ∧ SOwn w' w.heap.size v (addF a b).1 ∧ Below w.heap.size w w' := by
  have la := Lib.hid ha.len
  have lb := Lib.hid hb.len
  have mn1 : n1 ≤ maxLen := Nat.le_trans h1 m1
  have mn2 : n2 ≤ maxLen := Nat.le_trans h2 m2
  replace ha := Lib.hid ha
  replace hb := Lib.hid hb
  by_cases hva : Ser.valid a = 0
  · by_cases hvb : Ser.valid b = 0
    · obtain ⟨pa, l1⟩ := Ser.valid_asc hva
      obtain ⟨pb, l2⟩ := Ser.valid_asc hvb
      have hF : Hid (addF a b = pack (if Ser.wide (Ser.comb (fun x y => x + y) a b) then 2 else 0) (Ser.comb (fun x y => x + y) a b)) := by show _ = _; rw [addF, hva, hvb]; rfl
      replace hva := Lib.hid hva
      replace hvb := Lib.hid hvb
      replace pa := Lib.hid pa
      replace pb := Lib.hid pb
      have l1' : n1 ≤ 512 := by have := la.out; omega
      have l2' : n2 ≤ 512 := by have := lb.out; omega
      go_enter Try.func13, Try.ntmps13
      go_wp2_with fail
      refine (rvalid_any A1 a n1 c1 _ ha.out mn1).mono ?_
      rintro e w1 ⟨rfl, hb1⟩
      rw [hva.out]
      have hs1 := hb1.size
      replace hb1 := Lib.hid hb1
      go_wp2_with fail
      refine (rvalid_any A2 b n2 c2 _ (hb.out.more hb1.out) mn2).mono ?_
      rintro e w2 ⟨rfl, hb2⟩
      rw [hvb.out]
      replace hb2 := Lib.hid (hb1.out.trans (hb2.mono hs1))
      clear hb1 hs1
      go_wp2_with fail
      refine (rcombAdd A1 A2 a b n1 c1 n2 c2 _ (ha.out.more hb2.out) (hb.out.more hb2.out) l1' l2' pa.out pb.out).mono ?_
      rintro e w3 ⟨v, rfl, hown, hb3⟩
      replace hown := SOwn.mono hown hb2.out.size
      replace hb3 := Lib.hid (hb2.out.trans (hb3.mono hb2.out.size))
      have hcl : (Ser.comb (fun x y => x + y) a b).length ≤ 1000000 := combLen (fun x y => x + y) a b (by omega)
      generalize Ser.comb (fun x y => x + y) a b = C at *
      obtain ⟨A3, c3, rfl, hc31, hc32, _, hat⟩ := hown.form
      replace hown := Lib.hid hown
      replace hat := Lib.hid hat
      go_wp2_with fail
      go_loop [9] (fun i => ∃ k : Nat, k ≤ C.length ∧ i = .int .i64 k ∧ Ser.wide (C.take k) = false) (fun i => C.length - (intOf i).toNat)
      case atStart => exact ⟨0, Nat.zero_le _, rfl, rfl⟩
      case round =>
        obtain ⟨k, hk, rfl, hw⟩ := hrel
        by_cases hlt : k < C.length
        · obtain ⟨ad, hA, _, c0, c1⟩ := hat.out.at_ hlt
          subst hA
          have hsn := wide_snoc C k hlt
          rw [hw, Bool.false_or] at hsn
          clear hw
          generalize (C[k]).2 = x at *
          by_cases hx : -1099511627776 ≤ x ∧ x ≤ 1099511627776
          · obtain ⟨x1, x2⟩ := hx
            have hsn2 : Hid (Ser.wide (C.take (k + 1)) = false) := by show _ = _; rw [hsn]; simp [Ser.okVal, x1, x2]
            clear hsn
            go_wp2_with fail
            go_round
            case rel => exact ⟨k + 1, by omega, by go_num, hsn2.out⟩
            case measure => simp [intOf]; omega
          · have hF2 : Hid (addF a b = ([], 2)) := by
              show _ = _
              rw [hF.out, wide_of_take C (k + 1) (by rw [hsn]; simp [Ser.okVal]; omega)]; rfl
            clear hsn
            rcases (show x < -1099511627776 ∨ (-1099511627776 ≤ x ∧ 1099511627776 < x) by omega) with hx | ⟨hx1, hx⟩
            all_goals
              go_wp2_with fail
              go_ret2
              exact ⟨_, by rw [hF2.out]; rfl, by rw [hF2.out]; exact SOwn.nil _ _, hb3.out⟩
        · have hw2 : Ser.wide C = false := by rw [List.take_of_length_le (by omega)] at hw; exact hw
          replace hF : Hid (addF a b = pack 0 C) := by show _ = _; rw [hF.out, hw2]; rfl
          clear hw hw2
          by_cases hl : C.length ≤ 512
          · have hF2 : Hid (addF a b = (C, 0)) := by show _ = _; rw [hF.out, pack, if_neg (by simp), if_neg (by omega)]
            go_wp2_with fail
            refine (rlimited_yes A3 C.length c3 _ hl).mono ?_
            rintro e wz ⟨rfl, rfl⟩
            go_wp2_with fail
            go_ret2
            exact ⟨_, by rw [hF2.out]; rfl, by rw [hF2.out]; exact hown.out, hb3.out⟩
          · have hF2 : Hid (addF a b = ([], 3)) := by show _ = _; rw [hF.out, pack, if_neg (by simp), if_pos (by omega)]
            go_wp2_with fail
            refine (rlimited_no A3 C.length c3 _ (by omega)).mono ?_
            rintro e wz ⟨rfl, rfl⟩
            go_wp2_with fail
            go_ret2
            exact ⟨_, by rw [hF2.out]; rfl, by rw [hF2.out]; exact SOwn.nil _ _, hb3.out⟩
    · have hd : (Ser.valid b != 0) = true := by simpa using hvb
      have hd2 : (Ser.valid b == 0) = false := by simpa using hvb
      have hF : Hid (addF a b = ([], Ser.valid b)) := by show _ = _; rw [addF, if_neg (by rw [hva]; simp), if_pos hvb]
      replace hva := Lib.hid hva
      replace hvb := Lib.hid hvb
      go_enter Try.func13, Try.ntmps13
      go_wp2_with fail
      refine (rvalid_any A1 a n1 c1 _ ha.out mn1).mono ?_
      rintro e w1 ⟨rfl, hb1⟩
      replace hb1 := Lib.hid hb1
      rw [hva.out]
      go_wp2_with fail
      refine (rvalid_any A2 b n2 c2 _ (hb.out.more hb1.out) mn2).mono ?_
      rintro e w2 ⟨rfl, hb2⟩
      replace hb1 := Lib.hid (hb1.out.trans (hb2.mono hb1.out.size))
      generalize Ser.valid b = ev at *
      go_wp2_with fail
      go_ret2
      exact ⟨_, by rw [hF.out]; rfl, by rw [hF.out]; exact SOwn.nil _ _, hb1.out⟩
  · have hd : (Ser.valid a != 0) = true := by simpa using hva
    have hd2 : (Ser.valid a == 0) = false := by simpa using hva
    have hF : Hid (addF a b = ([], Ser.valid a)) := by show _ = _; rw [addF, if_pos hva]
    replace hva := Lib.hid hva
    go_enter Try.func13, Try.ntmps13
    go_wp2_with fail
    refine (rvalid_any A1 a n1 c1 _ ha.out mn1).mono ?_
    rintro e w1 ⟨rfl, hb1⟩
    replace hb1 := Lib.hid hb1
    generalize Ser.valid a = ev at *
    go_wp2_with fail
    go_ret2
    exact ⟨_, by rw [hF.out]; rfl, by rw [hF.out]; exact SOwn.nil _ _, hb1.out⟩
set_option maxRecDepth 100000 in
set_option maxHeartbeats 1000000 in
theorem rleast_any (A1 A2 : Option Addr) (a b : List Ser.Step) (n1 c1 n2 c2 : Nat) (w : World) (ha : SAt w w.heap.size A1 n1 a) (hb : SAt w w.heap.size A2 n2 b) (h1 : n1 ≤ c1) (h2 : n2 ≤ c2) (m1 : c1 ≤ maxLen) (m2 : c2 ≤ maxLen) :
    Calls Try.prog 16 #[.slice A1 n1 c1, .slice A2 n2 c2] w fun e w' => ∃ v, e = .returned (.tuple #[v, .int .i64 (leastF a b).2]) ∧ SOwn w' w.heap.size v (leastF a b).1 ∧ Below w.heap.size w w' := by
  have la := Lib.hid ha.len
  have lb := Lib.hid hb.len
  have mn1 : n1 ≤ maxLen := Nat.le_trans h1 m1
  have mn2 : n2 ≤ maxLen := Nat.le_trans h2 m2
  replace ha := Lib.hid ha
  replace hb := Lib.hid hb
  by_cases hva : Ser.valid a = 0
  · by_cases hvb : Ser.valid b = 0
    · obtain ⟨pa, l1⟩ := Ser.valid_asc hva
      obtain ⟨pb, l2⟩ := Ser.valid_asc hvb
      have hF : Hid (leastF a b = pack 0 (Ser.comb (fun x y => min x y) a b)) := by show _ = _; rw [leastF, hva, hvb]; rfl
      replace hva := Lib.hid hva
      replace hvb := Lib.hid hvb
      replace pa := Lib.hid pa
      replace pb := Lib.hid pb
      have l1' : n1 ≤ 512 := by have := la.out; omega
      have l2' : n2 ≤ 512 := by have := lb.out; omega
      go_enter Try.func16, Try.ntmps16
      go_wp2_with fail
      refine (rvalid_any A1 a n1 c1 _ ha.out mn1).mono ?_
      rintro e w1 ⟨rfl, hb1⟩
      rw [hva.out]
      have hs1 := hb1.size
      replace hb1 := Lib.hid hb1
      go_wp2_with fail
      refine (rvalid_any A2 b n2 c2 _ (hb.out.more hb1.out) mn2).mono ?_
      rintro e w2 ⟨rfl, hb2⟩
      rw [hvb.out]
      replace hb2 := Lib.hid (hb1.out.trans (hb2.mono hs1))
      clear hb1 hs1
      go_wp2_with fail
      refine (rcombLeast A1 A2 a b n1 c1 n2 c2 _ (ha.out.more hb2.out) (hb.out.more hb2.out) l1' l2' pa.out pb.out).mono ?_
      rintro e w3 ⟨v, rfl, hown, hb3⟩
      replace hown := SOwn.mono hown hb2.out.size
      replace hb3 := Lib.hid (hb2.out.trans (hb3.mono hb2.out.size))
      have hcl : (Ser.comb (fun x y => min x y) a b).length ≤ 1000000 := combLen (fun x y => min x y) a b (by omega)
      generalize Ser.comb (fun x y => min x y) a b = C at *
      obtain ⟨A3, c3, rfl, hc31, hc32, _, _⟩ := hown.form
      replace hown := Lib.hid hown
      by_cases hl : C.length ≤ 512
      · have hF2 : Hid (leastF a b = (C, 0)) := by show _ = _; rw [hF.out, pack, if_neg (by simp), if_neg (by omega)]
        go_wp2_with fail
        refine (rlimited_yes A3 C.length c3 _ hl).mono ?_
        rintro e wz ⟨rfl, rfl⟩
        go_wp2_with fail
        go_ret2
        exact ⟨_, by rw [hF2.out]; rfl, by rw [hF2.out]; exact hown.out, hb3.out⟩
      · have hF2 : Hid (leastF a b = ([], 3)) := by show _ = _; rw [hF.out, pack, if_neg (by simp), if_pos (by omega)]
        go_wp2_with fail
        refine (rlimited_no A3 C.length c3 _ (by omega)).mono ?_
        rintro e wz ⟨rfl, rfl⟩
        go_wp2_with fail
        go_ret2
        exact ⟨_, by rw [hF2.out]; rfl, by rw [hF2.out]; exact SOwn.nil _ _, hb3.out⟩
    · have hd : (Ser.valid b != 0) = true := by simpa using hvb
      have hd2 : (Ser.valid b == 0) = false := by simpa using hvb
      have hF : Hid (leastF a b = ([], Ser.valid b)) := by show _ = _; rw [leastF, if_neg (by rw [hva]; simp), if_pos hvb]
      replace hva := Lib.hid hva
      replace hvb := Lib.hid hvb
      go_enter Try.func16, Try.ntmps16
      go_wp2_with fail
      refine (rvalid_any A1 a n1 c1 _ ha.out mn1).mono ?_
      rintro e w1 ⟨rfl, hb1⟩
      replace hb1 := Lib.hid hb1
      rw [hva.out]
      go_wp2_with fail
      refine (rvalid_any A2 b n2 c2 _ (hb.out.more hb1.out) mn2).mono ?_
      rintro e w2 ⟨rfl, hb2⟩
      replace hb1 := Lib.hid (hb1.out.trans (hb2.mono hb1.out.size))
      generalize Ser.valid b = ev at *
      go_wp2_with fail
      go_ret2
      exact ⟨_, by rw [hF.out]; rfl, by rw [hF.out]; exact SOwn.nil _ _, hb1.out⟩
  · have hd : (Ser.valid a != 0) = true := by simpa using hva
    have hd2 : (Ser.valid a == 0) = false := by simpa using hva
    have hF : Hid (leastF a b = ([], Ser.valid a)) := by show _ = _; rw [leastF, if_pos hva]
    replace hva := Lib.hid hva
    go_enter Try.func16, Try.ntmps16
    go_wp2_with fail
    refine (rvalid_any A1 a n1 c1 _ ha.out mn1).mono ?_
    rintro e w1 ⟨rfl, hb1⟩
    replace hb1 := Lib.hid hb1
    generalize Ser.valid a = ev at *
    go_wp2_with fail
    go_ret2
    exact ⟨_, by rw [hF.out]; rfl, by rw [hF.out]; exact SOwn.nil _ _, hb1.out⟩
end Go.Proofs.Ytljagdfgfgpdbaa
