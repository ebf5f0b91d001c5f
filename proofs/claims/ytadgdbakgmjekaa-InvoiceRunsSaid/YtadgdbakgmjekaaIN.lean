/- Invoices: the laws of sums and of others, walked. -/
import Derived.Test.YtadgdbakgmjekaaIM
set_option linter.unusedVariables false
set_option linter.unusedSimpArgs false
namespace Go.Proofs.Ytadgdbakgmjekaa
open Go.RowKit
set_option maxRecDepth 100000 in
set_option maxHeartbeats 6000000 in
theorem lawSums (x : Ox) (w : World) (hx : OxAt w x) : Calls Try.prog 5 #[.agg (oC x).toArray] w fun e w' => e = .returned (.bool true) ∧ Below w.heap.size w w' := by
  obtain ⟨kind, cust, cur, t, num, iA, iN, iC2, its⟩ := x
  simp only [oC]
  have hit := Lib.hid hx
  clear hx
  have hlit := lit_at (e := 30) oC_len (w.alloc (.cells #[Value.int .i64 kind, Value.string cust, Value.string cur, Value.int .i64 t, Value.int .i64 num, Value.slice iA iN iC2] 30)) [(⟨kind, cust, cur, t, num, iA, iN, iC2, its⟩ : Ox)] #[Value.int .i64 kind, Value.string cust, Value.string cur, Value.int .i64 t, Value.int .i64 num, Value.slice iA iN iC2] (by simp [flat, oC])
  rw [show (w.alloc (.cells #[Value.int .i64 kind, Value.string cust, Value.string cur, Value.int .i64 t, Value.int .i64 num, Value.slice iA iN iC2] 30)).heap.size + 1 = ((w.alloc (.cells #[Value.int .i64 kind, Value.string cust, Value.string cur, Value.int .i64 t, Value.int .i64 num, Value.slice iA iN iC2] 30)).alloc (.cells #[Value.int .i64 kind, Value.string cust, Value.string cur, Value.int .i64 t, Value.int .i64 num, Value.slice iA iN iC2] 30)).heap.size by simp, show (w.alloc (.cells #[Value.int .i64 kind, Value.string cust, Value.string cur, Value.int .i64 t, Value.int .i64 num, Value.slice iA iN iC2] 30)).heap.size = w.heap.size + 1 by simp] at hlit
  have hsm := Lib.hid (smallO_any (some ⟨w.heap.size + 1, 0, none⟩) 1 1 [(⟨kind, cust, cur, t, num, iA, iN, iC2, its⟩ : Ox)] ((w.alloc (.cells #[Value.int .i64 kind, Value.string cust, Value.string cur, Value.int .i64 t, Value.int .i64 num, Value.slice iA iN iC2] 30)).alloc (.cells #[Value.int .i64 kind, Value.string cust, Value.string cur, Value.int .i64 t, Value.int .i64 num, Value.slice iA iN iC2] 30)) hlit (by simp only [maxLen]; omega))
  clear hlit
  have hb := Lib.hid ((a1 w (.cells #[Value.int .i64 kind, Value.string cust, Value.string cur, Value.int .i64 t, Value.int .i64 num, Value.slice iA iN iC2] 30)).alloc (by simp) (.cells #[Value.int .i64 kind, Value.string cust, Value.string cur, Value.int .i64 t, Value.int .i64 num, Value.slice iA iN iC2] 30))
  have hO := Lib.hid ((Blk.new w 30 #[Value.int .i64 kind, Value.string cust, Value.string cur, Value.int .i64 t, Value.int .i64 num, Value.slice iA iN iC2]).alloc (.cells #[Value.int .i64 kind, Value.string cust, Value.string cur, Value.int .i64 t, Value.int .i64 num, Value.slice iA iN iC2] 30))
  obtain ⟨k0, k1, k2, k3, k4, k5⟩ := cells6 ((w.alloc (.cells #[Value.int .i64 kind, Value.string cust, Value.string cur, Value.int .i64 t, Value.int .i64 num, Value.slice iA iN iC2] 30))) (w.heap.size) (Value.int .i64 kind) (Value.string cust) (Value.string cur) (Value.int .i64 t) (Value.int .i64 num) (Value.slice iA iN iC2) (Blk.new w 30 #[Value.int .i64 kind, Value.string cust, Value.string cur, Value.int .i64 t, Value.int .i64 num, Value.slice iA iN iC2])
  go_enter Try.func5, Try.ntmps5
  go_wp2_with fail
  refine hsm.out.mono ?_; rintro e w1 ⟨⟨b, rfl, hb70⟩, hq⟩
  replace hO := Lib.hid (hO.out.below hq hO.out.lt)
  replace hb := Lib.hid (hb.out.trans (hq.mono hb.out.size))
  clear hq hsm k0 k1 k2 k3 k4 k5
  cases b with
  | false =>
    clear hb70
    go_wp2_with fail
    refine (ex_any _).mono ?_; rintro e w9 ⟨rfl, hq9⟩
    go_wp2_with fail
    go_ret
    exact ⟨rfl, hb.out.trans (hq9.mono hb.out.size)⟩
  | true =>
    have h70 : iN ≤ 70 := (hb70 rfl).2 _ List.mem_cons_self
    clear hb70
    obtain ⟨B1, E1, hR1⟩ : ∃ B E, issueB [] cust cur t its = (B, E) := ⟨_, _, rfl⟩
    have hV1 : validB B1 = 0 := by have h9 := (issue_valid2 (b := []) (cust := cust) (cur := cur) (t := t) (l := its) rfl (Nat.zero_le _)).1; rw [hR1] at h9; exact h9
    have hc1 := Lib.hid (issue_any none 0 0 [] cust cur t iA iN iC2 its w1 (GoodM.nil _) ⟨hit.out.1.more hb.out, hit.out.2⟩ (by omega) (by omega))
    replace hR1 := Lib.hid hR1
    replace hV1 := Lib.hid hV1
    obtain ⟨k0, k1, k2, k3, k4, k5⟩ := cells6 (w1) (w.heap.size) (Value.int .i64 kind) (Value.string cust) (Value.string cur) (Value.int .i64 t) (Value.int .i64 num) (Value.slice iA iN iC2) (hO.out)
    go_wp2_with fail
    refine hc1.out.mono ?_; rintro e w2 ⟨hr, hq⟩
    obtain ⟨A1, n1, c1, L1, rfl, hG1, hv1⟩ := hr.of hR1.out hV1.out
    clear hr hc1 k0 k1 k2 k3 k4 k5
    have hqa := hq.alloc hq.size (.cells #[Value.slice A1 n1 c1] 27)
    replace hO := Lib.hid (hO.out.below hqa hO.out.lt)
    replace hb := Lib.hid (hb.out.trans (hqa.mono hb.out.size))
    replace hG1 := Lib.hid (hG1.more (a1 w2 (.cells #[Value.slice A1 n1 c1] 27)))
    have hX1 := Lib.hid (Blk.new w2 27 #[Value.slice A1 n1 c1])
    replace hv1 := Lib.hid hv1
    clear hq hqa
    by_cases hE : E1 = 0
    · subst hE
      have hiv := issue_valid (b := []) (cust := cust) (cur := cur) (t := t) (l := its) (by rw [hR1.out])
      rw [hR1.out] at hiv
      obtain ⟨-, hB1, hvB⟩ := hiv
      replace hB1 : B1 = [mkIv [] cust cur t its 0] := hB1
      replace hvB : validB [mkIv [] cust cur t its 0] = 0 := hvB
      subst hB1
      obtain ⟨-, -, p3, -, -, p6, -⟩ := check_parts (valid_at hvB (j := 0) rfl)
      replace p6 : smallI its = true := p6
      replace p3 := ((lines_iff its).1 p3).2
      obtain rfl : n1 = 1 := hG1.out.nlen hv1.out
      have hl1 : L1.length = 1 := hG1.out.at_.len
      have h0 : L1[0].val = mkIv [] cust cur t its 0 := by
        have h9 := map_at (L := L1) (k := 0) (by omega)
        rw [hv1.out] at h9
        injection h9 with h9
        exact h9.symm
      obtain ⟨S1, hS1⟩ : ∃ S, S = netS its := ⟨_, rfl⟩
      obtain ⟨S2, hS2⟩ : ∃ S, S = vatS its := ⟨_, rfl⟩
      obtain ⟨S3, hS3⟩ : ∃ S, S = grossS its := ⟨_, rfl⟩
      have hct := Lib.hid (fun wz (hz : Below w.heap.size w wz) => rtotals_any iA iN iC2 its wz (hit.out.1.more hz) (by have h8 : its.length = iN := hit.out.1.len; omega) p6)
      rw [← hS1, ← hS2, ← hS3] at hct
      unfold mkIv at h0
      rw [← hS1, ← hS2, ← hS3] at h0
      replace hS1 := Lib.hid hS1
      replace hS2 := Lib.hid hS2
      replace hS3 := Lib.hid hS3
      replace h0 := Lib.hid h0
      clear p3 p6 hvB
      obtain ⟨k0, k1, k2, k3, k4, k5⟩ := cells6 ((w2.alloc (.cells #[Value.slice A1 1 c1] 27))) (w.heap.size) (Value.int .i64 kind) (Value.string cust) (Value.string cur) (Value.int .i64 t) (Value.int .i64 num) (Value.slice iA iN iC2) (hO.out)
      go_wp2_with fail
      refine (hct.out _ hb.out).mono ?_; rintro e w3 ⟨rfl, hq⟩
      clear k0 k1 k2 k3 k4 k5 hct
      replace hG1 := Lib.hid (hG1.out.more hq)
      replace hX1 := Lib.hid (hX1.out.below hq hX1.out.lt)
      replace hb := Lib.hid (hb.out.trans (hq.mono hb.out.size))
      obtain ⟨ad, hA, -, e0, e1, e2, e3, e4, e5, e6, e7, e8⟩ := iv_cells hG1.out.at_.row (show 0 < 1 by omega)
      have h0 := h0.out
      obtain ⟨x, hx9⟩ : ∃ x, x = L1[0] := ⟨_, rfl⟩
      rw [← hx9] at e0 e1 e2 e3 e4 e5 e6 e7 e8 h0
      clear hx9
      obtain ⟨xnum, xcu, xcr, xat, xA, xn, xc, xits, xnet, xvat, xgr, xcd⟩ := x
      simp only [Im.val, Iv.mk.injEq] at e0 e1 e2 e3 e4 e5 e6 e7 e8 h0
      obtain ⟨v1, -, -, -, -, v6, v7, v8, -⟩ := h0
      replace v1 : xnum = 1 := by rw [v1]; rfl
      subst v1
      subst v6
      subst v7
      subst v8
      subst hA
      rw [show ad.add (0 * 9) = ad by simp [Addr.add]] at e0 e1 e2 e3 e4 e5 e6 e7 e8
      clear hq
      have hX3 := hX1.out.alloc (.cells #[Value.int .i64 1, Value.string xcu, Value.string xcr, Value.int .i64 xat, Value.slice xA xn xc, Value.int .i64 xnet, Value.int .i64 xvat, Value.int .i64 xgr, Value.int .i64 xcd] 45)
      have x0 : (w3).cell? ⟨w2.heap.size, 0, none⟩ = some (Value.slice (some ad) 1 c1) := (hX1.out).cell 0
      have hy := Blk.new w3 45 #[Value.int .i64 1, Value.string xcu, Value.string xcr, Value.int .i64 xat, Value.slice xA xn xc, Value.int .i64 xnet, Value.int .i64 xvat, Value.int .i64 xgr, Value.int .i64 xcd]
      obtain ⟨m0, m1, m2, m3, m4, m5, m6, m7, m8⟩ := cells9 ((w3.alloc (.cells #[Value.int .i64 1, Value.string xcu, Value.string xcr, Value.int .i64 xat, Value.slice xA xn xc, Value.int .i64 xnet, Value.int .i64 xvat, Value.int .i64 xgr, Value.int .i64 xcd] 45))) (w3.heap.size) (Value.int .i64 1) (Value.string xcu) (Value.string xcr) (Value.int .i64 xat) (Value.slice xA xn xc) (Value.int .i64 xnet) (Value.int .i64 xvat) (Value.int .i64 xgr) (Value.int .i64 xcd) (hy)
      have hb4 := Lib.hid (hb.out.alloc hb.out.size (.cells #[Value.int .i64 1, Value.string xcu, Value.string xcr, Value.int .i64 xat, Value.slice xA xn xc, Value.int .i64 xnet, Value.int .i64 xvat, Value.int .i64 xgr, Value.int .i64 xcd] 45))
      clear hX3 hy
      go_wp2_with fail
      go_ret
      exact ⟨rfl, hb4.out⟩
    · have hB := issue_err (b := []) (cust := cust) (cur := cur) (t := t) (l := its) rfl (Nat.zero_le _) (by rw [hR1.out]; exact hE)
      rw [hR1.out] at hB
      have hB : B1 = [] := hB
      have hn0 : n1 = 0 := by rw [hG1.out.nlen hv1.out, hB]; rfl
      subst hn0
      have dE : (E1 != 0) = true := by simpa using hE
      replace hE := Lib.hid hE
      have x0 : ((w2.alloc (.cells #[Value.slice A1 0 c1] 27))).cell? ⟨w2.heap.size, 0, none⟩ = some (Value.slice A1 0 c1) := (hX1.out).cell 0
      go_wp2_with fail
      go_ret
      exact ⟨rfl, hb.out⟩
set_option maxRecDepth 100000 in
set_option maxHeartbeats 6000000 in
theorem lawOthers (x : Ox) (cu cr : ByteArray) (w : World) (hx : OxAt w x) : Calls Try.prog 6 #[.agg (oC x).toArray, .string cu, .string cr] w fun e w' => e = .returned (.bool true) ∧ Below w.heap.size w w' := by
  obtain ⟨kind, cust, cur, t, num, iA, iN, iC2, its⟩ := x
  simp only [oC]
  have hit := Lib.hid hx
  clear hx
  have hlit := lit_at (e := 30) oC_len (w.alloc (.cells #[Value.int .i64 kind, Value.string cust, Value.string cur, Value.int .i64 t, Value.int .i64 num, Value.slice iA iN iC2] 30)) [(⟨kind, cust, cur, t, num, iA, iN, iC2, its⟩ : Ox)] #[Value.int .i64 kind, Value.string cust, Value.string cur, Value.int .i64 t, Value.int .i64 num, Value.slice iA iN iC2] (by simp [flat, oC])
  rw [show (w.alloc (.cells #[Value.int .i64 kind, Value.string cust, Value.string cur, Value.int .i64 t, Value.int .i64 num, Value.slice iA iN iC2] 30)).heap.size + 1 = ((w.alloc (.cells #[Value.int .i64 kind, Value.string cust, Value.string cur, Value.int .i64 t, Value.int .i64 num, Value.slice iA iN iC2] 30)).alloc (.cells #[Value.int .i64 kind, Value.string cust, Value.string cur, Value.int .i64 t, Value.int .i64 num, Value.slice iA iN iC2] 30)).heap.size by simp, show (w.alloc (.cells #[Value.int .i64 kind, Value.string cust, Value.string cur, Value.int .i64 t, Value.int .i64 num, Value.slice iA iN iC2] 30)).heap.size = w.heap.size + 1 by simp] at hlit
  have hsm := Lib.hid (smallO_any (some ⟨w.heap.size + 1, 0, none⟩) 1 1 [(⟨kind, cust, cur, t, num, iA, iN, iC2, its⟩ : Ox)] ((w.alloc (.cells #[Value.int .i64 kind, Value.string cust, Value.string cur, Value.int .i64 t, Value.int .i64 num, Value.slice iA iN iC2] 30)).alloc (.cells #[Value.int .i64 kind, Value.string cust, Value.string cur, Value.int .i64 t, Value.int .i64 num, Value.slice iA iN iC2] 30)) hlit (by simp only [maxLen]; omega))
  clear hlit
  have hb := Lib.hid ((a1 w (.cells #[Value.int .i64 kind, Value.string cust, Value.string cur, Value.int .i64 t, Value.int .i64 num, Value.slice iA iN iC2] 30)).alloc (by simp) (.cells #[Value.int .i64 kind, Value.string cust, Value.string cur, Value.int .i64 t, Value.int .i64 num, Value.slice iA iN iC2] 30))
  have hO := Lib.hid ((Blk.new w 30 #[Value.int .i64 kind, Value.string cust, Value.string cur, Value.int .i64 t, Value.int .i64 num, Value.slice iA iN iC2]).alloc (.cells #[Value.int .i64 kind, Value.string cust, Value.string cur, Value.int .i64 t, Value.int .i64 num, Value.slice iA iN iC2] 30))
  obtain ⟨k0, k1, k2, k3, k4, k5⟩ := cells6 ((w.alloc (.cells #[Value.int .i64 kind, Value.string cust, Value.string cur, Value.int .i64 t, Value.int .i64 num, Value.slice iA iN iC2] 30))) (w.heap.size) (Value.int .i64 kind) (Value.string cust) (Value.string cur) (Value.int .i64 t) (Value.int .i64 num) (Value.slice iA iN iC2) (Blk.new w 30 #[Value.int .i64 kind, Value.string cust, Value.string cur, Value.int .i64 t, Value.int .i64 num, Value.slice iA iN iC2])
  go_enter Try.func6, Try.ntmps6
  go_wp2_with fail
  refine hsm.out.mono ?_; rintro e w1 ⟨⟨b, rfl, hb70⟩, hq⟩
  replace hO := Lib.hid (hO.out.below hq hO.out.lt)
  replace hb := Lib.hid (hb.out.trans (hq.mono hb.out.size))
  clear hq hsm k0 k1 k2 k3 k4 k5
  cases b with
  | false =>
    clear hb70
    go_wp2_with fail
    refine (ex_any _).mono ?_; rintro e w9 ⟨rfl, hq9⟩
    go_wp2_with fail
    go_ret
    exact ⟨rfl, hb.out.trans (hq9.mono hb.out.size)⟩
  | true =>
    have h70 : iN ≤ 70 := (hb70 rfl).2 _ List.mem_cons_self
    clear hb70
    by_cases q1 : 100 < cu.size
    · have d1 : decide ((100 : Int) < (cu.size : Int)) = true := by apply decide_eq_true; omega
      go_wp2_with fail
      refine (ex_any _).mono ?_; rintro e w9 ⟨rfl, hq9⟩
      go_wp2_with fail
      go_ret
      exact ⟨rfl, hb.out.trans (hq9.mono hb.out.size)⟩
    have d1 : decide ((100 : Int) < (cu.size : Int)) = false := by apply decide_eq_false; omega
    by_cases q2 : 20 < cr.size
    · have d2 : decide ((20 : Int) < (cr.size : Int)) = true := by apply decide_eq_true; omega
      go_wp2_with fail
      refine (ex_any _).mono ?_; rintro e w9 ⟨rfl, hq9⟩
      go_wp2_with fail
      go_ret
      exact ⟨rfl, hb.out.trans (hq9.mono hb.out.size)⟩
    have d2 : decide ((20 : Int) < (cr.size : Int)) = false := by apply decide_eq_false; omega
    obtain ⟨B1, E1, hR1⟩ : ∃ B E, issueB [] cust cur t its = (B, E) := ⟨_, _, rfl⟩
    have hV1 : validB B1 = 0 := by have h9 := (issue_valid2 (b := []) (cust := cust) (cur := cur) (t := t) (l := its) rfl (Nat.zero_le _)).1; rw [hR1] at h9; exact h9
    have hc1 := Lib.hid (issue_any none 0 0 [] cust cur t iA iN iC2 its w1 (GoodM.nil _) ⟨hit.out.1.more hb.out, hit.out.2⟩ (by omega) (by omega))
    replace hR1 := Lib.hid hR1
    replace hV1 := Lib.hid hV1
    obtain ⟨k0, k1, k2, k3, k4, k5⟩ := cells6 (w1) (w.heap.size) (Value.int .i64 kind) (Value.string cust) (Value.string cur) (Value.int .i64 t) (Value.int .i64 num) (Value.slice iA iN iC2) (hO.out)
    go_wp2_with fail
    refine hc1.out.mono ?_; rintro e w2 ⟨hr, hq⟩
    obtain ⟨A1, n1, c1, L1, rfl, hG1, hv1⟩ := hr.of hR1.out hV1.out
    clear hr hc1 k0 k1 k2 k3 k4 k5
    have hqa := hq.alloc hq.size (.cells #[Value.slice A1 n1 c1] 27)
    replace hO := Lib.hid (hO.out.below hqa hO.out.lt)
    replace hb := Lib.hid (hb.out.trans (hqa.mono hb.out.size))
    replace hG1 := Lib.hid (hG1.more (a1 w2 (.cells #[Value.slice A1 n1 c1] 27)))
    have hX1 := Lib.hid (Blk.new w2 27 #[Value.slice A1 n1 c1])
    replace hv1 := Lib.hid hv1
    clear hq hqa
    by_cases hE : E1 = 0
    · subst hE
      have hiv := issue_valid (b := []) (cust := cust) (cur := cur) (t := t) (l := its) (by rw [hR1.out])
      rw [hR1.out] at hiv
      have hB1 : B1 = [mkIv [] cust cur t its 0] := hiv.2.1
      clear hiv
      replace hB1 := Lib.hid hB1
      obtain ⟨k0, k1, k2, k3, k4, k5⟩ := cells6 ((w2.alloc (.cells #[Value.slice A1 n1 c1] 27))) (w.heap.size) (Value.int .i64 kind) (Value.string cust) (Value.string cur) (Value.int .i64 t) (Value.int .i64 num) (Value.slice iA iN iC2) (hO.out)
      have x0 : ((w2.alloc (.cells #[Value.slice A1 n1 c1] 27))).cell? ⟨w2.heap.size, 0, none⟩ = some (Value.slice A1 n1 c1) := (hX1.out).cell 0
      by_cases q3 : cu = cust
      · have d3 : (cu.toList == cust.toList) = true := by rw [q3]; simp
        by_cases q4 : cr = cur
        · have d4 : (cr.toList == cur.toList) = true := by rw [q4]; simp
          subst q3
          subst q4
          go_wp2_with fail
          go_ret
          exact ⟨rfl, hb.out⟩
        · have hd0 : dueS (L1.map Im.val) cu cr = 0 := by rw [hv1.out, hB1.out]; exact due_other (.inr (strEq_ne (fun e => q4 e.symm)))
          have nq4 := str_ne q4
          have d4 : (cr.toList == cur.toList) = false := by simpa using nq4
          replace q4 := Lib.hid q4
          subst q3
          have hdu := due_any A1 n1 c1 L1 cu cr (w2.alloc (.cells #[Value.slice A1 n1 c1] 27)) hG1.out
          rw [hd0] at hdu
          replace hdu := Lib.hid hdu
          clear hd0
          go_wp2_with fail
          refine hdu.out.mono ?_; rintro e w3 ⟨rfl, hq⟩
          replace hb := Lib.hid (hb.out.trans (hq.mono hb.out.size))
          clear hq hdu k0 k1 k2 k3 k4 k5 x0
          go_wp2_with fail
          refine (ex_any _).mono ?_; rintro e w9 ⟨rfl, hq9⟩
          go_wp2_with fail
          go_ret
          exact ⟨rfl, hb.out.trans (hq9.mono hb.out.size)⟩
      · have hd0 : dueS (L1.map Im.val) cu cr = 0 := by rw [hv1.out, hB1.out]; exact due_other (.inl (strEq_ne (fun e => q3 e.symm)))
        have nq3 := str_ne q3
        have d3 : (cu.toList == cust.toList) = false := by simpa using nq3
        replace q3 := Lib.hid q3
        have hdu := due_any A1 n1 c1 L1 cu cr (w2.alloc (.cells #[Value.slice A1 n1 c1] 27)) hG1.out
        rw [hd0] at hdu
        replace hdu := Lib.hid hdu
        clear hd0
        go_wp2_with fail
        refine hdu.out.mono ?_; rintro e w3 ⟨rfl, hq⟩
        replace hb := Lib.hid (hb.out.trans (hq.mono hb.out.size))
        clear hq hdu k0 k1 k2 k3 k4 k5 x0
        go_wp2_with fail
        refine (ex_any _).mono ?_; rintro e w9 ⟨rfl, hq9⟩
        go_wp2_with fail
        go_ret
        exact ⟨rfl, hb.out.trans (hq9.mono hb.out.size)⟩
    · have dE : (E1 != 0) = true := by simpa using hE
      replace hE := Lib.hid hE
      go_wp2_with fail
      go_ret
      exact ⟨rfl, hb.out⟩
end Go.Proofs.Ytadgdbakgmjekaa
