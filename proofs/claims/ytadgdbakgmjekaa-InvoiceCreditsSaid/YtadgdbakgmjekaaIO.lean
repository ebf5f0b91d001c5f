/- Invoices: the law of credits, walked. -/
import Derived.Test.YtadgdbakgmjekaaIN
set_option linter.unusedVariables false
set_option linter.unusedSimpArgs false
namespace Go.Proofs.Ytadgdbakgmjekaa
open Go.RowKit
def cF : ByteArray := ⟨#[102, 105, 114, 115, 116]⟩
def exI7 : It := ⟨1, 7, 0, 1, 7, 0, 7⟩
def fB1 : List Iv := [mkIv [] cF cE 0 [exI7] 0]
theorem fIss : issueB [] cF cE 0 [exI7] = (fB1, 0) := (issue_ok (b := []) rfl (Nat.zero_le _)).2.2.2.2.2 (by decide +kernel) exC (by decide +kernel) (by decide) (by decide +kernel)
theorem fV1 : validB fB1 = 0 := by
  have h := (issue_valid2 (b := []) (cust := cF) (cur := cE) (t := 0) (l := [exI7]) rfl (Nat.zero_le _)).1
  rw [fIss] at h
  exact h
def F4 (gb gc n2 c2 n3 c3 : Nat) (A2 A3 : Option Addr) : Tmp → Value → World → Prop
  | 5, v, _ => v = .pointer (some ⟨gb, 0, none⟩)
  | 6, v, _ => v = .pointer (some ⟨gc, 0, none⟩)
  | 7, v, _ => v = .int .i64 0
  | 49, v, _ => v = .int .i64 0
  | 50, v, _ => v = .bool false
  | 51, v, _ => v = .bool false
  | 52, v, _ => v = .agg #[Value.slice A2 n2 c2]
  | 53, v, _ => v = .int .i64 0
  | 54, v, _ => v = .bool false
  | 55, v, _ => v = .bool false
  | 56, v, _ => v = .bool false
  | 57, v, _ => v = .agg #[Value.slice A3 n3 c3]
  | 58, v, _ => v = .int .i64 0
  | 59, v, _ => v = .bool false
  | 60, v, _ => v = .bool false
  | 61, v, _ => v = .bool false
  | 62, v, _ => v = .pointer (some ⟨gc, 0, none⟩)
  | 63, v, _ => v = Value.slice A3 n3 c3
  | 64, v, _ => v = .int .i64 (n3 : Int)
  | 65, v, _ => v = .bool false
  | 66, v, _ => v = .bool false
  | 67, v, _ => v = .bool false
  | 68, v, _ => v = .pointer (some ⟨gc, 0, none⟩)
  | 69, v, _ => v = Value.slice A3 n3 c3
  | 70, v, _ => v = .slice A3 2 c3
  | 71, v, _ => v = .agg #[.slice A3 2 c3]
  | 72, v, _ => v = .agg #[Value.slice A2 n2 c2]
  | 73, v, _ => v = .bool true
  | 74, v, _ => v = .bool false
  | 75, v, _ => v = .bool false
  | _, _, _ => True
theorem F4_more {gb gc n2 c2 n3 c3 : Nat} {A2 A3 : Option Addr} (d t : Tmp) (v : Value) (w w' : World) (hR : Rb w w') (hne : t ≠ d) (hc : ([] : List (Tmp × Tmp)).contains (d, t) = false) (h : F4 gb gc n2 c2 n3 c3 A2 A3 t v w) : F4 gb gc n2 c2 n3 c3 A2 A3 t v w' := by
  unfold F4 at *
  split at h <;> first | exact h
theorem F4_lit (tm : Array Value) (hs : tm.size = 105) : tm = #[tm[0]?.getD undef, tm[1]?.getD undef, tm[2]?.getD undef, tm[3]?.getD undef, tm[4]?.getD undef, tm[5]?.getD undef, tm[6]?.getD undef, tm[7]?.getD undef, tm[8]?.getD undef, tm[9]?.getD undef, tm[10]?.getD undef, tm[11]?.getD undef, tm[12]?.getD undef, tm[13]?.getD undef, tm[14]?.getD undef, tm[15]?.getD undef, tm[16]?.getD undef, tm[17]?.getD undef, tm[18]?.getD undef, tm[19]?.getD undef, tm[20]?.getD undef, tm[21]?.getD undef, tm[22]?.getD undef, tm[23]?.getD undef, tm[24]?.getD undef, tm[25]?.getD undef, tm[26]?.getD undef, tm[27]?.getD undef, tm[28]?.getD undef, tm[29]?.getD undef, tm[30]?.getD undef, tm[31]?.getD undef, tm[32]?.getD undef, tm[33]?.getD undef, tm[34]?.getD undef, tm[35]?.getD undef, tm[36]?.getD undef, tm[37]?.getD undef, tm[38]?.getD undef, tm[39]?.getD undef, tm[40]?.getD undef, tm[41]?.getD undef, tm[42]?.getD undef, tm[43]?.getD undef, tm[44]?.getD undef, tm[45]?.getD undef, tm[46]?.getD undef, tm[47]?.getD undef, tm[48]?.getD undef, tm[49]?.getD undef, tm[50]?.getD undef, tm[51]?.getD undef, tm[52]?.getD undef, tm[53]?.getD undef, tm[54]?.getD undef, tm[55]?.getD undef, tm[56]?.getD undef, tm[57]?.getD undef, tm[58]?.getD undef, tm[59]?.getD undef, tm[60]?.getD undef, tm[61]?.getD undef, tm[62]?.getD undef, tm[63]?.getD undef, tm[64]?.getD undef, tm[65]?.getD undef, tm[66]?.getD undef, tm[67]?.getD undef, tm[68]?.getD undef, tm[69]?.getD undef, tm[70]?.getD undef, tm[71]?.getD undef, tm[72]?.getD undef, tm[73]?.getD undef, tm[74]?.getD undef, tm[75]?.getD undef, tm[76]?.getD undef, tm[77]?.getD undef, tm[78]?.getD undef, tm[79]?.getD undef, tm[80]?.getD undef, tm[81]?.getD undef, tm[82]?.getD undef, tm[83]?.getD undef, tm[84]?.getD undef, tm[85]?.getD undef, tm[86]?.getD undef, tm[87]?.getD undef, tm[88]?.getD undef, tm[89]?.getD undef, tm[90]?.getD undef, tm[91]?.getD undef, tm[92]?.getD undef, tm[93]?.getD undef, tm[94]?.getD undef, tm[95]?.getD undef, tm[96]?.getD undef, tm[97]?.getD undef, tm[98]?.getD undef, tm[99]?.getD undef, tm[100]?.getD undef, tm[101]?.getD undef, tm[102]?.getD undef, tm[103]?.getD undef, tm[104]?.getD undef] := lit_arr tm 105 hs
set_option maxRecDepth 100000 in
set_option maxHeartbeats 6000000 in
theorem lawCredits (x : Ox) (w : World) (hx : OxAt w x) : Calls Try.prog 4 #[.agg (oC x).toArray] w fun e w' => e = .returned (.bool true) ∧ Below w.heap.size w w' := by
  obtain ⟨kind, cust, cur, t, num, iA, iN, iC2, its⟩ := x
  simp only [oC]
  have hit := Lib.hid hx
  clear hx
  have hlit := lit_at (e := 30) oC_len (w.alloc (.cells #[Value.int .i64 kind, Value.string cust, Value.string cur, Value.int .i64 t, Value.int .i64 num, Value.slice iA iN iC2] 30)) [(⟨kind, cust, cur, t, num, iA, iN, iC2, its⟩ : Ox)] #[Value.int .i64 kind, Value.string cust, Value.string cur, Value.int .i64 t, Value.int .i64 num, Value.slice iA iN iC2] (by simp [flat, oC])
  rw [show (w.alloc (.cells #[Value.int .i64 kind, Value.string cust, Value.string cur, Value.int .i64 t, Value.int .i64 num, Value.slice iA iN iC2] 30)).heap.size + 1 = ((w.alloc (.cells #[Value.int .i64 kind, Value.string cust, Value.string cur, Value.int .i64 t, Value.int .i64 num, Value.slice iA iN iC2] 30)).alloc (.cells #[Value.int .i64 kind, Value.string cust, Value.string cur, Value.int .i64 t, Value.int .i64 num, Value.slice iA iN iC2] 30)).heap.size by simp, show (w.alloc (.cells #[Value.int .i64 kind, Value.string cust, Value.string cur, Value.int .i64 t, Value.int .i64 num, Value.slice iA iN iC2] 30)).heap.size = w.heap.size + 1 by simp] at hlit
  have hsm := Lib.hid (smallO_any (some ⟨w.heap.size + 1, 0, none⟩) 1 1 [(⟨kind, cust, cur, t, num, iA, iN, iC2, its⟩ : Ox)] ((w.alloc (.cells #[Value.int .i64 kind, Value.string cust, Value.string cur, Value.int .i64 t, Value.int .i64 num, Value.slice iA iN iC2] 30)).alloc (.cells #[Value.int .i64 kind, Value.string cust, Value.string cur, Value.int .i64 t, Value.int .i64 num, Value.slice iA iN iC2] 30)) hlit (by simp only [maxLen]; omega))
  clear hlit
  have hb := Lib.hid ((a1 w (.cells #[Value.int .i64 kind, Value.string cust, Value.string cur, Value.int .i64 t, Value.int .i64 num, Value.slice iA iN iC2] 30)).alloc (by simp) (.cells #[Value.int .i64 kind, Value.string cust, Value.string cur, Value.int .i64 t, Value.int .i64 num, Value.slice iA iN iC2] 30))
  have hO := Lib.hid ((Blk.new w 30 #[Value.int .i64 kind, Value.string cust, Value.string cur, Value.int .i64 t, Value.int .i64 num, Value.slice iA iN iC2]).alloc (.cells #[Value.int .i64 kind, Value.string cust, Value.string cur, Value.int .i64 t, Value.int .i64 num, Value.slice iA iN iC2] 30))
  obtain ⟨k0, k1, k2, k3, k4, k5⟩ := cells6 ((w.alloc (.cells #[Value.int .i64 kind, Value.string cust, Value.string cur, Value.int .i64 t, Value.int .i64 num, Value.slice iA iN iC2] 30))) (w.heap.size) (Value.int .i64 kind) (Value.string cust) (Value.string cur) (Value.int .i64 t) (Value.int .i64 num) (Value.slice iA iN iC2) (Blk.new w 30 #[Value.int .i64 kind, Value.string cust, Value.string cur, Value.int .i64 t, Value.int .i64 num, Value.slice iA iN iC2])
  go_enter Try.func4, Try.ntmps4
  go_wp2_with fail
  refine hsm.out.mono ?_; rintro e w1 ⟨⟨b, rfl, hb70⟩, hq⟩
  replace hO := Lib.hid (hO.out.below hq hO.out.lt)
  replace hb := Lib.hid (hb.out.trans (hq.mono hb.out.size))
  clear hq hsm k0 k1 k2 k3 k4 k5
  cases b with
  | false =>
    clear hb70
    go_wp2_with fail
    refine (ex_any _).mono ?_; rintro e w9 ⟨rfl, hq9⟩
    go_wp2_with fail
    go_ret
    exact ⟨rfl, hb.out.trans (hq9.mono hb.out.size)⟩
  | true =>
    have h70 : iN ≤ 70 := (hb70 rfl).2 _ List.mem_cons_self
    clear hb70
    have hlit := lit_at (e := 39) itC_len w1 [exI7] #[Value.int .i64 1, Value.int .i64 7, Value.int .i64 0, Value.int .i64 1, Value.int .i64 7, Value.int .i64 0, Value.int .i64 7] (by simp [flat, itC, exI7])
    rw [show w1.heap.size + 1 = (w1.alloc (.cells #[Value.int .i64 1, Value.int .i64 7, Value.int .i64 0, Value.int .i64 1, Value.int .i64 7, Value.int .i64 0, Value.int .i64 7] 39)).heap.size by simp] at hlit
    have hc1 := Lib.hid (issue_any none 0 0 [] cF cE 0 (some ⟨w1.heap.size, 0, none⟩) 1 1 [exI7] (w1.alloc (.cells #[Value.int .i64 1, Value.int .i64 7, Value.int .i64 0, Value.int .i64 1, Value.int .i64 7, Value.int .i64 0, Value.int .i64 7] 39)) (GoodM.nil _) ⟨hlit, Nat.le_refl _, by simp only [maxLen]; omega⟩ (by omega) (by omega))
    clear hlit
    replace hO := Lib.hid (hO.out.alloc (.cells #[Value.int .i64 1, Value.int .i64 7, Value.int .i64 0, Value.int .i64 1, Value.int .i64 7, Value.int .i64 0, Value.int .i64 7] 39))
    replace hb := Lib.hid (hb.out.alloc hb.out.size (.cells #[Value.int .i64 1, Value.int .i64 7, Value.int .i64 0, Value.int .i64 1, Value.int .i64 7, Value.int .i64 0, Value.int .i64 7] 39))
    go_wp2_with fail
    refine hc1.out.mono ?_; rintro e w2 ⟨hr, hq⟩
    obtain ⟨A1, n1, c1, L1, rfl, hG1, hv1⟩ := hr.of fIss fV1
    clear hr hc1
    have hn1 : Hid (n1 = 1) := hG1.nlen hv1
    have hqa := hq.alloc hq.size (.cells #[Value.slice A1 n1 c1] 27)
    replace hO := Lib.hid (hO.out.below hqa hO.out.lt)
    replace hb := Lib.hid (hb.out.trans (hqa.mono hb.out.size))
    replace hG1 := Lib.hid (hG1.more (a1 w2 (.cells #[Value.slice A1 n1 c1] 27)))
    have hF := Lib.hid (Blk.new w2 27 #[Value.slice A1 n1 c1])
    replace hv1 := Lib.hid hv1
    clear hq hqa
    obtain ⟨B2, E2, hR2⟩ : ∃ B E, issueB fB1 cust cur t its = (B, E) := ⟨_, _, rfl⟩
    have hV2 : validB B2 = 0 := by have h9 := (issue_valid2 (b := fB1) (cust := cust) (cur := cur) (t := t) (l := its) fV1 (by decide)).1; rw [hR2] at h9; exact h9
    have hc2 := issue_any A1 n1 c1 L1 cust cur t iA iN iC2 its (w2.alloc (.cells #[Value.slice A1 n1 c1] 27)) hG1.out ⟨hit.out.1.more hb.out, hit.out.2⟩ (by omega) (by rw [hn1.out]; omega)
    rw [hv1.out] at hc2
    replace hc2 := Lib.hid hc2
    obtain ⟨k0, k1, k2, k3, k4, k5⟩ := cells6 ((w2.alloc (.cells #[Value.slice A1 n1 c1] 27))) (w.heap.size) (Value.int .i64 kind) (Value.string cust) (Value.string cur) (Value.int .i64 t) (Value.int .i64 num) (Value.slice iA iN iC2) (hO.out)
    have f0 : ((w2.alloc (.cells #[Value.slice A1 n1 c1] 27))).cell? ⟨w2.heap.size, 0, none⟩ = some (Value.slice A1 n1 c1) := (hF.out).cell 0
    go_wp2_with fail
    clear k0 k1 k2 k3 k4 k5 f0
    generalize (w2.alloc (.cells #[Value.slice A1 n1 c1] 27)) = w2b at *
    obtain ⟨gf, hgf⟩ : ∃ gf, gf = w2.heap.size := ⟨_, rfl⟩
    rw [← hgf] at hF ⊢
    replace hgf := Lib.hid hgf
    refine hc2.out.mono ?_; rintro e w3 ⟨hr, hq⟩
    obtain ⟨A2, n2, c2, L2, rfl, hG2, hv2⟩ := hr.of hR2 hV2
    clear hr hc2
    replace hR2 := Lib.hid hR2
    have hqa := hq.alloc hq.size (.cells #[Value.slice A2 n2 c2] 27)
    replace hO := Lib.hid (hO.out.below hqa hO.out.lt)
    replace hb := Lib.hid (hb.out.trans (hqa.mono hb.out.size))
    replace hG2 := Lib.hid (hG2.more (a1 w3 (.cells #[Value.slice A2 n2 c2] 27)))
    have hB := Lib.hid (Blk.new w3 27 #[Value.slice A2 n2 c2])
    replace hv2 := Lib.hid hv2
    replace hF := Lib.hid (hF.out.below hqa hF.out.lt)
    replace hG1 := Lib.hid (hG1.out.more hqa)
    clear hq hqa
    by_cases hE : E2 = 0
    · subst hE
      have h20 : (issueB fB1 cust cur t its).2 = 0 := by rw [hR2.out]
      have hiv := issue_valid h20
      rw [hR2.out] at hiv
      have hB2 : B2 = fB1 ++ [mkIv fB1 cust cur t its 0] := hiv.2.1
      obtain ⟨hcl, hcv⟩ := credit_last h20 (by decide)
      rw [show ((fB1.length : Int) + 1) = 2 from rfl, ← hB2] at hcl hcv
      clear hiv h20
      have hn2 : Hid (n2 = 2) := by show n2 = 2; rw [hG2.out.nlen hv2.out, hB2]; rfl
      have hc3 := credit_any A2 n2 c2 L2 2 t (w3.alloc (.cells #[Value.slice A2 n2 c2] 27)) hG2.out (by rw [hn2.out]; omega)
      rw [hv2.out] at hc3
      replace hc3 := Lib.hid hc3
      replace hB2 := Lib.hid hB2
      obtain ⟨k0, k1, k2, k3, k4, k5⟩ := cells6 ((w3.alloc (.cells #[Value.slice A2 n2 c2] 27))) (w.heap.size) (Value.int .i64 kind) (Value.string cust) (Value.string cur) (Value.int .i64 t) (Value.int .i64 num) (Value.slice iA iN iC2) (hO.out)
      have f0 : ((w3.alloc (.cells #[Value.slice A2 n2 c2] 27))).cell? ⟨w3.heap.size, 0, none⟩ = some (Value.slice A2 n2 c2) := (hB.out).cell 0
      go_wp2_with fail
      clear k0 k1 k2 k3 k4 k5 f0
      generalize (w3.alloc (.cells #[Value.slice A2 n2 c2] 27)) = w3b at *
      obtain ⟨gb, hgb⟩ : ∃ gb, gb = w3.heap.size := ⟨_, rfl⟩
      rw [← hgb] at hB ⊢
      replace hgb := Lib.hid hgb
      refine hc3.out.mono ?_; rintro e w4 ⟨hr, hq⟩
      obtain ⟨A3, n3, c3, L3, rfl, hG3, hv3⟩ := hr.of hcl hcv
      clear hr hc3
      have hn3 : Hid (n3 = 3) := by show n3 = 3; rw [hG3.nlen hv3, hB2.out]; rfl
      have hn3c : Hid (3 ≤ c3) := by show 3 ≤ c3; have := hG3.at_.cap.1; rw [hn3.out] at this; exact this
      replace hcl := Lib.hid hcl
      replace hcv := Lib.hid hcv
      have hqa := hq.alloc hq.size (.cells #[Value.slice A3 n3 c3] 27)
      replace hO := Lib.hid (hO.out.below hqa hO.out.lt)
      replace hb := Lib.hid (hb.out.trans (hqa.mono hb.out.size))
      replace hG3 := Lib.hid (hG3.more (a1 w4 (.cells #[Value.slice A3 n3 c3] 27)))
      have hC := Lib.hid (Blk.new w4 27 #[Value.slice A3 n3 c3])
      replace hv3 := Lib.hid hv3
      replace hF := Lib.hid (hF.out.below hqa hF.out.lt)
      replace hB := Lib.hid (hB.out.below hqa hB.out.lt)
      replace hG1 := Lib.hid (hG1.out.more hqa)
      replace hG2 := Lib.hid (hG2.out.more hqa)
      clear hq hqa
      rw [hB2.out] at hv3
      go_wp2_with fail
      generalize (w4.alloc (.cells #[Value.slice A3 n3 c3] 27)) = wB at *
      obtain ⟨gc, hgc⟩ : ∃ gc, gc = w4.heap.size := ⟨_, rfl⟩
      rw [← hgc] at hC ⊢
      replace hgc := Lib.hid hgc
      have hcb : Hid (∀ wz, Below wB.heap.size wB wz → wz.cell? ⟨gb, 0, none⟩ = some (Value.slice A2 n2 c2)) := fun wz hz => by
        have q := hB.out.below hz hB.out.lt
        exact q.cell 0
      have hcc : Hid (∀ wz, Below wB.heap.size wB wz → wz.cell? ⟨gc, 0, none⟩ = some (Value.slice A3 n3 c3)) := fun wz hz => by
        have q := hC.out.below hz hC.out.lt
        exact q.cell 0
      have hv2c : Hid (∀ wz, Below wB.heap.size wB wz → Calls Try.prog 16 #[.agg #[Value.slice A2 n2 c2]] wz fun e w' => e = .returned (.int .i64 0) ∧ Below wz.heap.size wz w') := fun wz hz => valid_any A2 n2 c2 L2 wz (hG2.out.more hz)
      have hv3c : Hid (∀ wz, Below wB.heap.size wB wz → Calls Try.prog 16 #[.agg #[Value.slice A3 n3 c3]] wz fun e w' => e = .returned (.int .i64 0) ∧ Below wz.heap.size wz w') := fun wz hz => valid_any A3 n3 c3 L3 wz (hG3.out.more hz)
      have hsb : Hid (∀ wz, Below wB.heap.size wB wz → Calls Try.prog 15 #[.agg #[.slice A3 2 c3], .agg #[Value.slice A2 n2 c2]] wz fun e w' => e = .returned (.bool true) ∧ Below wz.heap.size wz w') := fun wz hz => by
        have h2 := (hG2.out.more hz).at_
        have h3 := (hG3.out.more hz).at_
        have hv : (L3.take 2).map Im.val = L2.map Im.val := by
          rw [List.map_take, hv3.out, hv2.out, hB2.out]
          rfl
        have hn9 := hn2.out
        subst hn9
        exact sameBook_any A3 A2 2 c3 c2 (L3.take 2) L2 wz ⟨h3.row.take (by rw [hn3.out]; omega), ⟨by have := hn3c.out; omega, h3.cap.2⟩, fun x hx => h3.its x (List.mem_of_mem_take hx)⟩ h2 hv (by omega) (fun x hx => hG3.out.small_all x (List.mem_of_mem_take hx))
      refine RM.region [] [] (F := F4 gb gc n2 c2 n3 c3 A2 A3) (W := fun wz => Below wB.heap.size wB wz) (R := fun _ => Rb) (S := noS) (G := noG) rfl F4_more (fun _ _ _ _ _ _ _ => trivial) (fun _ _ _ _ _ h => h.elim) (fun _ _ _ _ _ h => h.elim) (by kernel_rfl) (by kernel_rfl) (by kernel_rfl) (by kernel_rfl) (by kernel_rfl) ?_ ?_ ?_ (by kernel_rfl) ?_
      · exact (Below.refl _ _).drew
      · intro t ht
        unfold F4
        split <;> first | trivial | exact rfl | (exact absurd ht (by decide))
      · simp only [List.forall_mem_cons, List.not_mem_nil, false_implies, implies_true, and_true]
        refine ⟨?_, ?_, ?_, ?_, ?_, ?_, ?_, ?_, ?_, ?_, ?_, ?_, ?_, ?_, ?_, ?_, ?_, ?_, ?_, ?_, ?_, ?_, ?_, ?_, ?_, ?_, ?_⟩
        · intro a w2 hw _ hf K hK
          have f0 := hf 7 rfl
          simp only [F4] at f0
          clear hf
          go_simp
          exact hK _ _ _ rfl rfl hw (Below.refl _ _) (fun h => absurd h (by decide))
        · intro a w2 hw _ hf K hK
          have f0 := hf 49 rfl
          simp only [F4] at f0
          clear hf
          go_simp
          exact hK _ _ _ rfl rfl hw (Below.refl _ _) (fun h => absurd h (by decide))
        · intro a w2 hw _ hf K hK
          have f0 := hf 50 rfl
          simp only [F4] at f0
          clear hf
          go_simp
          exact hK _ _ _ rfl rfl hw (Below.refl _ _) (fun h => absurd h (by decide))
        · refine ⟨?_, ?_⟩
          · intro a w2 hw hg hf K hK
            have f0 := hf 5 rfl
            simp only [F4] at f0
            clear hf
            have b0 := hcb.out w2 hw
            go_simp
            exact hK _ _ _ rfl rfl hw (Below.refl _ _) (fun h => absurd h (by decide))
          · exact fun v w _ hv hne => absurd hv hne
        · refine ⟨?_, ?_⟩
          · intro a w2 hw hg hf K hK
            have f0 := hf 52 rfl
            simp only [F4] at f0
            clear hf
            go_simp
            refine (hv2c.out w2 hw).mono ?_; rintro e w5 ⟨rfl, hbq⟩
            exact hK _ _ _ rfl rfl (hw.trans (hbq.mono hw.size)) hbq (fun h => absurd h (by decide))
          · exact fun v w _ hv hne => absurd hv hne
        · refine ⟨?_, ?_⟩
          · intro a w2 hw hg hf K hK
            have f0 := hf 53 rfl
            simp only [F4] at f0
            clear hf
            go_simp
            exact hK _ _ _ rfl rfl hw (Below.refl _ _) (fun h => absurd h (by decide))
          · exact fun v w _ hv hne => absurd hv hne
        · intro a w2 hw _ hf K hK
          have f0 := hf 51 rfl
          have f1 := hf 54 rfl
          simp only [F4] at f0 f1
          clear hf
          go_simp
          exact hK _ _ _ rfl rfl hw (Below.refl _ _) (fun h => absurd h (by decide))
        · intro a w2 hw _ hf K hK
          have f0 := hf 55 rfl
          simp only [F4] at f0
          clear hf
          go_simp
          exact hK _ _ _ rfl rfl hw (Below.refl _ _) (fun h => absurd h (by decide))
        · refine ⟨?_, ?_⟩
          · intro a w2 hw hg hf K hK
            have f0 := hf 6 rfl
            simp only [F4] at f0
            clear hf
            have c0 := hcc.out w2 hw
            go_simp
            exact hK _ _ _ rfl rfl hw (Below.refl _ _) (fun h => absurd h (by decide))
          · exact fun v w _ hv hne => absurd hv hne
        · refine ⟨?_, ?_⟩
          · intro a w2 hw hg hf K hK
            have f0 := hf 57 rfl
            simp only [F4] at f0
            clear hf
            go_simp
            refine (hv3c.out w2 hw).mono ?_; rintro e w5 ⟨rfl, hbq⟩
            exact hK _ _ _ rfl rfl (hw.trans (hbq.mono hw.size)) hbq (fun h => absurd h (by decide))
          · exact fun v w _ hv hne => absurd hv hne
        · refine ⟨?_, ?_⟩
          · intro a w2 hw hg hf K hK
            have f0 := hf 58 rfl
            simp only [F4] at f0
            clear hf
            go_simp
            exact hK _ _ _ rfl rfl hw (Below.refl _ _) (fun h => absurd h (by decide))
          · exact fun v w _ hv hne => absurd hv hne
        · intro a w2 hw _ hf K hK
          have f0 := hf 56 rfl
          have f1 := hf 59 rfl
          simp only [F4] at f0 f1
          clear hf
          go_simp
          exact hK _ _ _ rfl rfl hw (Below.refl _ _) (fun h => absurd h (by decide))
        · intro a w2 hw _ hf K hK
          have f0 := hf 60 rfl
          simp only [F4] at f0
          clear hf
          go_simp
          exact hK _ _ _ rfl rfl hw (Below.refl _ _) (fun h => absurd h (by decide))
        · refine ⟨?_, ?_⟩
          · intro a w2 hw hg hf K hK
            have f0 := hf 6 rfl
            simp only [F4] at f0
            clear hf
            have c0 := hcc.out w2 hw
            go_simp
            exact hK _ _ _ rfl rfl hw (Below.refl _ _) (fun h => absurd h (by decide))
          · exact fun v w _ hv hne => absurd hv hne
        · refine ⟨?_, ?_⟩
          · intro a w2 hw hg hf K hK
            have f0 := hf 62 rfl
            simp only [F4] at f0
            clear hf
            have c0 := hcc.out w2 hw
            go_simp
            exact hK _ _ _ rfl rfl hw (Below.refl _ _) (fun h => absurd h (by decide))
          · exact fun v w _ hv hne => absurd hv hne
        · refine ⟨?_, ?_⟩
          · intro a w2 hw hg hf K hK
            have f0 := hf 63 rfl
            simp only [F4] at f0
            clear hf
            go_simp
            exact hK _ _ _ rfl rfl hw (Below.refl _ _) (fun h => absurd h (by decide))
          · exact fun v w _ hv hne => absurd hv hne
        · refine ⟨?_, ?_⟩
          · intro a w2 hw hg hf K hK
            have f0 := hf 64 rfl
            simp only [F4] at f0
            clear hf
            have h3 := hn3.out
            subst h3
            go_simp
            exact hK _ _ _ rfl rfl hw (Below.refl _ _) (fun h => absurd h (by decide))
          · exact fun v w _ hv hne => absurd hv hne
        · intro a w2 hw _ hf K hK
          have f0 := hf 61 rfl
          have f1 := hf 65 rfl
          simp only [F4] at f0 f1
          clear hf
          go_simp
          exact hK _ _ _ rfl rfl hw (Below.refl _ _) (fun h => absurd h (by decide))
        · intro a w2 hw _ hf K hK
          have f0 := hf 66 rfl
          simp only [F4] at f0
          clear hf
          go_simp
          exact hK _ _ _ rfl rfl hw (Below.refl _ _) (fun h => absurd h (by decide))
        · refine ⟨?_, ?_⟩
          · intro a w2 hw hg hf K hK
            have f0 := hf 6 rfl
            simp only [F4] at f0
            clear hf
            have c0 := hcc.out w2 hw
            go_simp
            exact hK _ _ _ rfl rfl hw (Below.refl _ _) (fun h => absurd h (by decide))
          · exact fun v w _ hv hne => absurd hv hne
        · refine ⟨?_, ?_⟩
          · intro a w2 hw hg hf K hK
            have f0 := hf 68 rfl
            simp only [F4] at f0
            clear hf
            have c0 := hcc.out w2 hw
            go_simp
            exact hK _ _ _ rfl rfl hw (Below.refl _ _) (fun h => absurd h (by decide))
          · exact fun v w _ hv hne => absurd hv hne
        · refine ⟨?_, ?_⟩
          · intro a w2 hw hg hf K hK
            have f0 := hf 69 rfl
            simp only [F4] at f0
            clear hf
            have h3 := hn3c.out
            have h4 : (2 : Int) ≤ c3 := by omega
            go_simp
            exact hK _ _ _ rfl rfl hw (Below.refl _ _) (fun h => absurd h (by decide))
          · exact fun v w _ hv hne => absurd hv hne
        · refine ⟨?_, ?_⟩
          · intro a w2 hw hg hf K hK
            have f0 := hf 70 rfl
            simp only [F4] at f0
            clear hf
            go_simp
            exact hK _ _ _ rfl rfl hw (Below.refl _ _) (fun h => absurd h (by decide))
          · exact fun v w _ hv hne => absurd hv hne
        · refine ⟨?_, ?_⟩
          · intro a w2 hw hg hf K hK
            have f0 := hf 5 rfl
            simp only [F4] at f0
            clear hf
            have b0 := hcb.out w2 hw
            go_simp
            exact hK _ _ _ rfl rfl hw (Below.refl _ _) (fun h => absurd h (by decide))
          · exact fun v w _ hv hne => absurd hv hne
        · refine ⟨?_, ?_⟩
          · intro a w2 hw hg hf K hK
            have f0 := hf 71 rfl
            have f1 := hf 72 rfl
            simp only [F4] at f0 f1
            clear hf
            go_simp
            refine (hsb.out w2 hw).mono ?_; rintro e w5 ⟨rfl, hbq⟩
            exact hK _ _ _ rfl rfl (hw.trans (hbq.mono hw.size)) hbq (fun h => absurd h (by decide))
          · exact fun v w _ hv hne => absurd hv hne
        · refine ⟨?_, ?_⟩
          · intro a w2 hw hg hf K hK
            have f0 := hf 73 rfl
            simp only [F4] at f0
            clear hf
            go_simp
            exact hK _ _ _ rfl rfl hw (Below.refl _ _) (fun h => absurd h (by decide))
          · exact fun v w _ hv hne => absurd hv hne
        · intro a w2 hw _ hf K hK
          have f0 := hf 67 rfl
          have f1 := hf 74 rfl
          simp only [F4] at f0 f1
          clear hf
          go_simp
          exact hK _ _ _ rfl rfl hw (Below.refl _ _) (fun h => absurd h (by decide))
      · intro a' w9 hd hs hw hout hf _
        have h75 := hf 75 rfl
        simp only [F4] at h75
        have e0 : _ = some (_) := hout 0 rfl
        have e1 : _ = some (_) := hout 1 rfl
        have e2 : _ = some (_) := hout 2 rfl
        have e3 : _ = some (_) := hout 3 rfl
        have e4 : _ = some (_) := hout 4 rfl
        have e5 : _ = some (_) := hout 5 rfl
        have e6 : _ = some (_) := hout 6 rfl
        have e7 : _ = some (_) := hout 7 rfl
        have e8 : _ = some (_) := hout 8 rfl
        have e9 : _ = some (_) := hout 9 rfl
        have e10 : _ = some (_) := hout 10 rfl
        have e11 : _ = some (_) := hout 11 rfl
        have e12 : _ = some (_) := hout 12 rfl
        have e13 : _ = some (_) := hout 13 rfl
        have e14 : _ = some (_) := hout 14 rfl
        have e15 : _ = some (_) := hout 15 rfl
        have e16 : _ = some (_) := hout 16 rfl
        have e17 : _ = some (_) := hout 17 rfl
        have e18 : _ = some (_) := hout 18 rfl
        have e19 : _ = some (_) := hout 19 rfl
        have e20 : _ = some (_) := hout 20 rfl
        have e21 : _ = some (_) := hout 21 rfl
        have e22 : _ = some (_) := hout 22 rfl
        have e23 : _ = some (_) := hout 23 rfl
        have e24 : _ = some (_) := hout 24 rfl
        have e25 : _ = some (_) := hout 25 rfl
        have e26 : _ = some (_) := hout 26 rfl
        have e27 : _ = some (_) := hout 27 rfl
        have e28 : _ = some (_) := hout 28 rfl
        have e29 : _ = some (_) := hout 29 rfl
        have e30 : _ = some (_) := hout 30 rfl
        have e31 : _ = some (_) := hout 31 rfl
        have e32 : _ = some (_) := hout 32 rfl
        have e33 : _ = some (_) := hout 33 rfl
        have e34 : _ = some (_) := hout 34 rfl
        have e35 : _ = some (_) := hout 35 rfl
        have e36 : _ = some (_) := hout 36 rfl
        have e37 : _ = some (_) := hout 37 rfl
        have e38 : _ = some (_) := hout 38 rfl
        have e39 : _ = some (_) := hout 39 rfl
        have e40 : _ = some (_) := hout 40 rfl
        have e41 : _ = some (_) := hout 41 rfl
        have e42 : _ = some (_) := hout 42 rfl
        have e43 : _ = some (_) := hout 43 rfl
        have e44 : _ = some (_) := hout 44 rfl
        have e45 : _ = some (_) := hout 45 rfl
        have e46 : _ = some (_) := hout 46 rfl
        have e47 : _ = some (_) := hout 47 rfl
        have e48 : _ = some (_) := hout 48 rfl
        have e76 : _ = some (_) := hout 76 rfl
        have e77 : _ = some (_) := hout 77 rfl
        have e78 : _ = some (_) := hout 78 rfl
        have e79 : _ = some (_) := hout 79 rfl
        have e80 : _ = some (_) := hout 80 rfl
        have e81 : _ = some (_) := hout 81 rfl
        have e82 : _ = some (_) := hout 82 rfl
        have e83 : _ = some (_) := hout 83 rfl
        have e84 : _ = some (_) := hout 84 rfl
        have e85 : _ = some (_) := hout 85 rfl
        have e86 : _ = some (_) := hout 86 rfl
        have e87 : _ = some (_) := hout 87 rfl
        have e88 : _ = some (_) := hout 88 rfl
        have e89 : _ = some (_) := hout 89 rfl
        have e90 : _ = some (_) := hout 90 rfl
        have e91 : _ = some (_) := hout 91 rfl
        have e92 : _ = some (_) := hout 92 rfl
        have e93 : _ = some (_) := hout 93 rfl
        have e94 : _ = some (_) := hout 94 rfl
        have e95 : _ = some (_) := hout 95 rfl
        have e96 : _ = some (_) := hout 96 rfl
        have e97 : _ = some (_) := hout 97 rfl
        have e98 : _ = some (_) := hout 98 rfl
        have e99 : _ = some (_) := hout 99 rfl
        have e100 : _ = some (_) := hout 100 rfl
        have e101 : _ = some (_) := hout 101 rfl
        have e102 : _ = some (_) := hout 102 rfl
        have e103 : _ = some (_) := hout 103 rfl
        have e104 : _ = some (_) := hout 104 rfl
        obtain ⟨tm, df⟩ := a'
        simp only at hd hs h75 e0 e1 e2 e3 e4 e5 e6 e7 e8 e9 e10 e11 e12 e13 e14 e15 e16 e17 e18 e19 e20 e21 e22 e23 e24 e25 e26 e27 e28 e29 e30 e31 e32 e33 e34 e35 e36 e37 e38 e39 e40 e41 e42 e43 e44 e45 e46 e47 e48 e76 e77 e78 e79 e80 e81 e82 e83 e84 e85 e86 e87 e88 e89 e90 e91 e92 e93 e94 e95 e96 e97 e98 e99 e100 e101 e102 e103 e104
        have e := F4_lit tm hs
        simp only [h75, e0, e1, e2, e3, e4, e5, e6, e7, e8, e9, e10, e11, e12, e13, e14, e15, e16, e17, e18, e19, e20, e21, e22, e23, e24, e25, e26, e27, e28, e29, e30, e31, e32, e33, e34, e35, e36, e37, e38, e39, e40, e41, e42, e43, e44, e45, e46, e47, e48, e76, e77, e78, e79, e80, e81, e82, e83, e84, e85, e86, e87, e88, e89, e90, e91, e92, e93, e94, e95, e96, e97, e98, e99, e100, e101, e102, e103, e104, Option.getD_some] at e
        clear hf hout hs
        rw [e, hd]
        clear e hd h75 e0 e1 e2 e3 e4 e5 e6 e7 e8 e9 e10 e11 e12 e13 e14 e15 e16 e17 e18 e19 e20 e21 e22 e23 e24 e25 e26 e27 e28 e29 e30 e31 e32 e33 e34 e35 e36 e37 e38 e39 e40 e41 e42 e43 e44 e45 e46 e47 e48 e76 e77 e78 e79 e80 e81 e82 e83 e84 e85 e86 e87 e88 e89 e90 e91 e92 e93 e94 e95 e96 e97 e98 e99 e100 e101 e102 e103 e104
        generalize tm[49]?.getD undef = u49x, tm[50]?.getD undef = u50x, tm[51]?.getD undef = u51x, tm[52]?.getD undef = u52x, tm[53]?.getD undef = u53x, tm[54]?.getD undef = u54x, tm[55]?.getD undef = u55x, tm[56]?.getD undef = u56x, tm[57]?.getD undef = u57x, tm[58]?.getD undef = u58x, tm[59]?.getD undef = u59x, tm[60]?.getD undef = u60x, tm[61]?.getD undef = u61x, tm[62]?.getD undef = u62x, tm[63]?.getD undef = u63x, tm[64]?.getD undef = u64x, tm[65]?.getD undef = u65x, tm[66]?.getD undef = u66x, tm[67]?.getD undef = u67x, tm[68]?.getD undef = u68x, tm[69]?.getD undef = u69x, tm[70]?.getD undef = u70x, tm[71]?.getD undef = u71x, tm[72]?.getD undef = u72x, tm[73]?.getD undef = u73x, tm[74]?.getD undef = u74x
        clear hG2
        replace hb := Lib.hid (hb.out.trans (hw.mono hb.out.size))
        replace hO := Lib.hid (hO.out.below hw hO.out.lt)
        replace hF := Lib.hid (hF.out.below hw hF.out.lt)
        replace hC := Lib.hid (hC.out.below hw hC.out.lt)
        replace hG1 := Lib.hid (hG1.out.more hw)
        replace hG3 := Lib.hid (hG3.out.more hw)
        have hd1 := Lib.hid (fun wz (hz : Below w9.heap.size w9 wz) => due_any A1 n1 c1 L1 cust cur wz (hG1.out.more hz))
        have hd3 := fun wz (hz : Below w9.heap.size w9 wz) => due_any A3 n3 c3 L3 cust cur wz (hG3.out.more hz)
        have hdd : dueS (L3.map Im.val) cust cur = dueS (L1.map Im.val) cust cur := by
          rw [hv3.out, hv1.out]
          exact due_credit fB1 cust cur t its 2
        rw [hdd] at hd3
        replace hd3 := Lib.hid hd3
        obtain ⟨D, hD⟩ : ∃ D, D = dueS (L1.map Im.val) cust cur := ⟨_, rfl⟩
        rw [← hD] at hd1 hd3
        clear hdd hD hw hcb hcc hv2c hv3c hsb
        obtain ⟨k0, k1, k2, k3, k4, k5⟩ := cells6 (w9) (w.heap.size) (Value.int .i64 kind) (Value.string cust) (Value.string cur) (Value.int .i64 t) (Value.int .i64 num) (Value.slice iA iN iC2) (hO.out)
        have f0 : (w9).cell? ⟨gf, 0, none⟩ = some (Value.slice A1 n1 c1) := (hF.out).cell 0
        go_wp2_with fail
        clear k0 k1 k2 k3 k4 k5 f0
        refine (hd1.out _ (Below.refl _ _)).mono ?_; rintro e w10 ⟨rfl, hq⟩
        replace hb := Lib.hid (hb.out.trans (hq.mono hb.out.size))
        replace hO := Lib.hid (hO.out.below hq hO.out.lt)
        replace hC := Lib.hid (hC.out.below hq hC.out.lt)
        replace hq := Lib.hid hq
        obtain ⟨k0, k1, k2, k3, k4, k5⟩ := cells6 (w10) (w.heap.size) (Value.int .i64 kind) (Value.string cust) (Value.string cur) (Value.int .i64 t) (Value.int .i64 num) (Value.slice iA iN iC2) (hO.out)
        have f0 : (w10).cell? ⟨gc, 0, none⟩ = some (Value.slice A3 n3 c3) := (hC.out).cell 0
        go_wp2_with fail
        clear k0 k1 k2 k3 k4 k5 f0
        refine (hd3.out _ hq.out).mono ?_; rintro e w11 ⟨rfl, hq2⟩
        replace hb := Lib.hid (hb.out.trans (hq2.mono hb.out.size))
        clear hq hq2 hd1 hd3
        go_wp2_with fail
        go_ret
        exact ⟨rfl, hb.out⟩
    · have hBe := issue_err (b := fB1) (cust := cust) (cur := cur) (t := t) (l := its) fV1 (by decide) (by rw [hR2.out]; exact hE)
      rw [hR2.out] at hBe
      have hB9 : B2 = fB1 := hBe
      have dE : (E2 != 0) = true := by simpa using hE
      have hn2 : n2 = 1 := by rw [hG2.out.nlen hv2.out, hB9]; rfl
      obtain rfl : n2 = n1 := by rw [hn2, hn1.out]
      have hsb := sameBook_any A2 A1 n2 c2 c1 L2 L1 (w3.alloc (.cells #[Value.slice A2 n2 c2] 27)) hG2.out.at_ hG1.out.at_ (by rw [hv2.out, hv1.out, hB9]) (by rw [hn2]; omega) hG2.out.small_all
      replace hsb := Lib.hid hsb
      replace hE := Lib.hid hE
      clear hBe hB9 hn2
      have b0 : ((w3.alloc (.cells #[Value.slice A2 n2 c2] 27))).cell? ⟨w3.heap.size, 0, none⟩ = some (Value.slice A2 n2 c2) := (hB.out).cell 0
      have f0 : ((w3.alloc (.cells #[Value.slice A2 n2 c2] 27))).cell? ⟨gf, 0, none⟩ = some (Value.slice A1 n2 c1) := (hF.out).cell 0
      go_wp2_with fail
      clear b0 f0
      refine hsb.out.mono ?_; rintro e w9 ⟨rfl, hq9⟩
      go_wp2_with fail
      go_ret
      exact ⟨rfl, hb.out.trans (hq9.mono hb.out.size)⟩
end Go.Proofs.Ytadgdbakgmjekaa
