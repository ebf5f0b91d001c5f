/- Words of the law SessionsBill. -/
import Derived.Test.YtbngclibfnnejaaDoorBT
import Derived.Test.YtbngclibfnnejaaDoorBW
import Derived.Test.YtbngclibfnnejaaDoorIL
import Derived.Test.YtbngclibfnnejaaDoorRW
set_option linter.unusedVariables false
set_option linter.unusedSimpArgs false
namespace Go.Proofs.YtbngclibfnnejaaDoor
open Go.RowKit
def itR (cost rate q : Int) : It := ⟨2, cost, rate, q, netR cost q, vatR cost rate q, netR cost q + vatR cost rate q⟩
set_option maxRecDepth 100000 in
set_option maxHeartbeats 4000000 in
theorem items_any (A : Option Addr) (n c : Nat) (cost rate : Int) (L : List Int) (w : World) (h : LAt (chC cost rate) 4 w w.heap.size A n L) (hn : n ≤ 64) (hL : ∀ x ∈ L, 0 ≤ x ∧ x ≤ 100000000) (hc0 : 0 ≤ cost) (hc1 : cost ≤ 100000) (hr0 : 0 ≤ rate) (hr1 : rate ≤ 10000) : Calls Tryd.prog 11 #[.slice A n c] w fun e w' => (∃ g, e = .returned (.tuple #[.slice (some ⟨g, 0, none⟩) n n, .int .i64 0]) ∧ ItAt w' (some ⟨g, 0, none⟩) n (L.map (itR cost rate))) ∧ Below w.heap.size w w' := by
  have hl := Lib.hid h.len
  have hit := Lib.hid (fun x w (hx : 0 ≤ x ∧ x ≤ 100000000) => item_any cost rate x w hc0 hc1 hr0 hr1 hx.1 hx.2)
  have hm := Lib.hid (fun x hx => hL x hx)
  replace h := Lib.hid h
  have d0 : decide ((64 : Int) < n) = false := by simp; omega
  have hn2 := Lib.hid hn
  obtain ⟨i90, hi90, hz900, hz901, hz902⟩ := info_parts it_info
  replace hi90 := Lib.hid hi90
  replace hz900 := Lib.hid hz900
  replace hz901 := Lib.hid hz901
  replace hz902 := Lib.hid hz902
  have hmk := made_row (P := Tryd.prog) w 52 90 i90 _ 7 Tryd.underlying52 hi90.out hz900.out hz901.out 0 n 0 (n : Int) rfl rfl (Nat.zero_le _) (by rw [hz902.out]; omega) (by omega)
  have hMs := size_madeCells (Value.agg #[Value.int .i64 0, Value.int .i64 0, Value.int .i64 0, Value.int .i64 0, Value.int .i64 0, Value.int .i64 0, Value.int .i64 0]).cells (n * 7)
  obtain ⟨M1, hM1⟩ : ∃ M1, M1 = madeCells (Value.agg #[Value.int .i64 0, Value.int .i64 0, Value.int .i64 0, Value.int .i64 0, Value.int .i64 0, Value.int .i64 0, Value.int .i64 0]).cells (n * 7) := ⟨_, rfl⟩
  rw [← hM1] at hmk hMs
  have hR0 : Hid (LOwn itC 7 90 (w.alloc (.cells M1 90)) w.heap.size (.slice (some ⟨w.heap.size, 0, none⟩) 0 n) []) := made_nil itC_len 90 w M1 n hMs (by simp only [maxLen]; omega)
  clear hMs hM1 hn hL hc0 hc1 hr0 hr1
  go_enter Tryd.func11, Tryd.ntmps11
  go_wp2_with fail
  clear hmk d0
  have hbS : Hid (Below w.heap.size w (w.alloc (.cells M1 90))) := a1 w _
  generalize w.alloc (.cells M1 90) = w4 at *
  go_loopw [17, 4] (fun i v5 wr => ∃ k : Nat, k ≤ n ∧ i = .int .i64 k ∧ v5 = .slice (some ⟨w.heap.size, 0, none⟩) k n ∧ Hid (LOwn itC 7 90 wr w.heap.size (.slice (some ⟨w.heap.size, 0, none⟩) k n) ((L.take k).map (itR cost rate))) ∧ Hid (Below w.heap.size w wr)) (fun i _ _ => n - (intOf i).toNat)
  case atStart => exact ⟨0, Nat.zero_le _, rfl, rfl, hR0.out, hbS.out⟩
  case round =>
    clear hR0 hbS
    obtain ⟨k, hkn, rfl, rfl, hR, hb⟩ := hrel
    by_cases hlt : k < n
    · have hkl : k < L.length := by have := hl.out; omega
      have hk0 : (0 : Int) ≤ k := by omega
      have hn3 : n ≤ 64 := hn2.out
      have hk1 : (k : Int) < n := by omega
      have hxm := Lib.hid (hm.out L[k] (List.getElem_mem hkl))
      have hst : Hid ((L.take (k + 1)).map (itR cost rate) = (L.take k).map (itR cost rate) ++ [itR cost rate L[k]]) := by show _ = _; rw [List.take_succ_eq_append_getElem hkl, List.map_append]; rfl
      obtain ⟨ad, hA, -, e0, e1, e2, e3⟩ := ch_cells (h.out.below hb.out (Nat.le_refl _)) hlt
      generalize L[k] = x at *
      subst hA
      have hN := Lib.hid (Blk.new wr 73 #[Value.int .i64 2, Value.int .i64 cost, Value.int .i64 rate, Value.int .i64 x])
      have hbN := a1 wr (.cells #[Value.int .i64 2, Value.int .i64 cost, Value.int .i64 rate, Value.int .i64 x] 73)
      have n0 : ((wr.alloc (.cells #[Value.int .i64 2, Value.int .i64 cost, Value.int .i64 rate, Value.int .i64 x] 73))).cell? ⟨wr.heap.size, 0, none⟩ = some (Value.int .i64 2) := (hN.out).cell 0; have n1 : ((wr.alloc (.cells #[Value.int .i64 2, Value.int .i64 cost, Value.int .i64 rate, Value.int .i64 x] 73))).cell? ⟨wr.heap.size, 1, none⟩ = some (Value.int .i64 cost) := (hN.out).cell 1; have n2 : ((wr.alloc (.cells #[Value.int .i64 2, Value.int .i64 cost, Value.int .i64 rate, Value.int .i64 x] 73))).cell? ⟨wr.heap.size, 2, none⟩ = some (Value.int .i64 rate) := (hN.out).cell 2; have n3 : ((wr.alloc (.cells #[Value.int .i64 2, Value.int .i64 cost, Value.int .i64 rate, Value.int .i64 x] 73))).cell? ⟨wr.heap.size, 3, none⟩ = some (Value.int .i64 x) := (hN.out).cell 3
      have hc := Lib.hid (hit.out x (wr.alloc (.cells #[Value.int .i64 2, Value.int .i64 cost, Value.int .i64 rate, Value.int .i64 x] 73)) hxm.out)
      have hix : Hid (itC (itR cost rate x) = [Value.int .i64 2, Value.int .i64 cost, Value.int .i64 rate, Value.int .i64 x, Value.int .i64 (netR cost x), Value.int .i64 (vatR cost rate x), Value.int .i64 (netR cost x + vatR cost rate x)]) := rfl
      generalize netR cost x = nn at *
      generalize vatR cost rate x = vv at *
      have hlk : Hid (k = ((L.take k).map (itR cost rate)).length) := by show _ = _; rw [List.length_map, List.length_take]; omega
      replace hbN := Lib.hid hbN
      go_wp2_with fail
      refine hc.out.mono ?_; rintro e w5 ⟨rfl, hq⟩
      have hb5 : Below wr.heap.size wr w5 := hbN.out.trans (hq.mono hbN.out.size)
      have hR5 := hR.out.kept hb5
      have hRX := Lib.hid ((hR5.alloc (.cells #[Value.int .i64 2, Value.int .i64 cost, Value.int .i64 rate, Value.int .i64 x, Value.int .i64 nn, Value.int .i64 vv, Value.int .i64 (nn + vv)] 90)).alloc (.cells #[Value.int .i64 2, Value.int .i64 cost, Value.int .i64 rate, Value.int .i64 x, Value.int .i64 nn, Value.int .i64 vv, Value.int .i64 (nn + vv)] 90))
      have hbX : Hid (Below w.heap.size w ((w5.alloc (.cells #[Value.int .i64 2, Value.int .i64 cost, Value.int .i64 rate, Value.int .i64 x, Value.int .i64 nn, Value.int .i64 vv, Value.int .i64 (nn + vv)] 90)).alloc (.cells #[Value.int .i64 2, Value.int .i64 cost, Value.int .i64 rate, Value.int .i64 x, Value.int .i64 nn, Value.int .i64 vv, Value.int .i64 (nn + vv)] 90))) := ((hb.out.trans (hb5.mono hb.out.size)).alloc (hb.out.trans (hb5.mono hb.out.size)).size _).alloc (by have := (hb.out.trans (hb5.mono hb.out.size)).size; simp; omega) _
      have hY := Lib.hid (Blk.new w5 90 #[Value.int .i64 2, Value.int .i64 cost, Value.int .i64 rate, Value.int .i64 x, Value.int .i64 nn, Value.int .i64 vv, Value.int .i64 (nn + vv)])
      have y0 : ((w5.alloc (.cells #[Value.int .i64 2, Value.int .i64 cost, Value.int .i64 rate, Value.int .i64 x, Value.int .i64 nn, Value.int .i64 vv, Value.int .i64 (nn + vv)] 90))).cell? ⟨w5.heap.size, 0, none⟩ = some (Value.int .i64 2) := (hY.out).cell 0; have y1 : ((w5.alloc (.cells #[Value.int .i64 2, Value.int .i64 cost, Value.int .i64 rate, Value.int .i64 x, Value.int .i64 nn, Value.int .i64 vv, Value.int .i64 (nn + vv)] 90))).cell? ⟨w5.heap.size, 1, none⟩ = some (Value.int .i64 cost) := (hY.out).cell 1; have y2 : ((w5.alloc (.cells #[Value.int .i64 2, Value.int .i64 cost, Value.int .i64 rate, Value.int .i64 x, Value.int .i64 nn, Value.int .i64 vv, Value.int .i64 (nn + vv)] 90))).cell? ⟨w5.heap.size, 2, none⟩ = some (Value.int .i64 rate) := (hY.out).cell 2; have y3 : ((w5.alloc (.cells #[Value.int .i64 2, Value.int .i64 cost, Value.int .i64 rate, Value.int .i64 x, Value.int .i64 nn, Value.int .i64 vv, Value.int .i64 (nn + vv)] 90))).cell? ⟨w5.heap.size, 3, none⟩ = some (Value.int .i64 x) := (hY.out).cell 3; have y4 : ((w5.alloc (.cells #[Value.int .i64 2, Value.int .i64 cost, Value.int .i64 rate, Value.int .i64 x, Value.int .i64 nn, Value.int .i64 vv, Value.int .i64 (nn + vv)] 90))).cell? ⟨w5.heap.size, 4, none⟩ = some (Value.int .i64 nn) := (hY.out).cell 4; have y5 : ((w5.alloc (.cells #[Value.int .i64 2, Value.int .i64 cost, Value.int .i64 rate, Value.int .i64 x, Value.int .i64 nn, Value.int .i64 vv, Value.int .i64 (nn + vv)] 90))).cell? ⟨w5.heap.size, 5, none⟩ = some (Value.int .i64 vv) := (hY.out).cell 5; have y6 : ((w5.alloc (.cells #[Value.int .i64 2, Value.int .i64 cost, Value.int .i64 rate, Value.int .i64 x, Value.int .i64 nn, Value.int .i64 vv, Value.int .i64 (nn + vv)] 90))).cell? ⟨w5.heap.size, 6, none⟩ = some (Value.int .i64 (nn + vv)) := (hY.out).cell 6
      have hrd : Hid (Reads ((w5.alloc (.cells #[Value.int .i64 2, Value.int .i64 cost, Value.int .i64 rate, Value.int .i64 x, Value.int .i64 nn, Value.int .i64 vv, Value.int .i64 (nn + vv)] 90)).alloc (.cells #[Value.int .i64 2, Value.int .i64 cost, Value.int .i64 rate, Value.int .i64 x, Value.int .i64 nn, Value.int .i64 vv, Value.int .i64 (nn + vv)] 90)) ((w5.alloc (.cells #[Value.int .i64 2, Value.int .i64 cost, Value.int .i64 rate, Value.int .i64 x, Value.int .i64 nn, Value.int .i64 vv, Value.int .i64 (nn + vv)] 90)).alloc (.cells #[Value.int .i64 2, Value.int .i64 cost, Value.int .i64 rate, Value.int .i64 x, Value.int .i64 nn, Value.int .i64 vv, Value.int .i64 (nn + vv)] 90)).heap.size 7 (some ⟨(w5.alloc (.cells #[Value.int .i64 2, Value.int .i64 cost, Value.int .i64 rate, Value.int .i64 x, Value.int .i64 nn, Value.int .i64 vv, Value.int .i64 (nn + vv)] 90)).heap.size, 0, none⟩) 1 (flat itC [itR cost rate x])) := (lat_blk itC_len (Blk.new (w5.alloc (.cells #[Value.int .i64 2, Value.int .i64 cost, Value.int .i64 rate, Value.int .i64 x, Value.int .i64 nn, Value.int .i64 vv, Value.int .i64 (nn + vv)] 90)) 90 #[Value.int .i64 2, Value.int .i64 cost, Value.int .i64 rate, Value.int .i64 x, Value.int .i64 nn, Value.int .i64 vv, Value.int .i64 (nn + vv)]) [itR cost rate x] 1 rfl (by rw [flat_one, hix.out])).2
      rw [show (w5.alloc (.cells #[Value.int .i64 2, Value.int .i64 cost, Value.int .i64 rate, Value.int .i64 x, Value.int .i64 nn, Value.int .i64 vv, Value.int .i64 (nn + vv)] 90)).heap.size = w5.heap.size + 1 by simp] at hrd
      clear hR hb hq hc hb5 hR5 hN hbN n0 n1 n2 n3 e0 e1 e2 e3 hY
      go_wp2_with (at_builtin; refine wpList_append_in _ rfl (.tmp 29) (.tmp 31) _ rfl w.heap.size 90 i90 7 Tryd.underlying52 hi90.out hz901.out w.heap.size k n rfl hRX.out hlk.out _ (some ⟨w5.heap.size + 1, 0, none⟩) 1 1 rfl hrd.out rfl (itC_one _) (by omega) ?_
                   intro w9 hown1 hg1
                   have hR1 : Hid (LOwn itC 7 90 w9 w.heap.size (.slice (some ⟨w.heap.size, 0, none⟩) (k + 1) n) ((L.take (k + 1)).map (itR cost rate))) := by rw [hst.out]; exact hown1
                   have hb1 : Hid (Below w.heap.size w w9) := hbX.out.grown hg1 hbX.out.size (fun g8 e8 => by injection e8 with e8; omega)
                   clear hown1 hg1)
      go_roundw
      case rel => exact ⟨k + 1, by omega, by go_num, by go_num, hR1.out, hb1.out⟩
      case measure => simp [intOf]; omega
    · obtain rfl : k = n := by omega
      have htk : L.take k = L := List.take_of_length_le (by have := hl.out; omega)
      rw [htk] at hR
      clear htk
      have hlm : Hid (k = (L.map (itR cost rate)).length) := by show _ = _; rw [List.length_map]; exact hl.out.symm
      go_wp2_with fail
      refine bodyPost_ret (v := .tuple #[.slice (some ⟨w.heap.size, 0, none⟩) k k, .int .i64 0]) (by simp [results, Tryd.results11, go_sem]) rfl ⟨⟨w.heap.size, rfl, hR.out.reads hlm.out⟩, hb.out⟩
end Go.Proofs.YtbngclibfnnejaaDoor
set_option linter.unusedVariables false
set_option linter.unusedSimpArgs false
namespace Go.Proofs.YtbngclibfnnejaaDoor
open Go.RowKit
def cA : ByteArray := ⟨#[65]⟩
def cE : ByteArray := ⟨#[69, 85, 82]⟩
theorem exN : nameB cA = true := by decide +kernel
theorem exC : curB cE = true := by decide +kernel
/-- the book with the invoice of an item, and with its credit note -/
def bk1 (t : Int) (x : It) : List Iv := [mkIv [] cA cE t [x] 0]
def bk2 (t : Int) (x : It) : List Iv := bk1 t x ++ [mkIv (bk1 t x) cA cE t [negIt x] 1]
theorem late0 {t : Int} (h0 : 0 ≤ t) (h1 : t ≤ 268435456) : lateB [] t = false := by
  unfold lateB
  rw [decide_eq_false (by omega), decide_eq_false (by omega)]
  rfl
theorem late1 {t : Int} {x : It} (h0 : 0 ≤ t) (h1 : t ≤ 268435456) : lateB (bk1 t x) t = false := by
  unfold lateB
  rw [decide_eq_false (show ¬ t < 0 by omega), decide_eq_false (show ¬ 268435456 < t by omega)]
  show (false || false || decide (t < t)) = false
  rw [decide_eq_false (by omega)]
  rfl
theorem iss1 {t : Int} {x : It} (h0 : 0 ≤ t) (h1 : t ≤ 268435456) (hs : smallI [x] = true) : issueB [] cA cE t [x] = (bk1 t x, 0) :=
  (issue_ok (b := []) rfl (Nat.zero_le _)).2.2.2.2.2 exN exC (late0 h0 h1) ⟨Nat.le_refl _, by show 1 ≤ 64; omega⟩ hs
theorem val1 {t : Int} {x : It} (h0 : 0 ≤ t) (h1 : t ≤ 268435456) (hs : smallI [x] = true) : validB (bk1 t x) = 0 :=
  (issue_valid (b := []) (cust := cA) (cur := cE) (t := t) (l := [x]) (by rw [iss1 h0 h1 hs])).2.2
theorem cre1 {t : Int} {x : It} (h0 : 0 ≤ t) (h1 : t ≤ 268435456) (hs : smallI [x] = true) : creditB (bk1 t x) 1 t = (bk2 t x, 0) := by
  have h := ((credit_ok (b := bk1 t x) (num := 1) (t := t) (val1 h0 h1 hs) (by show 1 ≤ 255; omega)).2 (mkIv [] cA cE t [x] 0) (by decide) (by show (1 : Int) ≤ ((1 : Nat) : Int); decide) rfl).2 rfl
  exact h.2.2 (by rfl) (late1 h0 h1)
theorem val2 {t : Int} {x : It} (h0 : 0 ≤ t) (h1 : t ≤ 268435456) (hs : smallI [x] = true) : validB (bk2 t x) = 0 := by
  have h := (credit_valid (b := bk1 t x) (num := 1) (t := t) (val1 h0 h1 hs) (by show 1 ≤ 255; omega)).1
  rw [cre1 h0 h1 hs] at h
  exact h
theorem due1 (t : Int) (x : It) : dueS (bk1 t x) cA cE = grossS [x] := by
  have h := due_add [] (mkIv [] cA cE t [x] 0) cA cE
  rw [show (if strEq (mkIv [] cA cE t [x] 0).cust cA && strEq (mkIv [] cA cE t [x] 0).cur cE then (mkIv [] cA cE t [x] 0).gross else 0) = grossS [x] by show (if strEq cA cA && strEq cE cE then _ else _) = _; rw [strEq_self, strEq_self]; rfl] at h
  refine h.trans ?_
  show (0 : Int) + _ = _
  omega
theorem due2 (t : Int) (x : It) : dueS (bk2 t x) cA cE = 0 := by
  have h := due_add (bk1 t x) (mkIv (bk1 t x) cA cE t [negIt x] 1) cA cE
  rw [due1, show (if strEq (mkIv (bk1 t x) cA cE t [negIt x] 1).cust cA && strEq (mkIv (bk1 t x) cA cE t [negIt x] 1).cur cE then (mkIv (bk1 t x) cA cE t [negIt x] 1).gross else 0) = grossS [negIt x] by show (if strEq cA cA && strEq cE cE then _ else _) = _; rw [strEq_self, strEq_self]; rfl] at h
  refine h.trans ?_
  simp [grossS, negIt]
  omega
theorem ResB.of {w w' : World} {R : List Iv × Int} {B : List Iv} {E : Int} {e : Ending} (h : ResB w w' R.1 R.2 e) (hr : R = (B, E)) (hv : validB B = 0) : ∃ A n c L, e = .returned (.tuple #[.agg #[.slice A n c], .int .i64 E]) ∧ GoodM w' A n c L ∧ L.map Im.val = B := by
  obtain ⟨A, n, c, L, h1, h2, h3⟩ := h
  rw [hr] at h1 h3
  exact ⟨A, n, c, L, h1, ⟨h2, by rw [h3]; exact hv⟩, h3⟩
theorem small1 {cost rate q : Int} (h0 : 0 ≤ cost) (h1 : cost ≤ 100000) (h2 : 0 ≤ rate) (h3 : rate ≤ 10000) (h4 : 0 ≤ q) (h5 : q ≤ 100000000) : smallI [itR cost rate q] = true := by
  have a := netR_in cost q h0 h1 h4 h5
  have b := vatR_in cost rate q h0 h1 h2 h3 h4 h5
  unfold smallI itR
  simp only [List.all_cons, List.all_nil, Bool.and_true, itemB, partB, Bool.and_eq_true, decide_eq_true_eq]
  omega
theorem orF {a b c : Bool} (h : a = (b || c)) (ha : a = false) : b = false ∧ c = false := by subst ha; cases b <;> cases c <;> simp at h ⊢
/-- what the law's guards say -/
theorem guards {n : Nat} {cost rate vg last first : Int} {b1 b2 b3 b4 b5 b6 b7 b8 c2 c3 c4 c5 c6 c7 c8 : Bool} (hb1 : decide ((60 : Int) < n) = b1) (hc2 : ((n : Int) == 0) = c2) (hc3 : decide (cost < 0) = c3) (hc4 : decide (100000 < cost) = c4) (hc5 : decide (rate < 0) = c5) (hc6 : decide (10000 < rate) = c6) (hc7 : (vg != 0) = c7) (hc8 : decide (3000 < last - first) = c8)
    (h2 : b2 = (b1 || c2)) (h3 : b3 = (b2 || c3)) (h4 : b4 = (b3 || c4)) (h5 : b5 = (b4 || c5)) (h6 : b6 = (b5 || c6)) (h7 : b7 = (b6 || c7)) (h8 : b8 = (b7 || c8)) :
    (b6 = false → 1 ≤ n ∧ n ≤ 60) ∧ (b7 = false → 1 ≤ n ∧ n ≤ 60 ∧ vg = 0) ∧ (b8 = false → b7 = false ∧ 1 ≤ n ∧ n ≤ 60 ∧ vg = 0 ∧ 0 ≤ cost ∧ cost ≤ 100000 ∧ 0 ≤ rate ∧ rate ≤ 10000 ∧ last - first ≤ 3000) := by
  have k5 : b5 = false → 1 ≤ n ∧ n ≤ 60 ∧ 0 ≤ cost ∧ cost ≤ 100000 ∧ 0 ≤ rate := fun h => by
    obtain ⟨g4, g5⟩ := orF h5 h
    obtain ⟨g3, g6⟩ := orF h4 g4
    obtain ⟨g2, g7⟩ := orF h3 g3
    obtain ⟨g1, g8⟩ := orF h2 g2
    subst hb1 hc2 hc3 hc4 hc5
    simp at g1 g5 g6 g7 g8
    omega
  have k6 : b6 = false → 1 ≤ n ∧ n ≤ 60 ∧ 0 ≤ cost ∧ cost ≤ 100000 ∧ 0 ≤ rate ∧ rate ≤ 10000 := fun h => by
    obtain ⟨g5, g6⟩ := orF h6 h
    have := k5 g5
    subst hc6
    simp at g6
    omega
  have k7 : b7 = false → 1 ≤ n ∧ n ≤ 60 ∧ 0 ≤ cost ∧ cost ≤ 100000 ∧ 0 ≤ rate ∧ rate ≤ 10000 ∧ vg = 0 := fun h => by
    obtain ⟨g6, g7⟩ := orF h7 h
    have := k6 g6
    subst hc7
    simp at g7
    omega
  refine ⟨fun h => ?_, fun h => ?_, fun h => ?_⟩
  · have := k6 h; omega
  · have := k7 h; omega
  · obtain ⟨g7, g8⟩ := orF h8 h
    have := k7 g7
    subst hc8
    simp at g8
    refine ⟨g7, ?_⟩
    omega
def firstA (L : List Rd) : Int := (L[0]?.map (·.at_)).getD 0
def lastA (L : List Rd) : Int := (L[L.length - 1]?.map (·.at_)).getD 0
theorem firstA_eq {L : List Rd} (h : 0 < L.length) : firstA L = L[0].at_ := by unfold firstA; rw [List.getElem?_eq_getElem h]; rfl
theorem lastA_eq {L : List Rd} (h : 0 < L.length) : lastA L = (L[L.length - 1]'(by omega)).at_ := by unfold lastA; rw [List.getElem?_eq_getElem (show L.length - 1 < L.length by omega)]; rfl
theorem goodR_of {L : List Rd} {n : Nat} (hl : L.length = n) (h1 : 1 ≤ n) (hn : n ≤ 60) (hv : vGo none L = 0) (hd : lastA L - firstA L ≤ 3000) : GoodR L n := by
  have hp : 0 < L.length := by omega
  refine ⟨h1, hn, hl, hv, ?_⟩
  rw [minR_all L hv hp, ← firstA_eq hp, ← lastA_eq hp]
  exact hd
/-- the readings without the k-th -/
theorem goodR_drop {L : List Rd} {n k : Nat} (h : GoodR L n) (h0 : 0 < k) (h1 : k + 1 < n) : GoodR (L.take k ++ L.drop (k + 1)) (n - 1) := by
  have hl := h.hl
  have e : L.take k ++ L.drop (k + 1) = L.eraseIdx k := (List.eraseIdx_eq_take_drop_succ L k).symm
  have hlen : (L.take k ++ L.drop (k + 1)).length = n - 1 := by rw [List.length_append, List.length_take, List.length_drop]; omega
  have hm := h.hm
  have hp : 0 < L.length := by omega
  rw [minR_all L h.hv hp, ← firstA_eq hp, ← lastA_eq hp] at hm
  refine goodR_of hlen (by omega) (by have := h.hn; omega) (by rw [e]; exact vGo_drop L k none h.hv) ?_
  have a1 : firstA (L.take k ++ L.drop (k + 1)) = firstA L := by
    unfold firstA
    rw [List.getElem?_append_left (by rw [List.length_take]; omega), List.getElem?_take, if_pos h0]
  have a2 : lastA (L.take k ++ L.drop (k + 1)) = lastA L := by
    unfold lastA
    rw [hlen, List.getElem?_append_right (by rw [List.length_take]; omega), List.length_take, List.getElem?_drop]
    congr 2
    rw [show k + 1 + (n - 1 - 1 - min k L.length) = L.length - 1 by omega]
  rw [a1, a2]
  exact hm
end Go.Proofs.YtbngclibfnnejaaDoor
set_option linter.unusedVariables false
set_option linter.unusedSimpArgs false
namespace Go.Proofs.YtbngclibfnnejaaDoor
open Go.RowKit
/-- an empty slice of the call's own -/
def E0 (base : Nat) (v : Value) (w : World) : Prop := ∃ g, v = .slice (some ⟨g, 0, none⟩) 0 0 ∧ base ≤ g ∧ Blk w g 26 #[]
theorem E0.more {base : Nat} {v : Value} {w w' : World} (h : E0 base v w) (hb : Below w.heap.size w w') : E0 base v w' := by
  obtain ⟨g, e, h1, h2⟩ := h
  exact ⟨g, e, h1, h2.below hb h2.lt⟩
/-- what 'Credit' hands back: a book that lies apart from the block gb -/
def BkT2 (gb : Nat) (X : List Iv) (v : Value) (w : World) : Prop := ∃ A n c L, v = .tuple #[.agg #[.slice A n c], .int .i64 0] ∧ (GoodM w A n c L ∧ gb < w.heap.size) ∧ L.map Im.val = X
def BkA2 (gb : Nat) (X : List Iv) (v : Value) (w : World) : Prop := ∃ A n c L, v = .agg #[.slice A n c] ∧ (GoodM w A n c L ∧ gb < w.heap.size) ∧ L.map Im.val = X
theorem BkT2.more {gb : Nat} {X : List Iv} {v : Value} {w w' : World} (h : BkT2 gb X v w) (hb : Below w.heap.size w w') : BkT2 gb X v w' := by
  obtain ⟨A, n, c, L, h0, h1, h2⟩ := h
  exact ⟨A, n, c, L, h0, ⟨h1.1.more hb, Nat.lt_of_lt_of_le h1.2 hb.size⟩, h2⟩
theorem BkA2.more {gb : Nat} {X : List Iv} {v : Value} {w w' : World} (h : BkA2 gb X v w) (hb : Below w.heap.size w w') : BkA2 gb X v w' := by
  obtain ⟨A, n, c, L, h0, h1, h2⟩ := h
  exact ⟨A, n, c, L, h0, ⟨h1.1.more hb, Nat.lt_of_lt_of_le h1.2 hb.size⟩, h2⟩
theorem BkT2.st {gb : Nat} {X : List Iv} {v : Value} {w w' : World} {B : Option Addr} {m k : Nat} (h : BkT2 gb X v w) (hR : Blk w gb 57 #[.slice B m k]) (hg : w.grownBy w' (some gb)) : BkT2 gb X v w' := by
  obtain ⟨A, n, c, L, h0, h1, h2⟩ := h
  exact ⟨A, n, c, L, h0, ⟨⟨h1.1.at_.stB hR hg, h1.1.ok⟩, Nat.lt_of_lt_of_le h1.2 hg.size⟩, h2⟩
theorem BkA2.st {gb : Nat} {X : List Iv} {v : Value} {w w' : World} {B : Option Addr} {m k : Nat} (h : BkA2 gb X v w) (hR : Blk w gb 57 #[.slice B m k]) (hg : w.grownBy w' (some gb)) : BkA2 gb X v w' := by
  obtain ⟨A, n, c, L, h0, h1, h2⟩ := h
  exact ⟨A, n, c, L, h0, ⟨⟨h1.1.at_.stB hR hg, h1.1.ok⟩, Nat.lt_of_lt_of_le h1.2 hg.size⟩, h2⟩
theorem rd_info : (Tryd.prog.info? 26).map (fun i => (i.zero, i.size, i.bytes)) = some (some (.agg #[.int .i64 0, .int .i64 0]), 2, 16) := by kernel_rfl
def sl (tm : Array Value) (i : Nat) : Value := tm[i]?.getD undef
theorem sl_eq (tm : Array Value) (i : Nat) : sl tm i = tm[i]?.getD undef := rfl
theorem sl_some {tm : Array Value} {i : Nat} {v : Value} (h : tm[i]? = some v) : sl tm i = v := by unfold sl; rw [h]; rfl
set_option maxRecDepth 100000 in
set_option maxHeartbeats 4000000 in
theorem lit232 (tm : Array Value) (h : tm.size = 232) : tm = #[sl tm 0, sl tm 1, sl tm 2, sl tm 3, sl tm 4, sl tm 5, sl tm 6, sl tm 7, sl tm 8, sl tm 9, sl tm 10, sl tm 11, sl tm 12, sl tm 13, sl tm 14, sl tm 15, sl tm 16, sl tm 17, sl tm 18, sl tm 19, sl tm 20, sl tm 21, sl tm 22, sl tm 23, sl tm 24, sl tm 25, sl tm 26, sl tm 27, sl tm 28, sl tm 29, sl tm 30, sl tm 31, sl tm 32, sl tm 33, sl tm 34, sl tm 35, sl tm 36, sl tm 37, sl tm 38, sl tm 39, sl tm 40, sl tm 41, sl tm 42, sl tm 43, sl tm 44, sl tm 45, sl tm 46, sl tm 47, sl tm 48, sl tm 49, sl tm 50, sl tm 51, sl tm 52, sl tm 53, sl tm 54, sl tm 55, sl tm 56, sl tm 57, sl tm 58, sl tm 59, sl tm 60, sl tm 61, sl tm 62, sl tm 63, sl tm 64, sl tm 65, sl tm 66, sl tm 67, sl tm 68, sl tm 69, sl tm 70, sl tm 71, sl tm 72, sl tm 73, sl tm 74, sl tm 75, sl tm 76, sl tm 77, sl tm 78, sl tm 79, sl tm 80, sl tm 81, sl tm 82, sl tm 83, sl tm 84, sl tm 85, sl tm 86, sl tm 87, sl tm 88, sl tm 89, sl tm 90, sl tm 91, sl tm 92, sl tm 93, sl tm 94, sl tm 95, sl tm 96, sl tm 97, sl tm 98, sl tm 99, sl tm 100, sl tm 101, sl tm 102, sl tm 103, sl tm 104, sl tm 105, sl tm 106, sl tm 107, sl tm 108, sl tm 109, sl tm 110, sl tm 111, sl tm 112, sl tm 113, sl tm 114, sl tm 115, sl tm 116, sl tm 117, sl tm 118, sl tm 119, sl tm 120, sl tm 121, sl tm 122, sl tm 123, sl tm 124, sl tm 125, sl tm 126, sl tm 127, sl tm 128, sl tm 129, sl tm 130, sl tm 131, sl tm 132, sl tm 133, sl tm 134, sl tm 135, sl tm 136, sl tm 137, sl tm 138, sl tm 139, sl tm 140, sl tm 141, sl tm 142, sl tm 143, sl tm 144, sl tm 145, sl tm 146, sl tm 147, sl tm 148, sl tm 149, sl tm 150, sl tm 151, sl tm 152, sl tm 153, sl tm 154, sl tm 155, sl tm 156, sl tm 157, sl tm 158, sl tm 159, sl tm 160, sl tm 161, sl tm 162, sl tm 163, sl tm 164, sl tm 165, sl tm 166, sl tm 167, sl tm 168, sl tm 169, sl tm 170, sl tm 171, sl tm 172, sl tm 173, sl tm 174, sl tm 175, sl tm 176, sl tm 177, sl tm 178, sl tm 179, sl tm 180, sl tm 181, sl tm 182, sl tm 183, sl tm 184, sl tm 185, sl tm 186, sl tm 187, sl tm 188, sl tm 189, sl tm 190, sl tm 191, sl tm 192, sl tm 193, sl tm 194, sl tm 195, sl tm 196, sl tm 197, sl tm 198, sl tm 199, sl tm 200, sl tm 201, sl tm 202, sl tm 203, sl tm 204, sl tm 205, sl tm 206, sl tm 207, sl tm 208, sl tm 209, sl tm 210, sl tm 211, sl tm 212, sl tm 213, sl tm 214, sl tm 215, sl tm 216, sl tm 217, sl tm 218, sl tm 219, sl tm 220, sl tm 221, sl tm 222, sl tm 223, sl tm 224, sl tm 225, sl tm 226, sl tm 227, sl tm 228, sl tm 229, sl tm 230, sl tm 231] := lit_arr tm 232 h
def F3a (A : Option Addr) (ad : Addr) (n c : Nat) (cost rate vg first last : Int) (b1 b2 b3 b4 b5 b6 b7 b8 c2 c3 c4 c5 c6 c7 c8 : Bool) : Tmp → Value → World → Prop
  | 0, v, _ => v = .slice A n c
  | 1, v, _ => v = .int .i64 cost
  | 2, v, _ => v = .int .i64 rate
  | 28, v, _ => v = .slice A n c
  | 29, v, _ => v = .int .i64 n
  | 30, v, _ => v = .bool b1
  | 31, v, _ => v = .bool b1
  | 32, v, _ => b1 = false → v = .slice A n c
  | 33, v, _ => b1 = false → v = .int .i64 n
  | 34, v, _ => b1 = false → v = .bool c2
  | 35, v, _ => v = .bool b2
  | 36, v, _ => v = .bool b2
  | 37, v, _ => b2 = false → v = .int .i64 cost
  | 38, v, _ => b2 = false → v = .bool c3
  | 39, v, _ => v = .bool b3
  | 40, v, _ => v = .bool b3
  | 41, v, _ => b3 = false → v = .int .i64 cost
  | 42, v, _ => b3 = false → v = .bool c4
  | 43, v, _ => v = .bool b4
  | 44, v, _ => v = .bool b4
  | 45, v, _ => b4 = false → v = .int .i64 rate
  | 46, v, _ => b4 = false → v = .bool c5
  | 47, v, _ => v = .bool b5
  | 48, v, _ => v = .bool b5
  | 49, v, _ => b5 = false → v = .int .i64 rate
  | 50, v, _ => b5 = false → v = .bool c6
  | 51, v, _ => v = .bool b6
  | 52, v, _ => v = .bool b6
  | 53, v, _ => b6 = false → v = .slice A n c
  | 54, v, _ => b6 = false → v = .int .i64 vg
  | 55, v, _ => b6 = false → v = .bool c7
  | 56, v, _ => v = .bool b7
  | 57, v, _ => v = .bool b7
  | 58, v, _ => b7 = false → v = .slice A n c
  | 59, v, _ => b7 = false → v = .slice A n c
  | 60, v, _ => b7 = false → v = .int .i64 n
  | 61, v, _ => b7 = false → v = .int .i64 ((n : Int) - 1)
  | 62, v, _ => b7 = false → v = .pointer (some (ad.add ((n - 1) * 2)))
  | 63, v, _ => b7 = false → v = .pointer (some (ad.add ((n - 1) * 2)))
  | 64, v, _ => b7 = false → v = .int .i64 last
  | 65, v, _ => b7 = false → v = .slice A n c
  | 66, v, _ => b7 = false → v = .pointer (some ad)
  | 67, v, _ => b7 = false → v = .pointer (some ad)
  | 68, v, _ => b7 = false → v = .int .i64 first
  | 69, v, _ => b7 = false → v = .int .i64 (last - first)
  | 70, v, _ => b7 = false → v = .bool c8
  | 71, v, _ => v = .bool b8
  | _, _, _ => True
theorem F3a_more {A : Option Addr} {ad : Addr} {n c : Nat} {cost rate vg first last : Int} {b1 b2 b3 b4 b5 b6 b7 b8 c2 c3 c4 c5 c6 c7 c8 : Bool} (d t : Tmp) (v : Value) (w w' : World) (hR : Rb w w') (hne : t ≠ d) (hc : ([] : List (Tmp × Tmp)).contains (d, t) = false) (h : F3a A ad n c cost rate vg first last b1 b2 b3 b4 b5 b6 b7 b8 c2 c3 c4 c5 c6 c7 c8 t v w) : F3a A ad n c cost rate vg first last b1 b2 b3 b4 b5 b6 b7 b8 c2 c3 c4 c5 c6 c7 c8 t v w' := by
  unfold F3a at *
  split at h <;> first | exact h
def F3b (base : Nat) (ad : Addr) (n c k : Nat) (L : List Rd) : Tmp → Value → World → Prop
  | 0, v, _ => v = .slice (some ad) n c
  | 13, v, _ => v = .int .i64 (k : Int)
  | 115, v, w => E0 base v w
  | 116, v, _ => v = .slice (some ad) n c
  | 117, v, _ => v = .int .i64 (k : Int)
  | 118, v, _ => v = .slice (some ad) k c
  | 119, v, w => LOwn rdC 2 26 w base v (L.take k)
  | 120, v, _ => v = .slice (some ad) n c
  | 121, v, _ => v = .int .i64 (k : Int)
  | 122, v, _ => v = .int .i64 ((k : Int) + 1)
  | 123, v, _ => v = .slice (if c = k + 1 then some ad else some (ad.add ((k + 1) * 2))) (n - (k + 1)) (c - (k + 1))
  | _, _, _ => True
theorem F3b_more {base : Nat} {ad : Addr} {n c k : Nat} {L : List Rd} (d t : Tmp) (v : Value) (w w' : World) (hR : Rb w w') (hne : t ≠ d) (hc : ([] : List (Tmp × Tmp)).contains (d, t) = false) (h : F3b base ad n c k L t v w) : F3b base ad n c k L t v w' := by
  unfold F3b at *
  split at h <;> first | exact h | exact E0.more h hR | exact fun hg => E0.more (h hg) hR | exact LOwn.kept h hR | exact fun hg => LOwn.kept (h hg) hR
def F3c (gt eA n c gu NU : Nat) (ad : Addr) (cost rate start S : Int) : Tmp → Value → World → Prop
  | 0, v, _ => v = .slice (some ad) n c
  | 10, v, _ => v = .pointer (some ⟨gt, 0, none⟩)
  | 17, v, _ => v = .slice (some ⟨gu, 0, none⟩) NU NU
  | 19, v, w => RunS cost rate S v w
  | 144, v, w => RunT cost rate S v w
  | 145, v, _ => v = .agg #[Value.string (⟨#[84]⟩ : ByteArray), Value.string (⟨#[69, 85, 82]⟩ : ByteArray), Value.int .i64 1, Value.int .i64 0, Value.int .i64 268435456, Value.slice (some ⟨eA, 0, none⟩) 1 1, Value.int .i64 (-1), Value.int .i64 (-1)]
  | 146, v, _ => v = .agg #[Value.int .i64 0, Value.bool false]
  | 147, v, _ => v = .slice (some ad) n c
  | 148, v, _ => v = .pointer (some ad)
  | 149, v, _ => v = .pointer (some ad)
  | 150, v, _ => v = .int .i64 start
  | 151, v, _ => v = .slice (some ⟨gu, 0, none⟩) NU NU
  | 152, v, w => RunT cost rate S v w
  | 153, v, w => RunS cost rate S v w
  | 154, v, _ => v = .int .i64 0
  | _, _, _ => True
theorem F3c_more {gt eA n c gu NU : Nat} {ad : Addr} {cost rate start S : Int} (d t : Tmp) (v : Value) (w w' : World) (hR : Rb w w') (hne : t ≠ d) (hc : ([] : List (Tmp × Tmp)).contains (d, t) = false) (h : F3c gt eA n c gu NU ad cost rate start S t v w) : F3c gt eA n c gu NU ad cost rate start S t v w' := by
  unfold F3c at *
  split at h <;> first | exact h | exact RunT.more h hR | exact fun hg => RunT.more (h hg) hR | exact RunS.more h hR | exact fun hg => RunS.more (h hg) hR
def F3d (ad : Addr) (n c gb n1 c1 : Nat) (A1 : Option Addr) (last : Int) (X : List Iv) : Tmp → Value → World → Prop
  | 0, v, _ => v = .slice (some ad) n c
  | 22, v, _ => v = .pointer (some ⟨gb, 0, none⟩)
  | 207, v, w => BkT2 gb X v w
  | 208, v, _ => v = .agg #[Value.slice A1 n1 c1]
  | 209, v, _ => v = .slice (some ad) n c
  | 210, v, _ => v = .slice (some ad) n c
  | 211, v, _ => v = .int .i64 n
  | 212, v, _ => v = .int .i64 ((n : Int) - 1)
  | 213, v, _ => v = .pointer (some (ad.add ((n - 1) * 2)))
  | 214, v, _ => v = .pointer (some (ad.add ((n - 1) * 2)))
  | 215, v, _ => v = .int .i64 last
  | 216, v, w => BkT2 gb X v w
  | 217, v, w => BkA2 gb X v w
  | 218, v, _ => v = .int .i64 0
  | _, _, _ => True
theorem F3d_more {ad : Addr} {n c gb n1 c1 : Nat} {A1 : Option Addr} {last : Int} {X : List Iv} (d t : Tmp) (v : Value) (w w' : World) (hR : Rb w w') (hne : t ≠ d) (hc : ([] : List (Tmp × Tmp)).contains (d, t) = false) (h : F3d ad n c gb n1 c1 A1 last X t v w) : F3d ad n c gb n1 c1 A1 last X t v w' := by
  unfold F3d at *
  split at h <;> first | exact h | exact BkT2.more h hR | exact fun hg => BkT2.more (h hg) hR | exact BkA2.more h hR | exact fun hg => BkA2.more (h hg) hR
theorem F3d_st {ad : Addr} {n c gb n1 c1 : Nat} {A1 : Option Addr} {last : Int} {X : List Iv} {B : Option Addr} {m k : Nat} (t : Tmp) (v : Value) (w w' : World) (hR : Blk w gb 57 #[.slice B m k]) (hg : w.grownBy w' (some gb)) (h : F3d ad n c gb n1 c1 A1 last X t v w) : F3d ad n c gb n1 c1 A1 last X t v w' := by
  unfold F3d at *
  split at h <;> first | exact h | exact BkT2.st h hR hg | exact BkA2.st h hR hg
end Go.Proofs.YtbngclibfnnejaaDoor
