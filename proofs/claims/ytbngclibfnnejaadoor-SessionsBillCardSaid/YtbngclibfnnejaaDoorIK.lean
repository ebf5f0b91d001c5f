/- Invoices: Credit of both, walked. -/
import Derived.Test.YtbngclibfnnejaaDoorIJ
set_option linter.unusedVariables false
set_option linter.unusedSimpArgs false
namespace Go.Proofs.YtbngclibfnnejaaDoor
open Go.RowKit
/-- a slice of items, with its room -/
def NegC (l : List It) (v : Value) (w : World) : Prop := ∃ A n c, v = .slice A n c ∧ (ItAt w A n l ∧ n ≤ c ∧ c ≤ maxLen)
theorem NegC.more {l : List It} {v : Value} {w w' : World} (h : NegC l v w) (hb : Below w.heap.size w w') : NegC l v w' := by
  obtain ⟨A, n, c, h1, h2, h3⟩ := h
  exact ⟨A, n, c, h1, h2.more hb, h3⟩
theorem NegC.own {l : List It} {v : Value} {w : World} {base : Nat} (h : LOwn itC 7 90 w base v l) : NegC l v w := by
  obtain ⟨A, c, rfl, h1, h2, -, h3⟩ := h.form
  exact ⟨A, l.length, c, rfl, h3, h1, h2⟩
/-- the credit note that add is given -/
def MkV (cu cr : ByteArray) (t num : Int) (l : List It) (v : Value) (w : World) : Prop := ∃ A n c, v = .agg #[Value.int .i64 0, Value.string cu, Value.string cr, Value.int .i64 t, Value.slice A n c, Value.int .i64 0, Value.int .i64 0, Value.int .i64 0, Value.int .i64 num] ∧ (ItAt w A n l ∧ n ≤ c ∧ c ≤ maxLen)
theorem MkV.more {cu cr : ByteArray} {t num : Int} {l : List It} {v : Value} {w w' : World} (h : MkV cu cr t num l v w) (hb : Below w.heap.size w w') : MkV cu cr t num l v w' := by
  obtain ⟨A, n, c, h1, h2, h3⟩ := h
  exact ⟨A, n, c, h1, h2.more hb, h3⟩
/-- a book and no error -/
def BkT (X : List Iv) (v : Value) (w : World) : Prop := ∃ A n c L, v = .tuple #[.agg #[.slice A n c], .int .i64 0] ∧ BkAt w A n c L ∧ L.map Im.val = X
def BkA (X : List Iv) (v : Value) (w : World) : Prop := ∃ A n c L, v = .agg #[.slice A n c] ∧ BkAt w A n c L ∧ L.map Im.val = X
theorem BkT.more {X : List Iv} {v : Value} {w w' : World} (h : BkT X v w) (hb : Below w.heap.size w w') : BkT X v w' := by
  obtain ⟨A, n, c, L, h1, h2, h3⟩ := h
  exact ⟨A, n, c, L, h1, h2.more hb, h3⟩
theorem BkA.more {X : List Iv} {v : Value} {w w' : World} (h : BkA X v w) (hb : Below w.heap.size w w') : BkA X v w' := by
  obtain ⟨A, n, c, L, h1, h2, h3⟩ := h
  exact ⟨A, n, c, L, h1, h2.more hb, h3⟩
theorem credit_ok {b : List Iv} {num t : Int} (hv : validB b = 0) (hn : b.length ≤ 255) :
    ((num < 1 ∨ (b.length : Int) < num) → creditB b num t = (b, 8)) ∧ (∀ v, 1 ≤ num → num ≤ (b.length : Int) → b[(num - 1).toNat]? = some v → (v.credits ≠ 0 → creditB b num t = (b, 10)) ∧ (v.credits = 0 → (credited num b = true → creditB b num t = (b, 9)) ∧ (credited num b = false → lateB b t = true → creditB b num t = (b, 2)) ∧ (credited num b = false → lateB b t = false → creditB b num t = (b ++ [mkIv b v.cust v.cur t (v.items.map negIt) num], 0)))) := by
  unfold creditB
  rw [if_neg (fun e => e hv)]
  refine ⟨fun a => by rw [if_pos a], fun v h1 h2 h3 => ?_⟩
  rw [if_neg (by omega), h3]
  refine ⟨fun a => ?_, fun a => ⟨fun b => ?_, fun b c => ?_, fun b c => ?_⟩⟩
  · dsimp only
    rw [if_pos a]
  · dsimp only
    rw [if_neg (fun e => e a), if_pos b]
  · dsimp only
    rw [if_neg (fun e => e a), if_neg (by rw [b]; decide), if_neg (by omega), if_pos c]
  · dsimp only
    rw [if_neg (fun e => e a), if_neg (by rw [b]; decide), if_neg (by omega), if_neg (by rw [c]; decide)]
def F11 (gb gv n c vn vc : Nat) (A vA : Option Addr) (vcu vcr : ByteArray) (tt num : Int) (its : List It) (X : List Iv) : Tmp → Value → World → Prop
  | 1, v, _ => v = .int .i64 num
  | 2, v, _ => v = .int .i64 tt
  | 9, v, _ => v = .pointer (some ⟨gb, 0, none⟩)
  | 10, v, _ => v = .pointer (some ⟨gv, 0, none⟩)
  | 60, v, _ => v = .agg #[Value.slice A n c]
  | 61, v, _ => v = .pointer (some ⟨gv, 1, none⟩)
  | 62, v, _ => v = .string vcu
  | 63, v, _ => v = .pointer (some ⟨gv, 2, none⟩)
  | 64, v, _ => v = .string vcr
  | 65, v, _ => v = .int .i64 tt
  | 66, v, _ => v = .pointer (some ⟨gv, 4, none⟩)
  | 67, v, _ => v = .slice vA vn vc
  | 68, v, w => NegC its v w
  | 69, v, _ => v = .int .i64 num
  | 70, v, w => MkV vcu vcr tt num its v w
  | 71, v, w => BkT X v w
  | 72, v, w => BkA X v w
  | 73, v, _ => v = .int .i64 0
  | _, _, _ => True
theorem F11_more {gb gv n c vn vc : Nat} {A vA : Option Addr} {vcu vcr : ByteArray} {tt num : Int} {its : List It} {X : List Iv} (d t : Tmp) (v : Value) (w w' : World) (hR : Rb w w') (hne : t ≠ d) (hc : ([] : List (Tmp × Tmp)).contains (d, t) = false) (h : F11 gb gv n c vn vc A vA vcu vcr tt num its X t v w) : F11 gb gv n c vn vc A vA vcu vcr tt num its X t v w' := by
  unfold F11 at *
  split at h <;> first | exact h | exact NegC.more h hR | exact fun hg => NegC.more (h hg) hR | exact MkV.more h hR | exact fun hg => MkV.more (h hg) hR | exact BkT.more h hR | exact fun hg => BkT.more (h hg) hR | exact BkA.more h hR | exact fun hg => BkA.more (h hg) hR
theorem F11_lit (tm : Array Value) (hs : tm.size = 74) : tm = #[tm[0]?.getD undef, tm[1]?.getD undef, tm[2]?.getD undef, tm[3]?.getD undef, tm[4]?.getD undef, tm[5]?.getD undef, tm[6]?.getD undef, tm[7]?.getD undef, tm[8]?.getD undef, tm[9]?.getD undef, tm[10]?.getD undef, tm[11]?.getD undef, tm[12]?.getD undef, tm[13]?.getD undef, tm[14]?.getD undef, tm[15]?.getD undef, tm[16]?.getD undef, tm[17]?.getD undef, tm[18]?.getD undef, tm[19]?.getD undef, tm[20]?.getD undef, tm[21]?.getD undef, tm[22]?.getD undef, tm[23]?.getD undef, tm[24]?.getD undef, tm[25]?.getD undef, tm[26]?.getD undef, tm[27]?.getD undef, tm[28]?.getD undef, tm[29]?.getD undef, tm[30]?.getD undef, tm[31]?.getD undef, tm[32]?.getD undef, tm[33]?.getD undef, tm[34]?.getD undef, tm[35]?.getD undef, tm[36]?.getD undef, tm[37]?.getD undef, tm[38]?.getD undef, tm[39]?.getD undef, tm[40]?.getD undef, tm[41]?.getD undef, tm[42]?.getD undef, tm[43]?.getD undef, tm[44]?.getD undef, tm[45]?.getD undef, tm[46]?.getD undef, tm[47]?.getD undef, tm[48]?.getD undef, tm[49]?.getD undef, tm[50]?.getD undef, tm[51]?.getD undef, tm[52]?.getD undef, tm[53]?.getD undef, tm[54]?.getD undef, tm[55]?.getD undef, tm[56]?.getD undef, tm[57]?.getD undef, tm[58]?.getD undef, tm[59]?.getD undef, tm[60]?.getD undef, tm[61]?.getD undef, tm[62]?.getD undef, tm[63]?.getD undef, tm[64]?.getD undef, tm[65]?.getD undef, tm[66]?.getD undef, tm[67]?.getD undef, tm[68]?.getD undef, tm[69]?.getD undef, tm[70]?.getD undef, tm[71]?.getD undef, tm[72]?.getD undef, tm[73]?.getD undef] := lit_arr tm 74 hs
def F12 (gb gv n c vn vc : Nat) (A vA : Option Addr) (vcu vcr : ByteArray) (tt num : Int) (its : List It) (X : List Iv) : Tmp → Value → World → Prop
  | 1, v, _ => v = .int .i64 num
  | 2, v, _ => v = .int .i64 tt
  | 3, v, _ => v = .pointer (some ⟨gb, 0, none⟩)
  | 9, v, _ => v = .pointer (some ⟨gv, 0, none⟩)
  | 60, v, _ => v = .agg #[Value.slice A n c]
  | 61, v, _ => v = .pointer (some ⟨gv, 1, none⟩)
  | 62, v, _ => v = .string vcu
  | 63, v, _ => v = .pointer (some ⟨gv, 2, none⟩)
  | 64, v, _ => v = .string vcr
  | 65, v, _ => v = .int .i64 tt
  | 66, v, _ => v = .pointer (some ⟨gv, 4, none⟩)
  | 67, v, _ => v = .slice vA vn vc
  | 68, v, w => NegC its v w
  | 69, v, _ => v = .int .i64 num
  | 70, v, w => MkV vcu vcr tt num its v w
  | 71, v, w => BkT X v w
  | 72, v, w => BkA X v w
  | 73, v, _ => v = .int .i64 0
  | _, _, _ => True
theorem F12_more {gb gv n c vn vc : Nat} {A vA : Option Addr} {vcu vcr : ByteArray} {tt num : Int} {its : List It} {X : List Iv} (d t : Tmp) (v : Value) (w w' : World) (hR : Rb w w') (hne : t ≠ d) (hc : ([] : List (Tmp × Tmp)).contains (d, t) = false) (h : F12 gb gv n c vn vc A vA vcu vcr tt num its X t v w) : F12 gb gv n c vn vc A vA vcu vcr tt num its X t v w' := by
  unfold F12 at *
  split at h <;> first | exact h | exact NegC.more h hR | exact fun hg => NegC.more (h hg) hR | exact MkV.more h hR | exact fun hg => MkV.more (h hg) hR | exact BkT.more h hR | exact fun hg => BkT.more (h hg) hR | exact BkA.more h hR | exact fun hg => BkA.more (h hg) hR
theorem F12_lit (tm : Array Value) (hs : tm.size = 74) : tm = #[tm[0]?.getD undef, tm[1]?.getD undef, tm[2]?.getD undef, tm[3]?.getD undef, tm[4]?.getD undef, tm[5]?.getD undef, tm[6]?.getD undef, tm[7]?.getD undef, tm[8]?.getD undef, tm[9]?.getD undef, tm[10]?.getD undef, tm[11]?.getD undef, tm[12]?.getD undef, tm[13]?.getD undef, tm[14]?.getD undef, tm[15]?.getD undef, tm[16]?.getD undef, tm[17]?.getD undef, tm[18]?.getD undef, tm[19]?.getD undef, tm[20]?.getD undef, tm[21]?.getD undef, tm[22]?.getD undef, tm[23]?.getD undef, tm[24]?.getD undef, tm[25]?.getD undef, tm[26]?.getD undef, tm[27]?.getD undef, tm[28]?.getD undef, tm[29]?.getD undef, tm[30]?.getD undef, tm[31]?.getD undef, tm[32]?.getD undef, tm[33]?.getD undef, tm[34]?.getD undef, tm[35]?.getD undef, tm[36]?.getD undef, tm[37]?.getD undef, tm[38]?.getD undef, tm[39]?.getD undef, tm[40]?.getD undef, tm[41]?.getD undef, tm[42]?.getD undef, tm[43]?.getD undef, tm[44]?.getD undef, tm[45]?.getD undef, tm[46]?.getD undef, tm[47]?.getD undef, tm[48]?.getD undef, tm[49]?.getD undef, tm[50]?.getD undef, tm[51]?.getD undef, tm[52]?.getD undef, tm[53]?.getD undef, tm[54]?.getD undef, tm[55]?.getD undef, tm[56]?.getD undef, tm[57]?.getD undef, tm[58]?.getD undef, tm[59]?.getD undef, tm[60]?.getD undef, tm[61]?.getD undef, tm[62]?.getD undef, tm[63]?.getD undef, tm[64]?.getD undef, tm[65]?.getD undef, tm[66]?.getD undef, tm[67]?.getD undef, tm[68]?.getD undef, tm[69]?.getD undef, tm[70]?.getD undef, tm[71]?.getD undef, tm[72]?.getD undef, tm[73]?.getD undef] := lit_arr tm 74 hs
set_option maxRecDepth 100000 in
set_option maxHeartbeats 8000000 in
theorem credit_any (A : Option Addr) (n c : Nat) (L : List Im) (num t : Int) (w : World) (h : GoodM w A n c L) (hn : n ≤ 255) : Calls Tryd.prog 15 #[.agg #[Value.slice A n c], .int .i64 num, .int .i64 t] w fun e w' => ResB w w' (creditB (L.map Im.val) num t).1 (creditB (L.map Im.val) num t).2 e ∧ Below w.heap.size w w' := by
  have hlL := h.at_.len
  have hcap := h.at_.cap
  obtain ⟨hF1, hF2⟩ := credit_ok (num := num) (t := t) h.ok (by rw [List.length_map]; omega)
  obtain ⟨R, hR9⟩ : ∃ R, R = creditB (L.map Im.val) num t := ⟨_, rfl⟩
  rw [← hR9] at hF1 ⊢
  simp only [← hR9] at hF2
  clear hR9
  rw [List.length_map, hlL] at hF1 hF2
  have hG := Lib.hid h
  have hcr := fun wz (hz : Below w.heap.size w wz) => credited_any A n c L num n wz (h.more hz).at_.row (Nat.le_refl _) hcap.1 (by omega)
  rw [List.take_of_length_le (by rw [List.length_map]; omega)] at hcr
  replace hcr := Lib.hid hcr
  have hct := Lib.hid (fun wz (hz : Below w.heap.size w wz) => inTime_any A n c L t wz (h.more hz).at_.row (by omega))
  have hv := Lib.hid (fun wz (hz : Below w.heap.size w wz) => valid_any A n c L wz (h.more hz))
  have hn256 : decide ((256 : Int) ≤ (n : Int)) = false := by apply decide_eq_false; omega
  have hB := Lib.hid ((Blk.new w 57 #[Value.slice A n c]).alloc (.cells #[Value.slice none 0 0] 57))
  have hR := Blk.new (w.alloc (.cells #[Value.slice A n c] 57)) 57 #[Value.slice none 0 0]
  rw [show (w.alloc (.cells #[Value.slice A n c] 57)).heap.size = w.heap.size + 1 by simp] at hR
  replace hR := Lib.hid hR
  have hb : Hid (Below w.heap.size w ((w.alloc (.cells #[Value.slice A n c] 57)).alloc (.cells #[Value.slice none 0 0] 57))) := (a1 w _).alloc (by simp) _
  have b0 : (((w.alloc (.cells #[Value.slice A n c] 57)).alloc (.cells #[Value.slice none 0 0] 57))).cell? ⟨w.heap.size, 0, none⟩ = some (Value.slice A n c) := (hB.out).cell 0
  clear h
  go_enter Tryd.func15, Tryd.ntmps15
  go_wp2_with fail
  refine (hv.out _ hb.out).mono ?_; rintro e w1 ⟨rfl, hq⟩
  clear b0 hv
  replace hB := Lib.hid (hB.out.below hq hB.out.lt)
  replace hR := Lib.hid (hR.out.below hq hR.out.lt)
  replace hb := Lib.hid (hb.out.trans (hq.mono hb.out.size))
  clear hq
  have b0 : w1.cell? ⟨w.heap.size, 0, none⟩ = some (Value.slice A n c) := hB.out.cell 0
  have hD := Lib.hid (Blk.new w1 95 #[Value.slice A n c])
  replace hB := Lib.hid (hB.out.alloc (.cells #[Value.slice A n c] 95))
  replace hR := Lib.hid (hR.out.alloc (.cells #[Value.slice A n c] 95))
  replace hb := Lib.hid (hb.out.alloc hb.out.size (.cells #[Value.slice A n c] 95))
  have d0 : ((w1.alloc (.cells #[Value.slice A n c] 95))).cell? ⟨w1.heap.size, 0, none⟩ = some (Value.slice A n c) := (hD.out).cell 0
  have bb0 : ((w1.alloc (.cells #[Value.slice A n c] 95))).cell? ⟨w.heap.size, 0, none⟩ = some (Value.slice A n c) := (hB.out).cell 0
  have r0 : ((w1.alloc (.cells #[Value.slice A n c] 95))).cell? ⟨(w.heap.size + 1), 0, none⟩ = some (Value.slice none 0 0) := (hR.out).cell 0; have rz0 : ((w1.alloc (.cells #[Value.slice A n c] 95))).frozen? ⟨(w.heap.size + 1), 0, none⟩ = false := (hR.out).frozen 0
  have hsz0 := hb.out.size
  by_cases q1 : num < 1
  · have hF : Hid (R = (L.map Im.val, 8)) := hF1 (.inl q1)
    have dq : decide (num < 1) = true := by apply decide_eq_true; omega
    go_wp2_with fail
    (try simp only [Exit.inBlock, Exit.then])
    have hRf : Blk ((w1.alloc (.cells #[Value.slice A n c] 95)).setCell ⟨(w.heap.size + 1), 0, none⟩ (Value.slice A n c)) (w.heap.size + 1) 57 #[Value.slice A n c] := hR.out.set_ 0 _
    have hgs : (w1.alloc (.cells #[Value.slice A n c] 95)).grownBy ((w1.alloc (.cells #[Value.slice A n c] 95)).setCell ⟨(w.heap.size + 1), 0, none⟩ (Value.slice A n c)) (some (w.heap.size + 1)) := only_set (World.grownBy.refl _ _) 0 _
    have hbF : Below w.heap.size w ((w1.alloc (.cells #[Value.slice A n c] 95)).setCell ⟨(w.heap.size + 1), 0, none⟩ (Value.slice A n c)) := hb.out.grown hgs hb.out.size (fun g8 e8 => by injection e8 with e8; omega)
    refine bodyPost_ret (v := .tuple #[.agg #[Value.slice A n c], .int .i64 8]) ?_ rfl ?_
    · refine (res2 (fn := Tryd.f15) (p := 6) (u := 7) (ty := 57) rfl _ _ (w.heap.size + 1) 57 _ (0, 0) _ ?_ hRf Tryd.underlying57 rfl (by kernel_rfl)).trans ?_
      · rfl
      · rfl
    · exact ⟨⟨A, n, c, L, by rw [hF.out], (hG.out.more hbF).at_, by rw [hF.out]⟩, hbF⟩
  have dq1 : decide (num < 1) = false := by apply decide_eq_false; omega
  by_cases q2 : (n : Int) < num
  · have hF : Hid (R = (L.map Im.val, 8)) := hF1 (.inr q2)
    have dq : decide ((n : Int) < num) = true := by apply decide_eq_true; omega
    go_wp2_with fail
    (try simp only [Exit.inBlock, Exit.then])
    have hRf : Blk ((w1.alloc (.cells #[Value.slice A n c] 95)).setCell ⟨(w.heap.size + 1), 0, none⟩ (Value.slice A n c)) (w.heap.size + 1) 57 #[Value.slice A n c] := hR.out.set_ 0 _
    have hgs : (w1.alloc (.cells #[Value.slice A n c] 95)).grownBy ((w1.alloc (.cells #[Value.slice A n c] 95)).setCell ⟨(w.heap.size + 1), 0, none⟩ (Value.slice A n c)) (some (w.heap.size + 1)) := only_set (World.grownBy.refl _ _) 0 _
    have hbF : Below w.heap.size w ((w1.alloc (.cells #[Value.slice A n c] 95)).setCell ⟨(w.heap.size + 1), 0, none⟩ (Value.slice A n c)) := hb.out.grown hgs hb.out.size (fun g8 e8 => by injection e8 with e8; omega)
    refine bodyPost_ret (v := .tuple #[.agg #[Value.slice A n c], .int .i64 8]) ?_ rfl ?_
    · refine (res2 (fn := Tryd.f15) (p := 6) (u := 7) (ty := 57) rfl _ _ (w.heap.size + 1) 57 _ (0, 0) _ ?_ hRf Tryd.underlying57 rfl (by kernel_rfl)).trans ?_
      · rfl
      · rfl
    · exact ⟨⟨A, n, c, L, by rw [hF.out], (hG.out.more hbF).at_, by rw [hF.out]⟩, hbF⟩
  have dq2 : decide ((n : Int) < num) = false := by apply decide_eq_false; omega
  obtain ⟨j, rfl⟩ : ∃ j : Nat, num = (j : Int) + 1 := ⟨(num - 1).toNat, by omega⟩
  have hjn : j < n := by omega
  have hjl : j < L.length := by omega
  have hj0 : (0 : Int) ≤ j := by omega
  have hj1 : (j : Int) < n := by omega
  have hF2 := hF2 L[j].val (by omega) (by omega) (by rw [show ((j : Int) + 1 - 1).toNat = j by omega]; exact map_at hjl)
  have hxI := hG.out.at_.at_ hjn
  have hxs := hG.out.small hjl
  obtain ⟨ad, hA, -, e0, e1, e2, e3, e4, e5, e6, e7, e8⟩ := iv_cells (hG.out.at_.more hb.out).row hjn
  obtain ⟨x, hx⟩ : ∃ x, x = L[j] := ⟨_, rfl⟩
  rw [← hx] at e0 e1 e2 e3 e4 e5 e6 e7 e8 hF2 hxI hxs
  clear hx
  obtain ⟨vnum, vcu, vcr, vat, vA, vn, vc, vits, vnet, vvat, vgr, vcd⟩ := x
  simp only [Im.val] at e0 e1 e2 e3 e4 e5 e6 e7 e8 hF2 hxs
  subst hA
  replace hF1 := Lib.hid hF1
  replace hxI := Lib.hid hxI
  replace hxs := Lib.hid hxs
  by_cases q3 : vcd ≠ 0
  · have hF : Hid (R = (L.map Im.val, 10)) := hF2.1 q3
    have dq : (vcd != 0) = true := by simpa using q3
    have hBx := Lib.hid (hB.out.alloc (.cells #[Value.int .i64 vnum, Value.string vcu, Value.string vcr, Value.int .i64 vat, Value.slice vA vn vc, Value.int .i64 vnet, Value.int .i64 vvat, Value.int .i64 vgr, Value.int .i64 vcd] 100))
    have hRx := Lib.hid (hR.out.alloc (.cells #[Value.int .i64 vnum, Value.string vcu, Value.string vcr, Value.int .i64 vat, Value.slice vA vn vc, Value.int .i64 vnet, Value.int .i64 vvat, Value.int .i64 vgr, Value.int .i64 vcd] 100))
    have hbx := Lib.hid (hb.out.alloc hb.out.size (.cells #[Value.int .i64 vnum, Value.string vcu, Value.string vcr, Value.int .i64 vat, Value.slice vA vn vc, Value.int .i64 vnet, Value.int .i64 vvat, Value.int .i64 vgr, Value.int .i64 vcd] 100))
    have hVx := Blk.new (w1.alloc (.cells #[Value.slice (some ad) n c] 95)) 100 #[Value.int .i64 vnum, Value.string vcu, Value.string vcr, Value.int .i64 vat, Value.slice vA vn vc, Value.int .i64 vnet, Value.int .i64 vvat, Value.int .i64 vgr, Value.int .i64 vcd]
    rw [show (w1.alloc (.cells #[Value.slice (some ad) n c] 95)).heap.size = w1.heap.size + 1 by simp] at hVx
    obtain ⟨m0, m1, m2, m3, m4, m5, m6, m7, m8⟩ := cells9 (((w1.alloc (.cells #[Value.slice (some ad) n c] 95)).alloc (.cells #[Value.int .i64 vnum, Value.string vcu, Value.string vcr, Value.int .i64 vat, Value.slice vA vn vc, Value.int .i64 vnet, Value.int .i64 vvat, Value.int .i64 vgr, Value.int .i64 vcd] 100))) ((w1.heap.size + 1)) (Value.int .i64 vnum) (Value.string vcu) (Value.string vcr) (Value.int .i64 vat) (Value.slice vA vn vc) (Value.int .i64 vnet) (Value.int .i64 vvat) (Value.int .i64 vgr) (Value.int .i64 vcd) (hVx)
    have hVx := Lib.hid hVx
    have p0 : (((w1.alloc (.cells #[Value.slice (some ad) n c] 95)).alloc (.cells #[Value.int .i64 vnum, Value.string vcu, Value.string vcr, Value.int .i64 vat, Value.slice vA vn vc, Value.int .i64 vnet, Value.int .i64 vvat, Value.int .i64 vgr, Value.int .i64 vcd] 100))).cell? ⟨w.heap.size, 0, none⟩ = some (Value.slice (some ad) n c) := (hBx.out).cell 0
    have q0 : (((w1.alloc (.cells #[Value.slice (some ad) n c] 95)).alloc (.cells #[Value.int .i64 vnum, Value.string vcu, Value.string vcr, Value.int .i64 vat, Value.slice vA vn vc, Value.int .i64 vnet, Value.int .i64 vvat, Value.int .i64 vgr, Value.int .i64 vcd] 100))).cell? ⟨(w.heap.size + 1), 0, none⟩ = some (Value.slice none 0 0) := (hRx.out).cell 0; have qz0 : (((w1.alloc (.cells #[Value.slice (some ad) n c] 95)).alloc (.cells #[Value.int .i64 vnum, Value.string vcu, Value.string vcr, Value.int .i64 vat, Value.slice vA vn vc, Value.int .i64 vnet, Value.int .i64 vvat, Value.int .i64 vgr, Value.int .i64 vcd] 100))).frozen? ⟨(w.heap.size + 1), 0, none⟩ = false := (hRx.out).frozen 0
    have hDx := Lib.hid (hD.out.alloc (.cells #[Value.int .i64 vnum, Value.string vcu, Value.string vcr, Value.int .i64 vat, Value.slice vA vn vc, Value.int .i64 vnet, Value.int .i64 vvat, Value.int .i64 vgr, Value.int .i64 vcd] 100))
    have s0 : (((w1.alloc (.cells #[Value.slice (some ad) n c] 95)).alloc (.cells #[Value.int .i64 vnum, Value.string vcu, Value.string vcr, Value.int .i64 vat, Value.slice vA vn vc, Value.int .i64 vnet, Value.int .i64 vvat, Value.int .i64 vgr, Value.int .i64 vcd] 100))).cell? ⟨w1.heap.size, 0, none⟩ = some (Value.slice (some ad) n c) := (hDx.out).cell 0
    go_wp2_with fail
    (try simp only [Exit.inBlock, Exit.then])
    have hRf : Blk (((w1.alloc (.cells #[Value.slice (some ad) n c] 95)).alloc (.cells #[Value.int .i64 vnum, Value.string vcu, Value.string vcr, Value.int .i64 vat, Value.slice vA vn vc, Value.int .i64 vnet, Value.int .i64 vvat, Value.int .i64 vgr, Value.int .i64 vcd] 100)).setCell ⟨(w.heap.size + 1), 0, none⟩ (Value.slice (some ad) n c)) (w.heap.size + 1) 57 #[Value.slice (some ad) n c] := hRx.out.set_ 0 _
    have hgs : ((w1.alloc (.cells #[Value.slice (some ad) n c] 95)).alloc (.cells #[Value.int .i64 vnum, Value.string vcu, Value.string vcr, Value.int .i64 vat, Value.slice vA vn vc, Value.int .i64 vnet, Value.int .i64 vvat, Value.int .i64 vgr, Value.int .i64 vcd] 100)).grownBy (((w1.alloc (.cells #[Value.slice (some ad) n c] 95)).alloc (.cells #[Value.int .i64 vnum, Value.string vcu, Value.string vcr, Value.int .i64 vat, Value.slice vA vn vc, Value.int .i64 vnet, Value.int .i64 vvat, Value.int .i64 vgr, Value.int .i64 vcd] 100)).setCell ⟨(w.heap.size + 1), 0, none⟩ (Value.slice (some ad) n c)) (some (w.heap.size + 1)) := only_set (World.grownBy.refl _ _) 0 _
    have hbF : Below w.heap.size w (((w1.alloc (.cells #[Value.slice (some ad) n c] 95)).alloc (.cells #[Value.int .i64 vnum, Value.string vcu, Value.string vcr, Value.int .i64 vat, Value.slice vA vn vc, Value.int .i64 vnet, Value.int .i64 vvat, Value.int .i64 vgr, Value.int .i64 vcd] 100)).setCell ⟨(w.heap.size + 1), 0, none⟩ (Value.slice (some ad) n c)) := hbx.out.grown hgs hbx.out.size (fun g8 e8 => by injection e8 with e8; omega)
    refine bodyPost_ret (v := .tuple #[.agg #[Value.slice (some ad) n c], .int .i64 10]) ?_ rfl ?_
    · refine (res2 (fn := Tryd.f15) (p := 6) (u := 7) (ty := 57) rfl _ _ (w.heap.size + 1) 57 _ (0, 0) _ ?_ hRf Tryd.underlying57 rfl (by kernel_rfl)).trans ?_
      · rfl
      · rfl
    · exact ⟨⟨some ad, n, c, L, by rw [hF.out], (hG.out.more hbF).at_, by rw [hF.out]⟩, hbF⟩
  replace q3 : vcd = 0 := by simpa using q3
  subst q3
  have hF3 := Lib.hid (hF2.2 rfl)
  clear hF2
  have hBx := Lib.hid (hB.out.alloc (.cells #[Value.int .i64 vnum, Value.string vcu, Value.string vcr, Value.int .i64 vat, Value.slice vA vn vc, Value.int .i64 vnet, Value.int .i64 vvat, Value.int .i64 vgr, Value.int .i64 0] 100))
  have hRx := Lib.hid (hR.out.alloc (.cells #[Value.int .i64 vnum, Value.string vcu, Value.string vcr, Value.int .i64 vat, Value.slice vA vn vc, Value.int .i64 vnet, Value.int .i64 vvat, Value.int .i64 vgr, Value.int .i64 0] 100))
  have hbx := Lib.hid (hb.out.alloc hb.out.size (.cells #[Value.int .i64 vnum, Value.string vcu, Value.string vcr, Value.int .i64 vat, Value.slice vA vn vc, Value.int .i64 vnet, Value.int .i64 vvat, Value.int .i64 vgr, Value.int .i64 0] 100))
  have hVx := Blk.new (w1.alloc (.cells #[Value.slice (some ad) n c] 95)) 100 #[Value.int .i64 vnum, Value.string vcu, Value.string vcr, Value.int .i64 vat, Value.slice vA vn vc, Value.int .i64 vnet, Value.int .i64 vvat, Value.int .i64 vgr, Value.int .i64 0]
  rw [show (w1.alloc (.cells #[Value.slice (some ad) n c] 95)).heap.size = w1.heap.size + 1 by simp] at hVx
  obtain ⟨m0, m1, m2, m3, m4, m5, m6, m7, m8⟩ := cells9 (((w1.alloc (.cells #[Value.slice (some ad) n c] 95)).alloc (.cells #[Value.int .i64 vnum, Value.string vcu, Value.string vcr, Value.int .i64 vat, Value.slice vA vn vc, Value.int .i64 vnet, Value.int .i64 vvat, Value.int .i64 vgr, Value.int .i64 0] 100))) ((w1.heap.size + 1)) (Value.int .i64 vnum) (Value.string vcu) (Value.string vcr) (Value.int .i64 vat) (Value.slice vA vn vc) (Value.int .i64 vnet) (Value.int .i64 vvat) (Value.int .i64 vgr) (Value.int .i64 0) (hVx)
  have hVx := Lib.hid hVx
  have p0 : (((w1.alloc (.cells #[Value.slice (some ad) n c] 95)).alloc (.cells #[Value.int .i64 vnum, Value.string vcu, Value.string vcr, Value.int .i64 vat, Value.slice vA vn vc, Value.int .i64 vnet, Value.int .i64 vvat, Value.int .i64 vgr, Value.int .i64 0] 100))).cell? ⟨w.heap.size, 0, none⟩ = some (Value.slice (some ad) n c) := (hBx.out).cell 0
  have q0 : (((w1.alloc (.cells #[Value.slice (some ad) n c] 95)).alloc (.cells #[Value.int .i64 vnum, Value.string vcu, Value.string vcr, Value.int .i64 vat, Value.slice vA vn vc, Value.int .i64 vnet, Value.int .i64 vvat, Value.int .i64 vgr, Value.int .i64 0] 100))).cell? ⟨(w.heap.size + 1), 0, none⟩ = some (Value.slice none 0 0) := (hRx.out).cell 0; have qz0 : (((w1.alloc (.cells #[Value.slice (some ad) n c] 95)).alloc (.cells #[Value.int .i64 vnum, Value.string vcu, Value.string vcr, Value.int .i64 vat, Value.slice vA vn vc, Value.int .i64 vnet, Value.int .i64 vvat, Value.int .i64 vgr, Value.int .i64 0] 100))).frozen? ⟨(w.heap.size + 1), 0, none⟩ = false := (hRx.out).frozen 0
  have hDx := Lib.hid (hD.out.alloc (.cells #[Value.int .i64 vnum, Value.string vcu, Value.string vcr, Value.int .i64 vat, Value.slice vA vn vc, Value.int .i64 vnet, Value.int .i64 vvat, Value.int .i64 vgr, Value.int .i64 0] 100))
  have s0 : (((w1.alloc (.cells #[Value.slice (some ad) n c] 95)).alloc (.cells #[Value.int .i64 vnum, Value.string vcu, Value.string vcr, Value.int .i64 vat, Value.slice vA vn vc, Value.int .i64 vnet, Value.int .i64 vvat, Value.int .i64 vgr, Value.int .i64 0] 100))).cell? ⟨w1.heap.size, 0, none⟩ = some (Value.slice (some ad) n c) := (hDx.out).cell 0
  go_wp2_with fail
  clear m0 m1 m2 m3 m4 m5 m6 m7 m8 p0 q0 qz0 e0 e1 e2 e3 e4 e5 e6 e7 e8 r0 rz0 s0 b0 d0 bb0
  have hB := hBx
  have hR := hRx
  have hb := hbx
  have hD := hDx
  clear hBx hRx hbx hDx
  generalize ((w1.alloc (.cells #[Value.slice (some ad) n c] 95)).alloc (.cells #[Value.int .i64 vnum, Value.string vcu, Value.string vcr, Value.int .i64 vat, Value.slice vA vn vc, Value.int .i64 vnet, Value.int .i64 vvat, Value.int .i64 vgr, Value.int .i64 0] 100)) = w2 at *
  obtain ⟨gv, hgv⟩ : ∃ gv, gv = (w1.heap.size + 1) := ⟨_, rfl⟩
  rw [← hgv] at hVx ⊢
  replace hgv := Lib.hid hgv
  obtain ⟨gd, hgd⟩ : ∃ gd, gd = w1.heap.size := ⟨_, rfl⟩
  rw [← hgd] at hD ⊢
  replace hgd := Lib.hid hgd
  refine (hcr.out _ hb.out).mono ?_; rintro e w3 ⟨rfl, hq⟩
  have hq9 := hq
  replace hB := Lib.hid (hB.out.below hq hB.out.lt)
  replace hR := Lib.hid (hR.out.below hq hR.out.lt)
  replace hb := Lib.hid (hb.out.trans (hq.mono hb.out.size))
  replace hD := Lib.hid (hD.out.below hq hD.out.lt)
  clear hq
  replace hVx := Lib.hid (hVx.out.below hq9 hVx.out.lt)
  clear hq9
  cases q4 : credited ((j : Int) + 1) (L.map Im.val) with
  | true =>
    have hF : Hid (R = (L.map Im.val, 9)) := hF3.out.1 q4
    have b0 : (w3).cell? ⟨w.heap.size, 0, none⟩ = some (Value.slice (some ad) n c) := (hB.out).cell 0
    have r0 : (w3).cell? ⟨(w.heap.size + 1), 0, none⟩ = some (Value.slice none 0 0) := (hR.out).cell 0; have rz0 : (w3).frozen? ⟨(w.heap.size + 1), 0, none⟩ = false := (hR.out).frozen 0
    have d0 : (w3).cell? ⟨gd, 0, none⟩ = some (Value.slice (some ad) n c) := (hD.out).cell 0
    go_wp2_with fail
    (try simp only [Exit.inBlock, Exit.then])
    have hRf : Blk (w3.setCell ⟨(w.heap.size + 1), 0, none⟩ (Value.slice (some ad) n c)) (w.heap.size + 1) 57 #[Value.slice (some ad) n c] := hR.out.set_ 0 _
    have hgs : w3.grownBy (w3.setCell ⟨(w.heap.size + 1), 0, none⟩ (Value.slice (some ad) n c)) (some (w.heap.size + 1)) := only_set (World.grownBy.refl _ _) 0 _
    have hbF : Below w.heap.size w (w3.setCell ⟨(w.heap.size + 1), 0, none⟩ (Value.slice (some ad) n c)) := hb.out.grown hgs hb.out.size (fun g8 e8 => by injection e8 with e8; omega)
    refine bodyPost_ret (v := .tuple #[.agg #[Value.slice (some ad) n c], .int .i64 9]) ?_ rfl ?_
    · refine (res2 (fn := Tryd.f15) (p := 6) (u := 7) (ty := 57) rfl _ _ (w.heap.size + 1) 57 _ (0, 0) _ ?_ hRf Tryd.underlying57 rfl (by kernel_rfl)).trans ?_
      · rfl
      · rfl
    · exact ⟨⟨some ad, n, c, L, by rw [hF.out], (hG.out.more hbF).at_, by rw [hF.out]⟩, hbF⟩
  | false =>
    have b0 : (w3).cell? ⟨w.heap.size, 0, none⟩ = some (Value.slice (some ad) n c) := (hB.out).cell 0
    have r0 : (w3).cell? ⟨(w.heap.size + 1), 0, none⟩ = some (Value.slice none 0 0) := (hR.out).cell 0; have rz0 : (w3).frozen? ⟨(w.heap.size + 1), 0, none⟩ = false := (hR.out).frozen 0
    have d0 : (w3).cell? ⟨gd, 0, none⟩ = some (Value.slice (some ad) n c) := (hD.out).cell 0
    go_wp2_with fail
    clear b0 r0 rz0 d0
    refine (hct.out _ hb.out).mono ?_; rintro e w4 ⟨rfl, hq⟩
    have hq9 := hq
    replace hB := Lib.hid (hB.out.below hq hB.out.lt)
    replace hR := Lib.hid (hR.out.below hq hR.out.lt)
    replace hb := Lib.hid (hb.out.trans (hq.mono hb.out.size))
    replace hD := Lib.hid (hD.out.below hq hD.out.lt)
    clear hq
    replace hVx := Lib.hid (hVx.out.below hq9 hVx.out.lt)
    clear hq9
    cases q5 : lateB (L.map Im.val) t with
    | true =>
      have hF : Hid (R = (L.map Im.val, 2)) := hF3.out.2.1 q4 q5
      have b0 : (w4).cell? ⟨w.heap.size, 0, none⟩ = some (Value.slice (some ad) n c) := (hB.out).cell 0
      have r0 : (w4).cell? ⟨(w.heap.size + 1), 0, none⟩ = some (Value.slice none 0 0) := (hR.out).cell 0; have rz0 : (w4).frozen? ⟨(w.heap.size + 1), 0, none⟩ = false := (hR.out).frozen 0
      have d0 : (w4).cell? ⟨gd, 0, none⟩ = some (Value.slice (some ad) n c) := (hD.out).cell 0
      go_wp2_with fail
      (try simp only [Exit.inBlock, Exit.then])
      have hRf : Blk (w4.setCell ⟨(w.heap.size + 1), 0, none⟩ (Value.slice (some ad) n c)) (w.heap.size + 1) 57 #[Value.slice (some ad) n c] := hR.out.set_ 0 _
      have hgs : w4.grownBy (w4.setCell ⟨(w.heap.size + 1), 0, none⟩ (Value.slice (some ad) n c)) (some (w.heap.size + 1)) := only_set (World.grownBy.refl _ _) 0 _
      have hbF : Below w.heap.size w (w4.setCell ⟨(w.heap.size + 1), 0, none⟩ (Value.slice (some ad) n c)) := hb.out.grown hgs hb.out.size (fun g8 e8 => by injection e8 with e8; omega)
      refine bodyPost_ret (v := .tuple #[.agg #[Value.slice (some ad) n c], .int .i64 2]) ?_ rfl ?_
      · refine (res2 (fn := Tryd.f15) (p := 6) (u := 7) (ty := 57) rfl _ _ (w.heap.size + 1) 57 _ (0, 0) _ ?_ hRf Tryd.underlying57 rfl (by kernel_rfl)).trans ?_
        · rfl
        · rfl
      · exact ⟨⟨some ad, n, c, L, by rw [hF.out], (hG.out.more hbF).at_, by rw [hF.out]⟩, hbF⟩
    | false =>
      have hF : Hid (R = (L.map Im.val ++ [mkIv (L.map Im.val) vcu vcr t (vits.map negIt) ((j : Int) + 1)], 0)) := hF3.out.2.2 q4 q5
      have hvnl : vits.length = vn := hxI.out.1.len
      have hng : Hid (∀ wz, Below w4.heap.size w4 wz → Calls Tryd.prog 37 #[.slice vA vn vc] wz fun e w' => (∃ v, e = .returned v ∧ LOwn itC 7 90 w' wz.heap.size v (vits.map negIt)) ∧ Below wz.heap.size wz w') := fun wz hz => negate_any vA vn vc vits wz (hxI.out.1.more (hb.out.trans (hz.mono hb.out.size))) (by have h9 := hxs.out.2.2; omega) hxs.out.1
      have hadd : Hid (∀ wz, Below w4.heap.size w4 wz → ∀ A9 n9 c9, (ItAt wz A9 n9 (vits.map negIt) ∧ n9 ≤ c9 ∧ c9 ≤ maxLen) → Calls Tryd.prog 31 #[.agg #[Value.slice (some ad) n c], .agg #[Value.int .i64 0, Value.string vcu, Value.string vcr, Value.int .i64 t, Value.slice A9 n9 c9, Value.int .i64 0, Value.int .i64 0, Value.int .i64 0, Value.int .i64 ((j : Int) + 1)]] wz fun e w' => ResB wz w' (L.map Im.val ++ [mkIv (L.map Im.val) vcu vcr t (vits.map negIt) ((j : Int) + 1)]) 0 e ∧ Below wz.heap.size wz w') := fun wz hz A9 n9 c9 hi => add_any (some ad) n c L vcu vcr t A9 n9 c9 (vits.map negIt) ((j : Int) + 1) wz (hG.out.more (hb.out.trans (hz.mono hb.out.size))) hi (by rw [smallI_neg]; exact hxs.out.1) (by rw [List.length_map]; exact hxs.out.2.2) hn
      obtain ⟨X, hX⟩ : ∃ X, X = L.map Im.val ++ [mkIv (L.map Im.val) vcu vcr t (vits.map negIt) ((j : Int) + 1)] := ⟨_, rfl⟩
      rw [← hX] at hF hadd
      clear hX hF3 hvnl
      obtain ⟨num, hnum⟩ : ∃ num, num = (j : Int) + 1 := ⟨_, rfl⟩
      rw [← hnum] at hadd ⊢
      replace hnum := Lib.hid hnum
      have hcb : Hid (∀ wz, Below w4.heap.size w4 wz → wz.cell? ⟨gd, 0, none⟩ = some (Value.slice (some ad) n c)) := fun wz hz => by
        have q := hD.out.below hz hD.out.lt
        exact q.cell 0
      have hcv : Hid (∀ wz, Below w4.heap.size w4 wz → wz.cell? ⟨gv, 1, none⟩ = some (Value.string vcu) ∧ wz.cell? ⟨gv, 2, none⟩ = some (Value.string vcr) ∧ wz.cell? ⟨gv, 4, none⟩ = some (Value.slice vA vn vc)) := fun wz hz => by
        have q := hVx.out.below hz hVx.out.lt
        exact ⟨q.cell 1, q.cell 2, q.cell 4⟩
      go_wp2_with fail
      refine RU.region [] [] 14 (F := F11 gd gv n c vn vc (some ad) vA vcu vcr t num (vits.map negIt) X) (W := fun wz => Below w4.heap.size w4 wz) (R := fun _ => Rb) rfl F11_more (by kernel_rfl) (by kernel_rfl) (by kernel_rfl) (by kernel_rfl) (by kernel_rfl) (by kernel_rfl) ?_ ?_ ?_ ?_
      · exact (Below.refl _ _).drew
      · intro t ht
        unfold F11
        split <;> first | trivial | exact rfl | (exact absurd ht (by decide))
      · intro i o hi ho
        have hcs : i = 0 ∨ i = 1 ∨ i = 2 ∨ i = 3 ∨ i = 4 ∨ i = 5 ∨ i = 6 ∨ i = 7 ∨ i = 8 ∨ i = 9 ∨ i = 10 ∨ i = 11 ∨ i = 12 ∨ i = 13 := by omega
        rcases hcs with rfl | rfl | rfl | rfl | rfl | rfl | rfl | rfl | rfl | rfl | rfl | rfl | rfl | rfl <;> (injection ho with ho; subst ho)
        · intro a w2 hw _ hf K hK
          have f0 := hf 9 rfl
          simp only [F11] at f0
          clear hf
          have b0 := hcb.out w2 hw
          go_simp
          exact hK _ _ _ rfl rfl hw (Below.refl _ _) (fun h => absurd h (by decide))
        · intro a w2 hw _ hf K hK
          have f0 := hf 10 rfl
          simp only [F11] at f0
          clear hf
          obtain ⟨v1, v2, v4⟩ := hcv.out w2 hw
          go_simp
          exact hK _ _ _ rfl rfl hw (Below.refl _ _) (fun h => absurd h (by decide))
        · intro a w2 hw _ hf K hK
          have f0 := hf 61 rfl
          simp only [F11] at f0
          clear hf
          obtain ⟨v1, v2, v4⟩ := hcv.out w2 hw
          go_simp
          exact hK _ _ _ rfl rfl hw (Below.refl _ _) (fun h => absurd h (by decide))
        · intro a w2 hw _ hf K hK
          have f0 := hf 10 rfl
          simp only [F11] at f0
          clear hf
          obtain ⟨v1, v2, v4⟩ := hcv.out w2 hw
          go_simp
          exact hK _ _ _ rfl rfl hw (Below.refl _ _) (fun h => absurd h (by decide))
        · intro a w2 hw _ hf K hK
          have f0 := hf 63 rfl
          simp only [F11] at f0
          clear hf
          obtain ⟨v1, v2, v4⟩ := hcv.out w2 hw
          go_simp
          exact hK _ _ _ rfl rfl hw (Below.refl _ _) (fun h => absurd h (by decide))
        · intro a w2 hw _ hf K hK
          have f0 := hf 2 rfl
          simp only [F11] at f0
          clear hf
          go_simp
          exact hK _ _ _ rfl rfl hw (Below.refl _ _) (fun h => absurd h (by decide))
        · intro a w2 hw _ hf K hK
          have f0 := hf 10 rfl
          simp only [F11] at f0
          clear hf
          obtain ⟨v1, v2, v4⟩ := hcv.out w2 hw
          go_simp
          exact hK _ _ _ rfl rfl hw (Below.refl _ _) (fun h => absurd h (by decide))
        · intro a w2 hw _ hf K hK
          have f0 := hf 66 rfl
          simp only [F11] at f0
          clear hf
          obtain ⟨v1, v2, v4⟩ := hcv.out w2 hw
          go_simp
          exact hK _ _ _ rfl rfl hw (Below.refl _ _) (fun h => absurd h (by decide))
        · intro a w2 hw _ hf K hK
          have f0 := hf 67 rfl
          simp only [F11] at f0
          clear hf
          go_simp
          refine (hng.out w2 hw).mono ?_; rintro e w5 ⟨⟨v9, rfl, hT⟩, hbq⟩
          exact hK _ _ _ rfl (NegC.own hT) (hw.trans (hbq.mono hw.size)) hbq (fun h => absurd h (by decide))
        · intro a w2 hw _ hf K hK
          have f0 := hf 1 rfl
          simp only [F11] at f0
          clear hf
          go_simp
          exact hK _ _ _ rfl rfl hw (Below.refl _ _) (fun h => absurd h (by decide))
        · intro a w2 hw _ hf K hK
          have f0 := hf 62 rfl
          have f1 := hf 64 rfl
          have f2 := hf 65 rfl
          have f3 := hf 68 rfl
          have f4 := hf 69 rfl
          simp only [F11] at f0 f1 f2 f3 f4
          clear hf
          obtain ⟨A9, n9, c9, e9, q9⟩ := f3
          replace q9 := Lib.hid q9
          go_simp
          exact hK _ _ _ rfl ⟨A9, n9, c9, rfl, q9.out⟩ hw (Below.refl _ _) (fun h => absurd h (by decide))
        · intro a w2 hw _ hf K hK
          have f0 := hf 60 rfl
          have f1 := hf 70 rfl
          simp only [F11] at f0 f1
          clear hf
          obtain ⟨A9, n9, c9, e9, q9⟩ := f1
          have hca := Lib.hid (hadd.out w2 hw A9 n9 c9 q9)
          clear q9
          go_simp
          refine hca.out.mono ?_; rintro e w5 ⟨⟨A2, n2, c2, L2, rfl, h1, h2⟩, hbq⟩
          exact hK _ _ _ rfl ⟨A2, n2, c2, L2, rfl, h1, h2⟩ (hw.trans (hbq.mono hw.size)) hbq (fun h => absurd h (by decide))
        · intro a w2 hw _ hf K hK
          have f0 := hf 71 rfl
          simp only [F11] at f0
          clear hf
          obtain ⟨A2, n2, c2, L2, e9, h1, h2⟩ := f0
          replace h1 := Lib.hid h1
          replace h2 := Lib.hid h2
          go_simp
          exact hK _ _ _ rfl ⟨A2, n2, c2, L2, rfl, h1.out, h2.out⟩ hw (Below.refl _ _) (fun h => absurd h (by decide))
        · intro a w2 hw _ hf K hK
          have f0 := hf 71 rfl
          simp only [F11] at f0
          clear hf
          obtain ⟨A2, n2, c2, L2, e9, h1, h2⟩ := f0
          clear h1 h2
          go_simp
          exact hK _ _ _ rfl rfl hw (Below.refl _ _) (fun h => absurd h (by decide))
      · intro a' w9 hd hs hw hout hf
        have h72 := hf 12 72 (by decide) rfl rfl
        simp only [F11] at h72
        have h73 := hf 13 73 (by decide) rfl rfl
        simp only [F11] at h73
        have e0 : _ = some (_) := hout 0 rfl
        have e1 : _ = some (_) := hout 1 rfl
        have e2 : _ = some (_) := hout 2 rfl
        have e3 : _ = some (_) := hout 3 rfl
        have e4 : _ = some (_) := hout 4 rfl
        have e5 : _ = some (_) := hout 5 rfl
        have e6 : _ = some (_) := hout 6 rfl
        have e8 : _ = some (_) := hout 8 rfl
        have e9 : _ = some (_) := hout 9 rfl
        have e10 : _ = some (_) := hout 10 rfl
        have e11 : _ = some (_) := hout 11 rfl
        have e12 : _ = some (_) := hout 12 rfl
        have e13 : _ = some (_) := hout 13 rfl
        have e14 : _ = some (_) := hout 14 rfl
        have e15 : _ = some (_) := hout 15 rfl
        have e16 : _ = some (_) := hout 16 rfl
        have e17 : _ = some (_) := hout 17 rfl
        have e18 : _ = some (_) := hout 18 rfl
        have e19 : _ = some (_) := hout 19 rfl
        have e20 : _ = some (_) := hout 20 rfl
        have e21 : _ = some (_) := hout 21 rfl
        have e22 : _ = some (_) := hout 22 rfl
        have e23 : _ = some (_) := hout 23 rfl
        have e24 : _ = some (_) := hout 24 rfl
        have e25 : _ = some (_) := hout 25 rfl
        have e26 : _ = some (_) := hout 26 rfl
        have e27 : _ = some (_) := hout 27 rfl
        have e28 : _ = some (_) := hout 28 rfl
        have e29 : _ = some (_) := hout 29 rfl
        have e30 : _ = some (_) := hout 30 rfl
        have e31 : _ = some (_) := hout 31 rfl
        have e32 : _ = some (_) := hout 32 rfl
        have e33 : _ = some (_) := hout 33 rfl
        have e34 : _ = some (_) := hout 34 rfl
        have e35 : _ = some (_) := hout 35 rfl
        have e36 : _ = some (_) := hout 36 rfl
        have e37 : _ = some (_) := hout 37 rfl
        have e38 : _ = some (_) := hout 38 rfl
        have e39 : _ = some (_) := hout 39 rfl
        have e40 : _ = some (_) := hout 40 rfl
        have e41 : _ = some (_) := hout 41 rfl
        have e42 : _ = some (_) := hout 42 rfl
        have e43 : _ = some (_) := hout 43 rfl
        have e44 : _ = some (_) := hout 44 rfl
        have e45 : _ = some (_) := hout 45 rfl
        have e46 : _ = some (_) := hout 46 rfl
        have e47 : _ = some (_) := hout 47 rfl
        have e48 : _ = some (_) := hout 48 rfl
        have e49 : _ = some (_) := hout 49 rfl
        have e50 : _ = some (_) := hout 50 rfl
        have e51 : _ = some (_) := hout 51 rfl
        have e52 : _ = some (_) := hout 52 rfl
        have e53 : _ = some (_) := hout 53 rfl
        have e54 : _ = some (_) := hout 54 rfl
        have e55 : _ = some (_) := hout 55 rfl
        have e56 : _ = some (_) := hout 56 rfl
        have e57 : _ = some (_) := hout 57 rfl
        have e58 : _ = some (_) := hout 58 rfl
        have e59 : _ = some (_) := hout 59 rfl
        obtain ⟨tm, df⟩ := a'
        simp only at hd hs h72 h73 e0 e1 e2 e3 e4 e5 e6 e8 e9 e10 e11 e12 e13 e14 e15 e16 e17 e18 e19 e20 e21 e22 e23 e24 e25 e26 e27 e28 e29 e30 e31 e32 e33 e34 e35 e36 e37 e38 e39 e40 e41 e42 e43 e44 e45 e46 e47 e48 e49 e50 e51 e52 e53 e54 e55 e56 e57 e58 e59
        have e := F11_lit tm hs
        simp only [e0, e1, e2, e3, e4, e5, e6, e8, e9, e10, e11, e12, e13, e14, e15, e16, e17, e18, e19, e20, e21, e22, e23, e24, e25, e26, e27, e28, e29, e30, e31, e32, e33, e34, e35, e36, e37, e38, e39, e40, e41, e42, e43, e44, e45, e46, e47, e48, e49, e50, e51, e52, e53, e54, e55, e56, e57, e58, e59, Option.getD_some] at e
        clear hf hout hs
        rw [e, hd]
        clear e hd e0 e1 e2 e3 e4 e5 e6 e8 e9 e10 e11 e12 e13 e14 e15 e16 e17 e18 e19 e20 e21 e22 e23 e24 e25 e26 e27 e28 e29 e30 e31 e32 e33 e34 e35 e36 e37 e38 e39 e40 e41 e42 e43 e44 e45 e46 e47 e48 e49 e50 e51 e52 e53 e54 e55 e56 e57 e58 e59
        generalize tm[72]?.getD undef = u72x at h72 ⊢
        generalize tm[73]?.getD undef = u73x at h73 ⊢
        generalize tm[7]?.getD undef = u7x, tm[60]?.getD undef = u60x, tm[61]?.getD undef = u61x, tm[62]?.getD undef = u62x, tm[63]?.getD undef = u63x, tm[64]?.getD undef = u64x, tm[65]?.getD undef = u65x, tm[66]?.getD undef = u66x, tm[67]?.getD undef = u67x, tm[68]?.getD undef = u68x, tm[69]?.getD undef = u69x, tm[70]?.getD undef = u70x, tm[71]?.getD undef = u71x
        obtain ⟨A2, n2, c2, L2, e9, hbk2, hval2⟩ := h72
        subst e9
        subst h73
        have hbk2 := Lib.hid hbk2
        replace hR := Lib.hid (hR.out.below hw hR.out.lt)
        replace hb := Lib.hid (hb.out.trans (hw.mono hb.out.size))
        have r0 : (w9).cell? ⟨(w.heap.size + 1), 0, none⟩ = some (Value.slice none 0 0) := (hR.out).cell 0; have rz0 : (w9).frozen? ⟨(w.heap.size + 1), 0, none⟩ = false := (hR.out).frozen 0
        clear hw hcb hcv hng hadd
        go_wp2_with fail
        (try simp only [Exit.inBlock, Exit.then])
        have hRf : Blk (w9.setCell ⟨(w.heap.size + 1), 0, none⟩ (Value.slice A2 n2 c2)) (w.heap.size + 1) 57 #[Value.slice A2 n2 c2] := hR.out.set_ 0 _
        have hgs : w9.grownBy (w9.setCell ⟨(w.heap.size + 1), 0, none⟩ (Value.slice A2 n2 c2)) (some (w.heap.size + 1)) := only_set (World.grownBy.refl _ _) 0 _
        have hbF : Below w.heap.size w (w9.setCell ⟨(w.heap.size + 1), 0, none⟩ (Value.slice A2 n2 c2)) := hb.out.grown hgs hb.out.size (fun g8 e8 => by injection e8 with e8; omega)
        refine bodyPost_ret (v := .tuple #[.agg #[Value.slice A2 n2 c2], .int .i64 0]) ?_ rfl ?_
        · refine (res2 (fn := Tryd.f15) (p := 6) (u := 7) (ty := 57) rfl _ _ (w.heap.size + 1) 57 _ (0, 0) _ ?_ hRf Tryd.underlying57 rfl (by kernel_rfl)).trans ?_
          · rfl
          · rfl
        · exact ⟨⟨A2, n2, c2, L2, by rw [hF.out], hbk2.out.stB hR.out hgs, by rw [hF.out]; exact hval2⟩, hbF⟩
end Go.Proofs.YtbngclibfnnejaaDoor
