/- Invoices: the reference's add, walked. -/
import Derived.Test.YtadgdbakgmjekaaIH
import Derived.Test.YtadgdbakgmjekaaRU
set_option linter.unusedVariables false
set_option linter.unusedSimpArgs false
namespace Go.Proofs.Ytadgdbakgmjekaa
open Go.RowKit
/-- an empty row of the call's own -/
def E0w (base : Nat) (v : Value) (w : World) : Prop := ∃ g, v = .slice (some ⟨g, 0, none⟩) 0 0 ∧ base ≤ g ∧ Blk w g 45 #[]
theorem E0w.more {base : Nat} {v : Value} {w w' : World} (h : E0w base v w) (hb : Below w.heap.size w w') : E0w base v w' := by
  obtain ⟨g, e, h1, h2⟩ := h
  exact ⟨g, e, h1, h2.below hb h2.lt⟩
def F28 (gb gv base n c : Nat) (A : Option Addr) (Xv : Array Value) (L X : List Im) : Tmp → Value → World → Prop
  | 2, v, _ => v = .pointer (some ⟨gb, 0, none⟩)
  | 3, v, _ => v = .pointer (some ⟨gv, 0, none⟩)
  | 32, v, w => E0w base v w
  | 33, v, _ => v = .pointer (some ⟨gb, 0, none⟩)
  | 34, v, _ => v = .slice A n c
  | 35, v, w => LOwn ivC 9 45 w base v L
  | 36, v, _ => v = .agg Xv
  | 37, v, w => LitIs 45 base 1 Xv v w
  | 38, v, w => LOwn ivC 9 45 w base v X
  | _, _, _ => True
def R28 (base : Nat) (d : Tmp) (w w' : World) : Prop := if d = 38 then w.heap.size ≤ w'.heap.size ∧ ∀ b, base ≤ b → w.heap[b]? = some (.cells #[] 45) → w'.heap[b]? = w.heap[b]? else Below w.heap.size w w'
theorem F28_more {gb gv base n c : Nat} {A : Option Addr} {Xv : Array Value} {L X : List Im} (d t : Tmp) (v : Value) (w w' : World) (hR : R28 base d w w') (hne : t ≠ d) (hc : [((38 : Nat), (35 : Nat)), (38, 37)].contains (d, t) = false) (h : F28 gb gv base n c A Xv L X t v w) : F28 gb gv base n c A Xv L X t v w' := by
  unfold R28 at hR
  by_cases hd : d = 38
  · subst hd
    rw [if_pos rfl] at hR
    unfold F28 at *
    split at h <;> first
      | exact h
      | exact absurd rfl hne
      | exact absurd hc (by decide)
      | (obtain ⟨g, e, hb, hk⟩ := h; exact ⟨g, e, hb, (hR.2 g hb hk).trans hk⟩)
  · rw [if_neg hd] at hR
    unfold F28 at *
    split at h <;> first | exact h | exact E0w.more h hR | exact LitIs.more h hR | exact LOwn.kept h hR
theorem F28_lit (tm : Array Value) (hs : tm.size = 40) : tm = #[tm[0]?.getD undef, tm[1]?.getD undef, tm[2]?.getD undef, tm[3]?.getD undef, tm[4]?.getD undef, tm[5]?.getD undef, tm[6]?.getD undef, tm[7]?.getD undef, tm[8]?.getD undef, tm[9]?.getD undef, tm[10]?.getD undef, tm[11]?.getD undef, tm[12]?.getD undef, tm[13]?.getD undef, tm[14]?.getD undef, tm[15]?.getD undef, tm[16]?.getD undef, tm[17]?.getD undef, tm[18]?.getD undef, tm[19]?.getD undef, tm[20]?.getD undef, tm[21]?.getD undef, tm[22]?.getD undef, tm[23]?.getD undef, tm[24]?.getD undef, tm[25]?.getD undef, tm[26]?.getD undef, tm[27]?.getD undef, tm[28]?.getD undef, tm[29]?.getD undef, tm[30]?.getD undef, tm[31]?.getD undef, tm[32]?.getD undef, tm[33]?.getD undef, tm[34]?.getD undef, tm[35]?.getD undef, tm[36]?.getD undef, tm[37]?.getD undef, tm[38]?.getD undef, tm[39]?.getD undef] := lit_arr tm 40 hs
set_option maxRecDepth 100000 in
set_option maxHeartbeats 8000000 in
theorem radd_any (A : Option Addr) (n c : Nat) (L : List Im) (cu cr : ByteArray) (t : Int) (iA : Option Addr) (iN iC2 : Nat) (its : List It) (cd : Int) (w : World) (h : GoodM w A n c L) (hi : ItAt w iA iN its ∧ iN ≤ iC2 ∧ iC2 ≤ maxLen) (hs : smallI its = true) (hl64 : its.length ≤ 64) (hn : n ≤ 255) : Calls Try.prog 28 #[.agg #[Value.slice A n c], .agg #[Value.int .i64 0, Value.string cu, Value.string cr, Value.int .i64 t, Value.slice iA iN iC2, Value.int .i64 0, Value.int .i64 0, Value.int .i64 0, Value.int .i64 cd]] w fun e w' => ResB w w' (L.map Im.val ++ [mkIv (L.map Im.val) cu cr t its cd]) 0 e ∧ Below w.heap.size w w' := by
  have hl := h.at_.len
  have hLl : Hid (L.length = n) := hl
  have hn255 := Lib.hid hn
  have hit : its.length = iN := hi.1.len
  have hiN : iN ≤ 64 := by omega
  obtain ⟨S1, hS1⟩ : ∃ S, S = netS its := ⟨_, rfl⟩
  obtain ⟨S2, hS2⟩ : ∃ S, S = vatS its := ⟨_, rfl⟩
  obtain ⟨S3, hS3⟩ : ∃ S, S = grossS its := ⟨_, rfl⟩
  have hXv0 : Hid (∀ A7 c7, (L ++ [(⟨(n : Int) + 1, cu, cr, t, A7, iN, c7, its, S1, S2, S3, cd⟩ : Im)]).map Im.val = L.map Im.val ++ [mkIv (L.map Im.val) cu cr t its cd]) := fun A7 c7 => by
    rw [List.map_append]
    unfold mkIv
    rw [List.length_map, hl, ← hS1, ← hS2, ← hS3]
    rfl
  have hLI : Hid (∀ x ∈ L, ImAt w x) := h.at_.its
  have htot : Hid (∀ wz, Below w.heap.size w wz → Calls Try.prog 17 #[.slice iA iN iC2] wz fun e w' => e = .returned (.tuple #[.int .i64 S1, .int .i64 S2, .int .i64 S3, .int .i64 0]) ∧ Below wz.heap.size wz w') := fun wz hz => by
    rw [hS1, hS2, hS3]
    exact rtotals_any iA iN iC2 its wz (hi.1.more hz) (by omega) hs
  have hL0 := Lib.hid h.at_.row
  have hitR := Lib.hid hi.1
  obtain ⟨i45, hi45, hz450, hz451, hz452⟩ := info_parts iv_info
  obtain ⟨i39, hi39, hz390, hz391, hz392⟩ := info_parts it_info
  replace hi45 := Lib.hid hi45
  replace hz450 := Lib.hid hz450
  replace hz451 := Lib.hid hz451
  replace hz452 := Lib.hid hz452
  replace hi39 := Lib.hid hi39
  replace hz390 := Lib.hid hz390
  replace hz391 := Lib.hid hz391
  replace hz392 := Lib.hid hz392
  replace hS1 := Lib.hid hS1
  replace hS2 := Lib.hid hS2
  replace hS3 := Lib.hid hS3
  replace hit := Lib.hid hit
  clear h hi hs hl
  have hb3 : Hid (Below w.heap.size w (((w.alloc (.cells #[Value.slice A n c] 27)).alloc (.cells #[Value.int .i64 0, Value.string cu, Value.string cr, Value.int .i64 t, Value.slice iA iN iC2, Value.int .i64 0, Value.int .i64 0, Value.int .i64 0, Value.int .i64 cd] 45)).alloc (.cells #[Value.slice none 0 0] 27))) := ((a1 w _).alloc (by simp) _).alloc (by simp; omega) _
  have hd := Lib.hid (((Blk.new w 27 #[Value.slice A n c]).alloc (.cells #[Value.int .i64 0, Value.string cu, Value.string cr, Value.int .i64 t, Value.slice iA iN iC2, Value.int .i64 0, Value.int .i64 0, Value.int .i64 0, Value.int .i64 cd] 45)).alloc (.cells #[Value.slice none 0 0] 27))
  have hy := (Blk.new (w.alloc (.cells #[Value.slice A n c] 27)) 45 #[Value.int .i64 0, Value.string cu, Value.string cr, Value.int .i64 t, Value.slice iA iN iC2, Value.int .i64 0, Value.int .i64 0, Value.int .i64 0, Value.int .i64 cd]).alloc (.cells #[Value.slice none 0 0] 27)
  rw [show (w.alloc (.cells #[Value.slice A n c] 27)).heap.size = w.heap.size + 1 by simp] at hy
  have hr := Blk.new ((w.alloc (.cells #[Value.slice A n c] 27)).alloc (.cells #[Value.int .i64 0, Value.string cu, Value.string cr, Value.int .i64 t, Value.slice iA iN iC2, Value.int .i64 0, Value.int .i64 0, Value.int .i64 0, Value.int .i64 cd] 45)) 27 #[Value.slice none 0 0]
  rw [show ((w.alloc (.cells #[Value.slice A n c] 27)).alloc (.cells #[Value.int .i64 0, Value.string cu, Value.string cr, Value.int .i64 t, Value.slice iA iN iC2, Value.int .i64 0, Value.int .i64 0, Value.int .i64 0, Value.int .i64 cd] 45)).heap.size = w.heap.size + 1 + 1 by simp] at hr
  obtain ⟨m0, m1, m2, m3, m4, m5, m6, m7, m8⟩ := cells9 ((((w.alloc (.cells #[Value.slice A n c] 27)).alloc (.cells #[Value.int .i64 0, Value.string cu, Value.string cr, Value.int .i64 t, Value.slice iA iN iC2, Value.int .i64 0, Value.int .i64 0, Value.int .i64 0, Value.int .i64 cd] 45)).alloc (.cells #[Value.slice none 0 0] 27))) ((w.heap.size + 1)) (Value.int .i64 0) (Value.string cu) (Value.string cr) (Value.int .i64 t) (Value.slice iA iN iC2) (Value.int .i64 0) (Value.int .i64 0) (Value.int .i64 0) (Value.int .i64 cd) (hy)
  replace hy := Lib.hid hy
  replace hr := Lib.hid hr
  go_enter Try.func28, Try.ntmps28
  go_wp2_with fail
  clear m0 m1 m2 m3 m4 m5 m6 m7 m8
  refine (htot.out _ hb3.out).mono ?_; rintro e w1 ⟨rfl, hq⟩
  have hd := Lib.hid (hd.out.below hq hd.out.lt)
  have hy := Lib.hid (hy.out.below hq hy.out.lt)
  have hr := Lib.hid (hr.out.below hq hr.out.lt)
  have hb1 := Lib.hid (hb3.out.trans (hq.mono hb3.out.size))
  have hw1 : w.heap.size + 1 + 1 < w1.heap.size := hr.out.lt
  clear hq hb3 htot
  obtain ⟨m0, m1, m2, m3, m4, m5, m6, m7, m8, mz0, mz1, mz2, mz3, mz4, mz5, mz6, mz7, mz8⟩ := cells9z (w1) ((w.heap.size + 1)) (Value.int .i64 0) (Value.string cu) (Value.string cr) (Value.int .i64 t) (Value.slice iA iN iC2) (Value.int .i64 0) (Value.int .i64 0) (Value.int .i64 0) (Value.int .i64 cd) (hy.out)
  have hdt : Blk (((w1.setCell ⟨(w.heap.size + 1), 5, none⟩ (Value.int .i64 S1)).setCell ⟨(w.heap.size + 1), 6, none⟩ (Value.int .i64 S2)).setCell ⟨(w.heap.size + 1), 7, none⟩ (Value.int .i64 S3)) w.heap.size 27 #[Value.slice A n c] := (((hd.out.far (p := ⟨(w.heap.size + 1), 5, none⟩) (by simp) _).far (p := ⟨(w.heap.size + 1), 6, none⟩) (by simp) _).far (p := ⟨(w.heap.size + 1), 7, none⟩) (by simp) _)
  have d1 : (((w1.setCell ⟨(w.heap.size + 1), 5, none⟩ (Value.int .i64 S1)).setCell ⟨(w.heap.size + 1), 6, none⟩ (Value.int .i64 S2)).setCell ⟨(w.heap.size + 1), 7, none⟩ (Value.int .i64 S3)).cell? ⟨w.heap.size, 0, none⟩ = some (Value.slice A n c) := hdt.cell 0
  have hyt : Blk (((w1.setCell ⟨(w.heap.size + 1), 5, none⟩ (Value.int .i64 S1)).setCell ⟨(w.heap.size + 1), 6, none⟩ (Value.int .i64 S2)).setCell ⟨(w.heap.size + 1), 7, none⟩ (Value.int .i64 S3)) (w.heap.size + 1) 45 #[Value.int .i64 0, Value.string cu, Value.string cr, Value.int .i64 t, Value.slice iA iN iC2, Value.int .i64 S1, Value.int .i64 S2, Value.int .i64 S3, Value.int .i64 cd] := ((hy.out.set_ 5 (Value.int .i64 S1)).set_ 6 (Value.int .i64 S2)).set_ 7 (Value.int .i64 S3)
  obtain ⟨t0, t1, t2, t3, t4, t5, t6, t7, t8, tz0, tz1, tz2, tz3, tz4, tz5, tz6, tz7, tz8⟩ := cells9z ((((w1.setCell ⟨(w.heap.size + 1), 5, none⟩ (Value.int .i64 S1)).setCell ⟨(w.heap.size + 1), 6, none⟩ (Value.int .i64 S2)).setCell ⟨(w.heap.size + 1), 7, none⟩ (Value.int .i64 S3))) ((w.heap.size + 1)) (Value.int .i64 0) (Value.string cu) (Value.string cr) (Value.int .i64 t) (Value.slice iA iN iC2) (Value.int .i64 S1) (Value.int .i64 S2) (Value.int .i64 S3) (Value.int .i64 cd) (hyt)
  have hd2 : Blk ((((w1.setCell ⟨(w.heap.size + 1), 5, none⟩ (Value.int .i64 S1)).setCell ⟨(w.heap.size + 1), 6, none⟩ (Value.int .i64 S2)).setCell ⟨(w.heap.size + 1), 7, none⟩ (Value.int .i64 S3)).setCell ⟨(w.heap.size + 1), 0, none⟩ (Value.int .i64 ((n : Int) + 1))) w.heap.size 27 #[Value.slice A n c] := ((((hd.out.far (p := ⟨(w.heap.size + 1), 5, none⟩) (by simp) _).far (p := ⟨(w.heap.size + 1), 6, none⟩) (by simp) _).far (p := ⟨(w.heap.size + 1), 7, none⟩) (by simp) _).far (p := ⟨(w.heap.size + 1), 0, none⟩) (by simp) _)
  have hr2 : Blk ((((w1.setCell ⟨(w.heap.size + 1), 5, none⟩ (Value.int .i64 S1)).setCell ⟨(w.heap.size + 1), 6, none⟩ (Value.int .i64 S2)).setCell ⟨(w.heap.size + 1), 7, none⟩ (Value.int .i64 S3)).setCell ⟨(w.heap.size + 1), 0, none⟩ (Value.int .i64 ((n : Int) + 1))) (w.heap.size + 1 + 1) 27 #[Value.slice none 0 0] := ((((hr.out.far (p := ⟨(w.heap.size + 1), 5, none⟩) (by simp) _).far (p := ⟨(w.heap.size + 1), 6, none⟩) (by simp) _).far (p := ⟨(w.heap.size + 1), 7, none⟩) (by simp) _).far (p := ⟨(w.heap.size + 1), 0, none⟩) (by simp) _)
  have hy2 : Blk ((((w1.setCell ⟨(w.heap.size + 1), 5, none⟩ (Value.int .i64 S1)).setCell ⟨(w.heap.size + 1), 6, none⟩ (Value.int .i64 S2)).setCell ⟨(w.heap.size + 1), 7, none⟩ (Value.int .i64 S3)).setCell ⟨(w.heap.size + 1), 0, none⟩ (Value.int .i64 ((n : Int) + 1))) (w.heap.size + 1) 45 #[Value.int .i64 ((n : Int) + 1), Value.string cu, Value.string cr, Value.int .i64 t, Value.slice iA iN iC2, Value.int .i64 S1, Value.int .i64 S2, Value.int .i64 S3, Value.int .i64 cd] := hyt.set_ 0 (Value.int .i64 ((n : Int) + 1))
  have hb2 : Below w.heap.size w ((((w1.setCell ⟨(w.heap.size + 1), 5, none⟩ (Value.int .i64 S1)).setCell ⟨(w.heap.size + 1), 6, none⟩ (Value.int .i64 S2)).setCell ⟨(w.heap.size + 1), 7, none⟩ (Value.int .i64 S3)).setCell ⟨(w.heap.size + 1), 0, none⟩ (Value.int .i64 ((n : Int) + 1))) := below_set (below_set (below_set (below_set hb1.out (Nat.le_succ _) 5 _) (Nat.le_succ _) 6 _) (Nat.le_succ _) 7 _) (Nat.le_succ _) 0 _
  have hs1 : ((((w1.setCell ⟨(w.heap.size + 1), 5, none⟩ (Value.int .i64 S1)).setCell ⟨(w.heap.size + 1), 6, none⟩ (Value.int .i64 S2)).setCell ⟨(w.heap.size + 1), 7, none⟩ (Value.int .i64 S3)).setCell ⟨(w.heap.size + 1), 0, none⟩ (Value.int .i64 ((n : Int) + 1))).heap.size = w1.heap.size := by simp [World.setCell]
  have hye := hy2.alloc (.cells #[] 39)
  obtain ⟨p0, p1, p2, p3, p4, p5, p6, p7, p8⟩ := cells9 ((((((w1.setCell ⟨(w.heap.size + 1), 5, none⟩ (Value.int .i64 S1)).setCell ⟨(w.heap.size + 1), 6, none⟩ (Value.int .i64 S2)).setCell ⟨(w.heap.size + 1), 7, none⟩ (Value.int .i64 S3)).setCell ⟨(w.heap.size + 1), 0, none⟩ (Value.int .i64 ((n : Int) + 1))).alloc (.cells #[] 39))) ((w.heap.size + 1)) (Value.int .i64 ((n : Int) + 1)) (Value.string cu) (Value.string cr) (Value.int .i64 t) (Value.slice iA iN iC2) (Value.int .i64 S1) (Value.int .i64 S2) (Value.int .i64 S3) (Value.int .i64 cd) (hye)
  have hbe : Below w.heap.size w (((((w1.setCell ⟨(w.heap.size + 1), 5, none⟩ (Value.int .i64 S1)).setCell ⟨(w.heap.size + 1), 6, none⟩ (Value.int .i64 S2)).setCell ⟨(w.heap.size + 1), 7, none⟩ (Value.int .i64 S3)).setCell ⟨(w.heap.size + 1), 0, none⟩ (Value.int .i64 ((n : Int) + 1))).alloc (.cells #[] 39)) := hb2.alloc hb2.size _
  have hown0 : LOwn itC 7 39 (((((w1.setCell ⟨(w.heap.size + 1), 5, none⟩ (Value.int .i64 S1)).setCell ⟨(w.heap.size + 1), 6, none⟩ (Value.int .i64 S2)).setCell ⟨(w.heap.size + 1), 7, none⟩ (Value.int .i64 S3)).setCell ⟨(w.heap.size + 1), 0, none⟩ (Value.int .i64 ((n : Int) + 1))).alloc (.cells #[] 39)) ((((w1.setCell ⟨(w.heap.size + 1), 5, none⟩ (Value.int .i64 S1)).setCell ⟨(w.heap.size + 1), 6, none⟩ (Value.int .i64 S2)).setCell ⟨(w.heap.size + 1), 7, none⟩ (Value.int .i64 S3)).setCell ⟨(w.heap.size + 1), 0, none⟩ (Value.int .i64 ((n : Int) + 1))).heap.size (.slice (some ⟨((((w1.setCell ⟨(w.heap.size + 1), 5, none⟩ (Value.int .i64 S1)).setCell ⟨(w.heap.size + 1), 6, none⟩ (Value.int .i64 S2)).setCell ⟨(w.heap.size + 1), 7, none⟩ (Value.int .i64 S3)).setCell ⟨(w.heap.size + 1), 0, none⟩ (Value.int .i64 ((n : Int) + 1))).heap.size, 0, none⟩) 0 0) [] := lit_own itC_len ((((w1.setCell ⟨(w.heap.size + 1), 5, none⟩ (Value.int .i64 S1)).setCell ⟨(w.heap.size + 1), 6, none⟩ (Value.int .i64 S2)).setCell ⟨(w.heap.size + 1), 7, none⟩ (Value.int .i64 S3)).setCell ⟨(w.heap.size + 1), 0, none⟩ (Value.int .i64 ((n : Int) + 1))) [] #[] rfl (Nat.zero_le _)
  rw [hs1] at hown0
  have hown0 := Lib.hid hown0
  have hrd : Hid (Reads (((((w1.setCell ⟨(w.heap.size + 1), 5, none⟩ (Value.int .i64 S1)).setCell ⟨(w.heap.size + 1), 6, none⟩ (Value.int .i64 S2)).setCell ⟨(w.heap.size + 1), 7, none⟩ (Value.int .i64 S3)).setCell ⟨(w.heap.size + 1), 0, none⟩ (Value.int .i64 ((n : Int) + 1))).alloc (.cells #[] 39)) (((((w1.setCell ⟨(w.heap.size + 1), 5, none⟩ (Value.int .i64 S1)).setCell ⟨(w.heap.size + 1), 6, none⟩ (Value.int .i64 S2)).setCell ⟨(w.heap.size + 1), 7, none⟩ (Value.int .i64 S3)).setCell ⟨(w.heap.size + 1), 0, none⟩ (Value.int .i64 ((n : Int) + 1))).alloc (.cells #[] 39)).heap.size 7 iA iN (flat itC its)) := (hitR.out.more hbe).2
  have hde := Lib.hid (hd2.alloc (.cells #[] 39))
  have hre := Lib.hid (hr2.alloc (.cells #[] 39))
  replace hye := Lib.hid hye
  replace hbe := Lib.hid hbe
  have hse : (((((w1.setCell ⟨(w.heap.size + 1), 5, none⟩ (Value.int .i64 S1)).setCell ⟨(w.heap.size + 1), 6, none⟩ (Value.int .i64 S2)).setCell ⟨(w.heap.size + 1), 7, none⟩ (Value.int .i64 S3)).setCell ⟨(w.heap.size + 1), 0, none⟩ (Value.int .i64 ((n : Int) + 1))).alloc (.cells #[] 39)).heap.size = w1.heap.size + 1 := by simp [World.setCell]
  replace hse := Lib.hid hse
  clear hd hy hr hb1 hdt hyt hd2 hr2 hy2 hb2 hs1
  go_wp2_with (at_builtin; refine wpList_append_any _ rfl (.tmp 27) (.tmp 29) _ rfl w1.heap.size 39 i39 _ 7 56 Try.underlying28 hi39.out hz390.out hz391.out hz392.out rfl (by omega) (.slice (some ⟨w1.heap.size, 0, none⟩) 0 0) 0 [] rfl hown0.out.2 (((((w1.setCell ⟨(w.heap.size + 1), 5, none⟩ (Value.int .i64 S1)).setCell ⟨(w.heap.size + 1), 6, none⟩ (Value.int .i64 S2)).setCell ⟨(w.heap.size + 1), 7, none⟩ (Value.int .i64 S3)).setCell ⟨(w.heap.size + 1), 0, none⟩ (Value.int .i64 ((n : Int) + 1))).alloc (.cells #[] 39)).heap.size iA iN iC2 (flat itC its) rfl hrd.out (itC_one _) (by simp only [maxLen]; omega) (by omega) (by rw [hse.out]; omega) ?_
               intro v' w2 hown1 hg1 hat1
               rw [Nat.zero_add, List.nil_append] at hown1
               have hnew : LOwn itC 7 39 w2 w1.heap.size v' its := ⟨itC_len, by rw [hit.out]; exact hown1⟩
               obtain ⟨A7, c7, hv7, -, -, -, -⟩ := hnew.form
               rw [hit.out] at hv7
               subst hv7
               have hne : ∀ g, g < w1.heap.size → some g ≠ (Value.slice (some ⟨w1.heap.size, 0, none⟩) 0 0).ownBlock := fun g hg e => by simp [Value.ownBlock] at e; omega
               have hd2 := hde.out.grown hg1 (hne _ (by omega))
               have hy2 := hye.out.grown hg1 (hne _ (by omega))
               have hr2 := hre.out.grown hg1 (hne _ (by omega))
               have hb2 := hbe.out.grown hg1 hbe.out.size (fun g8 e8 => by simp [Value.ownBlock] at e8; omega)
               have hgs : w2.grownBy (w2.setCell ⟨w.heap.size + 1, 4, none⟩ (Value.slice A7 iN c7)) (some (w.heap.size + 1)) := only_set (World.grownBy.refl _ _) 4 _
               have hd3 : Hid (Blk (w2.setCell ⟨w.heap.size + 1, 4, none⟩ (Value.slice A7 iN c7)) w.heap.size 27 #[Value.slice A n c]) := hd2.grown hgs (by intro e; injection e with e; omega)
               have hr3 : Hid (Blk (w2.setCell ⟨w.heap.size + 1, 4, none⟩ (Value.slice A7 iN c7)) (w.heap.size + 1 + 1) 27 #[Value.slice none 0 0]) := hr2.grown hgs (by intro e; injection e with e; omega)
               have hy3 : Hid (Blk (w2.setCell ⟨w.heap.size + 1, 4, none⟩ (Value.slice A7 iN c7)) (w.heap.size + 1) 45 #[Value.int .i64 ((n : Int) + 1), Value.string cu, Value.string cr, Value.int .i64 t, Value.slice A7 iN c7, Value.int .i64 S1, Value.int .i64 S2, Value.int .i64 S3, Value.int .i64 cd]) := hy2.set_ 4 _
               have hnew3 : Hid (NewI (w2.setCell ⟨w.heap.size + 1, 4, none⟩ (Value.slice A7 iN c7)) w1.heap.size (⟨(n : Int) + 1, cu, cr, t, A7, iN, c7, its, S1, S2, S3, cd⟩ : Im)) := LOwn.grownB hnew hy2 (by decide) hgs
               have hb3 : Hid (Below w.heap.size w (w2.setCell ⟨w.heap.size + 1, 4, none⟩ (Value.slice A7 iN c7))) := below_set hb2 (Nat.le_succ _) 4 _
               obtain ⟨q0, q1, q2, q3, q4, q5, q6, q7, q8, qz0, qz1, qz2, qz3, qz4, qz5, qz6, qz7, qz8⟩ := cells9z (w2) ((w.heap.size + 1)) (Value.int .i64 ((n : Int) + 1)) (Value.string cu) (Value.string cr) (Value.int .i64 t) (Value.slice iA iN iC2) (Value.int .i64 S1) (Value.int .i64 S2) (Value.int .i64 S3) (Value.int .i64 cd) (hy2)
               clear hown1 hg1 hat1 hne hd2 hr2 hb2 hgs hnew)
  clear m0 mz0 t0 tz0 p0 q0 qz0 m1 mz1 t1 tz1 p1 q1 qz1 m2 mz2 t2 tz2 p2 q2 qz2 m3 mz3 t3 tz3 p3 q3 qz3 m4 mz4 t4 tz4 p4 q4 qz4 m5 mz5 t5 tz5 p5 q5 qz5 m6 mz6 t6 tz6 p6 q6 qz6 m7 mz7 t7 tz7 p7 q7 qz7 m8 mz8 t8 tz8 p8 q8 qz8 d1 hde hre hye hbe hse hown0 hrd
  generalize (w2.setCell ⟨w.heap.size + 1, 4, none⟩ (Value.slice A7 iN c7)) = wB at *
  obtain ⟨gb, hgd⟩ : ∃ gb, gb = w.heap.size := ⟨_, rfl⟩
  obtain ⟨gv, hgv⟩ : ∃ gv, gv = w.heap.size + 1 := ⟨_, rfl⟩
  obtain ⟨gR, hgR⟩ : ∃ gR, gR = w.heap.size + 1 + 1 := ⟨_, rfl⟩
  have hgRw : Hid (w.heap.size ≤ gR) := by show w.heap.size ≤ gR; omega
  have hd : Hid (Blk wB gb 27 #[Value.slice A n c]) := by rw [hgd]; exact hd3.out
  have hy : Hid (Blk wB gv 45 #[Value.int .i64 ((n : Int) + 1), Value.string cu, Value.string cr, Value.int .i64 t, Value.slice A7 iN c7, Value.int .i64 S1, Value.int .i64 S2, Value.int .i64 S3, Value.int .i64 cd]) := by rw [hgv]; exact hy3.out
  have hr : Hid (Blk wB gR 27 #[Value.slice none 0 0]) := by rw [hgR]; exact hr3.out
  rw [← hgR, ← hgv, ← hgd]
  replace hgd := Lib.hid hgd
  replace hgv := Lib.hid hgv
  replace hgR := Lib.hid hgR
  have hL : Hid (LAt ivC 9 wB wB.heap.size A n L) := hL0.out.more hb3.out
  have hb := hb3
  have hnew := hnew3
  clear hw1 hd3 hy3 hr3 hb3 hnew3 hy2
  obtain ⟨X, hX⟩ : ∃ X, X = L ++ [(⟨(n : Int) + 1, cu, cr, t, A7, iN, c7, its, S1, S2, S3, cd⟩ : Im)] := ⟨_, rfl⟩
  have hXl : Hid (X.length = n + 1) := by show _ = _; rw [hX, List.length_append, hLl.out]; rfl
  have hXv : Hid (X.map Im.val = L.map Im.val ++ [mkIv (L.map Im.val) cu cr t its cd]) := by show _ = _; rw [hX]; exact hXv0.out A7 c7
  replace hX := Lib.hid hX
  clear hXv0
  have hcb : Hid (∀ wz, Below wB.heap.size wB wz → wz.cell? ⟨gb, 0, none⟩ = some (Value.slice A n c)) := fun wz hz => by
    have q := hd.out.below hz hd.out.lt
    exact q.cell 0
  have hcv : Hid (∀ wz, Below wB.heap.size wB wz → wz.cell? ⟨gv, 0, none⟩ = some (Value.int .i64 ((n : Int) + 1)) ∧ wz.cell? ⟨gv, 1, none⟩ = some (Value.string cu) ∧ wz.cell? ⟨gv, 2, none⟩ = some (Value.string cr) ∧ wz.cell? ⟨gv, 3, none⟩ = some (Value.int .i64 t) ∧ wz.cell? ⟨gv, 4, none⟩ = some (Value.slice A7 iN c7) ∧ wz.cell? ⟨gv, 5, none⟩ = some (Value.int .i64 S1) ∧ wz.cell? ⟨gv, 6, none⟩ = some (Value.int .i64 S2) ∧ wz.cell? ⟨gv, 7, none⟩ = some (Value.int .i64 S3) ∧ wz.cell? ⟨gv, 8, none⟩ = some (Value.int .i64 cd)) := fun wz hz => by
    have q := hy.out.below hz hy.out.lt
    exact ⟨q.cell 0, q.cell 1, q.cell 2, q.cell 3, q.cell 4, q.cell 5, q.cell 6, q.cell 7, q.cell 8⟩
  refine RU.region [(38, 35), (38, 37)] [] 7 (F := F28 gb gv wB.heap.size n c A #[Value.int .i64 ((n : Int) + 1), Value.string cu, Value.string cr, Value.int .i64 t, Value.slice A7 iN c7, Value.int .i64 S1, Value.int .i64 S2, Value.int .i64 S3, Value.int .i64 cd] L X) (W := fun wz => Below wB.heap.size wB wz) (R := R28 wB.heap.size) rfl F28_more (by kernel_rfl) (by kernel_rfl) (by kernel_rfl) (by kernel_rfl) (by kernel_rfl) (by kernel_rfl) ?_ ?_ ?_ ?_
  · exact (Below.refl _ _).drew
  · intro t ht
    unfold F28
    split <;> first | trivial | exact rfl | (exact absurd ht (by decide))
  · intro i o hi ho
    have hcs : i = 0 ∨ i = 1 ∨ i = 2 ∨ i = 3 ∨ i = 4 ∨ i = 5 ∨ i = 6 := by omega
    rcases hcs with rfl | rfl | rfl | rfl | rfl | rfl | rfl <;> (injection ho with ho; subst ho)
    · intro a w2 hw _ hf K hK
      clear hf
      go_simp
      exact hK _ _ _ rfl ⟨w2.heap.size, rfl, hw.size, Blk.new w2 45 #[]⟩ (below_new hw _) (a1 _ _) (fun h => absurd h (by decide))
    · intro a w2 hw _ hf K hK
      have f0 := hf 2 rfl
      simp only [F28] at f0
      clear hf
      have b0 := hcb.out w2 hw
      go_simp
      exact hK _ _ _ rfl rfl hw (Below.refl _ _) (fun h => absurd h (by decide))
    · intro a w2 hw _ hf K hK
      have f0 := hf 33 rfl
      simp only [F28] at f0
      clear hf
      have b0 := hcb.out w2 hw
      go_simp
      exact hK _ _ _ rfl rfl hw (Below.refl _ _) (fun h => absurd h (by decide))
    · intro a w2 hw _ hf K hK
      have f0 := hf 32 rfl
      have f1 := hf 34 rfl
      simp only [F28] at f0 f1
      clear hf
      obtain ⟨g, e0, hbg, hbk⟩ := f0
      refine wp_append_kept w2 (.tmp 32) (.tmp 34) 25 rfl wB.heap.size 45 i45 _ 9 104 Try.underlying25 hi45.out hz450.out hz451.out hz452.out rfl (by omega) (.slice (some ⟨g, 0, none⟩) 0 0) 0 [] ((eval_tmpi a 32).trans e0) ⟨rfl, .inr ⟨g, 0, #[], rfl, hbg, hbk, Nat.le_refl _, Nat.zero_le _, rfl, rfl⟩⟩ w2.heap.size A n c (flat ivC L) ((eval_tmpi a 34).trans f1) (hL.out.more hw).2 (ivC_one _) (by simp only [maxLen]; have := hn255.out; omega) (by have := hn255.out; omega) hw.size ?_
      intro v' w' hown hg hkp
      have hbl : Below w2.heap.size w2 w' := by
        rcases hkp with h | ⟨g', cap', e, hc, h0⟩
        · exact h
        · injection e with _ _ ec; omega
      rw [Nat.zero_add, List.nil_append] at hown
      exact hK _ _ _ rfl ⟨ivC_len, by rw [hLl.out]; exact hown⟩ (hw.trans (hbl.mono hw.size)) hbl (fun h => absurd h (by decide))
    · intro a w2 hw _ hf K hK
      have f0 := hf 3 rfl
      simp only [F28] at f0
      clear hf
      obtain ⟨v0, v1, v2, v3, v4, v5, v6, v7, v8⟩ := hcv.out w2 hw
      go_simp
      exact hK _ _ _ rfl rfl hw (Below.refl _ _) (fun h => absurd h (by decide))
    · intro a w2 hw _ hf K hK
      have f0 := hf 36 rfl
      simp only [F28] at f0
      clear hf
      go_simp
      exact hK _ _ _ rfl ⟨w2.heap.size, rfl, hw.size, Blk.new w2 45 _⟩ (below_new hw _) (a1 _ _) (fun h => absurd h (by decide))
    · intro a w2 hw _ hf K hK
      have f0 := hf 35 rfl
      have f1 := hf 37 rfl
      simp only [F28] at f0 f1
      clear hf
      obtain ⟨g4, e4, hbg4, hbk4⟩ := f1
      generalize hv35 : a.tmps[35]?.getD undef = v35 at f0
      refine wp_append_kept w2 (.tmp 35) (.tmp 37) 25 rfl wB.heap.size 45 i45 _ 9 104 Try.underlying25 hi45.out hz450.out hz451.out hz452.out rfl (by omega) v35 n (flat ivC L) ((eval_tmpi a 35).trans hv35) (by have := f0.2; rw [hLl.out] at this; exact this) w2.heap.size (some ⟨g4, 0, none⟩) 1 1 (flat ivC [(⟨(n : Int) + 1, cu, cr, t, A7, iN, c7, its, S1, S2, S3, cd⟩ : Im)]) ((eval_tmpi a 37).trans e4) (lat_blk ivC_len hbk4 [(⟨(n : Int) + 1, cu, cr, t, A7, iN, c7, its, S1, S2, S3, cd⟩ : Im)] 1 rfl (by simp [flat, ivC])).2 (ivC_one _) (by simp only [maxLen]; have := hn255.out; omega) (by have := hn255.out; omega) hw.size ?_
      intro v' w' hown hg hkp
      refine hK _ _ _ rfl (by rw [hX.out]; exact ⟨ivC_len, by rw [List.length_append, hLl.out, flat_append]; exact hown⟩) (hw.grown hg hw.size (fun g e => (own_lt f0 e).1)) ⟨hg.size, fun b hb hbk => ?_⟩ (fun h => absurd h (by decide))
      rcases hkp with h | ⟨g', cap', e, hc, h0⟩
      · exact h.block b (lt_of_heap hbk)
      · have hf0 := f0.2.2
        rw [e] at hf0 hg
        rcases hf0 with ⟨e1, _⟩ | ⟨g2, c2, cur, e1, _, hh, _, _, hsz, _⟩
        · cases e1
        · injection e1 with e1 _ e3
          injection e1 with e1
          injection e1 with e1
          subst e1; subst e3
          refine hg.block b (lt_of_heap hbk) (fun e4 => ?_)
          simp [Value.ownBlock] at e4
          subst e4
          rw [hbk] at hh
          injection hh with hh
          injection hh with hh
          subst hh
          simp at hsz
          omega
  · intro a' w9 hd hs hw hout hf
    have h38 := hf 6 38 (by decide) rfl rfl
    simp only [F28] at h38
    have e0 : _ = some (_) := hout 0 rfl
    have e1 : _ = some (_) := hout 1 rfl
    have e2 : _ = some (_) := hout 2 rfl
    have e3 : _ = some (_) := hout 3 rfl
    have e4 : _ = some (_) := hout 4 rfl
    have e6 : _ = some (_) := hout 6 rfl
    have e7 : _ = some (_) := hout 7 rfl
    have e8 : _ = some (_) := hout 8 rfl
    have e9 : _ = some (_) := hout 9 rfl
    have e10 : _ = some (_) := hout 10 rfl
    have e11 : _ = some (_) := hout 11 rfl
    have e12 : _ = some (_) := hout 12 rfl
    have e13 : _ = some (_) := hout 13 rfl
    have e14 : _ = some (_) := hout 14 rfl
    have e15 : _ = some (_) := hout 15 rfl
    have e16 : _ = some (_) := hout 16 rfl
    have e17 : _ = some (_) := hout 17 rfl
    have e18 : _ = some (_) := hout 18 rfl
    have e19 : _ = some (_) := hout 19 rfl
    have e20 : _ = some (_) := hout 20 rfl
    have e21 : _ = some (_) := hout 21 rfl
    have e22 : _ = some (_) := hout 22 rfl
    have e23 : _ = some (_) := hout 23 rfl
    have e24 : _ = some (_) := hout 24 rfl
    have e25 : _ = some (_) := hout 25 rfl
    have e26 : _ = some (_) := hout 26 rfl
    have e27 : _ = some (_) := hout 27 rfl
    have e28 : _ = some (_) := hout 28 rfl
    have e29 : _ = some (_) := hout 29 rfl
    have e30 : _ = some (_) := hout 30 rfl
    have e31 : _ = some (_) := hout 31 rfl
    obtain ⟨tm, df⟩ := a'
    simp only at hd hs h38 e0 e1 e2 e3 e4 e6 e7 e8 e9 e10 e11 e12 e13 e14 e15 e16 e17 e18 e19 e20 e21 e22 e23 e24 e25 e26 e27 e28 e29 e30 e31
    have e := F28_lit tm hs
    simp only [e0, e1, e2, e3, e4, e6, e7, e8, e9, e10, e11, e12, e13, e14, e15, e16, e17, e18, e19, e20, e21, e22, e23, e24, e25, e26, e27, e28, e29, e30, e31, Option.getD_some] at e
    clear hf hout hs
    rw [e, hd]
    clear e hd e0 e1 e2 e3 e4 e6 e7 e8 e9 e10 e11 e12 e13 e14 e15 e16 e17 e18 e19 e20 e21 e22 e23 e24 e25 e26 e27 e28 e29 e30 e31
    generalize tm[38]?.getD undef = u38x at h38 ⊢
    generalize tm[5]?.getD undef = u5x, tm[32]?.getD undef = u32x, tm[33]?.getD undef = u33x, tm[34]?.getD undef = u34x, tm[35]?.getD undef = u35x, tm[36]?.getD undef = u36x, tm[37]?.getD undef = u37x, tm[39]?.getD undef = u39x
    obtain ⟨A9, c9, e9, -, -, -, -⟩ := h38.form
    rw [hXl.out] at e9
    subst e9
    have hrow := Lib.hid h38
    clear h38
    have hrF := hr.out.below hw hr.out.lt
    have hbF := Lib.hid (hb.out.trans (hw.mono hb.out.size))
    have r0 : (w9).cell? ⟨gR, 0, none⟩ = some (Value.slice none 0 0) := (hrF).cell 0; have rz0 : (w9).frozen? ⟨gR, 0, none⟩ = false := (hrF).frozen 0
    have hnewF := Lib.hid (LOwn.kept hnew.out hw)
    replace hrF := Lib.hid hrF
    clear hw hcb hcv hL hr hb hnew
    go_wp2_with fail
    (try simp only [Exit.inBlock, Exit.then])
    have hRf : Blk (w9.setCell ⟨gR, 0, none⟩ (Value.slice A9 (n + 1) c9)) gR 27 #[Value.slice A9 (n + 1) c9] := hrF.out.set_ 0 _
    have hgs4 : w9.grownBy (w9.setCell ⟨gR, 0, none⟩ (Value.slice A9 (n + 1) c9)) (some gR) := only_set (World.grownBy.refl _ _) 0 _
    have hbFF : Below w.heap.size w (w9.setCell ⟨gR, 0, none⟩ (Value.slice A9 (n + 1) c9)) := hbF.out.grown hgs4 hbF.out.size (fun g8 e8 => by injection e8 with e8; have := hgRw.out; omega)
    refine bodyPost_ret (v := .tuple #[.agg #[Value.slice A9 (n + 1) c9], .int .i64 0]) ?_ rfl ?_
    · refine (res2 (fn := Try.f28) (p := 4) (u := 5) (ty := 27) rfl _ _ gR 27 _ (0, 0) _ ?_ hRf Try.underlying27 rfl (by kernel_rfl)).trans ?_
      · rfl
      · rfl
    · refine ⟨⟨_, _, _, X, rfl, BkAt.own (hrow.out.grownB hrF.out (by decide) hgs4) (fun x hx => ?_), hXv.out⟩, hbFF⟩
      rw [hX.out] at hx
      rcases List.mem_append.1 hx with h1 | h1
      · exact (hLI.out x h1).more hbFF
      · rw [List.mem_singleton.1 h1]
        exact NewI.at_ (LOwn.grownB hnewF.out hrF.out (by decide) hgs4)
end Go.Proofs.Ytadgdbakgmjekaa
