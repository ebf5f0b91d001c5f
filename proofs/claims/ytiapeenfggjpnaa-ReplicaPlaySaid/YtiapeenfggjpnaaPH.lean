/- Replicated servers: copyLog, walked. -/
import Derived.Test.YtiapeenfggjpnaaPG
import Derived.Test.YtiapeenfggjpnaaIn
import Derived.Test.YtiapeenfggjpnaaRUZ
set_option linter.unusedVariables false
set_option linter.unusedSimpArgs false
namespace Go.Proofs.Ytiapeenfggjpnaa
open Go.RowKit
def sumD (l : List Em) : Nat := (l.map (·.d.length)).sum
theorem sumD_take (l : List Em) (k : Nat) (h : k < l.length) : sumD (l.take (k + 1)) = sumD (l.take k) + (l[k]).d.length := by
  unfold sumD
  rw [List.take_succ_eq_append_getElem h, List.map_append, List.sum_append]
  simp
theorem sumD_le (l : List Em) (k : Nat) : sumD (l.take k) ≤ sumD l := by
  have : sumD l = sumD (l.take k) + sumD (l.drop k) := by
    unfold sumD
    rw [← List.sum_append, ← List.map_append, List.take_append_drop]
  omega
def catD (l : List Em) : List UInt8 := l.flatMap (·.d)
theorem catD_len (l : List Em) : (catD l).length = sumD l := by
  unfold catD sumD
  rw [List.length_flatMap]
theorem catD_take (l : List Em) (k : Nat) (h : k < l.length) : catD (l.take (k + 1)) = catD (l.take k) ++ (l[k]).d := by
  unfold catD
  rw [List.take_succ_eq_append_getElem h, List.flatMap_append]
  simp
/-- the data of an entry lie in the row gd, which holds D -/
def InD (gd : Nat) (D : List UInt8) (e : Em) : Prop := e.c = e.n ∧ e.n = e.d.length ∧ (e.n = 0 ∨ ∃ off, e.A = some ⟨gd, off, none⟩ ∧ off + e.n ≤ D.length ∧ e.d = (D.drop off).take e.n)
theorem InD.grow {gd : Nat} {D : List UInt8} {e : Em} (h : InD gd D e) (x : List UInt8) : InD gd (D ++ x) e := by
  obtain ⟨h1, h2, h3⟩ := h
  refine ⟨h1, h2, ?_⟩
  rcases h3 with h3 | ⟨off, h3, h4, h5⟩
  · exact .inl h3
  · refine .inr ⟨off, h3, by rw [List.length_append]; omega, ?_⟩
    rw [List.drop_append_of_le_length (by omega), List.take_append_of_le_length (by rw [List.length_drop]; omega)]
    exact h5
theorem InD.at_ {gd base cap : Nat} {D : List UInt8} {e : Em} {w : World} (h : InD gd D e) (hD : BOwn w base (.slice (some ⟨gd, 0, none⟩) D.length cap) D) : EmAt w (fun b => b = gd) e := by
  obtain ⟨h1, h2, h3⟩ := h
  obtain ⟨hb, hlt⟩ := hD.grown_base rfl
  obtain ⟨A, cp, hv, hcp, hm, -, -⟩ := hD.form
  have hDm : D.length ≤ maxLen := Nat.le_trans hcp hm
  rcases h3 with h3 | ⟨off, h3, h4, h5⟩
  · have hd : e.d = [] := List.eq_nil_of_length_eq_zero (by omega)
    refine ⟨⟨⟨h2.symm, bC_len⟩, ?_, fun h0 => absurd h0 (by omega)⟩, ⟨by omega, by rw [h1, h3]; exact Nat.zero_le _⟩, fun h0 => absurd h0 (by omega)⟩
    rw [hd, h3]; rfl
  · refine ⟨⟨⟨h2.symm, bC_len⟩, by rw [flat_len bC_len, ← h2], fun h0 => ⟨_, h3, hlt, fun j u hu => ?_⟩⟩, ⟨by omega, by omega⟩, fun h0 ad e9 => ?_⟩
    · have hj : j < e.d.length := by
        have := (List.getElem?_eq_some_iff.1 hu).1
        rw [flat_len bC_len] at this
        omega
      have hk : off + j < D.length := by omega
      have := hD.cellAt rfl (k := off + j) hk (j := 0) (by decide)
      rw [Addr.add_lit]
      simp only [Nat.mul_one, Nat.add_zero] at this
      rw [this, ← hu]
      have hx := flat_at bC_len e.d j hj 0 (by decide)
      simp only [Nat.mul_one, Nat.add_zero] at hx
      rw [hx]
      congr 2
      have : e.d[j]? = D[off + j]? := by rw [h5, List.getElem?_take_of_lt (by omega), List.getElem?_drop]
      rw [List.getElem?_eq_getElem hj, List.getElem?_eq_getElem hk] at this
      injection this with this
      exact this.symm
    · rw [h3] at e9
      injection e9 with e9
      subst e9
      rfl
theorem LogAt.of_own {w : World} {base n c : Nat} {A : Option Addr} {log : List Em} (h : LOwn enC 2 59 w base (.slice A n c) log) (hl : log.length = n) (he : ∀ e ∈ log, EmAt w (fun b => base ≤ b) e) : LogAt w (fun b => base ≤ b) A n c log := by
  subst hl
  obtain ⟨A', c', hv, h1, h2, h3, h4⟩ := h.form
  injection hv with e1 e2 e3
  subst e1
  subst e3
  exact ⟨h4, ⟨h1, h2⟩, fun _ ad e => (h3 ad e).2.1, he⟩
theorem LOwn.grownO {α : Type} {f : α → List Value} {s base : Nat} {e : TypeId} {w w' : World} {v : Value} {l : List α} {o : Option Nat} (h : LOwn f s e w base v l) (hg : w.grownBy w' o) (hne : v.ownBlock = none ∨ v.ownBlock ≠ o) : LOwn f s e w' base v l := ⟨h.1, World.ownsRow.kept h.2 hg hne⟩
/-- a slice of one entry -/
def OneEn (base : Nat) (cs : Array Value) (v : Value) (w : World) : Prop := ∃ g, v = .slice (some ⟨g, 0, none⟩) 1 1 ∧ base ≤ g ∧ Blk w g 59 cs
theorem OneEn.more {base : Nat} {cs : Array Value} {v : Value} {w w' : World} (h : OneEn base cs v w) (hb : Below w.heap.size w w') : OneEn base cs v w' := by
  obtain ⟨g, h1, h2, h3⟩ := h
  exact ⟨g, h1, h2, h3.below hb h3.lt⟩
def F42 (gd gr gx k n fr xn M base : Nat) (xv : Int) : Tmp → Value → World → Prop
  | 6, v, _ => v = Value.slice (some ⟨gd, 0, none⟩) (fr + xn) M
  | 7, v, _ => v = Value.slice (some ⟨gr, 0, none⟩) k (n + 1)
  | 9, v, _ => v = .pointer (some ⟨gx, 0, none⟩)
  | 10, v, _ => v = .int .i64 (fr : Int)
  | 41, v, _ => v = Value.slice (some ⟨gr, 0, none⟩) k (n + 1)
  | 42, v, _ => v = .pointer (some ⟨gx, 0, none⟩)
  | 43, v, _ => v = .int .i64 xv
  | 44, v, _ => v = Value.slice (some ⟨gd, 0, none⟩) (fr + xn) M
  | 45, v, _ => v = .int .i64 (fr : Int)
  | 46, v, _ => v = Value.slice (some ⟨gd, 0, none⟩) (fr + xn) M
  | 47, v, _ => v = .int .i64 ((fr : Int) + (xn : Int))
  | 48, v, _ => v = Value.slice (some ⟨gd, 0, none⟩) (fr + xn) M
  | 49, v, _ => v = .int .i64 ((fr : Int) + (xn : Int))
  | 50, v, _ => v = Value.slice (if xn = 0 then some ⟨gd, 0, none⟩ else some ⟨gd, fr, none⟩) xn xn
  | 51, v, _ => v = .agg #[.int .i64 xv, Value.slice (if xn = 0 then some ⟨gd, 0, none⟩ else some ⟨gd, fr, none⟩) xn xn]
  | 52, v, w => OneEn base #[.int .i64 xv, Value.slice (if xn = 0 then some ⟨gd, 0, none⟩ else some ⟨gd, fr, none⟩) xn xn] v w
  | _, _, _ => True
theorem F42_more {gd gr gx k n fr xn M base : Nat} {xv : Int} (d t : Tmp) (v : Value) (w w' : World) (hR : Rb w w') (hne : t ≠ d) (hc : ([] : List (Tmp × Tmp)).contains (d, t) = false) (h : F42 gd gr gx k n fr xn M base xv t v w) : F42 gd gr gx k n fr xn M base xv t v w' := by
  unfold F42 at *
  split at h <;> first | exact h | exact OneEn.more h hR | exact fun hg => OneEn.more (h hg) hR
theorem F42_lit (tm : Array Value) (hs : tm.size = 56) : tm = #[tm[0]?.getD undef, tm[1]?.getD undef, tm[2]?.getD undef, tm[3]?.getD undef, tm[4]?.getD undef, tm[5]?.getD undef, tm[6]?.getD undef, tm[7]?.getD undef, tm[8]?.getD undef, tm[9]?.getD undef, tm[10]?.getD undef, tm[11]?.getD undef, tm[12]?.getD undef, tm[13]?.getD undef, tm[14]?.getD undef, tm[15]?.getD undef, tm[16]?.getD undef, tm[17]?.getD undef, tm[18]?.getD undef, tm[19]?.getD undef, tm[20]?.getD undef, tm[21]?.getD undef, tm[22]?.getD undef, tm[23]?.getD undef, tm[24]?.getD undef, tm[25]?.getD undef, tm[26]?.getD undef, tm[27]?.getD undef, tm[28]?.getD undef, tm[29]?.getD undef, tm[30]?.getD undef, tm[31]?.getD undef, tm[32]?.getD undef, tm[33]?.getD undef, tm[34]?.getD undef, tm[35]?.getD undef, tm[36]?.getD undef, tm[37]?.getD undef, tm[38]?.getD undef, tm[39]?.getD undef, tm[40]?.getD undef, tm[41]?.getD undef, tm[42]?.getD undef, tm[43]?.getD undef, tm[44]?.getD undef, tm[45]?.getD undef, tm[46]?.getD undef, tm[47]?.getD undef, tm[48]?.getD undef, tm[49]?.getD undef, tm[50]?.getD undef, tm[51]?.getD undef, tm[52]?.getD undef, tm[53]?.getD undef, tm[54]?.getD undef, tm[55]?.getD undef] := lit_arr tm 56 hs
/-- a copy of a log -/
def CopyRes (w w' : World) (n : Nat) (log : List Em) (e : Ending) : Prop := ∃ (g : Nat) (log' : List Em), e = .returned (.slice (some ⟨g, 0, none⟩) n (n + 1)) ∧ LOwn enC 2 59 w' w.heap.size (.slice (some ⟨g, 0, none⟩) n (n + 1)) log' ∧ (∀ e ∈ log', EmAt w' (fun b => w.heap.size ≤ b ∧ b ≠ g) e) ∧ log'.map Em.val = log.map Em.val
set_option maxRecDepth 100000 in
set_option maxHeartbeats 8000000 in
theorem copyLog_any (A : Option Addr) (n c : Nat) (log : List Em) (w : World) {Q : Nat → Prop} (h : LogAt w Q A n c log) (hn : n ≤ 5000) (hT : sumD log ≤ 1000000) :
    Calls Try.prog 42 #[.slice A n c] w fun e w' => CopyRes w w' n log e ∧ Below w.heap.size w w' := by
  have hl := Lib.hid h.len
  replace h := Lib.hid h
  replace hT := Lib.hid hT
  obtain ⟨i5, hi5, hz50, hz51, hz52⟩ := info_parts byte_info
  obtain ⟨i59, hi59, hz590, hz591, hz592⟩ := info_parts en_info
  have hmk5 := Lib.hid (fun (wz : World) (M : Nat) (hM : M ≤ 1000000) => made_row (P := Try.prog) wz 25 5 i5 _ 1 Try.underlying25 hi5 hz50 hz51 0 M 0 M rfl rfl (Nat.zero_le _) (by rw [hz52]; omega) (by omega))
  have hmk59 := Lib.hid (fun (wz : World) => made_row (P := Try.prog) wz 45 59 i59 _ 2 Try.underlying45 hi59 hz590 hz591 0 (n + 1) 0 ((n : Int) + 1) rfl (by omega) (Nat.zero_le _) (by rw [hz592]; omega) (by omega))
  replace hi5 := Lib.hid hi5
  replace hz50 := Lib.hid hz50
  replace hz51 := Lib.hid hz51
  replace hz52 := Lib.hid hz52
  replace hi59 := Lib.hid hi59
  replace hz590 := Lib.hid hz590
  replace hz591 := Lib.hid hz591
  replace hz592 := Lib.hid hz592
  go_enter Try.func42, Try.ntmps42
  go_wp2_with fail
  go_loopw [13, 3] (fun i v wr => ∃ (k m : Nat), k ≤ n ∧ m ≤ 1000000 ∧ i = .int .i64 k ∧ v = .int .i64 m ∧ Hid (m = sumD (log.take k)) ∧ Hid (Below w.heap.size w wr)) (fun i _ _ => n - (intOf i).toNat)
  case atStart => exact ⟨0, 0, Nat.zero_le _, Nat.zero_le _, rfl, rfl, rfl, Below.refl _ _⟩
  case round =>
    obtain ⟨k, m, hkn, hmM, rfl, rfl, hm, hb⟩ := hrel
    by_cases hlt : k < n
    · have hkl : k < log.length := by have := hl.out; omega
      have hk0 : (0 : Int) ≤ k := by omega
      have hk1 : (k : Int) < n := by omega
      obtain ⟨ad, hA, -, e0, e1⟩ := en_cells (h.out.at_.below hb.out (Nat.le_refl _)) hlt
      have hst : Hid (sumD (log.take (k + 1)) = m + (log[k]).n) := by show _ = _; rw [sumD_take log k hkl, hm.out, (h.out.els _ (List.getElem_mem hkl)).at_.len]
      have hle : m + (log[k]).n ≤ 1000000 := by rw [← hst.out]; exact Nat.le_trans (sumD_le _ _) hT.out
      generalize log[k] = x at *
      obtain ⟨xv, xA, xn, xc, xd⟩ := x
      simp only at e0 e1 hst hle
      subst hA
      have hy := Lib.hid (Blk.new wr 59 #[Value.int .i64 xv, Value.slice xA xn xc])
      obtain ⟨y0, y1⟩ := cells2 ((wr.alloc (.cells #[Value.int .i64 xv, Value.slice xA xn xc] 59))) (wr.heap.size) (Value.int .i64 xv) (Value.slice xA xn xc) (hy.out)
      have hb2 : Hid (Below w.heap.size w (wr.alloc (.cells #[Value.int .i64 xv, Value.slice xA xn xc] 59))) := hb.out.alloc hb.out.size _
      go_wp2_with fail
      go_roundw
      case rel => exact ⟨k + 1, m + xn, by omega, hle, by go_num, by go_num, hst.out.symm, hb2.out⟩
      case measure => simp [intOf]; omega
    · have hmS : Hid (m = sumD log) := by show _ = _; rw [hm.out, List.take_of_length_le (by have := hl.out; omega)]
      have hm5 := hmk5.out wr m hmM
      have hMs := size_madeCells (Value.int .u8 0).cells (m * 1)
      obtain ⟨M1, hM1⟩ : ∃ M1, M1 = madeCells (Value.int .u8 0).cells (m * 1) := ⟨_, rfl⟩
      rw [← hM1] at hm5 hMs
      have hm59 := hmk59.out (wr.alloc (.cells M1 5))
      have hMs2 := size_madeCells (Value.agg #[.int .i64 0, .slice none 0 0]).cells ((n + 1) * 2)
      obtain ⟨M2, hM2⟩ : ∃ M2, M2 = madeCells (Value.agg #[.int .i64 0, .slice none 0 0]).cells ((n + 1) * 2) := ⟨_, rfl⟩
      rw [← hM2] at hm59 hMs2
      have hD0 : Hid (BOwn ((wr.alloc (.cells M1 5)).alloc (.cells M2 59)) w.heap.size (.slice (some ⟨wr.heap.size, 0, none⟩) 0 m) []) := ((made_nil bC_len 5 wr M1 m hMs (by simp only [maxLen]; omega)).mono hb.out.size).alloc _
      have hR0 : Hid (LOwn enC 2 59 ((wr.alloc (.cells M1 5)).alloc (.cells M2 59)) w.heap.size (.slice (some ⟨(wr.alloc (.cells M1 5)).heap.size, 0, none⟩) 0 (n + 1)) []) := (made_nil enC_len 59 (wr.alloc (.cells M1 5)) M2 (n + 1) hMs2 (by simp only [maxLen]; omega)).mono (Nat.le_trans hb.out.size (by simp))
      have hb0 : Hid (Below w.heap.size w ((wr.alloc (.cells M1 5)).alloc (.cells M2 59))) := (hb.out.alloc hb.out.size _).alloc (Nat.le_trans hb.out.size (by simp)) _
      rw [show (wr.alloc (.cells M1 5)).heap.size = wr.heap.size + 1 by simp] at hm59 hR0
      clear hm hMs hMs2 hM1 hM2 hb
      go_wp2_with fail
      obtain ⟨gd, hgd⟩ : ∃ gd, gd = wr.heap.size := ⟨_, rfl⟩
      rw [← hgd] at hD0 hR0 ⊢
      obtain ⟨gr, hgr⟩ : ∃ gr, gr = gd + 1 := ⟨_, rfl⟩
      rw [← hgr] at hR0 ⊢
      have hne : Hid (gd ≠ gr) := by show gd ≠ gr; omega
      clear hm5 hm59
      generalize (wr.alloc (.cells M1 5)).alloc (.cells M2 59) = w0 at *
      replace hgd := Lib.hid hgd
      replace hgr := Lib.hid hgr
      go_loopw [31, 6, 7] (fun i v6 v7 wr => ∃ (k fr : Nat) (L : List Em), k ≤ n ∧ fr ≤ m ∧ i = .int .i64 k ∧ v6 = .slice (some ⟨gd, 0, none⟩) fr m ∧ v7 = .slice (some ⟨gr, 0, none⟩) k (n + 1) ∧ Hid (fr = (catD (log.take k)).length) ∧ Hid (BOwn wr w.heap.size (.slice (some ⟨gd, 0, none⟩) fr m) (catD (log.take k))) ∧ Hid (LOwn enC 2 59 wr w.heap.size (.slice (some ⟨gr, 0, none⟩) k (n + 1)) L) ∧ Hid (∀ e ∈ L, InD gd (catD (log.take k)) e) ∧ Hid (L.map Em.val = (log.take k).map Em.val) ∧ Hid (Below w.heap.size w wr)) (fun i _ _ _ => n - (intOf i).toNat)
      case atStart => exact ⟨0, 0, [], Nat.zero_le _, Nat.zero_le _, rfl, rfl, rfl, rfl, hD0.out, hR0.out, fun e he => by simp at he, rfl, hb0.out⟩
      case round =>
        clear hD0 hR0 hb0
        obtain ⟨k, fr, L, hkn, hfm, rfl, rfl, rfl, hfr, hD, hR, hIn, hLv, hb⟩ := hrel
        by_cases hlt : k < n
        · have hkl : k < log.length := by have := hl.out; omega
          have hk0 : (0 : Int) ≤ k := by omega
          have hk1 : (k : Int) < n := by omega
          obtain ⟨ad, hA, -, e0, e1⟩ := en_cells (h.out.at_.below hb.out (Nat.le_refl _)) hlt
          have hxe := Lib.hid (h.out.els _ (List.getElem_mem hkl))
          have hcat := Lib.hid (catD_take log k hkl)
          have hLk : Hid ((log.take (k + 1)).map Em.val = (log.take k).map Em.val ++ [(log[k]).val]) := by show _ = _; rw [List.take_succ_eq_append_getElem hkl, List.map_append]; rfl
          have hfit : fr + (log[k]).d.length ≤ m := by
            have h1 : (catD (log.take (k + 1))).length = (catD (log.take k)).length + (log[k]).d.length := by rw [hcat.out, List.length_append]
            have h2 := sumD_le log (k + 1)
            rw [catD_len] at h1
            have h3 := hmS.out
            have h4 := hfr.out
            omega
          generalize log[k] = x at *
          obtain ⟨xv, xA, xn, xc, xd⟩ := x
          obtain rfl : xd.length = xn := hxe.out.at_.len
          (try simp only at e0 e1 hcat hLk hfit)
          subst hA
          have hLl : Hid (L.length = k) := by
            show _ = _
            have := congrArg List.length hLv.out
            rw [List.length_map, List.length_map, List.length_take] at this
            omega
          have hy := Lib.hid (Blk.new wr 59 #[Value.int .i64 xv, Value.slice xA xd.length xc])
          obtain ⟨y0, y1⟩ := cells2 ((wr.alloc (.cells #[Value.int .i64 xv, Value.slice xA xd.length xc] 59))) (wr.heap.size) (Value.int .i64 xv) (Value.slice xA xd.length xc) (hy.out)
          have hbx : Hid (Below wr.heap.size wr (wr.alloc (.cells #[Value.int .i64 xv, Value.slice xA xd.length xc] 59))) := a1 wr _
          have hD1 := Lib.hid (hD.out.alloc (.cells #[Value.int .i64 xv, Value.slice xA xd.length xc] 59))
          have hR1 := Lib.hid (hR.out.alloc (.cells #[Value.int .i64 xv, Value.slice xA xd.length xc] 59))
          have hxd := Lib.hid (hxe.out.at_.more (hb.out.trans (hbx.out.mono hb.out.size)))
          have hb1 : Hid (Below w.heap.size w (wr.alloc (.cells #[Value.int .i64 xv, Value.slice xA xd.length xc] 59))) := hb.out.alloc hb.out.size _
          have hgx : Hid (gd < wr.heap.size ∧ gr < wr.heap.size) := ⟨(hD.out.grown_base hfr.out).2, (hR.out.grown_base hLl.out.symm).2⟩
          have hgw : Hid (w.heap.size ≤ gd ∧ w.heap.size ≤ gr) := ⟨(hD.out.grown_base hfr.out).1, (hR.out.grown_base hLl.out.symm).1⟩
          clear hD hR hxe hb hbx
          go_wp2_with (at_builtin; refine wpList_append_in _ rfl (.tmp 37) (.tmp 39) _ rfl w.heap.size 5 i5 1 Try.underlying25 hi5.out hz51.out gd fr m rfl hD1.out hfr.out _ xA xd.length xc rfl hxd.out.2 rfl (bC_one _) hfit ?_
                       intro w1 hown1 hg1
                       have hy2 := Lib.hid (hy.out.grown hg1 (by intro e; injection e with e; have := hgx.out; omega))
                       have hR2 := Lib.hid (hR1.out.grownO hg1 (.inr (by intro e; simp [Value.ownBlock] at e; exact hne.out e.symm)))
                       have hb2 := Lib.hid (hb1.out.grown hg1 hb1.out.size (fun g8 e8 => by injection e8 with e8; rw [← e8]; exact hgw.out.1))
                       have hD2 := Lib.hid hown1
                       clear hy hR1 hb1 hD1 hown1 hg1 hxd)
          have hxc : Hid (∀ wz, Below w1.heap.size w1 wz → wz.cell? ⟨wr.heap.size, 0, none⟩ = some (Value.int .i64 xv) ∧ wz.cell? ⟨wr.heap.size, 1, none⟩ = some (Value.slice xA xd.length xc)) := fun wz hz => by
            have q := hy2.out.below hz hy2.out.lt
            exact ⟨q.cell 0, q.cell 1⟩
          have hbs : Hid (w.heap.size ≤ w1.heap.size) := hb2.out.size
          clear y0 y1 e0 e1
          generalize hxl : xd.length = xn at *
          replace hxl := Lib.hid hxl
          refine RUZ.region [] [] 12 (F := F42 gd gr wr.heap.size k n fr xn m w.heap.size xv) (W := fun wz => Below w1.heap.size w1 wz) (R := fun _ => Rb) rfl F42_more (by kernel_rfl) (by kernel_rfl) (by kernel_rfl) (by kernel_rfl) (by kernel_rfl) (by kernel_rfl) ?_ ?_ ?_ ?_
          · exact (Below.refl _ _).drew
          · intro t ht
            unfold F42
            split <;> first | trivial | exact rfl | (exact absurd ht (by decide))
          · intro i o hi ho
            have hcs : i = 0 ∨ i = 1 ∨ i = 2 ∨ i = 3 ∨ i = 4 ∨ i = 5 ∨ i = 6 ∨ i = 7 ∨ i = 8 ∨ i = 9 ∨ i = 10 ∨ i = 11 := by omega
            rcases hcs with rfl | rfl | rfl | rfl | rfl | rfl | rfl | rfl | rfl | rfl | rfl | rfl <;> (injection ho with ho; subst ho)
            · intro a w2 hw _ hf K hK
              have f0 := hf 7 rfl
              simp only [F42] at f0
              clear hf
              go_simp
              exact hK _ _ _ rfl rfl hw (Below.refl _ _) (fun h => absurd h (by decide))
            · intro a w2 hw _ hf K hK
              have f0 := hf 9 rfl
              simp only [F42] at f0
              clear hf
              obtain ⟨y0, y1⟩ := hxc.out w2 hw
              go_simp
              exact hK _ _ _ rfl rfl hw (Below.refl _ _) (fun h => absurd h (by decide))
            · intro a w2 hw _ hf K hK
              have f0 := hf 42 rfl
              simp only [F42] at f0
              clear hf
              obtain ⟨y0, y1⟩ := hxc.out w2 hw
              go_simp
              exact hK _ _ _ rfl rfl hw (Below.refl _ _) (fun h => absurd h (by decide))
            · intro a w2 hw _ hf K hK
              have f0 := hf 6 rfl
              simp only [F42] at f0
              clear hf
              go_simp
              exact hK _ _ _ rfl rfl hw (Below.refl _ _) (fun h => absurd h (by decide))
            · intro a w2 hw _ hf K hK
              have f0 := hf 10 rfl
              simp only [F42] at f0
              clear hf
              go_simp
              exact hK _ _ _ rfl rfl hw (Below.refl _ _) (fun h => absurd h (by decide))
            · intro a w2 hw _ hf K hK
              have f0 := hf 6 rfl
              simp only [F42] at f0
              clear hf
              go_simp
              exact hK _ _ _ rfl rfl hw (Below.refl _ _) (fun h => absurd h (by decide))
            · intro a w2 hw _ hf K hK
              have f0 := hf 46 rfl
              simp only [F42] at f0
              clear hf
              go_simp
              exact hK _ _ _ rfl rfl hw (Below.refl _ _) (fun h => absurd h (by decide))
            · intro a w2 hw _ hf K hK
              have f0 := hf 6 rfl
              simp only [F42] at f0
              clear hf
              go_simp
              exact hK _ _ _ rfl rfl hw (Below.refl _ _) (fun h => absurd h (by decide))
            · intro a w2 hw _ hf K hK
              have f0 := hf 48 rfl
              simp only [F42] at f0
              clear hf
              go_simp
              exact hK _ _ _ rfl rfl hw (Below.refl _ _) (fun h => absurd h (by decide))
            · intro a w2 hw _ hf K hK
              have f0 := hf 44 rfl
              have f1 := hf 45 rfl
              have f2 := hf 47 rfl
              have f3 := hf 49 rfl
              simp only [F42] at f0 f1 f2 f3
              clear hf
              go_simp
              rw [if_pos ⟨by omega, by omega⟩, if_pos ⟨by omega, by omega⟩, if_pos (by omega), show ((fr : Int) + (xn : Int)).toNat = fr + xn by omega, show fr + xn - fr = xn by omega, show (if fr + xn = fr then (some ⟨gd, 0, none⟩ : Option Addr) else some ⟨gd, fr, none⟩) = if xn = 0 then some ⟨gd, 0, none⟩ else some ⟨gd, fr, none⟩ by by_cases h : xn = 0 <;> simp [h]]
              exact hK _ _ _ rfl rfl hw (Below.refl _ _) (fun h => absurd h (by decide))
            · intro a w2 hw _ hf K hK
              have f0 := hf 43 rfl
              have f1 := hf 50 rfl
              simp only [F42] at f0 f1
              clear hf
              go_simp
              exact hK _ _ _ rfl rfl hw (Below.refl _ _) (fun h => absurd h (by decide))
            · intro a w2 hw _ hf K hK
              have f0 := hf 51 rfl
              simp only [F42] at f0
              clear hf
              go_simp
              exact hK _ _ _ rfl ⟨w2.heap.size, rfl, Nat.le_trans hbs.out hw.size, Blk.new w2 59 _⟩ (below_new hw _) (a1 w2 _) (fun h => absurd h (by decide))
          · intro a' w9 hd hs hw hout hf
            have h41 := hf 0 41 (by decide) rfl rfl
            simp only [F42] at h41
            have h52 := hf 11 52 (by decide) rfl rfl
            simp only [F42] at h52
            have e0 := hout 0 rfl
            have e1 := hout 1 rfl
            have e2 := hout 2 rfl
            have e3 := hout 3 rfl
            have e4 := hout 4 rfl
            have e5 := hout 5 rfl
            have e6 := hout 6 rfl
            have e7 := hout 7 rfl
            have e8 := hout 8 rfl
            have e9 := hout 9 rfl
            have e10 := hout 10 rfl
            have e11 := hout 11 rfl
            have e12 := hout 12 rfl
            have e13 := hout 13 rfl
            have e14 := hout 14 rfl
            have e15 := hout 15 rfl
            have e16 := hout 16 rfl
            have e17 := hout 17 rfl
            have e18 := hout 18 rfl
            have e19 := hout 19 rfl
            have e20 := hout 20 rfl
            have e21 := hout 21 rfl
            have e22 := hout 22 rfl
            have e23 := hout 23 rfl
            have e24 := hout 24 rfl
            have e25 := hout 25 rfl
            have e26 := hout 26 rfl
            have e27 := hout 27 rfl
            have e28 := hout 28 rfl
            have e29 := hout 29 rfl
            have e30 := hout 30 rfl
            have e31 := hout 31 rfl
            have e55 := hout 55 rfl
            simp only [List.getElem?_toArray, List.getElem?_cons_succ, List.getElem?_cons_zero] at e0 e1 e2 e3 e4 e5 e6 e7 e8 e9 e10 e11 e12 e13 e14 e15 e16 e17 e18 e19 e20 e21 e22 e23 e24 e25 e26 e27 e28 e29 e30 e31 e55
            obtain ⟨tm, df⟩ := a'
            simp only at hd hs h41 h52 e0 e1 e2 e3 e4 e5 e6 e7 e8 e9 e10 e11 e12 e13 e14 e15 e16 e17 e18 e19 e20 e21 e22 e23 e24 e25 e26 e27 e28 e29 e30 e31 e55
            have e := F42_lit tm hs
            simp only [h41, e0, e1, e2, e3, e4, e5, e6, e7, e8, e9, e10, e11, e12, e13, e14, e15, e16, e17, e18, e19, e20, e21, e22, e23, e24, e25, e26, e27, e28, e29, e30, e31, e55, Option.getD_some] at e
            clear hf hout hs
            rw [e, hd]
            clear e hd h41 e0 e1 e2 e3 e4 e5 e6 e7 e8 e9 e10 e11 e12 e13 e14 e15 e16 e17 e18 e19 e20 e21 e22 e23 e24 e25 e26 e27 e28 e29 e30 e31 e55
            generalize tm[52]?.getD undef = u52x at h52 ⊢
            generalize tm[32]?.getD undef = u32x, tm[33]?.getD undef = u33x, tm[34]?.getD undef = u34x, tm[35]?.getD undef = u35x, tm[36]?.getD undef = u36x, tm[37]?.getD undef = u37x, tm[38]?.getD undef = u38x, tm[39]?.getD undef = u39x, tm[40]?.getD undef = u40x, tm[42]?.getD undef = u42x, tm[43]?.getD undef = u43x, tm[44]?.getD undef = u44x, tm[45]?.getD undef = u45x, tm[46]?.getD undef = u46x, tm[47]?.getD undef = u47x, tm[48]?.getD undef = u48x, tm[49]?.getD undef = u49x, tm[50]?.getD undef = u50x, tm[51]?.getD undef = u51x, tm[53]?.getD undef = u53x, tm[54]?.getD undef = u54x
            obtain ⟨g5, rfl, hg5, hbk⟩ := h52
            have hrd : Hid (Reads w9 w9.heap.size 2 (some ⟨g5, 0, none⟩) 1 (flat enC [(⟨xv, (if xn = 0 then some ⟨gd, 0, none⟩ else some ⟨gd, fr, none⟩), xn, xn, xd⟩ : Em)])) := (lat_blk enC_len hbk [(⟨xv, (if xn = 0 then some ⟨gd, 0, none⟩ else some ⟨gd, fr, none⟩), xn, xn, xd⟩ : Em)] 1 rfl (by simp [flat, enC])).2
            have hR9 := Lib.hid (hR2.out.kept hw)
            have hD9 := Lib.hid (hD2.out.kept hw)
            have hb9 : Hid (Below w.heap.size w w9) := hb2.out.trans (hw.mono hb2.out.size)
            clear hw hxc hbk hg5 hR2 hD2 hb2
            refine wpList_append_in _ rfl (.tmp 41) (.tmp 52) _ rfl w.heap.size 59 i59 2 Try.underlying45 hi59.out hz591.out gr k (n + 1) rfl hR9.out hLl.out.symm w9.heap.size (some ⟨g5, 0, none⟩) 1 1 rfl hrd.out rfl (enC_one _) (by omega) ?_
            intro w3 hown3 hg3
            have hD3 := Lib.hid (hD9.out.grownO hg3 (.inr (by intro e; simp [Value.ownBlock] at e; exact hne.out e)))
            have hb3 : Hid (Below w.heap.size w w3) := hb9.out.grown hg3 hb9.out.size (fun g8 e8 => by injection e8 with e8; rw [← e8]; exact hgw.out.2)
            have hR3 := Lib.hid hown3
            clear hown3 hg3 hR9 hD9 hb9
            have hIn3 : Hid (∀ e ∈ L ++ [(⟨xv, (if xn = 0 then some ⟨gd, 0, none⟩ else some ⟨gd, fr, none⟩), xn, xn, xd⟩ : Em)], InD gd (catD (log.take (k + 1))) e) := fun e he => by
              rw [hcat.out]
              rcases List.mem_append.1 he with he | he
              · exact (hIn.out e he).grow xd
              · simp at he
                subst he
                refine ⟨rfl, hxl.out.symm, ?_⟩
                by_cases h0 : xn = 0
                · exact .inl h0
                · refine .inr ⟨fr, by show (if xn = 0 then _ else _) = _; rw [if_neg (by omega)], by rw [List.length_append, ← hfr.out, hxl.out]; exact Nat.le_refl _, ?_⟩
                  show xd = _
                  rw [hfr.out, List.drop_left, ← hxl.out, List.take_length]
            have hLv3 : Hid ((L ++ [(⟨xv, (if xn = 0 then some ⟨gd, 0, none⟩ else some ⟨gd, fr, none⟩), xn, xn, xd⟩ : Em)]).map Em.val = (log.take (k + 1)).map Em.val) := by show _ = _; rw [hLk.out, List.map_append, hLv.out]; rfl
            have hfr3 : Hid (fr + xn = (catD (log.take (k + 1))).length) := by show _ = _; rw [hcat.out, List.length_append, ← hfr.out, hxl.out]
            have hD4 : Hid (BOwn w3 w.heap.size (.slice (some ⟨gd, 0, none⟩) (fr + xn) m) (catD (log.take (k + 1)))) := by rw [hcat.out]; exact hD3.out
            go_wp2_with fail
            go_roundw
            case rel => exact ⟨k + 1, fr + xn, L ++ [(⟨xv, (if xn = 0 then some ⟨gd, 0, none⟩ else some ⟨gd, fr, none⟩), xn, xn, xd⟩ : Em)], by omega, hfit, by go_num, by go_num, by go_num, hfr3.out, hD4.out, hR3.out, hIn3.out, hLv3.out, hb3.out⟩
            case measure => simp [intOf]; omega
        · have hk : k = n := by omega
          subst hk
          have htk : log.take k = log := List.take_of_length_le (by have := hl.out; omega)
          rw [htk] at hfr hD hIn hLv
          have hge : Hid (w.heap.size ≤ gd) := (hD.out.grown_base hfr.out).1
          have hF : Hid (∀ e ∈ L, EmAt wr (fun b => w.heap.size ≤ b ∧ b ≠ gr) e) := fun e he => ((hIn.out e he).at_ (by have := hD.out; rw [hfr.out] at this; exact this)).imp (fun b hb => by subst hb; exact ⟨hge.out, hne.out⟩)
          clear htk
          go_wp2_with fail
          go_ret
          exact ⟨⟨gr, L, rfl, hR.out, hF.out, hLv.out⟩, hb.out⟩
end Go.Proofs.Ytiapeenfggjpnaa
