/- Invoices: books compared at equal sides, walked; what stays true of books. -/
import Derived.Test.YtadgdbakgmjekaaIK
set_option linter.unusedVariables false
set_option linter.unusedSimpArgs false
namespace Go.Proofs.Ytadgdbakgmjekaa
open Go.RowKit
theorem credit_valid {b : List Iv} {num t : Int} (hv : validB b = 0) (hn : b.length ≤ 255) : validB (creditB b num t).1 = 0 ∧ ((creditB b num t).1 = b ∨ (creditB b num t).1.length = b.length + 1) := by
  obtain ⟨h1, h2⟩ := credit_ok (num := num) (t := t) hv hn
  by_cases q : num < 1 ∨ (b.length : Int) < num
  · rw [h1 q]; exact ⟨hv, .inl rfl⟩
  · have hj : (num - 1).toNat < b.length := by omega
    obtain ⟨h3, h4⟩ := h2 b[(num - 1).toNat] (by omega) (by omega) (List.getElem?_eq_getElem hj)
    have hat : b[(num - 1).toNat]? = some b[(num - 1).toNat] := List.getElem?_eq_getElem hj
    obtain ⟨-, -, p3, p4, p5, p6, -⟩ := check_parts (valid_at hv hat)
    generalize b[(num - 1).toNat] = v at *
    by_cases q1 : v.credits = 0
    · obtain ⟨h5, h6, h7⟩ := h4 q1
      cases q2 : credited num b with
      | true => rw [h5 q2]; exact ⟨hv, .inl rfl⟩
      | false =>
        cases q3 : lateB b t with
        | true => rw [h6 q2 q3]; exact ⟨hv, .inl rfl⟩
        | false =>
          rw [h7 q2 q3]
          refine ⟨valid_add hv (by omega) (check_new q3 ?_ p4 p5 (by rw [smallI_neg]; exact p6) ?_), .inr (by rw [List.length_append]; rfl)⟩
          · unfold linesB at p3 ⊢
            rw [List.length_map]
            exact p3
          · unfold creditsB
            rw [if_neg (by show ¬ num = 0; omega), if_neg (by show ¬ (num < 1 ∨ (b.length : Int) < num); omega)]
            show (match b[(num - 1).toNat]? with | none => false | some o => _) = true
            rw [hat, List.take_length]
            show (decide (v.credits = 0) && strEq v.cust v.cust && strEq v.cur v.cur && !credited num b && eqIts (v.items.map negIt) (v.items.map negIt)) = true
            rw [q1, q2, strEq_self, strEq_self, eqIts_self]
            rfl
    · rw [h3 q1]; exact ⟨hv, .inl rfl⟩
theorem issue_valid2 {b : List Iv} {cust cur : ByteArray} {t : Int} {l : List It} (hv : validB b = 0) (hn : b.length ≤ 255) : validB (issueB b cust cur t l).1 = 0 ∧ ((issueB b cust cur t l).1 = b ∨ (issueB b cust cur t l).1.length = b.length + 1) := by
  by_cases h : (issueB b cust cur t l).2 = 0
  · obtain ⟨-, h1, h2⟩ := issue_valid h
    rw [h1]
    exact ⟨h2, .inr (by rw [List.length_append]; rfl)⟩
  · obtain ⟨a1, a2, a3, a4, a5, a6⟩ := issue_ok (cust := cust) (cur := cur) (t := t) (l := l) hv hn
    have key : (issueB b cust cur t l).1 = b := by
      cases q1 : nameB cust with
      | false => rw [a1 q1]
      | true =>
        cases q2 : curB cur with
        | false => rw [a2 q1 q2]
        | true =>
          cases q3 : lateB b t with
          | true => rw [a3 q1 q2 q3]
          | false =>
            by_cases q4 : l.length < 1 ∨ 64 < l.length
            · rw [a4 q1 q2 q3 q4]
            · cases q5 : smallI l with
              | false => rw [a5 q1 q2 q3 (by omega) q5]
              | true => rw [a6 q1 q2 q3 (by omega) q5] at h; exact absurd rfl h
    rw [key]
    exact ⟨hv, .inl rfl⟩
/-- a call that hands back an error hands back the book that came in -/
theorem issue_err {b : List Iv} {cust cur : ByteArray} {t : Int} {l : List It} (hv : validB b = 0) (hn : b.length ≤ 255) (h : (issueB b cust cur t l).2 ≠ 0) : (issueB b cust cur t l).1 = b := by
  obtain ⟨a1, a2, a3, a4, a5, a6⟩ := issue_ok (cust := cust) (cur := cur) (t := t) (l := l) hv hn
  cases q1 : nameB cust with
  | false => rw [a1 q1]
  | true =>
    cases q2 : curB cur with
    | false => rw [a2 q1 q2]
    | true =>
      cases q3 : lateB b t with
      | true => rw [a3 q1 q2 q3]
      | false =>
        by_cases q4 : l.length < 1 ∨ 64 < l.length
        · rw [a4 q1 q2 q3 q4]
        · cases q5 : smallI l with
          | false => rw [a5 q1 q2 q3 (by omega) q5]
          | true => rw [a6 q1 q2 q3 (by omega) q5] at h; exact absurd rfl h
theorem GoodM.nil (w : World) : GoodM w none 0 0 [] := ⟨BkAt.nil w, rfl⟩
theorem GoodM.small_all {w : World} {A : Option Addr} {n c : Nat} {L : List Im} (h : GoodM w A n c L) : ∀ x ∈ L, x.items.length ≤ 100000 := fun x hx => by
  obtain ⟨k, hk, rfl⟩ := List.getElem_of_mem hx
  have := (h.small hk).2.2
  omega
set_option maxRecDepth 100000 in
set_option maxHeartbeats 8000000 in
theorem sameBook_any (A A2 : Option Addr) (n c c2 : Nat) (L L2 : List Im) (w : World) (h1 : BkAt w A n c L) (h2 : BkAt w A2 n c2 L2) (hv : L.map Im.val = L2.map Im.val) (hn : n ≤ 100000) (hs : ∀ x ∈ L, x.items.length ≤ 100000) : Calls Try.prog 15 #[.agg #[Value.slice A n c], .agg #[Value.slice A2 n c2]] w fun e w' => e = .returned (.bool true) ∧ Below w.heap.size w w' := by
  have hl := Lib.hid h1.len
  have hl2 := Lib.hid h2.len
  replace h1 := Lib.hid h1
  replace h2 := Lib.hid h2
  replace hv := Lib.hid hv
  replace hs := Lib.hid hs
  have hB := Lib.hid ((Blk.new w 27 #[Value.slice A n c]).alloc (.cells #[Value.slice A2 n c2] 27))
  have hC := Blk.new (w.alloc (.cells #[Value.slice A n c] 27)) 27 #[Value.slice A2 n c2]
  rw [show (w.alloc (.cells #[Value.slice A n c] 27)).heap.size = w.heap.size + 1 by simp] at hC
  replace hC := Lib.hid hC
  have hb : Hid (Below w.heap.size w ((w.alloc (.cells #[Value.slice A n c] 27)).alloc (.cells #[Value.slice A2 n c2] 27))) := (a1 w _).alloc (by simp) _
  have b0 : (((w.alloc (.cells #[Value.slice A n c] 27)).alloc (.cells #[Value.slice A2 n c2] 27))).cell? ⟨w.heap.size, 0, none⟩ = some (Value.slice A n c) := (hB.out).cell 0
  have c0 : (((w.alloc (.cells #[Value.slice A n c] 27)).alloc (.cells #[Value.slice A2 n c2] 27))).cell? ⟨(w.heap.size + 1), 0, none⟩ = some (Value.slice A2 n c2) := (hC.out).cell 0
  go_enter Try.func15, Try.ntmps15
  go_wp2_with fail
  clear b0 c0
  generalize ((w.alloc (.cells #[Value.slice A n c] 27)).alloc (.cells #[Value.slice A2 n c2] 27)) = w0 at *
  go_loopw [19] (fun i wr => ∃ k : Nat, k ≤ n ∧ i = .int .i64 k ∧ Hid (Blk wr w.heap.size 27 #[Value.slice A n c]) ∧ Hid (Blk wr (w.heap.size + 1) 27 #[Value.slice A2 n c2]) ∧ Hid (Below w.heap.size w wr)) (fun i _ => n - (intOf i).toNat)
  case atStart => exact ⟨0, Nat.zero_le _, rfl, hB.out, hC.out, hb.out⟩
  case round =>
    clear hB hC hb
    obtain ⟨k, hkn, rfl, hB, hC, hb⟩ := hrel
    by_cases hlt : k < n
    · have hk0 : (0 : Int) ≤ k := by omega
      have hk1 : (k : Int) < n := by omega
      have hkl : k < L.length := by have := hl.out; omega
      have hkl2 : k < L2.length := by have := hl2.out; omega
      obtain ⟨ad, hA, -, e0, e1, e2, e3, e4, e5, e6, e7, e8⟩ := iv_cells (h1.out.more hb.out).row hlt
      obtain ⟨ad2, hA2, -, t0, t1, t2, t3, t4, t5, t6, t7, t8⟩ := iv_cells (h2.out.more hb.out).row hlt
      have hve : L[k].val = L2[k].val := by
        have e1 := map_at hkl
        rw [hv.out, map_at hkl2] at e1
        injection e1 with e1
        exact e1.symm
      have hI1 := h1.out.its _ (List.getElem_mem hkl)
      have hI2 := h2.out.its _ (List.getElem_mem hkl2)
      have hsx := hs.out _ (List.getElem_mem hkl)
      obtain ⟨x, hx⟩ : ∃ x, x = L[k] := ⟨_, rfl⟩
      obtain ⟨y, hy⟩ : ∃ y, y = L2[k] := ⟨_, rfl⟩
      rw [← hx] at e0 e1 e2 e3 e4 e5 e6 e7 e8 hve hI1 hsx
      rw [← hy] at t0 t1 t2 t3 t4 t5 t6 t7 t8 hve hI2
      clear hx hy
      obtain ⟨xnum, xcu, xcr, xat, xA, xn, xc, xits, xnet, xvat, xgr, xcd⟩ := x
      obtain ⟨ynum, ycu, ycr, yat, yA, yn, yc, yits, ynet, yvat, ygr, ycd⟩ := y
      simp only [Im.val, Iv.mk.injEq] at e0 e1 e2 e3 e4 e5 e6 e7 e8 t0 t1 t2 t3 t4 t5 t6 t7 t8 hve hsx
      obtain ⟨v1, v2, v3, v4, v5, v6, v7, v8, v9⟩ := hve
      have hyn : xn = yn := by
        have e1 : xits.length = xn := hI1.1.len
        have e2 : yits.length = yn := hI2.1.len
        rw [← e1, ← e2, v5]
      have hxn : xn ≤ 100000 := by have e1 : xits.length = xn := hI1.1.len; omega
      subst v1
      subst v2
      subst v3
      subst v4
      subst v5
      subst v6
      subst v7
      subst v8
      subst v9
      subst hyn
      subst hA
      subst hA2
      replace hI1 := Lib.hid hI1
      replace hI2 := Lib.hid hI2
      replace hsx := Lib.hid hsx
      have hBx := Lib.hid ((hB.out.alloc (.cells #[Value.int .i64 xnum, Value.string xcu, Value.string xcr, Value.int .i64 xat, Value.slice xA xn xc, Value.int .i64 xnet, Value.int .i64 xvat, Value.int .i64 xgr, Value.int .i64 xcd] 45)).alloc (.cells #[Value.int .i64 xnum, Value.string xcu, Value.string xcr, Value.int .i64 xat, Value.slice yA xn yc, Value.int .i64 xnet, Value.int .i64 xvat, Value.int .i64 xgr, Value.int .i64 xcd] 45))
      have hCx1 := hC.out.alloc (.cells #[Value.int .i64 xnum, Value.string xcu, Value.string xcr, Value.int .i64 xat, Value.slice xA xn xc, Value.int .i64 xnet, Value.int .i64 xvat, Value.int .i64 xgr, Value.int .i64 xcd] 45)
      have cc0 : ((wr.alloc (.cells #[Value.int .i64 xnum, Value.string xcu, Value.string xcr, Value.int .i64 xat, Value.slice xA xn xc, Value.int .i64 xnet, Value.int .i64 xvat, Value.int .i64 xgr, Value.int .i64 xcd] 45))).cell? ⟨(w.heap.size + 1), 0, none⟩ = some (Value.slice (some ad2) n c2) := (hCx1).cell 0
      have hCx := Lib.hid (hCx1.alloc (.cells #[Value.int .i64 xnum, Value.string xcu, Value.string xcr, Value.int .i64 xat, Value.slice yA xn yc, Value.int .i64 xnet, Value.int .i64 xvat, Value.int .i64 xgr, Value.int .i64 xcd] 45))
      have hX1 := (Blk.new wr 45 #[Value.int .i64 xnum, Value.string xcu, Value.string xcr, Value.int .i64 xat, Value.slice xA xn xc, Value.int .i64 xnet, Value.int .i64 xvat, Value.int .i64 xgr, Value.int .i64 xcd]).alloc (.cells #[Value.int .i64 xnum, Value.string xcu, Value.string xcr, Value.int .i64 xat, Value.slice yA xn yc, Value.int .i64 xnet, Value.int .i64 xvat, Value.int .i64 xgr, Value.int .i64 xcd] 45)
      obtain ⟨m0, m1, m2, m3, m4, m5, m6, m7, m8⟩ := cells9 (((wr.alloc (.cells #[Value.int .i64 xnum, Value.string xcu, Value.string xcr, Value.int .i64 xat, Value.slice xA xn xc, Value.int .i64 xnet, Value.int .i64 xvat, Value.int .i64 xgr, Value.int .i64 xcd] 45)).alloc (.cells #[Value.int .i64 xnum, Value.string xcu, Value.string xcr, Value.int .i64 xat, Value.slice yA xn yc, Value.int .i64 xnet, Value.int .i64 xvat, Value.int .i64 xgr, Value.int .i64 xcd] 45))) (wr.heap.size) (Value.int .i64 xnum) (Value.string xcu) (Value.string xcr) (Value.int .i64 xat) (Value.slice xA xn xc) (Value.int .i64 xnet) (Value.int .i64 xvat) (Value.int .i64 xgr) (Value.int .i64 xcd) (hX1)
      have hX2 := Blk.new (wr.alloc (.cells #[Value.int .i64 xnum, Value.string xcu, Value.string xcr, Value.int .i64 xat, Value.slice xA xn xc, Value.int .i64 xnet, Value.int .i64 xvat, Value.int .i64 xgr, Value.int .i64 xcd] 45)) 45 #[Value.int .i64 xnum, Value.string xcu, Value.string xcr, Value.int .i64 xat, Value.slice yA xn yc, Value.int .i64 xnet, Value.int .i64 xvat, Value.int .i64 xgr, Value.int .i64 xcd]
      rw [show (wr.alloc (.cells #[Value.int .i64 xnum, Value.string xcu, Value.string xcr, Value.int .i64 xat, Value.slice xA xn xc, Value.int .i64 xnet, Value.int .i64 xvat, Value.int .i64 xgr, Value.int .i64 xcd] 45)).heap.size = wr.heap.size + 1 by simp] at hX2
      obtain ⟨p0, p1, p2, p3, p4, p5, p6, p7, p8⟩ := cells9 (((wr.alloc (.cells #[Value.int .i64 xnum, Value.string xcu, Value.string xcr, Value.int .i64 xat, Value.slice xA xn xc, Value.int .i64 xnet, Value.int .i64 xvat, Value.int .i64 xgr, Value.int .i64 xcd] 45)).alloc (.cells #[Value.int .i64 xnum, Value.string xcu, Value.string xcr, Value.int .i64 xat, Value.slice yA xn yc, Value.int .i64 xnet, Value.int .i64 xvat, Value.int .i64 xgr, Value.int .i64 xcd] 45))) ((wr.heap.size + 1)) (Value.int .i64 xnum) (Value.string xcu) (Value.string xcr) (Value.int .i64 xat) (Value.slice yA xn yc) (Value.int .i64 xnet) (Value.int .i64 xvat) (Value.int .i64 xgr) (Value.int .i64 xcd) (hX2)
      have hbx : Hid (Below w.heap.size w ((wr.alloc (.cells #[Value.int .i64 xnum, Value.string xcu, Value.string xcr, Value.int .i64 xat, Value.slice xA xn xc, Value.int .i64 xnet, Value.int .i64 xvat, Value.int .i64 xgr, Value.int .i64 xcd] 45)).alloc (.cells #[Value.int .i64 xnum, Value.string xcu, Value.string xcr, Value.int .i64 xat, Value.slice yA xn yc, Value.int .i64 xnet, Value.int .i64 xvat, Value.int .i64 xgr, Value.int .i64 xcd] 45))) := (hb.out.alloc hb.out.size _).alloc (hb.out.alloc hb.out.size _).size _
      obtain ⟨u0, u1, u2, u3, u4, u5, u6, u7, u8⟩ := (show (wr.alloc (.cells #[Value.int .i64 xnum, Value.string xcu, Value.string xcr, Value.int .i64 xat, Value.slice xA xn xc, Value.int .i64 xnet, Value.int .i64 xvat, Value.int .i64 xgr, Value.int .i64 xcd] 45)).cell? (ad2.add (k * 9)) = some (Value.int .i64 xnum) ∧ (wr.alloc (.cells #[Value.int .i64 xnum, Value.string xcu, Value.string xcr, Value.int .i64 xat, Value.slice xA xn xc, Value.int .i64 xnet, Value.int .i64 xvat, Value.int .i64 xgr, Value.int .i64 xcd] 45)).cell? ⟨(ad2.add (k * 9)).block, (ad2.add (k * 9)).off + 1, none⟩ = some (Value.string xcu) ∧ (wr.alloc (.cells #[Value.int .i64 xnum, Value.string xcu, Value.string xcr, Value.int .i64 xat, Value.slice xA xn xc, Value.int .i64 xnet, Value.int .i64 xvat, Value.int .i64 xgr, Value.int .i64 xcd] 45)).cell? ⟨(ad2.add (k * 9)).block, (ad2.add (k * 9)).off + 2, none⟩ = some (Value.string xcr) ∧ (wr.alloc (.cells #[Value.int .i64 xnum, Value.string xcu, Value.string xcr, Value.int .i64 xat, Value.slice xA xn xc, Value.int .i64 xnet, Value.int .i64 xvat, Value.int .i64 xgr, Value.int .i64 xcd] 45)).cell? ⟨(ad2.add (k * 9)).block, (ad2.add (k * 9)).off + 3, none⟩ = some (Value.int .i64 xat) ∧ (wr.alloc (.cells #[Value.int .i64 xnum, Value.string xcu, Value.string xcr, Value.int .i64 xat, Value.slice xA xn xc, Value.int .i64 xnet, Value.int .i64 xvat, Value.int .i64 xgr, Value.int .i64 xcd] 45)).cell? ⟨(ad2.add (k * 9)).block, (ad2.add (k * 9)).off + 4, none⟩ = some (Value.slice yA xn yc) ∧ (wr.alloc (.cells #[Value.int .i64 xnum, Value.string xcu, Value.string xcr, Value.int .i64 xat, Value.slice xA xn xc, Value.int .i64 xnet, Value.int .i64 xvat, Value.int .i64 xgr, Value.int .i64 xcd] 45)).cell? ⟨(ad2.add (k * 9)).block, (ad2.add (k * 9)).off + 5, none⟩ = some (Value.int .i64 xnet) ∧ (wr.alloc (.cells #[Value.int .i64 xnum, Value.string xcu, Value.string xcr, Value.int .i64 xat, Value.slice xA xn xc, Value.int .i64 xnet, Value.int .i64 xvat, Value.int .i64 xgr, Value.int .i64 xcd] 45)).cell? ⟨(ad2.add (k * 9)).block, (ad2.add (k * 9)).off + 6, none⟩ = some (Value.int .i64 xvat) ∧ (wr.alloc (.cells #[Value.int .i64 xnum, Value.string xcu, Value.string xcr, Value.int .i64 xat, Value.slice xA xn xc, Value.int .i64 xnet, Value.int .i64 xvat, Value.int .i64 xgr, Value.int .i64 xcd] 45)).cell? ⟨(ad2.add (k * 9)).block, (ad2.add (k * 9)).off + 7, none⟩ = some (Value.int .i64 xgr) ∧ (wr.alloc (.cells #[Value.int .i64 xnum, Value.string xcu, Value.string xcr, Value.int .i64 xat, Value.slice xA xn xc, Value.int .i64 xnet, Value.int .i64 xvat, Value.int .i64 xgr, Value.int .i64 xcd] 45)).cell? ⟨(ad2.add (k * 9)).block, (ad2.add (k * 9)).off + 8, none⟩ = some (Value.int .i64 xcd) from ⟨cell_alloc t0 _, cell_alloc t1 _, cell_alloc t2 _, cell_alloc t3 _, cell_alloc t4 _, cell_alloc t5 _, cell_alloc t6 _, cell_alloc t7 _, cell_alloc t8 _⟩)
      replace hX1 := Lib.hid hX1
      replace hX2 := Lib.hid hX2
      clear hCx1 t0 t1 t2 t3 t4 t5 t6 t7 t8 hB hC hb
      go_wp2_with fail
      clear m0 p0 u0 m1 p1 u1 m2 p2 u2 m3 p3 u3 m4 p4 u4 m5 p5 u5 m6 p6 u6 m7 p7 u7 m8 p8 u8 cc0 e0 e1 e2 e3 e4 e5 e6 e7 e8
      generalize ((wr.alloc (.cells #[Value.int .i64 xnum, Value.string xcu, Value.string xcr, Value.int .i64 xat, Value.slice xA xn xc, Value.int .i64 xnet, Value.int .i64 xvat, Value.int .i64 xgr, Value.int .i64 xcd] 45)).alloc (.cells #[Value.int .i64 xnum, Value.string xcu, Value.string xcr, Value.int .i64 xat, Value.slice yA xn yc, Value.int .i64 xnet, Value.int .i64 xvat, Value.int .i64 xgr, Value.int .i64 xcd] 45)) = w9 at *
      obtain ⟨ga, hga⟩ : ∃ ga, ga = wr.heap.size := ⟨_, rfl⟩
      obtain ⟨gb, hgb⟩ : ∃ gb, gb = wr.heap.size + 1 := ⟨_, rfl⟩
      rw [← hgb] at hX2
      rw [← hga] at hX1
      rw [← hgb, ← hga]
      replace hga := Lib.hid hga
      replace hgb := Lib.hid hgb
      go_loopw [95] (fun i wr => ∃ j : Nat, j ≤ xn ∧ i = .int .i64 j ∧ Hid (Blk wr w.heap.size 27 #[Value.slice (some ad) n c]) ∧ Hid (Blk wr (w.heap.size + 1) 27 #[Value.slice (some ad2) n c2]) ∧ Hid (Blk wr ga 45 #[Value.int .i64 xnum, Value.string xcu, Value.string xcr, Value.int .i64 xat, Value.slice xA xn xc, Value.int .i64 xnet, Value.int .i64 xvat, Value.int .i64 xgr, Value.int .i64 xcd]) ∧ Hid (Blk wr gb 45 #[Value.int .i64 xnum, Value.string xcu, Value.string xcr, Value.int .i64 xat, Value.slice yA xn yc, Value.int .i64 xnet, Value.int .i64 xvat, Value.int .i64 xgr, Value.int .i64 xcd]) ∧ Hid (Below w.heap.size w wr)) (fun i _ => xn - (intOf i).toNat)
      case atStart => exact ⟨0, Nat.zero_le _, rfl, hBx.out, hCx.out, hX1.out, hX2.out, hbx.out⟩
      case round =>
        clear hBx hCx hX1 hX2 hbx
        obtain ⟨j, hjn, rfl, hB, hC, hX1, hX2, hb⟩ := hrel
        by_cases hjt : j < xn
        · have hj0 : (0 : Int) ≤ j := by omega
          have hj1 : (j : Int) < xn := by omega
          obtain ⟨ia, hIA, -, s0, s1, s2, s3, s4, s5, s6⟩ := it_cells (hI1.out.1.more hb.out) hjt
          obtain ⟨ib, hIB, -, r0, r1, r2, r3, r4, r5, r6⟩ := it_cells (hI2.out.1.more hb.out) hjt
          have hIA : xA = some ia := hIA
          have hIB : yA = some ib := hIB
          have hjl : j < xits.length := by have e1 : xits.length = xn := hI1.out.1.len; omega
          obtain ⟨it, hit⟩ : ∃ it, it = xits[j] := ⟨_, rfl⟩
          rw [← hit] at s0 s1 s2 s3 s4 s5 s6 r0 r1 r2 r3 r4 r5 r6
          clear hit
          obtain ⟨kind, price, tax, qty, net, vat, gross⟩ := it
          simp only at s0 s1 s2 s3 s4 s5 s6 r0 r1 r2 r3 r4 r5 r6
          subst hIA
          subst hIB
          have a4 : wr.cell? ⟨ga, 4, none⟩ = some (Value.slice (some ia) xn xc) := hX1.out.cell 4
          have b4 : wr.cell? ⟨gb, 4, none⟩ = some (Value.slice (some ib) xn yc) := hX2.out.cell 4
          go_wp2_with fail
          go_quiet (fail)
          go_wp2_with fail
          go_roundw
          case rel => exact ⟨j + 1, by omega, by go_num, hB.out.drewN _, hC.out.drewN _, hX1.out.drewN _, hX2.out.drewN _, below_drewN hb.out _⟩
          case measure => simp [intOf]; omega
        · go_wp2_with fail
          go_roundw
          case rel => exact ⟨k + 1, by omega, by go_num, hB.out, hC.out, hb.out⟩
          case measure => simp [intOf]; omega
    · go_wp2_with fail
      go_ret
      exact ⟨rfl, hb.out⟩
end Go.Proofs.Ytadgdbakgmjekaa
