/- Invoices: the law of runs, walked. -/
import Derived.Test.YtadgdbakgmjekaaIN
set_option linter.unusedVariables false
set_option linter.unusedSimpArgs false
namespace Go.Proofs.Ytadgdbakgmjekaa
open Go.RowKit
theorem GoodM.stB {w w' : World} {A : Option Addr} {n c : Nat} {L : List Im} {g : Nat} {ty : TypeId} {B : Option Addr} {m k : Nat} (h : GoodM w A n c L) (hR : Blk w g ty #[.slice B m k]) (hg : w.grownBy w' (some g)) : GoodM w' A n c L := ⟨h.at_.stB hR hg, h.ok⟩
set_option maxRecDepth 100000 in
set_option maxHeartbeats 6000000 in
theorem lawRuns (A : Option Addr) (n c : Nat) (l : List Ox) (w : World) (h : LAt oC 6 w w.heap.size A n l) (hc : n ≤ c) (hm : c ≤ maxLen) (ho : ∀ o ∈ l, OxAt w o) : Calls Try.prog 3 #[.slice A n c] w fun e w' => e = .returned (.bool true) ∧ Below w.heap.size w w' := by
  have hl := Lib.hid h.len
  have hsm := Lib.hid (smallO_any A n c l w h (Nat.le_trans hc hm))
  replace h := Lib.hid h
  replace ho := Lib.hid ho
  clear hc hm
  go_enter Try.func3, Try.ntmps3
  go_wp2_with fail
  refine hsm.out.mono ?_; rintro e w1 ⟨⟨b, rfl, hb70⟩, hq⟩
  replace hq := Lib.hid hq
  clear hsm
  cases b with
  | false =>
    clear hb70
    go_wp2_with fail
    refine (ex_any _).mono ?_; rintro e w9 ⟨rfl, hq9⟩
    go_wp2_with fail
    go_ret
    exact ⟨rfl, hq.out.trans (hq9.mono hq.out.size)⟩
  | true =>
    obtain ⟨hn40, h700⟩ := hb70 rfl
    have h70 := Lib.hid h700
    clear hb70 h700
    have hB := Lib.hid ((Blk.new w1 27 #[Value.slice none 0 0]).alloc (.cells #[Value.slice none 0 0] 27))
    have hC := Blk.new (w1.alloc (.cells #[Value.slice none 0 0] 27)) 27 #[Value.slice none 0 0]
    rw [show (w1.alloc (.cells #[Value.slice none 0 0] 27)).heap.size = w1.heap.size + 1 by simp] at hC
    replace hC := Lib.hid hC
    have hb := Lib.hid ((hq.out.alloc hq.out.size (.cells #[Value.slice none 0 0] 27)).alloc (hq.out.alloc hq.out.size (.cells #[Value.slice none 0 0] 27)).size (.cells #[Value.slice none 0 0] 27))
    have hge_gb : Hid (w.heap.size ≤ w1.heap.size) := hq.out.size
    clear hq
    go_wp2_with fail
    generalize ((w1.alloc (.cells #[Value.slice none 0 0] 27)).alloc (.cells #[Value.slice none 0 0] 27)) = w0 at *
    obtain ⟨gb, hgb⟩ : ∃ gb, gb = w1.heap.size := ⟨_, rfl⟩
    obtain ⟨gc, hgc⟩ : ∃ gc, gc = w1.heap.size + 1 := ⟨_, rfl⟩
    have hne_bc : Hid (gb ≠ gc) := by show gb ≠ gc; omega
    have hge_gc : Hid (w.heap.size ≤ gc) := by show w.heap.size ≤ gc; have := hge_gb.out; omega
    rw [← hgc] at hC
    rw [← hgb] at hB hge_gb
    rw [← hgc, ← hgb]
    replace hgb := Lib.hid hgb
    replace hgc := Lib.hid hgc
    go_loopw [17] (fun i wr => ∃ (k n1 : Nat) (A1 : Option Addr) (c1 : Nat) (L1 : List Im) (A2 : Option Addr) (c2 : Nat) (L2 : List Im), k ≤ n ∧ i = .int .i64 k ∧ n1 ≤ k ∧ Hid (Blk wr gb 27 #[Value.slice A1 n1 c1]) ∧ Hid (Blk wr gc 27 #[Value.slice A2 n1 c2]) ∧ Hid (GoodM wr A1 n1 c1 L1) ∧ Hid (GoodM wr A2 n1 c2 L2) ∧ Hid (L1.map Im.val = L2.map Im.val) ∧ Hid (Below w.heap.size w wr)) (fun i _ => n - (intOf i).toNat)
    case atStart => exact ⟨0, 0, none, 0, [], none, 0, [], Nat.zero_le _, rfl, Nat.le_refl _, hB.out, hC.out, GoodM.nil _, GoodM.nil _, rfl, hb.out⟩
    case round =>
      clear hB hC hb
      obtain ⟨k, n1, A1, c1, L1, A2, c2, L2, hkn, rfl, hnk, hB, hC, hG1, hG2, hv, hb⟩ := hrel
      by_cases hlt : k < n
      · have hk0 : (0 : Int) ≤ k := by omega
        have hk1 : (k : Int) < n := by omega
        have hkl : k < l.length := by have := hl.out; omega
        obtain ⟨ad, hA, -, e0, e1, e2, e3, e4, e5⟩ := ox_cells (h.out.more hb.out) hlt
        have hit := ho.out _ (List.getElem_mem hkl)
        have hi70 := h70.out _ (List.getElem_mem hkl)
        obtain ⟨x, hx9⟩ : ∃ x, x = l[k] := ⟨_, rfl⟩
        rw [← hx9] at e0 e1 e2 e3 e4 e5 hit hi70
        clear hx9
        obtain ⟨kind, cust, cur, t, num, iA, iN, iC2, its⟩ := x
        simp only at e0 e1 e2 e3 e4 e5 hi70
        subst hA
        replace hit := Lib.hid hit
        have hbO := a1 wr (.cells #[Value.int .i64 kind, Value.string cust, Value.string cur, Value.int .i64 t, Value.int .i64 num, Value.slice iA iN iC2] 30)
        have hgcl : gc < wr.heap.size := hC.out.lt
        have hgbl : gb < wr.heap.size := hB.out.lt
        replace hB := Lib.hid (hB.out.below hbO hgbl)
        replace hC := Lib.hid (hC.out.below hbO hgcl)
        replace hG1 := Lib.hid (hG1.out.more hbO)
        replace hG2 := Lib.hid (hG2.out.more hbO)
        replace hb := Lib.hid (hb.out.trans (hbO.mono hb.out.size))
        have hO := Lib.hid (Blk.new wr 30 #[Value.int .i64 kind, Value.string cust, Value.string cur, Value.int .i64 t, Value.int .i64 num, Value.slice iA iN iC2])
        clear hbO
        by_cases q0 : kind = 0
        · subst q0
          skip
          obtain ⟨k0, k1, k2, k3, k4, k5⟩ := cells6 ((wr.alloc (.cells #[Value.int .i64 0, Value.string cust, Value.string cur, Value.int .i64 t, Value.int .i64 num, Value.slice iA iN iC2] 30))) (wr.heap.size) (Value.int .i64 0) (Value.string cust) (Value.string cur) (Value.int .i64 t) (Value.int .i64 num) (Value.slice iA iN iC2) (hO.out)
          have x0 : ((wr.alloc (.cells #[Value.int .i64 0, Value.string cust, Value.string cur, Value.int .i64 t, Value.int .i64 num, Value.slice iA iN iC2] 30))).cell? ⟨gb, 0, none⟩ = some (Value.slice A1 n1 c1) := (hB.out).cell 0
          go_wp2_with fail
          clear k0 k1 k2 k3 k4 k5 x0 e0 e1 e2 e3 e4 e5
          generalize (wr.alloc (.cells #[Value.int .i64 0, Value.string cust, Value.string cur, Value.int .i64 t, Value.int .i64 num, Value.slice iA iN iC2] 30)) = w2 at *
          obtain ⟨go, hgo⟩ : ∃ go, go = wr.heap.size := ⟨_, rfl⟩
          rw [← hgo] at hO hgcl hgbl ⊢
          have hne_gb : Hid (go ≠ gb) := by show go ≠ gb; omega
          have hne_gc : Hid (go ≠ gc) := by show go ≠ gc; omega
          replace hgo := Lib.hid hgo
          obtain ⟨B3, E3, hR⟩ : ∃ B E, issueB (L1.map Im.val) cust cur t its = (B, E) := ⟨_, _, rfl⟩
          have hVV := issue_valid2 (b := L1.map Im.val) (cust := cust) (cur := cur) (t := t) (l := its) hG1.out.ok (by rw [List.length_map, hG1.out.at_.len]; omega)
          rw [hR] at hVV
          obtain ⟨hV, hVl⟩ := hVV
          have hLl : (L1.map Im.val).length = n1 := by rw [List.length_map]; exact hG1.out.at_.len
          have hB3 : B3.length ≤ n1 + 1 := by rcases hVl with e | e <;> (dsimp only at e; rw [e]; omega)
          replace hR := Lib.hid hR
          replace hV := Lib.hid hV
          clear hVl hLl
          have hcP := Lib.hid (issue_any A1 n1 c1 L1 cust cur t iA iN iC2 its w2 hG1.out ⟨hit.out.1.more hb.out, hit.out.2⟩ (by omega) (by omega))
          refine hcP.out.mono ?_; rintro e w3 ⟨hr, hq⟩
          obtain ⟨A3, n3x, c3, L3, rfl, hG3, hv3⟩ := hr.of hR.out hV.out
          have hn3 := hG3.nlen hv3
          subst hn3
          clear hr hcP
          replace hO := Lib.hid (hO.out.below hq hO.out.lt)
          replace hB := Lib.hid (hB.out.below hq hB.out.lt)
          replace hC := Lib.hid (hC.out.below hq hC.out.lt)
          replace hb := Lib.hid (hb.out.trans (hq.mono hb.out.size))
          replace hG2 := Lib.hid (hG2.out.more hq)
          replace hG3 := Lib.hid hG3
          replace hv3 := Lib.hid hv3
          clear hq hG1
          have x0 : (w3).cell? ⟨gb, 0, none⟩ = some (Value.slice A1 n1 c1) := (hB.out).cell 0; have xz0 : (w3).frozen? ⟨gb, 0, none⟩ = false := (hB.out).frozen 0
          have hgs : w3.grownBy (w3.setCell ⟨gb, 0, none⟩ (Value.slice A3 B3.length c3)) (some gb) := only_set (World.grownBy.refl _ _) 0 _
          have hG2s := Lib.hid ((hG2).out.stB hB.out hgs)
          have hG3s := Lib.hid ((hG3).out.stB hB.out hgs)
          have hOs := Lib.hid (hO.out.grown hgs (by intro e; injection e with e; exact hne_gb.out e))
          have hCs := Lib.hid (hC.out.grown hgs (by intro e; injection e with e; exact hne_bc.out e.symm))
          have hBs : Hid (Blk (w3.setCell ⟨gb, 0, none⟩ (Value.slice A3 B3.length c3)) gb 27 #[Value.slice A3 B3.length c3]) := hB.out.set_ 0 _
          have hbs : Hid (Below w.heap.size w (w3.setCell ⟨gb, 0, none⟩ (Value.slice A3 B3.length c3))) := hb.out.grown hgs hb.out.size (fun g8 e8 => by injection e8 with e8; have := hge_gb.out; omega)
          clear hgs hG2 hG3 hO hC hB hb
          have hO := hOs
          have hC := hCs
          have hB := hBs
          have hb := hbs
          have hG2 := hG2s
          have hG3 := hG3s
          clear hOs hCs hBs hbs hG2s hG3s
          have hcR0 := rissue_any A2 n1 c2 L2 cust cur t iA iN iC2 its (w3.setCell ⟨gb, 0, none⟩ (Value.slice A3 B3.length c3)) hG2.out ⟨hit.out.1.more hb.out, hit.out.2⟩ (by omega) (by omega)
          rw [← hv.out] at hcR0
          replace hcR0 := Lib.hid hcR0
          obtain ⟨k0, k1, k2, k3, k4, k5⟩ := cells6 ((w3.setCell ⟨gb, 0, none⟩ (Value.slice A3 B3.length c3))) (go) (Value.int .i64 0) (Value.string cust) (Value.string cur) (Value.int .i64 t) (Value.int .i64 num) (Value.slice iA iN iC2) (hO.out)
          have y0 : ((w3.setCell ⟨gb, 0, none⟩ (Value.slice A3 B3.length c3))).cell? ⟨gc, 0, none⟩ = some (Value.slice A2 n1 c2) := (hC.out).cell 0
          go_wp2_with fail
          clear k0 k1 k2 k3 k4 k5 x0 xz0 y0
          generalize (w3.setCell ⟨gb, 0, none⟩ (Value.slice A3 B3.length c3)) = w3s at *
          refine hcR0.out.mono ?_; rintro e w4 ⟨hr, hq⟩
          obtain ⟨A4, n4x, c4, L4, rfl, hG4, hv4⟩ := hr.of hR.out hV.out
          have hn4 := hG4.nlen hv4
          subst hn4
          clear hr hcR0
          replace hO := Lib.hid (hO.out.below hq hO.out.lt)
          replace hB := Lib.hid (hB.out.below hq hB.out.lt)
          replace hC := Lib.hid (hC.out.below hq hC.out.lt)
          replace hb := Lib.hid (hb.out.trans (hq.mono hb.out.size))
          replace hG3 := Lib.hid (hG3.out.more hq)
          replace hG4 := Lib.hid hG4
          replace hv4 := Lib.hid hv4
          clear hq hG2
          have x0 : (w4).cell? ⟨gc, 0, none⟩ = some (Value.slice A2 n1 c2) := (hC.out).cell 0; have xz0 : (w4).frozen? ⟨gc, 0, none⟩ = false := (hC.out).frozen 0
          have hgs : w4.grownBy (w4.setCell ⟨gc, 0, none⟩ (Value.slice A4 B3.length c4)) (some gc) := only_set (World.grownBy.refl _ _) 0 _
          have hG3s := Lib.hid ((hG3).out.stB hC.out hgs)
          have hG4s := Lib.hid ((hG4).out.stB hC.out hgs)
          have hOs := Lib.hid (hO.out.grown hgs (by intro e; injection e with e; exact hne_gc.out e))
          have hBs := Lib.hid (hB.out.grown hgs (by intro e; injection e with e; exact hne_bc.out e))
          have hCs : Hid (Blk (w4.setCell ⟨gc, 0, none⟩ (Value.slice A4 B3.length c4)) gc 27 #[Value.slice A4 B3.length c4]) := hC.out.set_ 0 _
          have hbs : Hid (Below w.heap.size w (w4.setCell ⟨gc, 0, none⟩ (Value.slice A4 B3.length c4))) := hb.out.grown hgs hb.out.size (fun g8 e8 => by injection e8 with e8; have := hge_gc.out; omega)
          clear hgs hG3 hG4 hO hB hC hb
          have hO := hOs
          have hB := hBs
          have hC := hCs
          have hb := hbs
          have hG3 := hG3s
          have hG4 := hG4s
          clear hOs hBs hCs hbs hG3s hG4s
          have u0 : ((w4.setCell ⟨gc, 0, none⟩ (Value.slice A4 B3.length c4))).cell? ⟨gb, 0, none⟩ = some (Value.slice A3 B3.length c3) := (hB.out).cell 0
          have y0 : ((w4.setCell ⟨gc, 0, none⟩ (Value.slice A4 B3.length c4))).cell? ⟨gc, 0, none⟩ = some (Value.slice A4 B3.length c4) := (hC.out).cell 0
          go_wp2_with fail
          clear x0 xz0 u0 y0
          generalize (w4.setCell ⟨gc, 0, none⟩ (Value.slice A4 B3.length c4)) = w4s at *
          refine (sameBook_any A3 A4 B3.length c3 c4 L3 L4 _ hG3.out.at_ hG4.out.at_ (hv3.out.trans hv4.out.symm) (by omega) hG3.out.small_all).mono ?_; rintro e w9 ⟨rfl, hq⟩
          replace hB := Lib.hid (hB.out.below hq hB.out.lt)
          replace hC := Lib.hid (hC.out.below hq hC.out.lt)
          replace hG3 := Lib.hid (hG3.out.more hq)
          replace hG4 := Lib.hid (hG4.out.more hq)
          replace hb := Lib.hid (hb.out.trans (hq.mono hb.out.size))
          clear hq
          go_wp2_with fail
          go_roundw
          case rel => exact ⟨k + 1, B3.length, A3, c3, L3, A4, c4, L4, by omega, by go_num, by omega, hB.out, hC.out, hG3.out, hG4.out, hv3.out.trans hv4.out.symm, hb.out⟩
          case measure => simp [intOf]; omega
        · have d0 : (kind == 0) = false := by simpa using q0
          by_cases q1 : kind = 1
          · subst q1
            skip
            obtain ⟨k0, k1, k2, k3, k4, k5⟩ := cells6 ((wr.alloc (.cells #[Value.int .i64 1, Value.string cust, Value.string cur, Value.int .i64 t, Value.int .i64 num, Value.slice iA iN iC2] 30))) (wr.heap.size) (Value.int .i64 1) (Value.string cust) (Value.string cur) (Value.int .i64 t) (Value.int .i64 num) (Value.slice iA iN iC2) (hO.out)
            have x0 : ((wr.alloc (.cells #[Value.int .i64 1, Value.string cust, Value.string cur, Value.int .i64 t, Value.int .i64 num, Value.slice iA iN iC2] 30))).cell? ⟨gb, 0, none⟩ = some (Value.slice A1 n1 c1) := (hB.out).cell 0
            go_wp2_with fail
            clear k0 k1 k2 k3 k4 k5 x0 e0 e1 e2 e3 e4 e5
            generalize (wr.alloc (.cells #[Value.int .i64 1, Value.string cust, Value.string cur, Value.int .i64 t, Value.int .i64 num, Value.slice iA iN iC2] 30)) = w2 at *
            obtain ⟨go, hgo⟩ : ∃ go, go = wr.heap.size := ⟨_, rfl⟩
            rw [← hgo] at hO hgcl hgbl ⊢
            have hne_gb : Hid (go ≠ gb) := by show go ≠ gb; omega
            have hne_gc : Hid (go ≠ gc) := by show go ≠ gc; omega
            replace hgo := Lib.hid hgo
            obtain ⟨B3, E3, hR⟩ : ∃ B E, creditB (L1.map Im.val) num t = (B, E) := ⟨_, _, rfl⟩
            have hVV := credit_valid (b := L1.map Im.val) (num := num) (t := t) hG1.out.ok (by rw [List.length_map, hG1.out.at_.len]; omega)
            rw [hR] at hVV
            obtain ⟨hV, hVl⟩ := hVV
            have hLl : (L1.map Im.val).length = n1 := by rw [List.length_map]; exact hG1.out.at_.len
            have hB3 : B3.length ≤ n1 + 1 := by rcases hVl with e | e <;> (dsimp only at e; rw [e]; omega)
            replace hR := Lib.hid hR
            replace hV := Lib.hid hV
            clear hVl hLl
            have hcP := Lib.hid (credit_any A1 n1 c1 L1 num t w2 hG1.out (by omega))
            refine hcP.out.mono ?_; rintro e w3 ⟨hr, hq⟩
            obtain ⟨A3, n3x, c3, L3, rfl, hG3, hv3⟩ := hr.of hR.out hV.out
            have hn3 := hG3.nlen hv3
            subst hn3
            clear hr hcP
            replace hO := Lib.hid (hO.out.below hq hO.out.lt)
            replace hB := Lib.hid (hB.out.below hq hB.out.lt)
            replace hC := Lib.hid (hC.out.below hq hC.out.lt)
            replace hb := Lib.hid (hb.out.trans (hq.mono hb.out.size))
            replace hG2 := Lib.hid (hG2.out.more hq)
            replace hG3 := Lib.hid hG3
            replace hv3 := Lib.hid hv3
            clear hq hG1
            have x0 : (w3).cell? ⟨gb, 0, none⟩ = some (Value.slice A1 n1 c1) := (hB.out).cell 0; have xz0 : (w3).frozen? ⟨gb, 0, none⟩ = false := (hB.out).frozen 0
            have hgs : w3.grownBy (w3.setCell ⟨gb, 0, none⟩ (Value.slice A3 B3.length c3)) (some gb) := only_set (World.grownBy.refl _ _) 0 _
            have hG2s := Lib.hid ((hG2).out.stB hB.out hgs)
            have hG3s := Lib.hid ((hG3).out.stB hB.out hgs)
            have hOs := Lib.hid (hO.out.grown hgs (by intro e; injection e with e; exact hne_gb.out e))
            have hCs := Lib.hid (hC.out.grown hgs (by intro e; injection e with e; exact hne_bc.out e.symm))
            have hBs : Hid (Blk (w3.setCell ⟨gb, 0, none⟩ (Value.slice A3 B3.length c3)) gb 27 #[Value.slice A3 B3.length c3]) := hB.out.set_ 0 _
            have hbs : Hid (Below w.heap.size w (w3.setCell ⟨gb, 0, none⟩ (Value.slice A3 B3.length c3))) := hb.out.grown hgs hb.out.size (fun g8 e8 => by injection e8 with e8; have := hge_gb.out; omega)
            clear hgs hG2 hG3 hO hC hB hb
            have hO := hOs
            have hC := hCs
            have hB := hBs
            have hb := hbs
            have hG2 := hG2s
            have hG3 := hG3s
            clear hOs hCs hBs hbs hG2s hG3s
            have hcR0 := rcredit_any A2 n1 c2 L2 num t (w3.setCell ⟨gb, 0, none⟩ (Value.slice A3 B3.length c3)) hG2.out (by omega)
            rw [← hv.out] at hcR0
            replace hcR0 := Lib.hid hcR0
            obtain ⟨k0, k1, k2, k3, k4, k5⟩ := cells6 ((w3.setCell ⟨gb, 0, none⟩ (Value.slice A3 B3.length c3))) (go) (Value.int .i64 1) (Value.string cust) (Value.string cur) (Value.int .i64 t) (Value.int .i64 num) (Value.slice iA iN iC2) (hO.out)
            have y0 : ((w3.setCell ⟨gb, 0, none⟩ (Value.slice A3 B3.length c3))).cell? ⟨gc, 0, none⟩ = some (Value.slice A2 n1 c2) := (hC.out).cell 0
            go_wp2_with fail
            clear k0 k1 k2 k3 k4 k5 x0 xz0 y0
            generalize (w3.setCell ⟨gb, 0, none⟩ (Value.slice A3 B3.length c3)) = w3s at *
            refine hcR0.out.mono ?_; rintro e w4 ⟨hr, hq⟩
            obtain ⟨A4, n4x, c4, L4, rfl, hG4, hv4⟩ := hr.of hR.out hV.out
            have hn4 := hG4.nlen hv4
            subst hn4
            clear hr hcR0
            replace hO := Lib.hid (hO.out.below hq hO.out.lt)
            replace hB := Lib.hid (hB.out.below hq hB.out.lt)
            replace hC := Lib.hid (hC.out.below hq hC.out.lt)
            replace hb := Lib.hid (hb.out.trans (hq.mono hb.out.size))
            replace hG3 := Lib.hid (hG3.out.more hq)
            replace hG4 := Lib.hid hG4
            replace hv4 := Lib.hid hv4
            clear hq hG2
            have x0 : (w4).cell? ⟨gc, 0, none⟩ = some (Value.slice A2 n1 c2) := (hC.out).cell 0; have xz0 : (w4).frozen? ⟨gc, 0, none⟩ = false := (hC.out).frozen 0
            have hgs : w4.grownBy (w4.setCell ⟨gc, 0, none⟩ (Value.slice A4 B3.length c4)) (some gc) := only_set (World.grownBy.refl _ _) 0 _
            have hG3s := Lib.hid ((hG3).out.stB hC.out hgs)
            have hG4s := Lib.hid ((hG4).out.stB hC.out hgs)
            have hOs := Lib.hid (hO.out.grown hgs (by intro e; injection e with e; exact hne_gc.out e))
            have hBs := Lib.hid (hB.out.grown hgs (by intro e; injection e with e; exact hne_bc.out e))
            have hCs : Hid (Blk (w4.setCell ⟨gc, 0, none⟩ (Value.slice A4 B3.length c4)) gc 27 #[Value.slice A4 B3.length c4]) := hC.out.set_ 0 _
            have hbs : Hid (Below w.heap.size w (w4.setCell ⟨gc, 0, none⟩ (Value.slice A4 B3.length c4))) := hb.out.grown hgs hb.out.size (fun g8 e8 => by injection e8 with e8; have := hge_gc.out; omega)
            clear hgs hG3 hG4 hO hB hC hb
            have hO := hOs
            have hB := hBs
            have hC := hCs
            have hb := hbs
            have hG3 := hG3s
            have hG4 := hG4s
            clear hOs hBs hCs hbs hG3s hG4s
            have u0 : ((w4.setCell ⟨gc, 0, none⟩ (Value.slice A4 B3.length c4))).cell? ⟨gb, 0, none⟩ = some (Value.slice A3 B3.length c3) := (hB.out).cell 0
            have y0 : ((w4.setCell ⟨gc, 0, none⟩ (Value.slice A4 B3.length c4))).cell? ⟨gc, 0, none⟩ = some (Value.slice A4 B3.length c4) := (hC.out).cell 0
            go_wp2_with fail
            clear x0 xz0 u0 y0
            generalize (w4.setCell ⟨gc, 0, none⟩ (Value.slice A4 B3.length c4)) = w4s at *
            refine (sameBook_any A3 A4 B3.length c3 c4 L3 L4 _ hG3.out.at_ hG4.out.at_ (hv3.out.trans hv4.out.symm) (by omega) hG3.out.small_all).mono ?_; rintro e w9 ⟨rfl, hq⟩
            replace hB := Lib.hid (hB.out.below hq hB.out.lt)
            replace hC := Lib.hid (hC.out.below hq hC.out.lt)
            replace hG3 := Lib.hid (hG3.out.more hq)
            replace hG4 := Lib.hid (hG4.out.more hq)
            replace hb := Lib.hid (hb.out.trans (hq.mono hb.out.size))
            clear hq
            go_wp2_with fail
            go_roundw
            case rel => exact ⟨k + 1, B3.length, A3, c3, L3, A4, c4, L4, by omega, by go_num, by omega, hB.out, hC.out, hG3.out, hG4.out, hv3.out.trans hv4.out.symm, hb.out⟩
            case measure => simp [intOf]; omega
          · have d1 : (kind == 1) = false := by simpa using q1
            replace q0 := Lib.hid q0
            replace q1 := Lib.hid q1
            skip
            obtain ⟨k0, k1, k2, k3, k4, k5⟩ := cells6 ((wr.alloc (.cells #[Value.int .i64 kind, Value.string cust, Value.string cur, Value.int .i64 t, Value.int .i64 num, Value.slice iA iN iC2] 30))) (wr.heap.size) (Value.int .i64 kind) (Value.string cust) (Value.string cur) (Value.int .i64 t) (Value.int .i64 num) (Value.slice iA iN iC2) (hO.out)
            have x0 : ((wr.alloc (.cells #[Value.int .i64 kind, Value.string cust, Value.string cur, Value.int .i64 t, Value.int .i64 num, Value.slice iA iN iC2] 30))).cell? ⟨gb, 0, none⟩ = some (Value.slice A1 n1 c1) := (hB.out).cell 0
            go_wp2_with fail
            clear k0 k1 k2 k3 k4 k5 x0 e0 e1 e2 e3 e4 e5
            generalize (wr.alloc (.cells #[Value.int .i64 kind, Value.string cust, Value.string cur, Value.int .i64 t, Value.int .i64 num, Value.slice iA iN iC2] 30)) = w2 at *
            obtain ⟨go, hgo⟩ : ∃ go, go = wr.heap.size := ⟨_, rfl⟩
            rw [← hgo] at hO hgcl hgbl ⊢
            have hne_gb : Hid (go ≠ gb) := by show go ≠ gb; omega
            have hne_gc : Hid (go ≠ gc) := by show go ≠ gc; omega
            replace hgo := Lib.hid hgo
            have hcP := due_any A1 n1 c1 L1 cust cur w2 hG1.out
            obtain ⟨D, hD⟩ : ∃ D, D = dueS (L1.map Im.val) cust cur := ⟨_, rfl⟩
            rw [← hD] at hcP
            replace hcP := Lib.hid hcP
            refine hcP.out.mono ?_; rintro e w3 ⟨rfl, hq⟩
            clear hcP
            replace hO := Lib.hid (hO.out.below hq hO.out.lt)
            replace hB := Lib.hid (hB.out.below hq hB.out.lt)
            replace hC := Lib.hid (hC.out.below hq hC.out.lt)
            replace hb := Lib.hid (hb.out.trans (hq.mono hb.out.size))
            replace hG1 := Lib.hid (hG1.out.more hq)
            replace hG2 := Lib.hid (hG2.out.more hq)
            clear hq
            have hcR := rdue_any A2 n1 c2 L2 cust cur w3 hG2.out
            rw [← hv.out, ← hD] at hcR
            replace hcR := Lib.hid hcR
            replace hD := Lib.hid hD
            obtain ⟨k0, k1, k2, k3, k4, k5⟩ := cells6 (w3) (go) (Value.int .i64 kind) (Value.string cust) (Value.string cur) (Value.int .i64 t) (Value.int .i64 num) (Value.slice iA iN iC2) (hO.out)
            have x0 : (w3).cell? ⟨gc, 0, none⟩ = some (Value.slice A2 n1 c2) := (hC.out).cell 0
            go_wp2_with fail
            clear k0 k1 k2 k3 k4 k5 x0
            refine hcR.out.mono ?_; rintro e w4 ⟨rfl, hq⟩
            clear hcR
            replace hB := Lib.hid (hB.out.below hq hB.out.lt)
            replace hC := Lib.hid (hC.out.below hq hC.out.lt)
            replace hb := Lib.hid (hb.out.trans (hq.mono hb.out.size))
            replace hG1 := Lib.hid (hG1.out.more hq)
            replace hG2 := Lib.hid (hG2.out.more hq)
            clear hq
            have x0 : (w4).cell? ⟨gb, 0, none⟩ = some (Value.slice A1 n1 c1) := (hB.out).cell 0
            have y0 : (w4).cell? ⟨gc, 0, none⟩ = some (Value.slice A2 n1 c2) := (hC.out).cell 0
            go_wp2_with fail
            refine (sameBook_any A1 A2 n1 c1 c2 L1 L2 _ hG1.out.at_ hG2.out.at_ hv.out (by omega) hG1.out.small_all).mono ?_; rintro e w9 ⟨rfl, hq⟩
            clear x0 y0
            replace hB := Lib.hid (hB.out.below hq hB.out.lt)
            replace hC := Lib.hid (hC.out.below hq hC.out.lt)
            replace hG1 := Lib.hid (hG1.out.more hq)
            replace hG2 := Lib.hid (hG2.out.more hq)
            replace hb := Lib.hid (hb.out.trans (hq.mono hb.out.size))
            clear hq
            go_wp2_with fail
            go_roundw
            case rel => exact ⟨k + 1, n1, A1, c1, L1, A2, c2, L2, by omega, by go_num, by omega, hB.out, hC.out, hG1.out, hG2.out, hv.out, hb.out⟩
            case measure => simp [intOf]; omega
      · go_wp2_with fail
        go_ret
        exact ⟨rfl, hb.out⟩
end Go.Proofs.Ytadgdbakgmjekaa
