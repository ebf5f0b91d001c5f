/- Ledger: LedgerDetects, walked where the field 4 is changed. -/
import Derived.Test.YtiggpgeldigknaaLNh
set_option linter.unusedVariables false
set_option linter.unusedSimpArgs false
namespace Go.Proofs.Ytiggpgeldigknaa
open Go.RowKit
set_option maxRecDepth 100000 in
set_option maxHeartbeats 8000000 in
theorem lawDet4 (A : Option Addr) (n cp : Nat) (N : List Nt) (av : Int) (c : Ln) (fld : Int) (w : World) (h : LAt ntC 4 w w.heap.size A n N) (hr : ∀ x ∈ N, NtR x) (hat : 0 ≤ av ∧ av ≤ 255) (hcr : LnR c) (hf0 : 0 ≤ fld ∧ fld ≤ 255) (hf : fld.tmod 6 = 4) :
    Calls Try.prog 13 #[.slice A n cp, .int .u8 av, .agg (lnC c).toArray, .int .u8 fld] w fun e w' => e = .returned (.bool true) ∧ Below w.heap.size w w' := by
  obtain ⟨hat0, hat1⟩ := hat
  obtain ⟨hf0, hf1⟩ := hf0
  obtain ⟨csq, cat, cwh, cwt, con, csm⟩ := c
  have px := Lib.hid (Blk.new w 67 #[Value.int .i64 csq, Value.int .i64 cat, Value.string cwh, Value.string cwt, Value.string con, Value.int .u64 csm])
  have hb := Lib.hid (a1 w (.cells #[Value.int .i64 csq, Value.int .i64 cat, Value.string cwh, Value.string cwt, Value.string con, Value.int .u64 csm] 67))
  have h := Lib.hid (h.more hb.out)
  unfold lnC
  go_enter Try.func13, Try.ntmps13
  go_wp2_with fail
  refine (brief_any A n cp N _ h.out).mono ?_; rintro e w2 ⟨rfl, hq⟩
  have px := Lib.hid (px.out.below hq px.out.lt)
  have hb := Lib.hid (hb.out.trans (hq.mono hb.out.size))
  have h := Lib.hid (h.out.more hq)
  clear hq
  cases hs : briefL N with
  | false =>
    go_wp2_with fail
    refine (awakeL_any _).mono ?_; rintro e wa ⟨rfl, hq⟩
    have hb := Lib.hid (hb.out.trans (hq.mono hb.out.size))
    clear hq
    go_wp2_with fail
    go_ret
    exact ⟨rfl, hb.out⟩
  | true =>
    obtain ⟨k0, k1, k2, k3, k4, k5⟩ := (show w2.cell? ⟨w.heap.size, 0, none⟩ = some (Value.int .i64 csq) ∧ w2.cell? ⟨w.heap.size, 1, none⟩ = some (Value.int .i64 cat) ∧ w2.cell? ⟨w.heap.size, 2, none⟩ = some (Value.string cwh) ∧ w2.cell? ⟨w.heap.size, 3, none⟩ = some (Value.string cwt) ∧ w2.cell? ⟨w.heap.size, 4, none⟩ = some (Value.string con) ∧ w2.cell? ⟨w.heap.size, 5, none⟩ = some (Value.int .u64 csm) from ⟨px.out.cell 0, px.out.cell 1, px.out.cell 2, px.out.cell 3, px.out.cell 4, px.out.cell 5⟩)
    go_wp2_with fail
    clear k0 k1 k2 k3 k4 k5
    have px := Lib.hid (px.out.alloc (.cells #[Value.int .i64 csq, Value.int .i64 cat, Value.string cwh, Value.string cwt, Value.string con, Value.int .u64 csm] 67))
    have h := Lib.hid (h.out.more (a1 w2 (.cells #[Value.int .i64 csq, Value.int .i64 cat, Value.string cwh, Value.string cwt, Value.string con, Value.int .u64 csm] 67)))
    have hb := Lib.hid (below_new hb.out (.cells #[Value.int .i64 csq, Value.int .i64 cat, Value.string cwh, Value.string cwt, Value.string con, Value.int .u64 csm] 67))
    have h1 : LAt lnC 6 (w2.alloc (.cells #[Value.int .i64 csq, Value.int .i64 cat, Value.string cwh, Value.string cwt, Value.string con, Value.int .u64 csm] 67)) (w2.alloc (.cells #[Value.int .i64 csq, Value.int .i64 cat, Value.string cwh, Value.string cwt, Value.string con, Value.int .u64 csm] 67)).heap.size (some ⟨w2.heap.size, 0, none⟩) 1 [(⟨csq, cat, cwh, cwt, con, csm⟩ : Ln)] := (lit_at (e := 67) lnC_len w2 [(⟨csq, cat, cwh, cwt, con, csm⟩ : Ln)] #[Value.int .i64 csq, Value.int .i64 cat, Value.string cwh, Value.string cwt, Value.string con, Value.int .u64 csm] (by simp [flat, lnC])).mono (by simp)
    refine (short_log _ 1 1 [(⟨csq, cat, cwh, cwt, con, csm⟩ : Ln)] _ h1).mono ?_; rintro e w3 ⟨rfl, hq⟩
    have px := Lib.hid (px.out.below hq px.out.lt)
    have hb := Lib.hid (hb.out.trans (hq.mono hb.out.size))
    have h := Lib.hid (h.out.more hq)
    clear hq h1
    have hs1 : Hid (shortL [(⟨csq, cat, cwh, cwt, con, csm⟩ : Ln)] = t3 cwh cwt con) := by show _ = _; simp [shortL, shortLT]
    rw [hs1.out]
    cases ht : t3 cwh cwt con with
    | false =>
      go_wp2_with fail
      refine (awakeL_any _).mono ?_; rintro e wa ⟨rfl, hq⟩
      have hb := Lib.hid (hb.out.trans (hq.mono hb.out.size))
      clear hq
      go_wp2_with fail
      go_ret
      exact ⟨rfl, hb.out⟩
    | true =>
      obtain ⟨hlog, hll⟩ := build_ok N
      have hl30 := brief_len hs
      have hB := fun w h => build_any A n cp N w h hr hs
      generalize buildL N = L at *
      replace hB := Lib.hid hB
      replace hs := Lib.hid hs
      replace hs1 := Lib.hid hs1
      go_wp2_with fail
      refine (hB.out _ h.out).mono ?_; rintro e w4 ⟨⟨AL, nl, cl, rfl, hL, hnc⟩, hq⟩
      have px := Lib.hid (px.out.below hq px.out.lt)
      have hb := Lib.hid (hb.out.trans (hq.mono hb.out.size))
      have hnl : L.length = nl := hL.len
      have hn30 : nl ≤ 30 := by omega
      replace hL := Lib.hid hL
      have hLn := Lib.hid hnl
      clear hq hB hnl h
      replace hnc := Lib.hid hnc
      by_cases hz : nl = 0
      · have hzd : ((nl : Int) == 0) = true := by simpa using hz
        replace hz := Lib.hid hz
        go_wp2_with fail
        refine (awakeL_any _).mono ?_; rintro e wa ⟨rfl, hq⟩
        have hb := Lib.hid (hb.out.trans (hq.mono hb.out.size))
        clear hq
        go_wp2_with fail
        go_ret
        exact ⟨rfl, hb.out⟩
      · have hzd : ((nl : Int) == 0) = false := by simp; omega
        have hnz : (nl : Int) ≠ 0 := by omega
        obtain ⟨k, hk, hlt⟩ : ∃ k : Nat, av % (nl : Int) = k ∧ k < nl := ⟨(av % (nl : Int)).toNat, by have := Int.emod_nonneg av hnz; omega, by have := Int.emod_lt_of_pos av (show 0 < (nl : Int) by omega); have := Int.emod_nonneg av hnz; omega⟩
        have hkt : Int.tmod av (nl : Int) = k := by rw [Int.tmod_eq_emod_of_nonneg hat0]; exact hk
        have hok := log_lnok hlog
        have hgood := Lib.hid hlog.good
        have hkl : k < L.length := by have := hLn.out; omega
        have hS := hlog.all _ (List.getElem_mem hkl)
        obtain ⟨ad, hA, hadb, -⟩ := ln_cells hL.out hlt
        subst hA
        have hdet := detect hlog.good hkl (c := (⟨csq, cat, cwh, cwt, con, csm⟩ : Ln)) (f := 4)
        generalize hx : L[k] = x at hS hdet
        obtain ⟨sq, at_, wh, wt, on, sm⟩ := x
        replace hdet : (⟨sq, at_, wh, wt, con, sm⟩ : Ln) ≠ (⟨sq, at_, wh, wt, on, sm⟩ : Ln) → ¬ (hashL (headL (L.take k)) (⟨sq, at_, wh, wt, con, sm⟩ : Ln) = hashL (headL (L.take k)) (⟨sq, at_, wh, wt, on, sm⟩ : Ln) ∧ sm = sm) → verN (L.set k (⟨sq, at_, wh, wt, con, sm⟩ : Ln)) = k ∧ goodF noLn 0 (L.set k (⟨sq, at_, wh, wt, con, sm⟩ : Ln)) = false := hdet
        have hokX : LnOk (⟨sq, at_, wh, wt, con, sm⟩ : Ln) := by
          have q1 := hS.s; have q2 := hS.a; have q3 := hS.w; have q4 := hS.t; have q5 := hS.o
          have q6 := hcr.s; have q7 := hcr.a
          simp only [t3, Bool.and_eq_true, decide_eq_true_eq] at ht
          dsimp only at q1 q2 q3 q4 q5 q6 q7
          exact ⟨by dsimp only; omega, by dsimp only; omega, by dsimp only; omega⟩
        have hokY : LnOk (⟨sq, at_, wh, wt, on, sm⟩ : Ln) := by rw [← hx]; exact hok _ (List.getElem_mem hkl)
        have hokM : ∀ y ∈ L.set k (⟨sq, at_, wh, wt, con, sm⟩ : Ln), LnOk y := fun y hy => by
          rcases List.mem_or_eq_of_mem_set hy with h | h
          · exact hok y h
          · rw [h]; exact hokX
        replace hx := Lib.hid hx
        replace hok := Lib.hid hok
        replace hdet := Lib.hid hdet
        obtain ⟨i0, hi0, hz0, hz1, hz2⟩ := info_parts ln_info
        replace hi0 := Lib.hid hi0
        replace hz0 := Lib.hid hz0
        replace hz1 := Lib.hid hz1
        replace hz2 := Lib.hid hz2
        have hsx : Hid (∀ j, j < 6 → (lnC (⟨sq, at_, wh, wt, con, sm⟩ : Ln))[j]? = if 4 ≤ j ∧ j < 4 + [Value.string con].length then [Value.string con][j - 4]? else (lnC (⟨sq, at_, wh, wt, on, sm⟩ : Ln))[j]?) := by
          intro j hj
          have : j = 0 ∨ j = 1 ∨ j = 2 ∨ j = 3 ∨ j = 4 ∨ j = 5 := by omega
          rcases this with rfl | rfl | rfl | rfl | rfl | rfl <;> rfl
        have hk0 : (0 : Int) ≤ (k : Int) := by omega
        have hk1 : (k : Int) < (nl : Int) := by omega
        have hM0 : Hid (LOwn lnC 6 67 (w4.alloc (.cells #[] 67)) w4.heap.size (.slice (some ⟨w4.heap.size, 0, none⟩) 0 0) ([] : List Ln)) := ⟨lnC_len, rfl, .inr ⟨w4.heap.size, 0, #[], rfl, Nat.le_refl _, heap_alloc_new w4 _, Nat.le_refl _, Nat.zero_le _, rfl, rfl⟩⟩
        have hL4 := Lib.hid (hL.out.more (a1 w4 (.cells #[] 67)))
        clear hS hlog hll hl30 hcr hz
        replace hk := Lib.hid hk
        go_wp2_with (at_builtin
                     refine wpList_append_any _ rfl (.tmp 38) (.tmp 39) _ rfl w4.heap.size 67 i0 _ 6 72 Try.underlying62 hi0.out hz0.out hz1.out hz2.out rfl (by omega) (.slice (some ⟨w4.heap.size, 0, none⟩) 0 0) 0 [] rfl hM0.out.2 (w4.alloc (.cells #[] 67)).heap.size (some ad) nl cl (flat lnC L) rfl hL4.out.2 (ln_one _) (by simp only [maxLen]; omega) (by omega) (by simp) ?_
                     intro v' w5 hown1 hg1 hat1
                     rw [Nat.zero_add, List.nil_append] at hown1
                     obtain ⟨gm, cm, rfl⟩ : ∃ g c, v' = .slice (some ⟨g, 0, none⟩) nl c := by
                       rcases hown1.2 with ⟨_, e⟩ | ⟨g, c, _, e, _⟩
                       · omega
                       · exact ⟨g, c, e⟩
                     have hown : Hid (LOwn lnC 6 67 w5 w4.heap.size (.slice (some ⟨gm, 0, none⟩) nl cm) L) := ⟨lnC_len, by rw [hLn.out]; exact hown1⟩
                     have px5 := Lib.hid ((px.out.alloc (.cells #[] 67)).grown hg1 (by intro e; have := px.out.lt; simp [Value.ownBlock] at e; omega))
                     have hbm : Below w4.heap.size w4 w5 := (a1 w4 (.cells #[] 67)).grown hg1 (by simp) (fun g e => by simp [Value.ownBlock] at e; omega)
                     have hL5 := Lib.hid (hL.out.more hbm)
                     have hb5 := Lib.hid (hb.out.trans (hbm.mono hb.out.size))
                     have hgb := (hown.out.grown_base hLn.out.symm).1
                     have hwl : w.heap.size < w4.heap.size := px.out.lt
                     have hkm : k * 6 + 4 < nl * 6 := by omega
                     have c5 : w5.cell? ⟨w.heap.size, 4, none⟩ = some (Value.string con) := px5.out.cell 4
                     have m5 : w5.cell? ⟨gm, k * 6 + 4, none⟩ = some (Value.string on) := by
                       have := hown.out.cellAt hLn.out.symm hkl (j := 4) (by decide)
                       rw [hx.out] at this
                       exact this
                     have z5 : w5.frozen? ⟨gm, k * 6 + 4, none⟩ = false := hown.out.frozenAt hLn.out.symm _
                     have hst := hown.out.storep hLn.out.symm hkl (⟨sq, at_, wh, wt, con, sm⟩ : Ln) 4 [Value.string con] (by simp) (by rw [hx.out]; exact hsx.out)
                     replace hst := Lib.hid hst
                     have hbmh := Lib.hid hbm
                     clear hown1 hg1 hat1 hbm)
        have hM1 : LOwn lnC 6 67 (w5.setCell ⟨gm, k * 6 + 4, none⟩ (Value.string con)) w4.heap.size (.slice (some ⟨gm, 0, none⟩) nl cm) (L.set k (⟨sq, at_, wh, wt, con, sm⟩ : Ln)) := hst.out.1
        have hM := hM1.reads (by rw [List.length_set]; exact hLn.out.symm)
        have hcm : nl ≤ cm := by
          obtain ⟨_, cap, e, hc, -⟩ := hM1.form
          injection e with _ _ e3
          rw [e3, ← hLn.out]
          simpa using hc
        have hbl : Below w4.heap.size w4 (w5.setCell ⟨gm, k * 6 + 4, none⟩ (Value.string con)) := below_set hbmh.out hgb _ _
        have hL := Lib.hid (hL.out.more hbl)
        have hb := Lib.hid (hb.out.trans (hbl.mono hb.out.size))
        clear hbmh hM1 hst hsx c5 m5 z5 hown px5 hL5 hb5 hgb hwl hkm hbl hL4 hM0
        generalize w5.setCell ⟨gm, k * 6 + 4, none⟩ (Value.string con) = wm at *
        generalize (⟨gm, 0, none⟩ : Addr) = am at hM ⊢
        replace hM := Lib.hid hM
        have hkn : k ≤ nl := by omega
        have htk : Hid ((L.take k).length = k) := by show _ = _; rw [List.length_take, hLn.out]; omega
        have hkc1 : (k : Int) ≤ (cm : Int) := by omega
        have hkc2 : (k : Int) ≤ (cl : Int) := by have := hnc.out; omega
        have hcell : Hid ((∀ w2, Below wm.heap.size wm w2 → w2.cell? (am.add (k * 6)) = some (Value.int .i64 sq) ∧ w2.cell? ⟨(am.add (k * 6)).block, (am.add (k * 6)).off + 1, none⟩ = some (Value.int .i64 at_) ∧ w2.cell? ⟨(am.add (k * 6)).block, (am.add (k * 6)).off + 2, none⟩ = some (Value.string wh) ∧ w2.cell? ⟨(am.add (k * 6)).block, (am.add (k * 6)).off + 3, none⟩ = some (Value.string wt) ∧ w2.cell? ⟨(am.add (k * 6)).block, (am.add (k * 6)).off + 4, none⟩ = some (Value.string con) ∧ w2.cell? ⟨(am.add (k * 6)).block, (am.add (k * 6)).off + 5, none⟩ = some (Value.int .u64 sm)) ∧ (∀ w2, Below wm.heap.size wm w2 → w2.cell? (ad.add (k * 6)) = some (Value.int .i64 sq) ∧ w2.cell? ⟨(ad.add (k * 6)).block, (ad.add (k * 6)).off + 1, none⟩ = some (Value.int .i64 at_) ∧ w2.cell? ⟨(ad.add (k * 6)).block, (ad.add (k * 6)).off + 2, none⟩ = some (Value.string wh) ∧ w2.cell? ⟨(ad.add (k * 6)).block, (ad.add (k * 6)).off + 3, none⟩ = some (Value.string wt) ∧ w2.cell? ⟨(ad.add (k * 6)).block, (ad.add (k * 6)).off + 4, none⟩ = some (Value.string on) ∧ w2.cell? ⟨(ad.add (k * 6)).block, (ad.add (k * 6)).off + 5, none⟩ = some (Value.int .u64 sm))) := by
          refine ⟨fun w2 hw => ?_, fun w2 hw => ?_⟩
          · obtain ⟨ad', e, -, e0, e1, e2, e3, e4, e5⟩ := ln_cells (hM.out.more hw) hlt
            injection e with e
            subst e
            rw [List.getElem_set_self] at e0 e1 e2 e3 e4 e5
            exact ⟨e0, e1, e2, e3, e4, e5⟩
          · obtain ⟨ad', e, -, e0, e1, e2, e3, e4, e5⟩ := ln_cells (hL.out.more hw) hlt
            injection e with e
            subst e
            rw [hx.out] at e0 e1 e2 e3 e4 e5
            exact ⟨e0, e1, e2, e3, e4, e5⟩
        obtain ⟨hd, hhd⟩ : ∃ x, x = headL (L.take k) := ⟨_, rfl⟩
        rw [← hhd] at hdet
        have hh1 : Hid (∀ w2, Below wm.heap.size wm w2 → Calls Try.prog 43 #[.slice (some am) k cm] w2 fun e w' => e = .returned (.int .u64 hd) ∧ w' = w2) := fun w2 hw => by
          have := rhead_any (some am) k cm ((L.set k (⟨sq, at_, wh, wt, con, sm⟩ : Ln)).take k) w2 ((hM.out.more hw).take hkn) (by omega)
          rw [List.take_set_of_le (Nat.le_refl _), ← hhd] at this
          exact this
        have hh2 : Hid (∀ w2, Below wm.heap.size wm w2 → Calls Try.prog 43 #[.slice (some ad) k cl] w2 fun e w' => e = .returned (.int .u64 hd) ∧ w' = w2) := fun w2 hw => by
          have := rhead_any (some ad) k cl (L.take k) w2 ((hL.out.more hw).take hkn) (by omega)
          rw [← hhd] at this
          exact this
        have hs1 : Hid (∀ w2, Calls Try.prog 49 #[.int .u64 hd, .agg #[Value.int .i64 sq, Value.int .i64 at_, Value.string wh, Value.string wt, Value.string con, Value.int .u64 sm]] w2 fun e w' => e = .returned (.int .u64 (hashL hd (⟨sq, at_, wh, wt, con, sm⟩ : Ln))) ∧ Below w2.heap.size w2 w') := fun w2 => rhash_any hd (⟨sq, at_, wh, wt, con, sm⟩ : Ln) w2 hokX
        have hs2 : Hid (∀ w2, Calls Try.prog 49 #[.int .u64 hd, .agg #[Value.int .i64 sq, Value.int .i64 at_, Value.string wh, Value.string wt, Value.string on, Value.int .u64 sm]] w2 fun e w' => e = .returned (.int .u64 (hashL hd (⟨sq, at_, wh, wt, on, sm⟩ : Ln))) ∧ Below w2.heap.size w2 w') := fun w2 => rhash_any hd (⟨sq, at_, wh, wt, on, sm⟩ : Ln) w2 hokY
        generalize hashL hd (⟨sq, at_, wh, wt, con, sm⟩ : Ln) = hm at hs1 hdet
        generalize hashL hd (⟨sq, at_, wh, wt, on, sm⟩ : Ln) = hl at hs2 hdet
        replace hhd := Lib.hid hhd
        replace hokX := Lib.hid hokX
        replace hokY := Lib.hid hokY
        replace hokM := Lib.hid hokM
        refine RM.region [] [] (F := F20 am ad nl cm cl k #[Value.int .i64 sq, Value.int .i64 at_, Value.string wh, Value.string wt, Value.string con, Value.int .u64 sm] #[Value.int .i64 sq, Value.int .i64 at_, Value.string wh, Value.string wt, Value.string on, Value.int .u64 sm] hd hm hl) (W := fun wz => Below wm.heap.size wm wz) (R := fun _ => Rb) (S := noS) (G := noG) rfl F20_more (fun _ _ _ _ _ _ _ => trivial) (fun _ _ _ _ _ h => h.elim) (fun _ _ _ _ _ h => h.elim) (by kernel_rfl) (by kernel_rfl) (by kernel_rfl) (by kernel_rfl) (by kernel_rfl) ?_ ?_ ?_ (by kernel_rfl) ?_
        · exact (Below.refl _ _).drew
        · intro t ht
          unfold F20
          split <;> first | trivial | exact rfl | (exact absurd ht (by decide))
        · simp only [List.forall_mem_cons, List.not_mem_nil, false_implies, implies_true, and_true]
          refine ⟨?_, ?_, ?_, ?_, ?_, ?_, ?_, ?_, ?_, ?_, ?_, ?_, ?_, ?_, ?_, ?_, ?_, ?_, ?_, ?_⟩
          · intro a w2 hw _ hf K hK
            have f0 := hf 11 rfl
            simp only [F20] at f0
            clear hf
            go_simp
            exact hK _ _ _ rfl rfl hw (Below.refl _ _) (fun h => absurd h (by decide))
          · intro a w2 hw _ hf K hK
            have f0 := hf 10 rfl
            simp only [F20] at f0
            clear hf
            go_simp
            exact hK _ _ _ rfl rfl hw (Below.refl _ _) (fun h => absurd h (by decide))
          · intro a w2 hw _ hf K hK
            have f0 := hf 90 rfl
            have f1 := hf 91 rfl
            simp only [F20] at f0 f1
            clear hf
            go_simp
            exact hK _ _ _ rfl rfl hw (Below.refl _ _) (fun h => absurd h (by decide))
          · intro a w2 hw _ hf K hK
            have f0 := hf 92 rfl
            simp only [F20] at f0
            clear hf
            go_simp
            refine (hh1.out w2 hw).mono ?_; rintro e w5 ⟨rfl, rfl⟩
            exact hK _ _ _ rfl rfl hw (Below.refl _ _) (fun h => absurd h (by decide))
          · intro a w2 hw _ hf K hK
            have f0 := hf 11 rfl
            simp only [F20] at f0
            clear hf
            go_simp
            exact hK _ _ _ rfl rfl hw (Below.refl _ _) (fun h => absurd h (by decide))
          · intro a w2 hw _ hf K hK
            have f0 := hf 10 rfl
            simp only [F20] at f0
            clear hf
            go_simp
            exact hK _ _ _ rfl rfl hw (Below.refl _ _) (fun h => absurd h (by decide))
          · intro a w2 hw _ hf K hK
            have f0 := hf 94 rfl
            have f1 := hf 95 rfl
            simp only [F20] at f0 f1
            clear hf
            go_simp
            exact hK _ _ _ rfl rfl hw (Below.refl _ _) (fun h => absurd h (by decide))
          · intro a w2 hw _ hf K hK
            have f0 := hf 96 rfl
            simp only [F20] at f0
            clear hf
            obtain ⟨x0, x1, x2, x3, x4, x5⟩ := hcell.out.1 w2 hw
            go_simp
            exact hK _ _ _ rfl rfl hw (Below.refl _ _) (fun h => absurd h (by decide))
          · intro a w2 hw _ hf K hK
            have f0 := hf 93 rfl
            have f1 := hf 97 rfl
            simp only [F20] at f0 f1
            clear hf
            go_simp
            refine (hs1.out w2).mono ?_; rintro e w5 ⟨rfl, hb⟩
            exact hK _ _ _ rfl rfl (hw.trans (hb.mono hw.size)) hb (fun h => absurd h (by decide))
          · intro a w2 hw _ hf K hK
            have f0 := hf 9 rfl
            simp only [F20] at f0
            clear hf
            go_simp
            exact hK _ _ _ rfl rfl hw (Below.refl _ _) (fun h => absurd h (by decide))
          · intro a w2 hw _ hf K hK
            have f0 := hf 10 rfl
            simp only [F20] at f0
            clear hf
            go_simp
            exact hK _ _ _ rfl rfl hw (Below.refl _ _) (fun h => absurd h (by decide))
          · intro a w2 hw _ hf K hK
            have f0 := hf 99 rfl
            have f1 := hf 100 rfl
            simp only [F20] at f0 f1
            clear hf
            go_simp
            exact hK _ _ _ rfl rfl hw (Below.refl _ _) (fun h => absurd h (by decide))
          · intro a w2 hw _ hf K hK
            have f0 := hf 101 rfl
            simp only [F20] at f0
            clear hf
            go_simp
            refine (hh2.out w2 hw).mono ?_; rintro e w5 ⟨rfl, rfl⟩
            exact hK _ _ _ rfl rfl hw (Below.refl _ _) (fun h => absurd h (by decide))
          · intro a w2 hw _ hf K hK
            have f0 := hf 9 rfl
            simp only [F20] at f0
            clear hf
            go_simp
            exact hK _ _ _ rfl rfl hw (Below.refl _ _) (fun h => absurd h (by decide))
          · intro a w2 hw _ hf K hK
            have f0 := hf 10 rfl
            simp only [F20] at f0
            clear hf
            go_simp
            exact hK _ _ _ rfl rfl hw (Below.refl _ _) (fun h => absurd h (by decide))
          · intro a w2 hw _ hf K hK
            have f0 := hf 103 rfl
            have f1 := hf 104 rfl
            simp only [F20] at f0 f1
            clear hf
            go_simp
            exact hK _ _ _ rfl rfl hw (Below.refl _ _) (fun h => absurd h (by decide))
          · intro a w2 hw _ hf K hK
            have f0 := hf 105 rfl
            simp only [F20] at f0
            clear hf
            obtain ⟨y0, y1, y2, y3, y4, y5⟩ := hcell.out.2 w2 hw
            go_simp
            exact hK _ _ _ rfl rfl hw (Below.refl _ _) (fun h => absurd h (by decide))
          · intro a w2 hw _ hf K hK
            have f0 := hf 102 rfl
            have f1 := hf 106 rfl
            simp only [F20] at f0 f1
            clear hf
            go_simp
            refine (hs2.out w2).mono ?_; rintro e w5 ⟨rfl, hb⟩
            exact hK _ _ _ rfl rfl (hw.trans (hb.mono hw.size)) hb (fun h => absurd h (by decide))
          · intro a w2 hw _ hf K hK
            have f0 := hf 98 rfl
            have f1 := hf 107 rfl
            simp only [F20] at f0 f1
            clear hf
            go_simp
            exact hK _ _ _ rfl rfl hw (Below.refl _ _) (fun h => absurd h (by decide))
          · intro a w2 hw _ hf K hK
            have f0 := hf 108 rfl
            simp only [F20] at f0
            clear hf
            go_simp
            exact hK _ _ _ rfl rfl hw (Below.refl _ _) (fun h => absurd h (by decide))
        · intro a' w9 hd hs hw hout hf _
          have h12 := hf 12 rfl
          simp only [F20] at h12
          have e9 : _ = some (Value.slice (some ad) nl cl) := hout 9 rfl
          have e10 : _ = some (Value.int .i64 k) := hout 10 rfl
          have e11 : _ = some (Value.slice (some am) nl cm) := hout 11 rfl
          obtain ⟨tm, df⟩ := a'
          simp only at hd hs h12 e9 e10 e11
          have e := lit182 tm hs
          simp only [h12, e9, e10, e11, Option.getD_some] at e
          clear hf hout hs
          rw [e, hd]
          clear e hd h12 e9 e10 e11
          generalize tm[0]?.getD undef = u0x, tm[1]?.getD undef = u1x, tm[2]?.getD undef = u2x, tm[3]?.getD undef = u3x, tm[4]?.getD undef = u4x, tm[5]?.getD undef = u5x, tm[6]?.getD undef = u6x, tm[7]?.getD undef = u7x, tm[8]?.getD undef = u8x, tm[13]?.getD undef = u13x, tm[14]?.getD undef = u14x, tm[15]?.getD undef = u15x, tm[16]?.getD undef = u16x, tm[17]?.getD undef = u17x, tm[18]?.getD undef = u18x, tm[19]?.getD undef = u19x, tm[20]?.getD undef = u20x, tm[21]?.getD undef = u21x, tm[22]?.getD undef = u22x, tm[23]?.getD undef = u23x, tm[24]?.getD undef = u24x, tm[25]?.getD undef = u25x, tm[26]?.getD undef = u26x, tm[27]?.getD undef = u27x, tm[28]?.getD undef = u28x, tm[29]?.getD undef = u29x, tm[30]?.getD undef = u30x, tm[31]?.getD undef = u31x, tm[32]?.getD undef = u32x, tm[33]?.getD undef = u33x, tm[34]?.getD undef = u34x, tm[35]?.getD undef = u35x, tm[36]?.getD undef = u36x, tm[37]?.getD undef = u37x, tm[38]?.getD undef = u38x, tm[39]?.getD undef = u39x, tm[40]?.getD undef = u40x, tm[41]?.getD undef = u41x, tm[42]?.getD undef = u42x, tm[43]?.getD undef = u43x, tm[44]?.getD undef = u44x, tm[45]?.getD undef = u45x, tm[46]?.getD undef = u46x, tm[47]?.getD undef = u47x, tm[48]?.getD undef = u48x, tm[49]?.getD undef = u49x, tm[50]?.getD undef = u50x, tm[51]?.getD undef = u51x, tm[52]?.getD undef = u52x, tm[53]?.getD undef = u53x, tm[54]?.getD undef = u54x, tm[55]?.getD undef = u55x, tm[56]?.getD undef = u56x, tm[57]?.getD undef = u57x, tm[58]?.getD undef = u58x, tm[59]?.getD undef = u59x, tm[60]?.getD undef = u60x, tm[61]?.getD undef = u61x, tm[62]?.getD undef = u62x, tm[63]?.getD undef = u63x, tm[64]?.getD undef = u64x, tm[65]?.getD undef = u65x, tm[66]?.getD undef = u66x, tm[67]?.getD undef = u67x, tm[68]?.getD undef = u68x, tm[69]?.getD undef = u69x, tm[70]?.getD undef = u70x, tm[71]?.getD undef = u71x, tm[72]?.getD undef = u72x, tm[73]?.getD undef = u73x, tm[74]?.getD undef = u74x, tm[75]?.getD undef = u75x, tm[76]?.getD undef = u76x, tm[77]?.getD undef = u77x, tm[78]?.getD undef = u78x, tm[79]?.getD undef = u79x, tm[80]?.getD undef = u80x, tm[81]?.getD undef = u81x, tm[82]?.getD undef = u82x, tm[83]?.getD undef = u83x, tm[84]?.getD undef = u84x, tm[85]?.getD undef = u85x, tm[86]?.getD undef = u86x, tm[87]?.getD undef = u87x, tm[88]?.getD undef = u88x, tm[89]?.getD undef = u89x, tm[90]?.getD undef = u90x, tm[91]?.getD undef = u91x, tm[92]?.getD undef = u92x, tm[93]?.getD undef = u93x, tm[94]?.getD undef = u94x, tm[95]?.getD undef = u95x, tm[96]?.getD undef = u96x, tm[97]?.getD undef = u97x, tm[98]?.getD undef = u98x, tm[99]?.getD undef = u99x, tm[100]?.getD undef = u100x, tm[101]?.getD undef = u101x, tm[102]?.getD undef = u102x, tm[103]?.getD undef = u103x, tm[104]?.getD undef = u104x, tm[105]?.getD undef = u105x, tm[106]?.getD undef = u106x, tm[107]?.getD undef = u107x, tm[108]?.getD undef = u108x, tm[109]?.getD undef = u109x, tm[110]?.getD undef = u110x, tm[111]?.getD undef = u111x, tm[112]?.getD undef = u112x, tm[113]?.getD undef = u113x, tm[114]?.getD undef = u114x, tm[115]?.getD undef = u115x, tm[116]?.getD undef = u116x, tm[117]?.getD undef = u117x, tm[118]?.getD undef = u118x, tm[119]?.getD undef = u119x, tm[120]?.getD undef = u120x, tm[121]?.getD undef = u121x, tm[122]?.getD undef = u122x, tm[123]?.getD undef = u123x, tm[124]?.getD undef = u124x, tm[125]?.getD undef = u125x, tm[126]?.getD undef = u126x, tm[127]?.getD undef = u127x, tm[128]?.getD undef = u128x, tm[129]?.getD undef = u129x, tm[130]?.getD undef = u130x, tm[131]?.getD undef = u131x, tm[132]?.getD undef = u132x, tm[133]?.getD undef = u133x, tm[134]?.getD undef = u134x, tm[135]?.getD undef = u135x, tm[136]?.getD undef = u136x, tm[137]?.getD undef = u137x, tm[138]?.getD undef = u138x, tm[139]?.getD undef = u139x, tm[140]?.getD undef = u140x, tm[141]?.getD undef = u141x, tm[142]?.getD undef = u142x, tm[143]?.getD undef = u143x, tm[144]?.getD undef = u144x, tm[145]?.getD undef = u145x, tm[146]?.getD undef = u146x, tm[147]?.getD undef = u147x, tm[148]?.getD undef = u148x
          generalize tm[149]?.getD undef = u149x, tm[150]?.getD undef = u150x, tm[151]?.getD undef = u151x, tm[152]?.getD undef = u152x, tm[153]?.getD undef = u153x, tm[154]?.getD undef = u154x, tm[155]?.getD undef = u155x, tm[156]?.getD undef = u156x, tm[157]?.getD undef = u157x, tm[158]?.getD undef = u158x, tm[159]?.getD undef = u159x, tm[160]?.getD undef = u160x, tm[161]?.getD undef = u161x, tm[162]?.getD undef = u162x, tm[163]?.getD undef = u163x, tm[164]?.getD undef = u164x, tm[165]?.getD undef = u165x, tm[166]?.getD undef = u166x, tm[167]?.getD undef = u167x, tm[168]?.getD undef = u168x, tm[169]?.getD undef = u169x, tm[170]?.getD undef = u170x, tm[171]?.getD undef = u171x, tm[172]?.getD undef = u172x, tm[173]?.getD undef = u173x, tm[174]?.getD undef = u174x, tm[175]?.getD undef = u175x, tm[176]?.getD undef = u176x, tm[177]?.getD undef = u177x, tm[178]?.getD undef = u178x, tm[179]?.getD undef = u179x, tm[180]?.getD undef = u180x, tm[181]?.getD undef = u181x
          have hb := Lib.hid (hb.out.trans (hw.mono hb.out.size))
          have hM := Lib.hid (hM.out.more hw)
          have hL := Lib.hid (hL.out.more hw)
          clear hw hcell hh1 hh2 hs1 hs2
          go_wp2_with fail
          have hcell : Hid ((∀ w2, Below w9.heap.size w9 w2 → w2.cell? (am.add (k * 6)) = some (Value.int .i64 sq) ∧ w2.cell? ⟨(am.add (k * 6)).block, (am.add (k * 6)).off + 1, none⟩ = some (Value.int .i64 at_) ∧ w2.cell? ⟨(am.add (k * 6)).block, (am.add (k * 6)).off + 2, none⟩ = some (Value.string wh) ∧ w2.cell? ⟨(am.add (k * 6)).block, (am.add (k * 6)).off + 3, none⟩ = some (Value.string wt) ∧ w2.cell? ⟨(am.add (k * 6)).block, (am.add (k * 6)).off + 4, none⟩ = some (Value.string con) ∧ w2.cell? ⟨(am.add (k * 6)).block, (am.add (k * 6)).off + 5, none⟩ = some (Value.int .u64 sm)) ∧ (∀ w2, Below w9.heap.size w9 w2 → w2.cell? (ad.add (k * 6)) = some (Value.int .i64 sq) ∧ w2.cell? ⟨(ad.add (k * 6)).block, (ad.add (k * 6)).off + 1, none⟩ = some (Value.int .i64 at_) ∧ w2.cell? ⟨(ad.add (k * 6)).block, (ad.add (k * 6)).off + 2, none⟩ = some (Value.string wh) ∧ w2.cell? ⟨(ad.add (k * 6)).block, (ad.add (k * 6)).off + 3, none⟩ = some (Value.string wt) ∧ w2.cell? ⟨(ad.add (k * 6)).block, (ad.add (k * 6)).off + 4, none⟩ = some (Value.string on) ∧ w2.cell? ⟨(ad.add (k * 6)).block, (ad.add (k * 6)).off + 5, none⟩ = some (Value.int .u64 sm))) := by
            refine ⟨fun w2 hw => ?_, fun w2 hw => ?_⟩
            · obtain ⟨ad', e, -, e0, e1, e2, e3, e4, e5⟩ := ln_cells (hM.out.more hw) hlt
              injection e with e
              subst e
              rw [List.getElem_set_self] at e0 e1 e2 e3 e4 e5
              exact ⟨e0, e1, e2, e3, e4, e5⟩
            · obtain ⟨ad', e, -, e0, e1, e2, e3, e4, e5⟩ := ln_cells (hL.out.more hw) hlt
              injection e with e
              subst e
              rw [hx.out] at e0 e1 e2 e3 e4 e5
              exact ⟨e0, e1, e2, e3, e4, e5⟩
          obtain ⟨s, hs⟩ : ∃ s, s = (hm == hl) := ⟨_, rfl⟩
          rw [← hs]
          obtain ⟨ns, hns⟩ : ∃ x, x = !s := ⟨_, rfl⟩
          obtain ⟨b1, hb1⟩ : ∃ x, (!decide (con = on)) = x := ⟨_, rfl⟩
          obtain ⟨b3, hb3⟩ : ∃ x, (sm != sm) = x := ⟨_, rfl⟩
          obtain ⟨c, hc⟩ : ∃ x, x = (ns || b3) := ⟨_, rfl⟩
          obtain ⟨c2, hc2⟩ : ∃ x, x = (b1 && c) := ⟨_, rfl⟩
          have hdt : c2 = true → verN (L.set k (⟨sq, at_, wh, wt, con, sm⟩ : Ln)) = k ∧ goodF noLn 0 (L.set k (⟨sq, at_, wh, wt, con, sm⟩ : Ln)) = false := by
            intro h2
            rw [hc2, Bool.and_eq_true] at h2
            refine hdet.out (fun e => ?_) (fun e => ?_)
            · have e1 : con = on := by injection e
              rw [← hb1, e1] at h2
              simp at h2
            · have h3 := h2.2
              rw [hc, hns, hs, ← hb3, e.1] at h3
              simp at h3
          replace hs := Lib.hid hs
          replace hns := Lib.hid hns
          replace hb1 := Lib.hid hb1
          replace hb3 := Lib.hid hb3
          replace hc := Lib.hid hc
          replace hc2 := Lib.hid hc2
          replace hdt := Lib.hid hdt
          refine RM.region [] [] (F := F21 am ad nl cm cl k #[Value.int .i64 sq, Value.int .i64 at_, Value.string wh, Value.string wt, Value.string con, Value.int .u64 sm] #[Value.int .i64 sq, Value.int .i64 at_, Value.string wh, Value.string wt, Value.string on, Value.int .u64 sm] sm sm s ns b1 b3 c c2) (W := fun wz => Below w9.heap.size w9 wz) (R := fun _ => Rb) (S := noS) (G := noG) rfl F21_more (fun _ _ _ _ _ _ _ => trivial) (fun _ _ _ _ _ h => h.elim) (fun _ _ _ _ _ h => h.elim) (by kernel_rfl) (by kernel_rfl) (by kernel_rfl) (by kernel_rfl) (by kernel_rfl) ?_ ?_ ?_ (by kernel_rfl) ?_
          · exact (Below.refl _ _).drew
          · intro t ht
            unfold F21
            split <;> first | trivial | exact rfl | (exact absurd ht (by decide))
          · simp only [List.forall_mem_cons, List.not_mem_nil, false_implies, implies_true, and_true]
            refine ⟨?_, ?_, ?_, ?_, ?_, ?_, ?_, ?_, ?_, ?_, ?_, ?_, ?_, ?_, ?_, ?_, ?_, ?_, ?_, ?_, ?_, ?_, ?_, ?_, ?_, ?_⟩
            · intro a w2 hw _ hf K hK
              have f0 := hf 11 rfl
              simp only [F21] at f0
              clear hf
              go_simp
              exact hK _ _ _ rfl rfl hw (Below.refl _ _) (fun h => absurd h (by decide))
            · intro a w2 hw _ hf K hK
              have f0 := hf 10 rfl
              simp only [F21] at f0
              clear hf
              go_simp
              exact hK _ _ _ rfl rfl hw (Below.refl _ _) (fun h => absurd h (by decide))
            · intro a w2 hw _ hf K hK
              have f0 := hf 109 rfl
              have f1 := hf 110 rfl
              simp only [F21] at f0 f1
              clear hf
              go_simp
              exact hK _ _ _ rfl rfl hw (Below.refl _ _) (fun h => absurd h (by decide))
            · intro a w2 hw _ hf K hK
              have f0 := hf 111 rfl
              simp only [F21] at f0
              clear hf
              obtain ⟨x0, x1, x2, x3, x4, x5⟩ := hcell.out.1 w2 hw
              go_simp
              exact hK _ _ _ rfl rfl hw (Below.refl _ _) (fun h => absurd h (by decide))
            · intro a w2 hw _ hf K hK
              have f0 := hf 9 rfl
              simp only [F21] at f0
              clear hf
              go_simp
              exact hK _ _ _ rfl rfl hw (Below.refl _ _) (fun h => absurd h (by decide))
            · intro a w2 hw _ hf K hK
              have f0 := hf 10 rfl
              simp only [F21] at f0
              clear hf
              go_simp
              exact hK _ _ _ rfl rfl hw (Below.refl _ _) (fun h => absurd h (by decide))
            · intro a w2 hw _ hf K hK
              have f0 := hf 113 rfl
              have f1 := hf 114 rfl
              simp only [F21] at f0 f1
              clear hf
              go_simp
              exact hK _ _ _ rfl rfl hw (Below.refl _ _) (fun h => absurd h (by decide))
            · intro a w2 hw _ hf K hK
              have f0 := hf 115 rfl
              simp only [F21] at f0
              clear hf
              obtain ⟨y0, y1, y2, y3, y4, y5⟩ := hcell.out.2 w2 hw
              go_simp
              exact hK _ _ _ rfl rfl hw (Below.refl _ _) (fun h => absurd h (by decide))
            · intro a w2 hw _ hf K hK
              have f0 := hf 112 rfl
              have f1 := hf 116 rfl
              simp only [F21] at f0 f1
              clear hf
              have e := hb1.out
              clear hcell
              by_cases hq : con = on
              · rw [decide_eq_true hq] at e
                replace e := Lib.hid e
                go_simp
                exact hK _ _ _ rfl (by show _ = _; rw [← e.out]; rfl) hw (Below.refl _ _) (fun h => absurd h (by decide))
              · rw [decide_eq_false hq] at e
                replace e := Lib.hid e
                have hq2 := str_neq hq
                go_simp
                exact hK _ _ _ rfl (by show _ = _; rw [← e.out]; rfl) hw (Below.refl _ _) (fun h => absurd h (by decide))
            · intro a w2 hw _ hf K hK
              have f0 := hf 117 rfl
              simp only [F21] at f0
              clear hf
              go_simp
              exact hK _ _ _ rfl rfl hw (Below.refl _ _) (fun h => absurd h (by decide))
            · refine ⟨?_, ?_⟩
              · intro a w2 hw hg hf K hK
                have f0 := hf 12 rfl
                simp only [F21] at f0
                simp only [F21] at hg
                replace hg := (Value.bool.inj hg).symm
                clear hf
                go_simp
                exact hK _ _ _ rfl (fun _ => rfl) hw (Below.refl _ _) (fun h => absurd h (by decide))
              · intro v w _ hv hne; simp only [F21] at hv ⊢; intro h; exact absurd (hv.trans (by rw [h])) hne
            · refine ⟨?_, ?_⟩
              · intro a w2 hw hg hf K hK
                have f0 := hf 119 rfl
                simp only [F21] at f0
                simp only [F21] at hg
                replace hg := (Value.bool.inj hg).symm
                clear hf
                have f0 := f0 hg
                have e := hns.out
                go_simp
                exact hK _ _ _ rfl (fun _ => by rw [e]) hw (Below.refl _ _) (fun h => absurd h (by decide))
              · intro v w _ hv hne; simp only [F21] at hv ⊢; intro h; exact absurd (hv.trans (by rw [h])) hne
            · refine ⟨?_, ?_⟩
              · intro a w2 hw hg hf K hK
                have f0 := hf 120 rfl
                simp only [F21] at f0
                simp only [F21] at hg
                replace hg := (Value.bool.inj hg).symm
                clear hf
                have f0 := f0 hg
                go_simp
                exact hK _ _ _ rfl (by show _ = ite _ _ _; rw [hg]; rfl) hw (Below.refl _ _) (fun h => absurd h (by decide))
              · intro v w _ hv hne; simp only [F21] at hv ⊢; have : b1 = false := (by cases hb : b1 with | false => rfl | true => exact absurd (hv.trans (by rw [hb])) hne); rw [this]; rfl
            · refine ⟨?_, ?_⟩
              · intro a w2 hw hg hf K hK
                have f0 := hf 11 rfl
                simp only [F21] at f0
                have hg0 : Value.bool false = if b1 then Value.bool ns else undef := hg
                clear hf
                have hgc : b1 = true ∧ ns = false := by cases b1 <;> cases ns <;> first | exact ⟨rfl, rfl⟩ | (simp at hg0; done) | (exact absurd hg0 (by simp [undef])) | (exact absurd hg0 (by decide))
                clear hg hg0
                go_simp
                exact hK _ _ _ rfl (fun _ => rfl) hw (Below.refl _ _) (fun h => absurd h (by decide))
              · intro v w _ hv hne; simp only [F21] at hv ⊢; rintro ⟨h1, h2⟩; rw [h1, h2] at hv; exact absurd hv hne
            · refine ⟨?_, ?_⟩
              · intro a w2 hw hg hf K hK
                have f0 := hf 10 rfl
                simp only [F21] at f0
                have hg0 : Value.bool false = if b1 then Value.bool ns else undef := hg
                clear hf
                have hgc : b1 = true ∧ ns = false := by cases b1 <;> cases ns <;> first | exact ⟨rfl, rfl⟩ | (simp at hg0; done) | (exact absurd hg0 (by simp [undef])) | (exact absurd hg0 (by decide))
                clear hg hg0
                go_simp
                exact hK _ _ _ rfl (fun _ => rfl) hw (Below.refl _ _) (fun h => absurd h (by decide))
              · intro v w _ hv hne; simp only [F21] at hv ⊢; rintro ⟨h1, h2⟩; rw [h1, h2] at hv; exact absurd hv hne
            · refine ⟨?_, ?_⟩
              · intro a w2 hw hg hf K hK
                have f0 := hf 122 rfl
                have f1 := hf 123 rfl
                simp only [F21] at f0 f1
                have hg0 : Value.bool false = if b1 then Value.bool ns else undef := hg
                clear hf
                have hgc : b1 = true ∧ ns = false := by cases b1 <;> cases ns <;> first | exact ⟨rfl, rfl⟩ | (simp at hg0; done) | (exact absurd hg0 (by simp [undef])) | (exact absurd hg0 (by decide))
                clear hg hg0
                have f0 := f0 hgc
                have f1 := f1 hgc
                go_simp
                exact hK _ _ _ rfl (fun _ => rfl) hw (Below.refl _ _) (fun h => absurd h (by decide))
              · intro v w _ hv hne; simp only [F21] at hv ⊢; rintro ⟨h1, h2⟩; rw [h1, h2] at hv; exact absurd hv hne
            · refine ⟨?_, ?_⟩
              · intro a w2 hw hg hf K hK
                have f0 := hf 124 rfl
                simp only [F21] at f0
                have hg0 : Value.bool false = if b1 then Value.bool ns else undef := hg
                clear hf
                have hgc : b1 = true ∧ ns = false := by cases b1 <;> cases ns <;> first | exact ⟨rfl, rfl⟩ | (simp at hg0; done) | (exact absurd hg0 (by simp [undef])) | (exact absurd hg0 (by decide))
                clear hg hg0
                have f0 := f0 hgc
                obtain ⟨x0, x1, x2, x3, x4, x5⟩ := hcell.out.1 w2 hw
                go_simp
                exact hK _ _ _ rfl (fun _ => rfl) hw (Below.refl _ _) (fun h => absurd h (by decide))
              · intro v w _ hv hne; simp only [F21] at hv ⊢; rintro ⟨h1, h2⟩; rw [h1, h2] at hv; exact absurd hv hne
            · refine ⟨?_, ?_⟩
              · intro a w2 hw hg hf K hK
                have f0 := hf 125 rfl
                simp only [F21] at f0
                have hg0 : Value.bool false = if b1 then Value.bool ns else undef := hg
                clear hf
                have hgc : b1 = true ∧ ns = false := by cases b1 <;> cases ns <;> first | exact ⟨rfl, rfl⟩ | (simp at hg0; done) | (exact absurd hg0 (by simp [undef])) | (exact absurd hg0 (by decide))
                clear hg hg0
                have f0 := f0 hgc
                obtain ⟨x0, x1, x2, x3, x4, x5⟩ := hcell.out.1 w2 hw
                go_simp
                exact hK _ _ _ rfl (fun _ => rfl) hw (Below.refl _ _) (fun h => absurd h (by decide))
              · intro v w _ hv hne; simp only [F21] at hv ⊢; rintro ⟨h1, h2⟩; rw [h1, h2] at hv; exact absurd hv hne
            · refine ⟨?_, ?_⟩
              · intro a w2 hw hg hf K hK
                have f0 := hf 9 rfl
                simp only [F21] at f0
                have hg0 : Value.bool false = if b1 then Value.bool ns else undef := hg
                clear hf
                have hgc : b1 = true ∧ ns = false := by cases b1 <;> cases ns <;> first | exact ⟨rfl, rfl⟩ | (simp at hg0; done) | (exact absurd hg0 (by simp [undef])) | (exact absurd hg0 (by decide))
                clear hg hg0
                go_simp
                exact hK _ _ _ rfl (fun _ => rfl) hw (Below.refl _ _) (fun h => absurd h (by decide))
              · intro v w _ hv hne; simp only [F21] at hv ⊢; rintro ⟨h1, h2⟩; rw [h1, h2] at hv; exact absurd hv hne
            · refine ⟨?_, ?_⟩
              · intro a w2 hw hg hf K hK
                have f0 := hf 10 rfl
                simp only [F21] at f0
                have hg0 : Value.bool false = if b1 then Value.bool ns else undef := hg
                clear hf
                have hgc : b1 = true ∧ ns = false := by cases b1 <;> cases ns <;> first | exact ⟨rfl, rfl⟩ | (simp at hg0; done) | (exact absurd hg0 (by simp [undef])) | (exact absurd hg0 (by decide))
                clear hg hg0
                go_simp
                exact hK _ _ _ rfl (fun _ => rfl) hw (Below.refl _ _) (fun h => absurd h (by decide))
              · intro v w _ hv hne; simp only [F21] at hv ⊢; rintro ⟨h1, h2⟩; rw [h1, h2] at hv; exact absurd hv hne
            · refine ⟨?_, ?_⟩
              · intro a w2 hw hg hf K hK
                have f0 := hf 127 rfl
                have f1 := hf 128 rfl
                simp only [F21] at f0 f1
                have hg0 : Value.bool false = if b1 then Value.bool ns else undef := hg
                clear hf
                have hgc : b1 = true ∧ ns = false := by cases b1 <;> cases ns <;> first | exact ⟨rfl, rfl⟩ | (simp at hg0; done) | (exact absurd hg0 (by simp [undef])) | (exact absurd hg0 (by decide))
                clear hg hg0
                have f0 := f0 hgc
                have f1 := f1 hgc
                go_simp
                exact hK _ _ _ rfl (fun _ => rfl) hw (Below.refl _ _) (fun h => absurd h (by decide))
              · intro v w _ hv hne; simp only [F21] at hv ⊢; rintro ⟨h1, h2⟩; rw [h1, h2] at hv; exact absurd hv hne
            · refine ⟨?_, ?_⟩
              · intro a w2 hw hg hf K hK
                have f0 := hf 129 rfl
                simp only [F21] at f0
                have hg0 : Value.bool false = if b1 then Value.bool ns else undef := hg
                clear hf
                have hgc : b1 = true ∧ ns = false := by cases b1 <;> cases ns <;> first | exact ⟨rfl, rfl⟩ | (simp at hg0; done) | (exact absurd hg0 (by simp [undef])) | (exact absurd hg0 (by decide))
                clear hg hg0
                have f0 := f0 hgc
                obtain ⟨y0, y1, y2, y3, y4, y5⟩ := hcell.out.2 w2 hw
                go_simp
                exact hK _ _ _ rfl (fun _ => rfl) hw (Below.refl _ _) (fun h => absurd h (by decide))
              · intro v w _ hv hne; simp only [F21] at hv ⊢; rintro ⟨h1, h2⟩; rw [h1, h2] at hv; exact absurd hv hne
            · refine ⟨?_, ?_⟩
              · intro a w2 hw hg hf K hK
                have f0 := hf 130 rfl
                simp only [F21] at f0
                have hg0 : Value.bool false = if b1 then Value.bool ns else undef := hg
                clear hf
                have hgc : b1 = true ∧ ns = false := by cases b1 <;> cases ns <;> first | exact ⟨rfl, rfl⟩ | (simp at hg0; done) | (exact absurd hg0 (by simp [undef])) | (exact absurd hg0 (by decide))
                clear hg hg0
                have f0 := f0 hgc
                obtain ⟨y0, y1, y2, y3, y4, y5⟩ := hcell.out.2 w2 hw
                go_simp
                exact hK _ _ _ rfl (fun _ => rfl) hw (Below.refl _ _) (fun h => absurd h (by decide))
              · intro v w _ hv hne; simp only [F21] at hv ⊢; rintro ⟨h1, h2⟩; rw [h1, h2] at hv; exact absurd hv hne
            · refine ⟨?_, ?_⟩
              · intro a w2 hw hg hf K hK
                have f0 := hf 126 rfl
                have f1 := hf 131 rfl
                simp only [F21] at f0 f1
                have hg0 : Value.bool false = if b1 then Value.bool ns else undef := hg
                clear hf
                have hgc : b1 = true ∧ ns = false := by cases b1 <;> cases ns <;> first | exact ⟨rfl, rfl⟩ | (simp at hg0; done) | (exact absurd hg0 (by simp [undef])) | (exact absurd hg0 (by decide))
                clear hg hg0
                have f0 := f0 hgc
                have f1 := f1 hgc
                go_simp
                exact hK _ _ _ rfl (fun _ => congrArg Value.bool (by have h := hb3.out; rw [← h]; simp)) hw (Below.refl _ _) (fun h => absurd h (by decide))
              · intro v w _ hv hne; simp only [F21] at hv ⊢; rintro ⟨h1, h2⟩; rw [h1, h2] at hv; exact absurd hv hne
            · refine ⟨?_, ?_⟩
              · intro a w2 hw hg hf K hK
                have f0 := hf 121 rfl
                have f1 := hf 132 rfl
                simp only [F21] at f0 f1
                simp only [F21] at hg
                replace hg := (Value.bool.inj hg).symm
                clear hf
                rw [hg] at f0
                have e := hc.out
                cases ns with
                | true => replace f0 : _ = Value.bool true := f0; go_simp; exact hK _ _ _ rfl (fun _ => by rw [e]; rfl) hw (Below.refl _ _) (fun h => absurd h (by decide))
                | false => replace f0 : _ = Value.bool false := f0; have f1 := f1 ⟨hg, rfl⟩; go_simp; exact hK _ _ _ rfl (fun _ => by rw [e]; rfl) hw (Below.refl _ _) (fun h => absurd h (by decide))
              · intro v w _ hv hne; simp only [F21] at hv ⊢; intro h; exact absurd (hv.trans (by rw [h])) hne
            · intro a w2 hw _ hf K hK
              have f0 := hf 118 rfl
              have f1 := hf 133 rfl
              simp only [F21] at f0 f1
              clear hf
              have e := hc2.out
              cases b1 with
              | false => go_simp; exact hK _ _ _ rfl (by show _ = _; rw [e]; rfl) hw (Below.refl _ _) (fun h => absurd h (by decide))
              | true => have f1 := f1 rfl; go_simp; exact hK _ _ _ rfl (by show _ = _; rw [e]; rfl) hw (Below.refl _ _) (fun h => absurd h (by decide))
          · intro a' wC hd9 hs9 hw hout hf _
            have h134 := hf 134 rfl
            simp only [F21] at h134
            have e9 : _ = some (Value.slice (some ad) nl cl) := hout 9 rfl
            have e10 : _ = some (Value.int .i64 k) := hout 10 rfl
            have e11 : _ = some (Value.slice (some am) nl cm) := hout 11 rfl
            have e12 : _ = some (Value.bool s) := hout 12 rfl
            obtain ⟨tm, df⟩ := a'
            simp only at hd9 hs9 h134 e9 e10 e11 e12
            have e := lit182 tm hs9
            simp only [h134, e9, e10, e11, e12, Option.getD_some] at e
            clear hf hout hs9
            rw [e, hd9]
            clear e hd9 h134 e9 e10 e11 e12
            generalize tm[0]?.getD undef = u0x, tm[1]?.getD undef = u1x, tm[2]?.getD undef = u2x, tm[3]?.getD undef = u3x, tm[4]?.getD undef = u4x, tm[5]?.getD undef = u5x, tm[6]?.getD undef = u6x, tm[7]?.getD undef = u7x, tm[8]?.getD undef = u8x, tm[13]?.getD undef = u13x, tm[14]?.getD undef = u14x, tm[15]?.getD undef = u15x, tm[16]?.getD undef = u16x, tm[17]?.getD undef = u17x, tm[18]?.getD undef = u18x, tm[19]?.getD undef = u19x, tm[20]?.getD undef = u20x, tm[21]?.getD undef = u21x, tm[22]?.getD undef = u22x, tm[23]?.getD undef = u23x, tm[24]?.getD undef = u24x, tm[25]?.getD undef = u25x, tm[26]?.getD undef = u26x, tm[27]?.getD undef = u27x, tm[28]?.getD undef = u28x, tm[29]?.getD undef = u29x, tm[30]?.getD undef = u30x, tm[31]?.getD undef = u31x, tm[32]?.getD undef = u32x, tm[33]?.getD undef = u33x, tm[34]?.getD undef = u34x, tm[35]?.getD undef = u35x, tm[36]?.getD undef = u36x, tm[37]?.getD undef = u37x, tm[38]?.getD undef = u38x, tm[39]?.getD undef = u39x, tm[40]?.getD undef = u40x, tm[41]?.getD undef = u41x, tm[42]?.getD undef = u42x, tm[43]?.getD undef = u43x, tm[44]?.getD undef = u44x, tm[45]?.getD undef = u45x, tm[46]?.getD undef = u46x, tm[47]?.getD undef = u47x, tm[48]?.getD undef = u48x, tm[49]?.getD undef = u49x, tm[50]?.getD undef = u50x, tm[51]?.getD undef = u51x, tm[52]?.getD undef = u52x, tm[53]?.getD undef = u53x, tm[54]?.getD undef = u54x, tm[55]?.getD undef = u55x, tm[56]?.getD undef = u56x, tm[57]?.getD undef = u57x, tm[58]?.getD undef = u58x, tm[59]?.getD undef = u59x, tm[60]?.getD undef = u60x, tm[61]?.getD undef = u61x, tm[62]?.getD undef = u62x, tm[63]?.getD undef = u63x, tm[64]?.getD undef = u64x, tm[65]?.getD undef = u65x, tm[66]?.getD undef = u66x, tm[67]?.getD undef = u67x, tm[68]?.getD undef = u68x, tm[69]?.getD undef = u69x, tm[70]?.getD undef = u70x, tm[71]?.getD undef = u71x, tm[72]?.getD undef = u72x, tm[73]?.getD undef = u73x, tm[74]?.getD undef = u74x, tm[75]?.getD undef = u75x, tm[76]?.getD undef = u76x, tm[77]?.getD undef = u77x, tm[78]?.getD undef = u78x, tm[79]?.getD undef = u79x, tm[80]?.getD undef = u80x, tm[81]?.getD undef = u81x, tm[82]?.getD undef = u82x, tm[83]?.getD undef = u83x, tm[84]?.getD undef = u84x, tm[85]?.getD undef = u85x, tm[86]?.getD undef = u86x, tm[87]?.getD undef = u87x, tm[88]?.getD undef = u88x, tm[89]?.getD undef = u89x, tm[90]?.getD undef = u90x, tm[91]?.getD undef = u91x, tm[92]?.getD undef = u92x, tm[93]?.getD undef = u93x, tm[94]?.getD undef = u94x, tm[95]?.getD undef = u95x, tm[96]?.getD undef = u96x, tm[97]?.getD undef = u97x, tm[98]?.getD undef = u98x, tm[99]?.getD undef = u99x, tm[100]?.getD undef = u100x, tm[101]?.getD undef = u101x, tm[102]?.getD undef = u102x, tm[103]?.getD undef = u103x, tm[104]?.getD undef = u104x, tm[105]?.getD undef = u105x, tm[106]?.getD undef = u106x, tm[107]?.getD undef = u107x, tm[108]?.getD undef = u108x, tm[109]?.getD undef = u109x, tm[110]?.getD undef = u110x, tm[111]?.getD undef = u111x, tm[112]?.getD undef = u112x, tm[113]?.getD undef = u113x, tm[114]?.getD undef = u114x, tm[115]?.getD undef = u115x, tm[116]?.getD undef = u116x, tm[117]?.getD undef = u117x, tm[118]?.getD undef = u118x, tm[119]?.getD undef = u119x, tm[120]?.getD undef = u120x, tm[121]?.getD undef = u121x, tm[122]?.getD undef = u122x, tm[123]?.getD undef = u123x, tm[124]?.getD undef = u124x, tm[125]?.getD undef = u125x, tm[126]?.getD undef = u126x, tm[127]?.getD undef = u127x, tm[128]?.getD undef = u128x, tm[129]?.getD undef = u129x, tm[130]?.getD undef = u130x, tm[131]?.getD undef = u131x, tm[132]?.getD undef = u132x, tm[133]?.getD undef = u133x, tm[135]?.getD undef = u135x, tm[136]?.getD undef = u136x, tm[137]?.getD undef = u137x, tm[138]?.getD undef = u138x, tm[139]?.getD undef = u139x, tm[140]?.getD undef = u140x, tm[141]?.getD undef = u141x, tm[142]?.getD undef = u142x, tm[143]?.getD undef = u143x, tm[144]?.getD undef = u144x, tm[145]?.getD undef = u145x, tm[146]?.getD undef = u146x, tm[147]?.getD undef = u147x, tm[148]?.getD undef = u148x, tm[149]?.getD undef = u149x
            generalize tm[150]?.getD undef = u150x, tm[151]?.getD undef = u151x, tm[152]?.getD undef = u152x, tm[153]?.getD undef = u153x, tm[154]?.getD undef = u154x, tm[155]?.getD undef = u155x, tm[156]?.getD undef = u156x, tm[157]?.getD undef = u157x, tm[158]?.getD undef = u158x, tm[159]?.getD undef = u159x, tm[160]?.getD undef = u160x, tm[161]?.getD undef = u161x, tm[162]?.getD undef = u162x, tm[163]?.getD undef = u163x, tm[164]?.getD undef = u164x, tm[165]?.getD undef = u165x, tm[166]?.getD undef = u166x, tm[167]?.getD undef = u167x, tm[168]?.getD undef = u168x, tm[169]?.getD undef = u169x, tm[170]?.getD undef = u170x, tm[171]?.getD undef = u171x, tm[172]?.getD undef = u172x, tm[173]?.getD undef = u173x, tm[174]?.getD undef = u174x, tm[175]?.getD undef = u175x, tm[176]?.getD undef = u176x, tm[177]?.getD undef = u177x, tm[178]?.getD undef = u178x, tm[179]?.getD undef = u179x, tm[180]?.getD undef = u180x, tm[181]?.getD undef = u181x
            have hb := Lib.hid (hb.out.trans (hw.mono hb.out.size))
            have hM := Lib.hid (hM.out.more hw)
            have hL := Lib.hid (hL.out.more hw)
            clear hw hcell
            cases c2 with
            | true =>
              obtain ⟨hv1, hv2⟩ := hdt.out rfl
              have hV := verify_log (some am) nl cm (L.set k (⟨sq, at_, wh, wt, con, sm⟩ : Ln)) wC hM.out hokM.out (by omega)
              rw [hv1, show verE (L.set k (⟨sq, at_, wh, wt, con, sm⟩ : Ln)) = 7 by unfold verE; rw [hv2]; rfl] at hV
              replace hV := Lib.hid hV
              clear hv1 hv2
              go_wp2_with fail
              refine hV.out.mono ?_; rintro e w7 ⟨rfl, hq⟩
              have hb := Lib.hid (hb.out.trans (hq.mono hb.out.size))
              have hL := Lib.hid (hL.out.more hq)
              clear hq hV
              by_cases hlast : k + 1 = nl
              · have hlz : ((k : Int) + 1 == (nl : Int)) = true := by simp; omega
                go_wp2_with fail
                refine (awakeL_any _).mono ?_; rintro e wa ⟨rfl, hq⟩
                have hb := Lib.hid (hb.out.trans (hq.mono hb.out.size))
                clear hq
                go_wp2_with fail
                go_ret
                exact ⟨rfl, hb.out⟩
              · have hlz : ((k : Int) + 1 == (nl : Int)) = false := by simp; omega
                have hlt2 : k + 1 < nl := by omega
                have hrm := removed hgood.out (i := k) (by rw [hLn.out]; exact hlt2)
                have hcut : Hid (∀ w2, Below w7.heap.size w7 w2 → Reads w2 w2.heap.size 6 (if cl = k + 1 then some ad else some (ad.add ((k + 1) * 6))) (nl - (k + 1)) (flat lnC (L.drop (k + 1)))) := fun w2 hw => by
                  have := ((hL.out.more hw).cut (cap := cl) (k := k + 1) hlt hnc.out).2
                  simpa using this
                have hver : Hid (∀ A9 n9 c9 w2, n9 = (L.take k ++ L.drop (k + 1)).length → LAt lnC 6 w2 w2.heap.size A9 n9 (L.take k ++ L.drop (k + 1)) → Calls Try.prog 44 #[.slice A9 n9 c9] w2 fun e w' => e = .returned (.tuple #[.int .i64 k, .int .i64 7]) ∧ Below w2.heap.size w2 w') := fun A9 n9 c9 w2 e9 h9 => by
                  subst e9
                  have := verify_log A9 _ c9 _ w2 h9 (fun x hx => (List.mem_append.1 hx).elim (fun h => hok.out x (List.mem_of_mem_take h)) (fun h => hok.out x (List.mem_of_mem_drop h))) (by rw [List.length_append, List.length_take, List.length_drop, hLn.out]; omega)
                  rw [show verN (L.take k ++ L.drop (k + 1)) = k from hrm.1, show verE (L.take k ++ L.drop (k + 1)) = 7 by unfold verE; rw [hrm.2]; rfl] at this
                  exact this
                clear hrm
                have hkc : (k : Int) ≤ (cl : Int) := by have := hnc.out; omega
                go_wp2_with fail
                refine RM.region [(168, 163)] [] (F := F27 w7.heap.size ad nl cl k L) (W := fun wz => Below w7.heap.size w7 wz) (R := R27 w7.heap.size) (S := noS) (G := noG) rfl F27_more (fun _ _ _ _ _ _ _ => trivial) (fun _ _ _ _ _ h => h.elim) (fun _ _ _ _ _ h => h.elim) (by kernel_rfl) (by kernel_rfl) (by kernel_rfl) (by kernel_rfl) (by kernel_rfl) ?_ ?_ ?_ (by kernel_rfl) ?_
                · exact (Below.refl _ _).drew
                · intro t ht
                  unfold F27
                  split <;> first | trivial | exact rfl | (exact absurd ht (by decide))
                · simp only [List.forall_mem_cons, List.not_mem_nil, false_implies, implies_true, and_true]
                  refine ⟨?_, ?_, ?_, ?_, ?_, ?_, ?_, ?_, ?_, ?_, ?_, ?_, ?_, ?_, ?_, ?_⟩
                  · intro a w2 hw _ hf K hK
                    clear hf
                    go_simp
                    exact hK _ _ _ rfl ⟨w2.heap.size, rfl, hw.size, Blk.new w2 67 #[]⟩ (below_new hw _) (a1 _ _) (fun h => absurd h (by decide))
                  · intro a w2 hw _ hf K hK
                    have f0 := hf 9 rfl
                    simp only [F27] at f0
                    clear hf
                    go_simp
                    exact hK _ _ _ rfl rfl hw (Below.refl _ _) (fun h => absurd h (by decide))
                  · intro a w2 hw _ hf K hK
                    have f0 := hf 10 rfl
                    simp only [F27] at f0
                    clear hf
                    go_simp
                    exact hK _ _ _ rfl rfl hw (Below.refl _ _) (fun h => absurd h (by decide))
                  · intro a w2 hw _ hf K hK
                    have f0 := hf 160 rfl
                    have f1 := hf 161 rfl
                    simp only [F27] at f0 f1
                    clear hf
                    go_simp
                    exact hK _ _ _ rfl rfl hw (Below.refl _ _) (fun h => absurd h (by decide))
                  · intro a w2 hw _ hf K hK
                    have f0 := hf 159 rfl
                    have f1 := hf 162 rfl
                    simp only [F27] at f0 f1
                    clear hf
                    obtain ⟨g, e0, hbg, hbk⟩ := f0
                    refine wp_append_kept w2 (.tmp 159) (.tmp 162) 62 rfl w7.heap.size 67 i0 _ 6 72 Try.underlying62 hi0.out hz0.out hz1.out hz2.out rfl (by omega) (.slice (some ⟨g, 0, none⟩) 0 0) 0 [] ((eval_tmp a 159).trans e0) ⟨rfl, .inr ⟨g, 0, #[], rfl, hbg, hbk, Nat.le_refl _, Nat.zero_le _, rfl, rfl⟩⟩ w2.heap.size (some ad) k cl (flat lnC (L.take k)) ((eval_tmp a 162).trans f1) ((hL.out.more hw).take hkn).2 (ln_one _) (by simp only [maxLen]; omega) (by omega) hw.size ?_
                    intro v' w' hown hg hkp
                    have hbl : Below w2.heap.size w2 w' := by
                      rcases hkp with h | ⟨g', cap', e, hc, h0⟩
                      · exact h
                      · injection e with _ _ ec; omega
                    rw [Nat.zero_add, List.nil_append] at hown
                    exact hK _ _ _ rfl ⟨lnC_len, by rw [htk.out]; exact hown⟩ (hw.trans (hbl.mono hw.size)) hbl (fun h => absurd h (by decide))
                  · intro a w2 hw _ hf K hK
                    have f0 := hf 9 rfl
                    simp only [F27] at f0
                    clear hf
                    go_simp
                    exact hK _ _ _ rfl rfl hw (Below.refl _ _) (fun h => absurd h (by decide))
                  · intro a w2 hw _ hf K hK
                    have f0 := hf 10 rfl
                    simp only [F27] at f0
                    clear hf
                    go_simp
                    exact hK _ _ _ rfl rfl hw (Below.refl _ _) (fun h => absurd h (by decide))
                  · intro a w2 hw _ hf K hK
                    have f0 := hf 165 rfl
                    simp only [F27] at f0
                    clear hf
                    go_simp
                    exact hK _ _ _ rfl (by show _ = _; rw [IntWalk.i64_in _ (by omega)]) hw (Below.refl _ _) (fun h => absurd h (by decide))
                  · intro a w2 hw _ hf K hK
                    have f0 := hf 164 rfl
                    have f1 := hf 166 rfl
                    simp only [F27] at f0 f1
                    clear hf
                    have hnc9 := hnc.out
                    have q1 : (0 : Int) ≤ (k : Int) + 1 := by omega
                    have q2 : (k : Int) + 1 ≤ (nl : Int) := by omega
                    have q3 : (k : Int) + 1 ≤ (cl : Int) := by omega
                    have q4 : (nl : Int) ≤ (cl : Int) := by omega
                    go_simp
                    exact hK _ _ _ rfl rfl hw (Below.refl _ _) (fun h => absurd h (by decide))
                  · intro a w2 hw _ hf K hK
                    have f0 := hf 163 rfl
                    have f1 := hf 167 rfl
                    simp only [F27] at f0 f1
                    clear hf
                    generalize hv163 : a.tmps[163]?.getD undef = v163 at f0
                    refine wp_append_kept w2 (.tmp 163) (.tmp 167) 62 rfl w7.heap.size 67 i0 _ 6 72 Try.underlying62 hi0.out hz0.out hz1.out hz2.out rfl (by omega) v163 k (flat lnC (L.take k)) ((eval_tmp a 163).trans hv163) (by have := f0.2; rw [htk.out] at this; exact this) w2.heap.size (if cl = k + 1 then some ad else some (ad.add ((k + 1) * 6))) (nl - (k + 1)) (cl - (k + 1)) (flat lnC (L.drop (k + 1))) ((eval_tmp a 167).trans f1) (hcut.out w2 hw) (ln_one _) (by simp only [maxLen]; omega) (by omega) hw.size ?_
                    intro v' w' hown hg hkp
                    have hbb := below_own2 (by have := f0.2; rw [htk.out] at this; exact this) hw.size hg
                    refine hK _ _ _ rfl ⟨lnC_len, by rw [List.length_append, htk.out, flat_append, List.length_drop, hLn.out]; exact hown⟩ (hw.trans hbb) ⟨hg.size, fun b hb hbk => ?_⟩ (fun h => absurd h (by decide))
                    rcases hkp with h | ⟨g', cap', e, hc, h0⟩
                    · exact h.block b (lt_of_heap hbk)
                    · have hf0 := f0.2.2
                      rw [e] at hf0 hg
                      rcases hf0 with ⟨e1, _⟩ | ⟨g2, c2, cur, e1, _, hh, _, _, hsz, _⟩
                      · cases e1
                      · injection e1 with e1 _ e3
                        injection e1 with e1
                        injection e1 with e1
                        subst e1; subst e3
                        refine hg.block b (lt_of_heap hbk) (fun e4 => ?_)
                        simp [Value.ownBlock] at e4
                        subst e4
                        rw [hbk] at hh
                        injection hh with hh
                        injection hh with hh
                        subst hh
                        simp at hsz
                        omega
                  · intro a w2 hw _ hf K hK
                    have f0 := hf 168 rfl
                    simp only [F27] at f0
                    clear hf
                    obtain ⟨A9, c9, e9, hc9, -, -, hA9⟩ := f0.form
                    generalize hn9 : (L.take k ++ L.drop (k + 1)).length = n9 at e9 hA9 hc9
                    have hv := Lib.hid (hver.out A9 n9 c9 w2 hn9.symm hA9)
                    clear hn9 hc9 hA9 f0
                    go_simp
                    refine hv.out.mono ?_; rintro e w5 ⟨rfl, hb⟩
                    exact hK _ _ _ rfl rfl (hw.trans (hb.mono hw.size)) hb (fun h => absurd h (by decide))
                  · intro a w2 hw _ hf K hK
                    have f0 := hf 169 rfl
                    simp only [F27] at f0
                    clear hf
                    go_simp
                    exact hK _ _ _ rfl rfl hw (Below.refl _ _) (fun h => absurd h (by decide))
                  · intro a w2 hw _ hf K hK
                    have f0 := hf 158 rfl
                    simp only [F27] at f0
                    clear hf
                    go_simp
                    exact hK _ _ _ rfl rfl hw (Below.refl _ _) (fun h => absurd h (by decide))
                  · intro a w2 hw _ hf K hK
                    have f0 := hf 158 rfl
                    simp only [F27] at f0
                    clear hf
                    go_simp
                    exact hK _ _ _ rfl rfl hw (Below.refl _ _) (fun h => absurd h (by decide))
                  · intro a w2 hw _ hf K hK
                    have f0 := hf 170 rfl
                    simp only [F27] at f0
                    clear hf
                    go_simp
                    exact hK _ _ _ rfl rfl hw (Below.refl _ _) (fun h => absurd h (by decide))
                  · intro a w2 hw _ hf K hK
                    have f0 := hf 171 rfl
                    simp only [F27] at f0
                    clear hf
                    go_simp
                    exact hK _ _ _ rfl rfl hw (Below.refl _ _) (fun h => absurd h (by decide))
                · intro a' w9 hd hs hw hout hf _
                  have h15 := hf 15 rfl
                  simp only [F27] at h15
                  have h16 := hf 16 rfl
                  simp only [F27] at h16
                  have e10 : _ = some (Value.int .i64 k) := hout 10 rfl
                  obtain ⟨tm, df⟩ := a'
                  simp only at hd hs h15 h16 e10
                  have e := lit182 tm hs
                  simp only [h15, h16, e10, Option.getD_some] at e
                  clear hf hout hs
                  rw [e, hd]
                  clear e hd h15 h16 e10
                  generalize tm[0]?.getD undef = u0x, tm[1]?.getD undef = u1x, tm[2]?.getD undef = u2x, tm[3]?.getD undef = u3x, tm[4]?.getD undef = u4x, tm[5]?.getD undef = u5x, tm[6]?.getD undef = u6x, tm[7]?.getD undef = u7x, tm[8]?.getD undef = u8x, tm[9]?.getD undef = u9x, tm[11]?.getD undef = u11x, tm[12]?.getD undef = u12x, tm[13]?.getD undef = u13x, tm[14]?.getD undef = u14x, tm[17]?.getD undef = u17x, tm[18]?.getD undef = u18x, tm[19]?.getD undef = u19x, tm[20]?.getD undef = u20x, tm[21]?.getD undef = u21x, tm[22]?.getD undef = u22x, tm[23]?.getD undef = u23x, tm[24]?.getD undef = u24x, tm[25]?.getD undef = u25x, tm[26]?.getD undef = u26x, tm[27]?.getD undef = u27x, tm[28]?.getD undef = u28x, tm[29]?.getD undef = u29x, tm[30]?.getD undef = u30x, tm[31]?.getD undef = u31x, tm[32]?.getD undef = u32x, tm[33]?.getD undef = u33x, tm[34]?.getD undef = u34x, tm[35]?.getD undef = u35x, tm[36]?.getD undef = u36x, tm[37]?.getD undef = u37x, tm[38]?.getD undef = u38x, tm[39]?.getD undef = u39x, tm[40]?.getD undef = u40x, tm[41]?.getD undef = u41x, tm[42]?.getD undef = u42x, tm[43]?.getD undef = u43x, tm[44]?.getD undef = u44x, tm[45]?.getD undef = u45x, tm[46]?.getD undef = u46x, tm[47]?.getD undef = u47x, tm[48]?.getD undef = u48x, tm[49]?.getD undef = u49x, tm[50]?.getD undef = u50x, tm[51]?.getD undef = u51x, tm[52]?.getD undef = u52x, tm[53]?.getD undef = u53x, tm[54]?.getD undef = u54x, tm[55]?.getD undef = u55x, tm[56]?.getD undef = u56x, tm[57]?.getD undef = u57x, tm[58]?.getD undef = u58x, tm[59]?.getD undef = u59x, tm[60]?.getD undef = u60x, tm[61]?.getD undef = u61x, tm[62]?.getD undef = u62x, tm[63]?.getD undef = u63x, tm[64]?.getD undef = u64x, tm[65]?.getD undef = u65x, tm[66]?.getD undef = u66x, tm[67]?.getD undef = u67x, tm[68]?.getD undef = u68x, tm[69]?.getD undef = u69x, tm[70]?.getD undef = u70x, tm[71]?.getD undef = u71x, tm[72]?.getD undef = u72x, tm[73]?.getD undef = u73x, tm[74]?.getD undef = u74x, tm[75]?.getD undef = u75x, tm[76]?.getD undef = u76x, tm[77]?.getD undef = u77x, tm[78]?.getD undef = u78x, tm[79]?.getD undef = u79x, tm[80]?.getD undef = u80x, tm[81]?.getD undef = u81x, tm[82]?.getD undef = u82x, tm[83]?.getD undef = u83x, tm[84]?.getD undef = u84x, tm[85]?.getD undef = u85x, tm[86]?.getD undef = u86x, tm[87]?.getD undef = u87x, tm[88]?.getD undef = u88x, tm[89]?.getD undef = u89x, tm[90]?.getD undef = u90x, tm[91]?.getD undef = u91x, tm[92]?.getD undef = u92x, tm[93]?.getD undef = u93x, tm[94]?.getD undef = u94x, tm[95]?.getD undef = u95x, tm[96]?.getD undef = u96x, tm[97]?.getD undef = u97x, tm[98]?.getD undef = u98x, tm[99]?.getD undef = u99x, tm[100]?.getD undef = u100x, tm[101]?.getD undef = u101x, tm[102]?.getD undef = u102x, tm[103]?.getD undef = u103x, tm[104]?.getD undef = u104x, tm[105]?.getD undef = u105x, tm[106]?.getD undef = u106x, tm[107]?.getD undef = u107x, tm[108]?.getD undef = u108x, tm[109]?.getD undef = u109x, tm[110]?.getD undef = u110x, tm[111]?.getD undef = u111x, tm[112]?.getD undef = u112x, tm[113]?.getD undef = u113x, tm[114]?.getD undef = u114x, tm[115]?.getD undef = u115x, tm[116]?.getD undef = u116x, tm[117]?.getD undef = u117x, tm[118]?.getD undef = u118x, tm[119]?.getD undef = u119x, tm[120]?.getD undef = u120x, tm[121]?.getD undef = u121x, tm[122]?.getD undef = u122x, tm[123]?.getD undef = u123x, tm[124]?.getD undef = u124x, tm[125]?.getD undef = u125x, tm[126]?.getD undef = u126x, tm[127]?.getD undef = u127x, tm[128]?.getD undef = u128x, tm[129]?.getD undef = u129x, tm[130]?.getD undef = u130x, tm[131]?.getD undef = u131x, tm[132]?.getD undef = u132x, tm[133]?.getD undef = u133x, tm[134]?.getD undef = u134x, tm[135]?.getD undef = u135x, tm[136]?.getD undef = u136x, tm[137]?.getD undef = u137x, tm[138]?.getD undef = u138x, tm[139]?.getD undef = u139x, tm[140]?.getD undef = u140x, tm[141]?.getD undef = u141x, tm[142]?.getD undef = u142x, tm[143]?.getD undef = u143x, tm[144]?.getD undef = u144x, tm[145]?.getD undef = u145x, tm[146]?.getD undef = u146x, tm[147]?.getD undef = u147x
                  generalize tm[148]?.getD undef = u148x, tm[149]?.getD undef = u149x, tm[150]?.getD undef = u150x, tm[151]?.getD undef = u151x, tm[152]?.getD undef = u152x, tm[153]?.getD undef = u153x, tm[154]?.getD undef = u154x, tm[155]?.getD undef = u155x, tm[156]?.getD undef = u156x, tm[157]?.getD undef = u157x, tm[158]?.getD undef = u158x, tm[159]?.getD undef = u159x, tm[160]?.getD undef = u160x, tm[161]?.getD undef = u161x, tm[162]?.getD undef = u162x, tm[163]?.getD undef = u163x, tm[164]?.getD undef = u164x, tm[165]?.getD undef = u165x, tm[166]?.getD undef = u166x, tm[167]?.getD undef = u167x, tm[168]?.getD undef = u168x, tm[169]?.getD undef = u169x, tm[170]?.getD undef = u170x, tm[171]?.getD undef = u171x, tm[172]?.getD undef = u172x, tm[173]?.getD undef = u173x, tm[174]?.getD undef = u174x, tm[175]?.getD undef = u175x, tm[176]?.getD undef = u176x, tm[177]?.getD undef = u177x, tm[178]?.getD undef = u178x, tm[179]?.getD undef = u179x, tm[180]?.getD undef = u180x, tm[181]?.getD undef = u181x
                  have hb := Lib.hid (hb.out.trans (hw.mono hb.out.size))
                  clear hw hcut hver
                  go_wp2_with fail
                  refine (awakeL_any _).mono ?_; rintro e wa ⟨rfl, hq⟩
                  have hb := Lib.hid (hb.out.trans (hq.mono hb.out.size))
                  clear hq
                  go_wp2_with fail
                  go_ret
                  exact ⟨rfl, hb.out⟩
            | false =>
              by_cases hlast : k + 1 = nl
              · have hlz : ((k : Int) + 1 == (nl : Int)) = true := by simp; omega
                go_wp2_with fail
                refine (awakeL_any _).mono ?_; rintro e wa ⟨rfl, hq⟩
                have hb := Lib.hid (hb.out.trans (hq.mono hb.out.size))
                clear hq
                go_wp2_with fail
                go_ret
                exact ⟨rfl, hb.out⟩
              · have hlz : ((k : Int) + 1 == (nl : Int)) = false := by simp; omega
                have hlt2 : k + 1 < nl := by omega
                have hrm := removed hgood.out (i := k) (by rw [hLn.out]; exact hlt2)
                have hcut : Hid (∀ w2, Below wC.heap.size wC w2 → Reads w2 w2.heap.size 6 (if cl = k + 1 then some ad else some (ad.add ((k + 1) * 6))) (nl - (k + 1)) (flat lnC (L.drop (k + 1)))) := fun w2 hw => by
                  have := ((hL.out.more hw).cut (cap := cl) (k := k + 1) hlt hnc.out).2
                  simpa using this
                have hver : Hid (∀ A9 n9 c9 w2, n9 = (L.take k ++ L.drop (k + 1)).length → LAt lnC 6 w2 w2.heap.size A9 n9 (L.take k ++ L.drop (k + 1)) → Calls Try.prog 44 #[.slice A9 n9 c9] w2 fun e w' => e = .returned (.tuple #[.int .i64 k, .int .i64 7]) ∧ Below w2.heap.size w2 w') := fun A9 n9 c9 w2 e9 h9 => by
                  subst e9
                  have := verify_log A9 _ c9 _ w2 h9 (fun x hx => (List.mem_append.1 hx).elim (fun h => hok.out x (List.mem_of_mem_take h)) (fun h => hok.out x (List.mem_of_mem_drop h))) (by rw [List.length_append, List.length_take, List.length_drop, hLn.out]; omega)
                  rw [show verN (L.take k ++ L.drop (k + 1)) = k from hrm.1, show verE (L.take k ++ L.drop (k + 1)) = 7 by unfold verE; rw [hrm.2]; rfl] at this
                  exact this
                clear hrm
                have hkc : (k : Int) ≤ (cl : Int) := by have := hnc.out; omega
                go_wp2_with fail
                refine RM.region [(168, 163)] [] (F := F27 wC.heap.size ad nl cl k L) (W := fun wz => Below wC.heap.size wC wz) (R := R27 wC.heap.size) (S := noS) (G := noG) rfl F27_more (fun _ _ _ _ _ _ _ => trivial) (fun _ _ _ _ _ h => h.elim) (fun _ _ _ _ _ h => h.elim) (by kernel_rfl) (by kernel_rfl) (by kernel_rfl) (by kernel_rfl) (by kernel_rfl) ?_ ?_ ?_ (by kernel_rfl) ?_
                · exact (Below.refl _ _).drew
                · intro t ht
                  unfold F27
                  split <;> first | trivial | exact rfl | (exact absurd ht (by decide))
                · simp only [List.forall_mem_cons, List.not_mem_nil, false_implies, implies_true, and_true]
                  refine ⟨?_, ?_, ?_, ?_, ?_, ?_, ?_, ?_, ?_, ?_, ?_, ?_, ?_, ?_, ?_, ?_⟩
                  · intro a w2 hw _ hf K hK
                    clear hf
                    go_simp
                    exact hK _ _ _ rfl ⟨w2.heap.size, rfl, hw.size, Blk.new w2 67 #[]⟩ (below_new hw _) (a1 _ _) (fun h => absurd h (by decide))
                  · intro a w2 hw _ hf K hK
                    have f0 := hf 9 rfl
                    simp only [F27] at f0
                    clear hf
                    go_simp
                    exact hK _ _ _ rfl rfl hw (Below.refl _ _) (fun h => absurd h (by decide))
                  · intro a w2 hw _ hf K hK
                    have f0 := hf 10 rfl
                    simp only [F27] at f0
                    clear hf
                    go_simp
                    exact hK _ _ _ rfl rfl hw (Below.refl _ _) (fun h => absurd h (by decide))
                  · intro a w2 hw _ hf K hK
                    have f0 := hf 160 rfl
                    have f1 := hf 161 rfl
                    simp only [F27] at f0 f1
                    clear hf
                    go_simp
                    exact hK _ _ _ rfl rfl hw (Below.refl _ _) (fun h => absurd h (by decide))
                  · intro a w2 hw _ hf K hK
                    have f0 := hf 159 rfl
                    have f1 := hf 162 rfl
                    simp only [F27] at f0 f1
                    clear hf
                    obtain ⟨g, e0, hbg, hbk⟩ := f0
                    refine wp_append_kept w2 (.tmp 159) (.tmp 162) 62 rfl wC.heap.size 67 i0 _ 6 72 Try.underlying62 hi0.out hz0.out hz1.out hz2.out rfl (by omega) (.slice (some ⟨g, 0, none⟩) 0 0) 0 [] ((eval_tmp a 159).trans e0) ⟨rfl, .inr ⟨g, 0, #[], rfl, hbg, hbk, Nat.le_refl _, Nat.zero_le _, rfl, rfl⟩⟩ w2.heap.size (some ad) k cl (flat lnC (L.take k)) ((eval_tmp a 162).trans f1) ((hL.out.more hw).take hkn).2 (ln_one _) (by simp only [maxLen]; omega) (by omega) hw.size ?_
                    intro v' w' hown hg hkp
                    have hbl : Below w2.heap.size w2 w' := by
                      rcases hkp with h | ⟨g', cap', e, hc, h0⟩
                      · exact h
                      · injection e with _ _ ec; omega
                    rw [Nat.zero_add, List.nil_append] at hown
                    exact hK _ _ _ rfl ⟨lnC_len, by rw [htk.out]; exact hown⟩ (hw.trans (hbl.mono hw.size)) hbl (fun h => absurd h (by decide))
                  · intro a w2 hw _ hf K hK
                    have f0 := hf 9 rfl
                    simp only [F27] at f0
                    clear hf
                    go_simp
                    exact hK _ _ _ rfl rfl hw (Below.refl _ _) (fun h => absurd h (by decide))
                  · intro a w2 hw _ hf K hK
                    have f0 := hf 10 rfl
                    simp only [F27] at f0
                    clear hf
                    go_simp
                    exact hK _ _ _ rfl rfl hw (Below.refl _ _) (fun h => absurd h (by decide))
                  · intro a w2 hw _ hf K hK
                    have f0 := hf 165 rfl
                    simp only [F27] at f0
                    clear hf
                    go_simp
                    exact hK _ _ _ rfl (by show _ = _; rw [IntWalk.i64_in _ (by omega)]) hw (Below.refl _ _) (fun h => absurd h (by decide))
                  · intro a w2 hw _ hf K hK
                    have f0 := hf 164 rfl
                    have f1 := hf 166 rfl
                    simp only [F27] at f0 f1
                    clear hf
                    have hnc9 := hnc.out
                    have q1 : (0 : Int) ≤ (k : Int) + 1 := by omega
                    have q2 : (k : Int) + 1 ≤ (nl : Int) := by omega
                    have q3 : (k : Int) + 1 ≤ (cl : Int) := by omega
                    have q4 : (nl : Int) ≤ (cl : Int) := by omega
                    go_simp
                    exact hK _ _ _ rfl rfl hw (Below.refl _ _) (fun h => absurd h (by decide))
                  · intro a w2 hw _ hf K hK
                    have f0 := hf 163 rfl
                    have f1 := hf 167 rfl
                    simp only [F27] at f0 f1
                    clear hf
                    generalize hv163 : a.tmps[163]?.getD undef = v163 at f0
                    refine wp_append_kept w2 (.tmp 163) (.tmp 167) 62 rfl wC.heap.size 67 i0 _ 6 72 Try.underlying62 hi0.out hz0.out hz1.out hz2.out rfl (by omega) v163 k (flat lnC (L.take k)) ((eval_tmp a 163).trans hv163) (by have := f0.2; rw [htk.out] at this; exact this) w2.heap.size (if cl = k + 1 then some ad else some (ad.add ((k + 1) * 6))) (nl - (k + 1)) (cl - (k + 1)) (flat lnC (L.drop (k + 1))) ((eval_tmp a 167).trans f1) (hcut.out w2 hw) (ln_one _) (by simp only [maxLen]; omega) (by omega) hw.size ?_
                    intro v' w' hown hg hkp
                    have hbb := below_own2 (by have := f0.2; rw [htk.out] at this; exact this) hw.size hg
                    refine hK _ _ _ rfl ⟨lnC_len, by rw [List.length_append, htk.out, flat_append, List.length_drop, hLn.out]; exact hown⟩ (hw.trans hbb) ⟨hg.size, fun b hb hbk => ?_⟩ (fun h => absurd h (by decide))
                    rcases hkp with h | ⟨g', cap', e, hc, h0⟩
                    · exact h.block b (lt_of_heap hbk)
                    · have hf0 := f0.2.2
                      rw [e] at hf0 hg
                      rcases hf0 with ⟨e1, _⟩ | ⟨g2, c2, cur, e1, _, hh, _, _, hsz, _⟩
                      · cases e1
                      · injection e1 with e1 _ e3
                        injection e1 with e1
                        injection e1 with e1
                        subst e1; subst e3
                        refine hg.block b (lt_of_heap hbk) (fun e4 => ?_)
                        simp [Value.ownBlock] at e4
                        subst e4
                        rw [hbk] at hh
                        injection hh with hh
                        injection hh with hh
                        subst hh
                        simp at hsz
                        omega
                  · intro a w2 hw _ hf K hK
                    have f0 := hf 168 rfl
                    simp only [F27] at f0
                    clear hf
                    obtain ⟨A9, c9, e9, hc9, -, -, hA9⟩ := f0.form
                    generalize hn9 : (L.take k ++ L.drop (k + 1)).length = n9 at e9 hA9 hc9
                    have hv := Lib.hid (hver.out A9 n9 c9 w2 hn9.symm hA9)
                    clear hn9 hc9 hA9 f0
                    go_simp
                    refine hv.out.mono ?_; rintro e w5 ⟨rfl, hb⟩
                    exact hK _ _ _ rfl rfl (hw.trans (hb.mono hw.size)) hb (fun h => absurd h (by decide))
                  · intro a w2 hw _ hf K hK
                    have f0 := hf 169 rfl
                    simp only [F27] at f0
                    clear hf
                    go_simp
                    exact hK _ _ _ rfl rfl hw (Below.refl _ _) (fun h => absurd h (by decide))
                  · intro a w2 hw _ hf K hK
                    have f0 := hf 158 rfl
                    simp only [F27] at f0
                    clear hf
                    go_simp
                    exact hK _ _ _ rfl rfl hw (Below.refl _ _) (fun h => absurd h (by decide))
                  · intro a w2 hw _ hf K hK
                    have f0 := hf 158 rfl
                    simp only [F27] at f0
                    clear hf
                    go_simp
                    exact hK _ _ _ rfl rfl hw (Below.refl _ _) (fun h => absurd h (by decide))
                  · intro a w2 hw _ hf K hK
                    have f0 := hf 170 rfl
                    simp only [F27] at f0
                    clear hf
                    go_simp
                    exact hK _ _ _ rfl rfl hw (Below.refl _ _) (fun h => absurd h (by decide))
                  · intro a w2 hw _ hf K hK
                    have f0 := hf 171 rfl
                    simp only [F27] at f0
                    clear hf
                    go_simp
                    exact hK _ _ _ rfl rfl hw (Below.refl _ _) (fun h => absurd h (by decide))
                · intro a' w9 hd hs hw hout hf _
                  have h15 := hf 15 rfl
                  simp only [F27] at h15
                  have h16 := hf 16 rfl
                  simp only [F27] at h16
                  have e10 : _ = some (Value.int .i64 k) := hout 10 rfl
                  obtain ⟨tm, df⟩ := a'
                  simp only at hd hs h15 h16 e10
                  have e := lit182 tm hs
                  simp only [h15, h16, e10, Option.getD_some] at e
                  clear hf hout hs
                  rw [e, hd]
                  clear e hd h15 h16 e10
                  generalize tm[0]?.getD undef = u0x, tm[1]?.getD undef = u1x, tm[2]?.getD undef = u2x, tm[3]?.getD undef = u3x, tm[4]?.getD undef = u4x, tm[5]?.getD undef = u5x, tm[6]?.getD undef = u6x, tm[7]?.getD undef = u7x, tm[8]?.getD undef = u8x, tm[9]?.getD undef = u9x, tm[11]?.getD undef = u11x, tm[12]?.getD undef = u12x, tm[13]?.getD undef = u13x, tm[14]?.getD undef = u14x, tm[17]?.getD undef = u17x, tm[18]?.getD undef = u18x, tm[19]?.getD undef = u19x, tm[20]?.getD undef = u20x, tm[21]?.getD undef = u21x, tm[22]?.getD undef = u22x, tm[23]?.getD undef = u23x, tm[24]?.getD undef = u24x, tm[25]?.getD undef = u25x, tm[26]?.getD undef = u26x, tm[27]?.getD undef = u27x, tm[28]?.getD undef = u28x, tm[29]?.getD undef = u29x, tm[30]?.getD undef = u30x, tm[31]?.getD undef = u31x, tm[32]?.getD undef = u32x, tm[33]?.getD undef = u33x, tm[34]?.getD undef = u34x, tm[35]?.getD undef = u35x, tm[36]?.getD undef = u36x, tm[37]?.getD undef = u37x, tm[38]?.getD undef = u38x, tm[39]?.getD undef = u39x, tm[40]?.getD undef = u40x, tm[41]?.getD undef = u41x, tm[42]?.getD undef = u42x, tm[43]?.getD undef = u43x, tm[44]?.getD undef = u44x, tm[45]?.getD undef = u45x, tm[46]?.getD undef = u46x, tm[47]?.getD undef = u47x, tm[48]?.getD undef = u48x, tm[49]?.getD undef = u49x, tm[50]?.getD undef = u50x, tm[51]?.getD undef = u51x, tm[52]?.getD undef = u52x, tm[53]?.getD undef = u53x, tm[54]?.getD undef = u54x, tm[55]?.getD undef = u55x, tm[56]?.getD undef = u56x, tm[57]?.getD undef = u57x, tm[58]?.getD undef = u58x, tm[59]?.getD undef = u59x, tm[60]?.getD undef = u60x, tm[61]?.getD undef = u61x, tm[62]?.getD undef = u62x, tm[63]?.getD undef = u63x, tm[64]?.getD undef = u64x, tm[65]?.getD undef = u65x, tm[66]?.getD undef = u66x, tm[67]?.getD undef = u67x, tm[68]?.getD undef = u68x, tm[69]?.getD undef = u69x, tm[70]?.getD undef = u70x, tm[71]?.getD undef = u71x, tm[72]?.getD undef = u72x, tm[73]?.getD undef = u73x, tm[74]?.getD undef = u74x, tm[75]?.getD undef = u75x, tm[76]?.getD undef = u76x, tm[77]?.getD undef = u77x, tm[78]?.getD undef = u78x, tm[79]?.getD undef = u79x, tm[80]?.getD undef = u80x, tm[81]?.getD undef = u81x, tm[82]?.getD undef = u82x, tm[83]?.getD undef = u83x, tm[84]?.getD undef = u84x, tm[85]?.getD undef = u85x, tm[86]?.getD undef = u86x, tm[87]?.getD undef = u87x, tm[88]?.getD undef = u88x, tm[89]?.getD undef = u89x, tm[90]?.getD undef = u90x, tm[91]?.getD undef = u91x, tm[92]?.getD undef = u92x, tm[93]?.getD undef = u93x, tm[94]?.getD undef = u94x, tm[95]?.getD undef = u95x, tm[96]?.getD undef = u96x, tm[97]?.getD undef = u97x, tm[98]?.getD undef = u98x, tm[99]?.getD undef = u99x, tm[100]?.getD undef = u100x, tm[101]?.getD undef = u101x, tm[102]?.getD undef = u102x, tm[103]?.getD undef = u103x, tm[104]?.getD undef = u104x, tm[105]?.getD undef = u105x, tm[106]?.getD undef = u106x, tm[107]?.getD undef = u107x, tm[108]?.getD undef = u108x, tm[109]?.getD undef = u109x, tm[110]?.getD undef = u110x, tm[111]?.getD undef = u111x, tm[112]?.getD undef = u112x, tm[113]?.getD undef = u113x, tm[114]?.getD undef = u114x, tm[115]?.getD undef = u115x, tm[116]?.getD undef = u116x, tm[117]?.getD undef = u117x, tm[118]?.getD undef = u118x, tm[119]?.getD undef = u119x, tm[120]?.getD undef = u120x, tm[121]?.getD undef = u121x, tm[122]?.getD undef = u122x, tm[123]?.getD undef = u123x, tm[124]?.getD undef = u124x, tm[125]?.getD undef = u125x, tm[126]?.getD undef = u126x, tm[127]?.getD undef = u127x, tm[128]?.getD undef = u128x, tm[129]?.getD undef = u129x, tm[130]?.getD undef = u130x, tm[131]?.getD undef = u131x, tm[132]?.getD undef = u132x, tm[133]?.getD undef = u133x, tm[134]?.getD undef = u134x, tm[135]?.getD undef = u135x, tm[136]?.getD undef = u136x, tm[137]?.getD undef = u137x, tm[138]?.getD undef = u138x, tm[139]?.getD undef = u139x, tm[140]?.getD undef = u140x, tm[141]?.getD undef = u141x, tm[142]?.getD undef = u142x, tm[143]?.getD undef = u143x, tm[144]?.getD undef = u144x, tm[145]?.getD undef = u145x, tm[146]?.getD undef = u146x, tm[147]?.getD undef = u147x
                  generalize tm[148]?.getD undef = u148x, tm[149]?.getD undef = u149x, tm[150]?.getD undef = u150x, tm[151]?.getD undef = u151x, tm[152]?.getD undef = u152x, tm[153]?.getD undef = u153x, tm[154]?.getD undef = u154x, tm[155]?.getD undef = u155x, tm[156]?.getD undef = u156x, tm[157]?.getD undef = u157x, tm[158]?.getD undef = u158x, tm[159]?.getD undef = u159x, tm[160]?.getD undef = u160x, tm[161]?.getD undef = u161x, tm[162]?.getD undef = u162x, tm[163]?.getD undef = u163x, tm[164]?.getD undef = u164x, tm[165]?.getD undef = u165x, tm[166]?.getD undef = u166x, tm[167]?.getD undef = u167x, tm[168]?.getD undef = u168x, tm[169]?.getD undef = u169x, tm[170]?.getD undef = u170x, tm[171]?.getD undef = u171x, tm[172]?.getD undef = u172x, tm[173]?.getD undef = u173x, tm[174]?.getD undef = u174x, tm[175]?.getD undef = u175x, tm[176]?.getD undef = u176x, tm[177]?.getD undef = u177x, tm[178]?.getD undef = u178x, tm[179]?.getD undef = u179x, tm[180]?.getD undef = u180x, tm[181]?.getD undef = u181x
                  have hb := Lib.hid (hb.out.trans (hw.mono hb.out.size))
                  clear hw hcut hver
                  go_wp2_with fail
                  refine (awakeL_any _).mono ?_; rintro e wa ⟨rfl, hq⟩
                  have hb := Lib.hid (hb.out.trans (hq.mono hb.out.size))
                  clear hq
                  go_wp2_with fail
                  go_ret
                  exact ⟨rfl, hb.out⟩

end Go.Proofs.Ytiggpgeldigknaa
