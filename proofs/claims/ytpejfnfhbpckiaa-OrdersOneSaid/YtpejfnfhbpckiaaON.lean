/- Orders: the law of one order that blocks, walked. -/
import Derived.Test.YtpejfnfhbpckiaaOM
set_option linter.unusedVariables false
set_option linter.unusedSimpArgs false
namespace Go.Proofs.Ytpejfnfhbpckiaa
open Go.RowKit Go.Proofs.Ytpejfnfhbpckiaa.Ord
theorem fil_step (f : O → Bool) (l : List O) (k : Nat) (h : k < l.length) : ((l.take (k + 1)).filter f).length = ((l.take k).filter f).length + (if f l[k] = true then 1 else 0) := by
  rw [List.take_succ_eq_append_getElem h, List.filter_append, List.length_append]
  congr 1
  by_cases g : f l[k] = true <;> simp [List.filter_cons, g]
theorem fil_le (f : O → Bool) (l : List O) (k : Nat) : ((l.take k).filter f).length ≤ k := Nat.le_trans (List.length_filter_le _ _) (List.length_take_le _ _)
set_option maxRecDepth 100000 in
set_option maxHeartbeats 4000000 in
theorem lawOne (A : Option Addr) (l : List O) (n cap : Nat) (st : ByteArray) (conn t : Int) (w : World) (h : OAt w w.heap.size A n l) (hc : n ≤ cap) (hm : cap ≤ maxLen) (hst : st.size ≤ maxLen) :
    Calls Try.prog 4 #[.slice A n cap, .string st, .int .i64 conn, .int .i64 t] w fun e w' => e = .returned (.bool true) ∧ Below w.heap.size w w' := by
  unfold maxLen at hst
  have hm' : cap ≤ 2 ^ 63 - 1 := hm
  have hn := Lib.hid h.len
  replace h := Lib.hid h
  cases hlong : longR 0 l with
  | true =>
    replace hlong := Lib.hid hlong
    go_enter Try.func4, Try.ntmps4
    go_wp2_with fail
    refine (longList_any A l n cap _ h.out (Nat.le_trans hc hm)).mono ?_; rintro e w1 ⟨rfl, hb1⟩
    rw [hlong.out]
    replace hb1 := Lib.hid hb1
    go_wp2_with fail
    refine (example_any _).mono ?_; rintro e wx ⟨rfl, hbx⟩
    go_wp2_with fail
    go_ret
    exact ⟨rfl, hb1.out.trans (hbx.mono hb1.out.size)⟩
  | false =>
    replace hlong := Lib.hid hlong
    by_cases h4 : 4096 < st.size
    · have hd : decide ((4096 : Int) < st.size) = true := by simp; omega
      go_enter Try.func4, Try.ntmps4
      go_wp2_with fail
      refine (longList_any A l n cap _ h.out (Nat.le_trans hc hm)).mono ?_; rintro e w1 ⟨rfl, hb1⟩
      rw [hlong.out]
      replace hb1 := Lib.hid hb1
      go_wp2_with fail
      refine (example_any _).mono ?_; rintro e wx ⟨rfl, hbx⟩
      go_wp2_with fail
      go_ret
      exact ⟨rfl, hb1.out.trans (hbx.mono hb1.out.size)⟩
    · have hd : decide ((4096 : Int) < st.size) = false := by simp; omega
      by_cases h5 : conn < 1
      · go_enter Try.func4, Try.ntmps4
        go_wp2_with fail
        refine (longList_any A l n cap _ h.out (Nat.le_trans hc hm)).mono ?_; rintro e w1 ⟨rfl, hb1⟩
        rw [hlong.out]
        replace hb1 := Lib.hid hb1
        go_wp2_with fail
        refine (example_any _).mono ?_; rintro e wx ⟨rfl, hbx⟩
        go_wp2_with fail
        go_ret
        exact ⟨rfl, hb1.out.trans (hbx.mono hb1.out.size)⟩
      · have h5' : 1 ≤ conn := by omega
        by_cases hv : valid nameB l = 0
        · have vl := Lib.hid (vld_of hv)
          have hn1 : n ≤ 1000 := by have := vl.out.len; have := hn.out; omega
          have hno : Hid (∀ o ∈ l, 0 ≤ o.notes) := fun o ho => by
            obtain ⟨j, hj, rfl⟩ := List.mem_iff_getElem.1 ho
            exact (vl.out.ok j hj).n1
          replace hv := Lib.hid hv
          cases hbl : blocks l st conn t with
          | false =>
            replace hbl := Lib.hid hbl
            go_enter Try.func4, Try.ntmps4
            go_wp2_with fail
            refine (longList_any A l n cap _ h.out (Nat.le_trans hc hm)).mono ?_; rintro e w1 ⟨rfl, hb1⟩
            rw [hlong.out]
            replace hb1 := Lib.hid hb1
            go_wp2_with fail
            refine (valid_any A l n cap _ (h.out.more hb1.out) hc hm).mono ?_; rintro e w2 ⟨rfl, hb2⟩
            rw [hv.out]
            replace hb2 : Hid (Below w.heap.size w w2) := hb1.out.trans (hb2.mono hb1.out.size)
            go_wp2_with fail
            refine (blocks_any A l n cap st conn t _ (h.out.more hb2.out) (Nat.le_trans hc hm)).mono ?_; rintro e w3 ⟨rfl, hb3⟩
            rw [hbl.out]
            replace hb3 : Hid (Below w.heap.size w w3) := hb2.out.trans (hb3.mono hb2.out.size)
            go_wp2_with fail
            refine (example_any _).mono ?_; rintro e wx ⟨rfl, hbx⟩
            go_wp2_with fail
            go_ret
            exact ⟨rfl, hb3.out.trans (hbx.mono hb3.out.size)⟩
          | true =>
            have hcnt := Lib.hid (count_frees vl.out h5' hbl)
            replace hbl := Lib.hid hbl
            go_enter Try.func4, Try.ntmps4
            go_wp2_with fail
            refine (longList_any A l n cap _ h.out (Nat.le_trans hc hm)).mono ?_; rintro e w1 ⟨rfl, hb1⟩
            rw [hlong.out]
            replace hb1 := Lib.hid hb1
            go_wp2_with fail
            refine (valid_any A l n cap _ (h.out.more hb1.out) hc hm).mono ?_; rintro e w2 ⟨rfl, hb2⟩
            rw [hv.out]
            replace hb2 : Hid (Below w.heap.size w w2) := hb1.out.trans (hb2.mono hb1.out.size)
            go_wp2_with fail
            refine (blocks_any A l n cap st conn t _ (h.out.more hb2.out) (Nat.le_trans hc hm)).mono ?_; rintro e w3 ⟨rfl, hb3⟩
            rw [hbl.out]
            replace hb3 : Hid (Below w.heap.size w w3) := hb2.out.trans (hb3.mono hb2.out.size)
            go_wp2_with fail
            go_loopw [9, 39] (fun c i wr => ∃ k : Nat, k ≤ n ∧ i = .int .i64 k ∧ c = .int .i64 (((l.take k).filter (frees l st conn t)).length : Nat) ∧ Hid (Below w.heap.size w wr)) (fun _ i _ => n - (intOf i).toNat)
            case atStart => exact ⟨0, Nat.zero_le _, rfl, by simp, hb3.out⟩
            case round =>
              obtain ⟨k, hk, rfl, rfl, hb⟩ := hrel
              clear hb2 hb3
              by_cases hlt : k < n
              · have hkl : k < l.length := by rw [hn.out]; exact hlt
                have hst := Lib.hid (fil_step (frees l st conn t) l k hkl)
                have hle := fil_le (frees l st conn t) l k
                have hfr : Hid (frees l st conn t l[k] = (decide ((closeF l l[k].id false).2 = 0) && !(blocks (closeF l l[k].id false).1 st conn t))) := rfl
                generalize ((l.take k).filter (frees l st conn t)).length = m at *
                obtain ⟨ad, hA, hbd, e0, e1, e2, e3, e4, e5, e6⟩ := OAt.cell (h.out.below hb.out (Nat.le_refl _)) hlt
                subst hA
                clear e1 e2 e3 e4 e5 e6
                generalize hx : l[k].id = xid at *
                generalize hfx : frees l st conn t l[k] = fx at *
                have hk0 : (0 : Int) ≤ k := by omega
                have hk1 : (k : Int) < n := by omega
                generalize hcl : closeF l xid false = cf at *
                obtain ⟨cl, ce⟩ := cf
                simp only at hfr
                replace hcl := Lib.hid hcl
                replace hx := Lib.hid hx
                replace hfx := Lib.hid hfx
                by_cases hce : ce = 0
                · have hced : (ce == 0) = true := by simpa using hce
                  cases hbb : blocks cl st conn t with
                  | true =>
                    have hF : Hid (((l.take (k + 1)).filter (frees l st conn t)).length = m) := by show _ = _; rw [hst.out, if_neg (by rw [hfr.out, hbb]; simp)]; rfl
                    replace hbb := Lib.hid hbb
                    replace hce := Lib.hid hce
                    go_wp2_with fail
                    refine (close_any (some ad) l n cap xid false _ (h.out.more hb.out) hc hm hn1 hno.out).mono ?_; rintro e w6 ⟨v6, rfl, o6⟩
                    rw [hcl.out] at o6 ⊢
                    obtain ⟨A6, n6, c6, rfl, h6, p6, m6, hb6⟩ := o6
                    replace h6 := Lib.hid h6
                    replace hb6 : Hid (Below w.heap.size w w6) := hb.out.trans (hb6.mono hb.out.size)
                    go_wp2_with fail
                    refine (blocks_any A6 cl n6 c6 st conn t _ h6.out (Nat.le_trans p6 m6)).mono ?_; rintro e w7 ⟨rfl, hb7⟩
                    rw [hbb.out]
                    replace hb7 : Hid (Below w.heap.size w w7) := hb6.out.trans (hb7.mono hb6.out.size)
                    go_wp2_with fail
                    go_roundw
                    case rel => exact ⟨k + 1, by omega, by go_num, by rw [hF.out], hb7.out⟩
                    case measure => simp [intOf]; omega
                  | false =>
                    have hF : Hid (((l.take (k + 1)).filter (frees l st conn t)).length = m + 1) := by show _ = _; rw [hst.out, if_pos (by rw [hfr.out, hbb, hce]; rfl)]
                    replace hbb := Lib.hid hbb
                    replace hce := Lib.hid hce
                    go_wp2_with fail
                    refine (close_any (some ad) l n cap xid false _ (h.out.more hb.out) hc hm hn1 hno.out).mono ?_; rintro e w6 ⟨v6, rfl, o6⟩
                    rw [hcl.out] at o6 ⊢
                    obtain ⟨A6, n6, c6, rfl, h6, p6, m6, hb6⟩ := o6
                    replace h6 := Lib.hid h6
                    replace hb6 : Hid (Below w.heap.size w w6) := hb.out.trans (hb6.mono hb.out.size)
                    go_wp2_with fail
                    refine (blocks_any A6 cl n6 c6 st conn t _ h6.out (Nat.le_trans p6 m6)).mono ?_; rintro e w7 ⟨rfl, hb7⟩
                    rw [hbb.out]
                    replace hb7 : Hid (Below w.heap.size w w7) := hb6.out.trans (hb7.mono hb6.out.size)
                    go_wp2_with fail
                    go_roundw
                    case rel => exact ⟨k + 1, by omega, by go_num, by rw [hF.out]; go_num, hb7.out⟩
                    case measure => simp [intOf]; omega
                · have hced : (ce == 0) = false := by simpa using hce
                  have hF : Hid (((l.take (k + 1)).filter (frees l st conn t)).length = m) := by show _ = _; rw [hst.out, if_neg (by rw [hfr.out]; simp [hce])]; rfl
                  replace hce := Lib.hid hce
                  go_wp2_with fail
                  refine (close_any (some ad) l n cap xid false _ (h.out.more hb.out) hc hm hn1 hno.out).mono ?_; rintro e w6 ⟨v6, rfl, o6⟩
                  rw [hcl.out] at o6 ⊢
                  obtain ⟨A6, n6, c6, rfl, h6, p6, m6, hb6⟩ := o6
                  replace h6 := Lib.hid h6
                  replace hb6 : Hid (Below w.heap.size w w6) := hb.out.trans (hb6.mono hb.out.size)
                  go_wp2_with fail
                  go_roundw
                  case rel => exact ⟨k + 1, by omega, by go_num, by rw [hF.out], hb6.out⟩
                  case measure => simp [intOf]; omega
              · have hF : Hid (((l.take k).filter (frees l st conn t)).length = 1) := by show _ = _; rw [List.take_of_length_le (by rw [hn.out]; omega)]; exact hcnt.out
                rw [hF.out]
                go_wp2_with fail
                go_ret
                exact ⟨rfl, hb.out⟩
        · have hvd : (valid nameB l != 0) = true := by simpa using hv
          generalize hvv : valid nameB l = vv at *
          replace hvv := Lib.hid hvv
          replace hv := hvv
          go_enter Try.func4, Try.ntmps4
          go_wp2_with fail
          refine (longList_any A l n cap _ h.out (Nat.le_trans hc hm)).mono ?_; rintro e w1 ⟨rfl, hb1⟩
          rw [hlong.out]
          replace hb1 := Lib.hid hb1
          go_wp2_with fail
          refine (valid_any A l n cap _ (h.out.more hb1.out) hc hm).mono ?_; rintro e w2 ⟨rfl, hb2⟩
          rw [hv.out]
          replace hb2 : Hid (Below w.heap.size w w2) := hb1.out.trans (hb2.mono hb1.out.size)
          go_wp2_with fail
          refine (example_any _).mono ?_; rintro e wx ⟨rfl, hbx⟩
          go_wp2_with fail
          go_ret
          exact ⟨rfl, hb2.out.trans (hbx.mono hb2.out.size)⟩
end Go.Proofs.Ytpejfnfhbpckiaa
