/- Orders: the law of sequences of calls, walked. -/
import Derived.Test.YtpejfnfhbpckiaaOX
set_option linter.unusedVariables false
set_option linter.unusedSimpArgs false
namespace Go.Proofs.Ytpejfnfhbpckiaa
open Go.RowKit Go.Proofs.Ytpejfnfhbpckiaa.Ord
theorem ops_cell {w : World} {B : Nat} {A : Option Addr} {n : Nat} {l : List Opn} (h : LAt opC 8 w B A n l) {k : Nat} (hk : k < n) : ∃ ad, A = some ad ∧ ad.block < B ∧ w.cell? (ad.add (k * 8)) = some (.int .i64 (l[k]'(by rw [h.len]; exact hk)).kind) ∧ w.cell? ⟨(ad.add (k * 8)).block, (ad.add (k * 8)).off + 1, none⟩ = some (.string (l[k]'(by rw [h.len]; exact hk)).st) ∧ w.cell? ⟨(ad.add (k * 8)).block, (ad.add (k * 8)).off + 2, none⟩ = some (.int .i64 (l[k]'(by rw [h.len]; exact hk)).conn) ∧ w.cell? ⟨(ad.add (k * 8)).block, (ad.add (k * 8)).off + 3, none⟩ = some (.int .i64 (l[k]'(by rw [h.len]; exact hk)).id) ∧ w.cell? ⟨(ad.add (k * 8)).block, (ad.add (k * 8)).off + 4, none⟩ = some (.int .i64 (l[k]'(by rw [h.len]; exact hk)).fr) ∧ w.cell? ⟨(ad.add (k * 8)).block, (ad.add (k * 8)).off + 5, none⟩ = some (.int .i64 (l[k]'(by rw [h.len]; exact hk)).tt) ∧ w.cell? ⟨(ad.add (k * 8)).block, (ad.add (k * 8)).off + 6, none⟩ = some (.int .i64 (l[k]'(by rw [h.len]; exact hk)).now) ∧ w.cell? ⟨(ad.add (k * 8)).block, (ad.add (k * 8)).off + 7, none⟩ = some (.bool (l[k]'(by rw [h.len]; exact hk)).done) := by
  obtain ⟨ad, hA, hb, hc⟩ := h.at_ hk
  refine ⟨ad, hA, hb, hc 0 _ rfl, ?_, ?_, ?_, ?_, ?_, ?_, ?_⟩
  · rw [← add_next ad (k * 8) 0]; exact hc 1 _ rfl
  · rw [← add_next ad (k * 8) 1]; exact hc 2 _ rfl
  · rw [← add_next ad (k * 8) 2]; exact hc 3 _ rfl
  · rw [← add_next ad (k * 8) 3]; exact hc 4 _ rfl
  · rw [← add_next ad (k * 8) 4]; exact hc 5 _ rfl
  · rw [← add_next ad (k * 8) 5]; exact hc 6 _ rfl
  · rw [← add_next ad (k * 8) 6]; exact hc 7 _ rfl
def longO : Nat → List Opn → Bool
  | _, [] => false
  | k, x :: r => decide (150 ≤ k) || decide (4096 < x.st.size) || longO (k + 1) r
theorem longO_step (l : List Opn) (k : Nat) (h : k < l.length) : longO k (l.drop k) = (decide (150 ≤ k) || decide (4096 < l[k].st.size) || longO (k + 1) (l.drop (k + 1))) := by
  rw [List.drop_eq_getElem_cons h]; rfl
set_option maxRecDepth 100000 in
set_option maxHeartbeats 1000000 in
theorem longOps_any (A : Option Addr) (l : List Opn) (n cap : Nat) (w : World) (h : LAt opC 8 w w.heap.size A n l) (hm : n ≤ maxLen) :
    Calls Try.prog 18 #[.slice A n cap] w fun e w' => e = .returned (.bool (longO 0 l)) ∧ Below w.heap.size w w' := by
  unfold maxLen at hm
  have hn := Lib.hid h.len
  replace h := Lib.hid h
  go_enter Try.func18, Try.ntmps18
  go_wp2_with fail
  go_loopw [6] (fun i wr => ∃ k : Nat, k ≤ n ∧ i = .int .i64 k ∧ Hid (Below w.heap.size w wr) ∧ Hid (longO 0 l = longO k (l.drop k))) (fun i _ => n - (intOf i).toNat)
  case atStart => exact ⟨0, Nat.zero_le _, rfl, Below.refl _ _, rfl⟩
  case round =>
    obtain ⟨k, hk, rfl, hb, hx⟩ := hrel
    by_cases hlt : k < n
    · have hkl : k < l.length := by rw [hn.out]; exact hlt
      have hst := Lib.hid (longO_step l k hkl)
      obtain ⟨ad, hA, hbl, e0, e1, e2, e3, e4, e5, e6, e7⟩ := ops_cell (h.out.below hb.out (Nat.le_refl _)) hlt
      subst hA
      generalize l[k] = x at *
      obtain ⟨p0, p1, p2, p3, p4, p5, p6, p7⟩ := x
      simp only at e0 e1 e2 e3 e4 e5 e6 e7
      have hk0 : (0 : Int) ≤ k := by omega
      have hk1 : (k : Int) < n := by omega
      by_cases h8 : 150 ≤ k
      · have hF : Hid (longO 0 l = true) := by show _ = _; rw [hx.out, hst.out]; simp [h8]
        have hd : decide ((150 : Int) ≤ k) = true := by simp; omega
        go_wp2_with fail
        go_ret
        exact ⟨ret_bool hF.out.symm, hb.out⟩
      · have hd : decide ((150 : Int) ≤ k) = false := by simp; omega
        by_cases h4 : 4096 < p1.size
        · have hF : Hid (longO 0 l = true) := by show _ = _; rw [hx.out, hst.out]; simp [h4]
          have hd2 : decide ((4096 : Int) < p1.size) = true := by simp; omega
          go_wp2_with fail
          go_ret
          exact ⟨ret_bool hF.out.symm, hb.out⟩
        · have hF : Hid (longO 0 l = longO (k + 1) (l.drop (k + 1))) := by show _ = _; rw [hx.out, hst.out]; simp [h4, h8]
          have hd2 : decide ((4096 : Int) < p1.size) = false := by simp; omega
          go_wp2_with fail
          go_roundw
          case rel => exact ⟨k + 1, by omega, by go_num, hb.out, hF⟩
          case measure => simp [intOf]; omega
    · have hF : Hid (longO 0 l = false) := by show _ = _; rw [hx.out, List.drop_of_length_le (by rw [hn.out]; omega)]; rfl
      go_wp2_with fail
      go_ret
      exact ⟨ret_bool hF.out.symm, hb.out⟩
set_option maxRecDepth 100000 in
set_option maxHeartbeats 8000000 in
theorem lawPlay (A : Option Addr) (l : List Opn) (n cap : Nat) (w : World) (h : LAt opC 8 w w.heap.size A n l) (hc : n ≤ cap) (hm : cap ≤ maxLen) (hst : ∀ o ∈ l, o.st.size ≤ maxLen) :
    Calls Try.prog 6 #[.slice A n cap] w fun e w' => e = .returned (.bool true) ∧ Below w.heap.size w w' := by
  have hm' : cap ≤ 2 ^ 63 - 1 := hm
  have hn := Lib.hid h.len
  replace h := Lib.hid h
  clear hst
  cases hlong : longO 0 l with
  | true =>
    replace hlong := Lib.hid hlong
    go_enter Try.func6, Try.ntmps6
    go_wp2_with fail
    refine (longOps_any A l n cap _ h.out (Nat.le_trans hc hm)).mono ?_; rintro e w1 ⟨rfl, hb1⟩
    rw [hlong.out]
    replace hb1 := Lib.hid hb1
    go_wp2_with fail
    refine (example_any _).mono ?_; rintro e wx ⟨rfl, hbx⟩
    go_wp2_with fail
    go_ret
    exact ⟨rfl, hb1.out.trans (hbx.mono hb1.out.size)⟩
  | false =>
    replace hlong := Lib.hid hlong
    go_enter Try.func6, Try.ntmps6
    go_wp2_with fail
    refine (longOps_any A l n cap _ h.out (Nat.le_trans hc hm)).mono ?_; rintro e w1 ⟨rfl, hb1⟩
    rw [hlong.out]
    replace hb1 := Lib.hid hb1
    go_wp2_with fail
    go_loopw [3, 4, 15] (fun u v i wr => ∃ (k m c1 c2 : Nat) (B1 B2 : Option Addr) (L : List O), k ≤ n ∧ i = .int .i64 k ∧ u = .slice B1 m c1 ∧ v = .slice B2 m c2 ∧ m ≤ c1 ∧ c1 ≤ maxLen ∧ m ≤ c2 ∧ c2 ≤ maxLen ∧ Hid (OAt wr wr.heap.size B1 m L) ∧ Hid (OAt wr wr.heap.size B2 m L) ∧ Hid (Vld nameB L) ∧ Hid (Below w.heap.size w wr)) (fun _ _ i _ => n - (intOf i).toNat)
    case atStart => exact ⟨0, 0, 0, 0, none, none, [], Nat.zero_le _, rfl, rfl, rfl, Nat.le_refl _, Nat.zero_le _, Nat.le_refl _, Nat.zero_le _, LAt.nil oC_len _ _, LAt.nil oC_len _ _, vld_nil _, hb1.out⟩
    case round =>
      obtain ⟨k, m, c1, c2, B1, B2, L, hk, rfl, rfl, rfl, i1, i2, i3, i4, g1, g2, hv, hb⟩ := hrel
      clear hb1
      by_cases hlt : k < n
      · have hkl : k < l.length := by rw [hn.out]; exact hlt
        have hk0 : (0 : Int) ≤ k := by omega
        have hk1 : (k : Int) < n := by omega
        have hcl0 : Hid (∃ ad, A = some ad ∧ ∀ wz, Below w.heap.size w wz → wz.cell? (ad.add (k * 8)) = some (.int .i64 (l[k]'hkl).kind) ∧ wz.cell? ⟨(ad.add (k * 8)).block, (ad.add (k * 8)).off + 1, none⟩ = some (.string (l[k]'hkl).st) ∧ wz.cell? ⟨(ad.add (k * 8)).block, (ad.add (k * 8)).off + 2, none⟩ = some (.int .i64 (l[k]'hkl).conn) ∧ wz.cell? ⟨(ad.add (k * 8)).block, (ad.add (k * 8)).off + 3, none⟩ = some (.int .i64 (l[k]'hkl).id) ∧ wz.cell? ⟨(ad.add (k * 8)).block, (ad.add (k * 8)).off + 4, none⟩ = some (.int .i64 (l[k]'hkl).fr) ∧ wz.cell? ⟨(ad.add (k * 8)).block, (ad.add (k * 8)).off + 5, none⟩ = some (.int .i64 (l[k]'hkl).tt) ∧ wz.cell? ⟨(ad.add (k * 8)).block, (ad.add (k * 8)).off + 6, none⟩ = some (.int .i64 (l[k]'hkl).now) ∧ wz.cell? ⟨(ad.add (k * 8)).block, (ad.add (k * 8)).off + 7, none⟩ = some (.bool (l[k]'hkl).done)) := by
          obtain ⟨ad, hA, _, _⟩ := ops_cell h.out hlt
          refine ⟨ad, hA, fun wz hz => ?_⟩
          obtain ⟨ad', hA', _, q⟩ := ops_cell (h.out.below hz (Nat.le_refl _)) hlt
          rw [hA] at hA'
          cases hA'
          exact q
        have hvm := Lib.hid (fun x => callF_vld hv.out x)
        obtain ⟨ad, rfl, hcl⟩ := hcl0.out
        clear hcl0
        generalize (l[k]'hkl) = x at *
        have hxV : Hid (opV x = .agg #[.int .i64 x.kind, .string x.st, .int .i64 x.conn, .int .i64 x.id, .int .i64 x.fr, .int .i64 x.tt, .int .i64 x.now, .bool x.done]) := rfl
        obtain ⟨p0, p1, p2, p3, p4, p5, p6, p7⟩ := x
        simp only at hcl hxV
        replace hcl := Lib.hid hcl
        obtain ⟨b0, b1, b2, b3, b4, b5, b6, b7⟩ := hcl.out _ hb.out
        have hv2 := Lib.hid (hvm.out ⟨p0, p1, p2, p3, p4, p5, p6, p7⟩)
        have hval := Lib.hid (hv2.out.mk_)
        go_wp2_with fail
        rw [← hxV.out]
        refine (call_any B1 L m c1 ⟨p0, p1, p2, p3, p4, p5, p6, p7⟩ _ g1.out i1 i2 hv.out).mono ?_; rintro e w3 ⟨u1, rfl, o1⟩
        obtain ⟨A1, n1, c3, rfl, h1, q1, r1, hb3⟩ := o1
        clear b0 b1 b2 b3 b4 b5 b6 b7
        have g2' := Lib.hid (g2.out.more hb3)
        replace h1 := Lib.hid h1
        replace hb := Lib.hid (hb.out.trans (hb3.mono hb.out.size))
        clear hb3
        obtain ⟨b0, b1, b2, b3, b4, b5, b6, b7⟩ := hcl.out _ hb.out
        rw [hxV.out]
        go_wp2_with fail
        rw [← hxV.out]
        refine (want_any B2 L m c2 ⟨p0, p1, p2, p3, p4, p5, p6, p7⟩ _ g2'.out i3 i4 hv.out).mono ?_; rintro e w4 ⟨u2, rfl, o2⟩
        obtain ⟨A2, n2, c4, rfl, h2, q2, r2, hb4⟩ := o2
        clear b0 b1 b2 b3 b4 b5 b6 b7
        obtain rfl : n1 = n2 := by have e1 := h1.out.len; have e2 := h2.len; omega
        have hE1 := Lib.hid (h1.out.more hb4)
        have hE2 := Lib.hid h2
        replace hb := Lib.hid (hb.out.trans (hb4.mono hb.out.size))
        clear hb4 h2 h1
        rw [hxV.out]
        generalize (callF L ⟨p0, p1, p2, p3, p4, p5, p6, p7⟩).1 = L2 at *
        generalize (callF L ⟨p0, p1, p2, p3, p4, p5, p6, p7⟩).2.1 = z1 at *
        generalize (callF L ⟨p0, p1, p2, p3, p4, p5, p6, p7⟩).2.2 = z2 at *
        go_wp2_with fail
        refine (equal_self A1 A2 L2 n1 c3 c4 _ hE1.out hE2.out (Nat.le_trans q1 r1)).mono ?_; rintro e w5 ⟨rfl, hb5⟩
        have hE3 := Lib.hid (hE1.out.more hb5)
        have hE4 := Lib.hid (hE2.out.more hb5)
        replace hb := Lib.hid (hb.out.trans (hb5.mono hb.out.size))
        clear hb5
        go_wp2_with fail
        refine (valid_any A1 L2 n1 c3 _ hE3.out q1 r1).mono ?_; rintro e w6 ⟨rfl, hb6⟩
        rw [hval.out]
        have hE5 := Lib.hid (hE3.out.more hb6)
        have hE6 := Lib.hid (hE4.out.more hb6)
        replace hb := Lib.hid (hb.out.trans (hb6.mono hb.out.size))
        clear hb6
        go_wp2_with fail
        go_roundw
        case rel => exact ⟨k + 1, n1, c3, c4, A1, A2, L2, by omega, by go_num, rfl, rfl, q1, r1, q2, r2, hE5.out, hE6.out, hv2.out, hb.out⟩
        case measure => simp [intOf]; omega
      · clear g1 g2 hv i1 i2 i3 i4
        go_wp2_with fail
        refine (example_any _).mono ?_; rintro e wx ⟨rfl, hbx⟩
        go_wp2_with fail
        go_ret
        exact ⟨rfl, hb.out.trans (hbx.mono hb.out.size)⟩
end Go.Proofs.Ytpejfnfhbpckiaa
