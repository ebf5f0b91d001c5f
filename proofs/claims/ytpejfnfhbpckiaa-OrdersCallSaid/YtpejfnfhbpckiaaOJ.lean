/- Orders: Open of both, walked. -/
import Derived.Test.YtpejfnfhbpckiaaOG
import Derived.Deep.RegionWith
import Derived.Deep.RegionLaw
set_option linter.unusedVariables false
set_option linter.unusedSimpArgs false
namespace Go.Proofs.Ytpejfnfhbpckiaa
open Go.RowKit Go.Proofs.Ytpejfnfhbpckiaa.Ord
theorem lastId_at (l : List O) (i : Nat) (hi : i < l.length) (h : i + 1 = l.length) : lastId l = l[i].id := by
  simp [lastId, List.getLast?_eq_getElem?]
  rw [show l.length - 1 = i by omega, List.getElem?_eq_getElem hi]
  rfl
theorem copied_ex (A : Option Addr) (l : List O) (n cap : Nat) (w : World) (h : OAt w w.heap.size A n l) (hm : n ≤ 1000) :
    Calls Try.prog 26 #[.slice A n cap] w fun e w' => ∃ g, e = .returned (.slice (some ⟨g, 0, none⟩) n (n + 1)) ∧ OOwn w' w.heap.size (.slice (some ⟨g, 0, none⟩) n (n + 1)) l ∧ Below w.heap.size w w' :=
  (copied_any A l n cap w h hm).mono fun e w' ⟨a, b, c⟩ => ⟨_, a, b, c⟩
theorem reads_blk {w : World} {g : Nat} (x : O) (h : Blk w g 33 #[.int .i64 x.id, .int .i64 x.conn, .string x.st, .int .i64 x.fr, .int .i64 x.tt, .int .i64 x.state, .int .i64 x.notes]) : Reads w w.heap.size 7 (some ⟨g, 0, none⟩) 1 (flat oC [x]) := by
  refine ⟨rfl, fun _ => ⟨_, rfl, h.lt, fun j u hu => ?_⟩⟩
  rw [add_row, h.cell j, ← hu]
  rw [← Array.getElem?_toList]
  rfl
set_option maxRecDepth 100000 in
set_option maxHeartbeats 2000000 in
theorem open_bad (A : Option Addr) (l : List O) (n cap : Nat) (st : ByteArray) (conn : Int) (w : World) (h : OAt w w.heap.size A n l) (hc : n ≤ cap) (hm : cap ≤ maxLen) (er : Int)
    (hid : 0 < n → 0 ≤ lastId l) (hid2 : 0 < n → lastId l ≤ 2147483647)
    (hw : (nameB st = false ∧ er = 4) ∨ (nameB st = true ∧ (conn < 0 ∨ 32 < conn) ∧ er = 2) ∨ (nameB st = true ∧ 0 ≤ conn ∧ conn ≤ 32 ∧ 64 ≤ n ∧ er = 3) ∨ (nameB st = true ∧ 0 ≤ conn ∧ conn ≤ 32 ∧ n < 64 ∧ 0 < n ∧ 2147483647 ≤ lastId l ∧ er = 3)) :
    Calls Try.prog 20 #[.slice A n cap, .string st, .int .i64 conn] w fun e w' => ∃ v, e = .returned (.tuple #[v, .int .i64 0, .int .i64 er]) ∧ OutV w w' l v := by
  have hm' : cap ≤ 2 ^ 63 - 1 := hm
  have hn := Lib.hid h.len
  have hlast : Hid (0 < n → ∃ ad, A = some ad ∧ ∀ wz, Below w.heap.size w wz → wz.cell? (ad.add ((n - 1) * 7)) = some (.int .i64 (lastId l))) := fun h0 => by
    obtain ⟨ad, hA, _, hk⟩ := h.kept (i := n - 1) (by rw [hn.out]; omega) rfl
    refine ⟨ad, hA, fun wz hz => ?_⟩
    rw [lastId_at l (n - 1) (by rw [hn.out]; omega) (by rw [hn.out]; omega)]
    exact (hk wz hz).1
  replace h := Lib.hid h
  replace hid := Lib.hid hid
  replace hid2 := Lib.hid hid2
  rcases hw with ⟨hnm, rfl⟩ | ⟨hnm, hcn, rfl⟩ | ⟨hnm, hc1, hc2, hl, rfl⟩ | ⟨hnm, hc1, hc2, hl, hl0, hla, rfl⟩
  · clear hlast
    replace hnm := Lib.hid hnm
    go_enter Try.func20, Try.ntmps20
    go_wp2_with fail
    refine (name_any _ _).mono ?_; rintro e w0 ⟨rfl, hb0⟩
    rw [hnm.out]
    replace hb0 := Lib.hid hb0
    go_wp2_with fail
    go_ret3
    exact ⟨_, rfl, OutV.same h.out hc hm hb0.out⟩
  · clear hlast
    replace hnm := Lib.hid hnm
    rcases hcn with hcn | hcn
    · go_enter Try.func20, Try.ntmps20
      go_wp2_with fail
      refine (name_any _ _).mono ?_; rintro e w0 ⟨rfl, hb0⟩
      rw [hnm.out]
      replace hb0 := Lib.hid hb0
      go_wp2_with fail
      go_ret3
      exact ⟨_, rfl, OutV.same h.out hc hm hb0.out⟩
    · have hcn0 : ¬ conn < 0 := by omega
      go_enter Try.func20, Try.ntmps20
      go_wp2_with fail
      refine (name_any _ _).mono ?_; rintro e w0 ⟨rfl, hb0⟩
      rw [hnm.out]
      replace hb0 := Lib.hid hb0
      go_wp2_with fail
      go_ret3
      exact ⟨_, rfl, OutV.same h.out hc hm hb0.out⟩
  · have hd : decide ((64 : Int) ≤ n) = true := by simp; omega
    have hd' : decide ((n : Int) < 64) = false := by simp; omega
    replace hnm := Lib.hid hnm
    clear hlast
    go_enter Try.func20, Try.ntmps20
    go_wp2_with fail
    refine (name_any _ _).mono ?_; rintro e w0 ⟨rfl, hb0⟩
    rw [hnm.out]
    replace hb0 := Lib.hid hb0
    go_wp2_with fail
    go_ret3
    exact ⟨_, rfl, OutV.same h.out hc hm hb0.out⟩
  · have hd : decide ((64 : Int) ≤ n) = false := by simp; omega
    have hd' : decide ((n : Int) < 64) = true := by simp; omega
    have h0d : decide ((0 : Int) < n) = true := by simp; omega
    have hn0 : (0 : Int) ≤ (n : Int) - 1 := by omega
    have hn1 : (n : Int) - 1 < n := by omega
    have hn2 : Hid (((n : Int) - 1).toNat = n - 1) := by show _ = _; omega
    have hb1 := hid.out hl0
    have hb2 := hid2.out hl0
    obtain ⟨ad, rfl, hk⟩ := hlast.out hl0
    clear hlast
    generalize lastId l = la at *
    replace hk := Lib.hid hk
    replace hnm := Lib.hid hnm
    go_enter Try.func20, Try.ntmps20
    go_wp2_with fail
    refine (name_any _ _).mono ?_; rintro e w0 ⟨rfl, hb0⟩
    rw [hnm.out]
    have e0 := hk.out _ hb0
    replace hb0 := Lib.hid hb0
    go_wp2_with fail

    go_ret3
    exact ⟨_, rfl, OutV.same h.out hc hm hb0.out⟩
set_option maxRecDepth 100000 in
set_option maxHeartbeats 2000000 in
theorem ropen_bad (A : Option Addr) (l : List O) (n cap : Nat) (st : ByteArray) (conn : Int) (w : World) (h : OAt w w.heap.size A n l) (hc : n ≤ cap) (hm : cap ≤ maxLen) (er : Int)
    (hid : 0 < n → 0 ≤ lastId l) (hid2 : 0 < n → lastId l ≤ 2147483647)
    (hw : (nameB st = false ∧ er = 4) ∨ (nameB st = true ∧ (conn < 0 ∨ 32 < conn) ∧ er = 2) ∨ (nameB st = true ∧ 0 ≤ conn ∧ conn ≤ 32 ∧ 64 ≤ n ∧ er = 3) ∨ (nameB st = true ∧ 0 ≤ conn ∧ conn ≤ 32 ∧ n < 64 ∧ 0 < n ∧ 2147483647 ≤ lastId l ∧ er = 3)) :
    Calls Try.prog 28 #[.slice A n cap, .string st, .int .i64 conn] w fun e w' => ∃ v, e = .returned (.tuple #[v, .int .i64 0, .int .i64 er]) ∧ OutV w w' l v := by
  have hm' : cap ≤ 2 ^ 63 - 1 := hm
  have hn := Lib.hid h.len
  have hlast : Hid (0 < n → ∃ ad, A = some ad ∧ ∀ wz, Below w.heap.size w wz → wz.cell? (ad.add ((n - 1) * 7)) = some (.int .i64 (lastId l))) := fun h0 => by
    obtain ⟨ad, hA, _, hk⟩ := h.kept (i := n - 1) (by rw [hn.out]; omega) rfl
    refine ⟨ad, hA, fun wz hz => ?_⟩
    rw [lastId_at l (n - 1) (by rw [hn.out]; omega) (by rw [hn.out]; omega)]
    exact (hk wz hz).1
  replace h := Lib.hid h
  replace hid := Lib.hid hid
  replace hid2 := Lib.hid hid2
  rcases hw with ⟨hnm, rfl⟩ | ⟨hnm, hcn, rfl⟩ | ⟨hnm, hc1, hc2, hl, rfl⟩ | ⟨hnm, hc1, hc2, hl, hl0, hla, rfl⟩
  · clear hlast
    replace hnm := Lib.hid hnm
    go_enter Try.func28, Try.ntmps28
    go_wp2_with fail
    refine (rname_any _ _).mono ?_; rintro e w0 ⟨rfl, hb0⟩
    rw [hnm.out]
    replace hb0 := Lib.hid hb0
    go_wp2_with fail
    go_ret3
    exact ⟨_, rfl, OutV.same h.out hc hm hb0.out⟩
  · clear hlast
    replace hnm := Lib.hid hnm
    rcases hcn with hcn | hcn
    · go_enter Try.func28, Try.ntmps28
      go_wp2_with fail
      refine (rname_any _ _).mono ?_; rintro e w0 ⟨rfl, hb0⟩
      rw [hnm.out]
      replace hb0 := Lib.hid hb0
      go_wp2_with fail
      refine (in_no _ _ _ _ (by omega)).mono ?_; rintro e wb ⟨rfl, hbb⟩
      replace hb0 : Hid (Below w.heap.size w wb) := hb0.out.trans (hbb.mono hb0.out.size)
      clear hbb
      go_wp2_with fail
      go_ret3
      exact ⟨_, rfl, OutV.same h.out hc hm hb0.out⟩
    · have hcn0 : ¬ conn < 0 := by omega
      go_enter Try.func28, Try.ntmps28
      go_wp2_with fail
      refine (rname_any _ _).mono ?_; rintro e w0 ⟨rfl, hb0⟩
      rw [hnm.out]
      replace hb0 := Lib.hid hb0
      go_wp2_with fail
      refine (in_no _ _ _ _ (by omega)).mono ?_; rintro e wb ⟨rfl, hbb⟩
      replace hb0 : Hid (Below w.heap.size w wb) := hb0.out.trans (hbb.mono hb0.out.size)
      clear hbb
      go_wp2_with fail
      go_ret3
      exact ⟨_, rfl, OutV.same h.out hc hm hb0.out⟩
  · have hd : decide ((64 : Int) ≤ n) = true := by simp; omega
    have hd' : decide ((n : Int) < 64) = false := by simp; omega
    replace hnm := Lib.hid hnm
    have h0 : 0 < n := by omega
    have h0d : decide ((0 : Int) < n) = true := by simp; omega
    have hn0 : (0 : Int) ≤ (n : Int) - 1 := by omega
    have hn1 : (n : Int) - 1 < n := by omega
    have hn2 : Hid (((n : Int) - 1).toNat = n - 1) := by show _ = _; omega
    have hb1 := hid.out h0
    have hb2 := hid2.out h0
    obtain ⟨ad, rfl, hk⟩ := hlast.out h0
    clear hlast
    generalize lastId l = la at *
    replace hk := Lib.hid hk
    go_enter Try.func28, Try.ntmps28
    go_wp2_with fail
    refine (rname_any _ _).mono ?_; rintro e w0 ⟨rfl, hb0⟩
    rw [hnm.out]
    replace hb0 := Lib.hid hb0
    go_wp2_with fail
    refine (in_yes _ _ _ _ (by omega) (by omega)).mono ?_; rintro e wb ⟨rfl, hbb⟩
    replace hb0 : Hid (Below w.heap.size w wb) := hb0.out.trans (hbb.mono hb0.out.size)
    clear hbb
    have e0 := hk.out _ hb0.out
    go_wp2_with fail
    go_ret3
    exact ⟨_, rfl, OutV.same h.out hc hm hb0.out⟩
  · have hd : decide ((64 : Int) ≤ n) = false := by simp; omega
    have hd' : decide ((n : Int) < 64) = true := by simp; omega
    have h0d : decide ((0 : Int) < n) = true := by simp; omega
    have hn0 : (0 : Int) ≤ (n : Int) - 1 := by omega
    have hn1 : (n : Int) - 1 < n := by omega
    have hn2 : Hid (((n : Int) - 1).toNat = n - 1) := by show _ = _; omega
    have hb1 := hid.out hl0
    have hb2 := hid2.out hl0
    obtain ⟨ad, rfl, hk⟩ := hlast.out hl0
    clear hlast
    generalize lastId l = la at *
    replace hk := Lib.hid hk
    replace hnm := Lib.hid hnm
    go_enter Try.func28, Try.ntmps28
    go_wp2_with fail
    refine (rname_any _ _).mono ?_; rintro e w0 ⟨rfl, hb0⟩
    rw [hnm.out]
    have e0 := hk.out _ hb0
    replace hb0 := Lib.hid hb0
    go_wp2_with fail
    refine (in_yes _ _ _ _ (by omega) (by omega)).mono ?_; rintro e wb ⟨rfl, hbb⟩
    replace hb0 : Hid (Below w.heap.size w wb) := hb0.out.trans (hbb.mono hb0.out.size)
    clear hbb
    have e0 := hk.out _ hb0.out
    go_wp2_with fail
    go_ret3
    exact ⟨_, rfl, OutV.same h.out hc hm hb0.out⟩
set_option maxRecDepth 100000 in
set_option maxHeartbeats 4000000 in
theorem open_good (A : Option Addr) (l : List O) (n cap : Nat) (st : ByteArray) (conn : Int) (w : World) (h : OAt w w.heap.size A n l) (hc : n ≤ cap) (hm : cap ≤ maxLen) (d : Int)
    (hnm : nameB st = true) (hc1 : 0 ≤ conn) (hc2 : conn ≤ 32) (hl : n < 64) (hid : 0 < n → 0 ≤ lastId l) (hid2 : 0 < n → lastId l < 2147483647) (hd : d = if 0 < n then lastId l + 1 else 1) :
    Calls Try.prog 20 #[.slice A n cap, .string st, .int .i64 conn] w fun e w' => ∃ v, e = .returned (.tuple #[v, .int .i64 d, .int .i64 0]) ∧ OutV w w' (l ++ [⟨d, conn, st, 0, 0, 1, 0⟩]) v := by
  obtain ⟨i0, hi0, hz0, hz1, hz2⟩ := info_parts o_info
  have hm' : cap ≤ 2 ^ 63 - 1 := hm
  have hn := Lib.hid h.len
  have hlast : Hid (0 < n → ∃ ad, A = some ad ∧ ∀ wz, Below w.heap.size w wz → wz.cell? (ad.add ((n - 1) * 7)) = some (.int .i64 (lastId l))) := fun h0 => by
    obtain ⟨ad, hA, _, hk⟩ := h.kept (i := n - 1) (by rw [hn.out]; omega) rfl
    refine ⟨ad, hA, fun wz hz => ?_⟩
    rw [lastId_at l (n - 1) (by rw [hn.out]; omega) (by rw [hn.out]; omega)]
    exact (hk wz hz).1
  replace h := Lib.hid h
  replace hnm := Lib.hid hnm
  have hdl : decide ((64 : Int) ≤ n) = false := by simp; omega
  have hdl' : decide ((n : Int) < 64) = true := by simp; omega
  by_cases h0 : 0 < n
  · have h0d : decide ((0 : Int) < n) = true := by simp; omega
    have hn0 : (0 : Int) ≤ (n : Int) - 1 := by omega
    have hn1 : (n : Int) - 1 < n := by omega
    have hb1 := hid h0
    have hb2 := hid2 h0
    rw [if_pos h0] at hd
    obtain ⟨ad, hA, hk⟩ := hlast.out h0
    clear hlast hid hid2
    generalize lastId l = la at *
    replace hk := Lib.hid hk
    replace hA := Lib.hid hA
    obtain rfl : A = some ad := hA.out
    clear hA
    subst hd
    go_enter Try.func20, Try.ntmps20
    go_wp2_with fail
    refine (name_any _ _).mono ?_; rintro e wb ⟨rfl, hb0⟩
    rw [hnm.out]
    replace hb0 := Lib.hid hb0
    have e0 := hk.out _ hb0.out
    go_wp2_with fail
    have hbW : Hid (Below w.heap.size w (wb.alloc (.cells #[.int .i64 (la + 1), .int .i64 conn, .string st, .int .i64 0, .int .i64 0, .int .i64 1, .int .i64 0] 33))) := below_new hb0.out _
    have hX0 := Lib.hid (Blk.new wb 33 #[.int .i64 (la + 1), .int .i64 conn, .string st, .int .i64 0, .int .i64 0, .int .i64 1, .int .i64 0])
    have kz : Hid (∀ wz, Below (wb.alloc (.cells #[.int .i64 (la + 1), .int .i64 conn, .string st, .int .i64 0, .int .i64 0, .int .i64 1, .int .i64 0] 33)).heap.size (wb.alloc (.cells #[.int .i64 (la + 1), .int .i64 conn, .string st, .int .i64 0, .int .i64 0, .int .i64 1, .int .i64 0] 33)) wz → wz.cell? ⟨wb.heap.size, 0, none⟩ = some (.int .i64 (la + 1)) ∧ wz.cell? ⟨wb.heap.size, 1, none⟩ = some (.int .i64 conn) ∧ wz.cell? ⟨wb.heap.size, 2, none⟩ = some (.string st) ∧ wz.cell? ⟨wb.heap.size, 3, none⟩ = some (.int .i64 0) ∧ wz.cell? ⟨wb.heap.size, 4, none⟩ = some (.int .i64 0) ∧ wz.cell? ⟨wb.heap.size, 5, none⟩ = some (.int .i64 1) ∧ wz.cell? ⟨wb.heap.size, 6, none⟩ = some (.int .i64 0)) := fun wz h => by
      have q0 := hX0.out.below h (lt_of_heap hX0.out)
      exact ⟨q0.cell 0, q0.cell 1, q0.cell 2, q0.cell 3, q0.cell 4, q0.cell 5, q0.cell 6⟩
    obtain ⟨x0, x1, x2, x3, x4, x5, x6⟩ := kz.out _ (Below.refl _ _)
    go_region_held3 (fun wz => wz.cell? ⟨wb.heap.size, 0, none⟩ = some (.int .i64 (la + 1)) ∧ wz.cell? ⟨wb.heap.size, 1, none⟩ = some (.int .i64 conn) ∧ wz.cell? ⟨wb.heap.size, 2, none⟩ = some (.string st) ∧ wz.cell? ⟨wb.heap.size, 3, none⟩ = some (.int .i64 0) ∧ wz.cell? ⟨wb.heap.size, 4, none⟩ = some (.int .i64 0) ∧ wz.cell? ⟨wb.heap.size, 5, none⟩ = some (.int .i64 1) ∧ wz.cell? ⟨wb.heap.size, 6, none⟩ = some (.int .i64 0))
      (first | go_keep | (exact kz.out _ (below_dr (Below.refl _ _))) | (exact kz.out _ hbq4.out) | (refine kz.out _ ?_; first | exact hbq3.out | exact below_new hbq3.out _ | exact below_dr hbq3.out | exact below_new (below_dr hbq3.out) _ | exact below_dr (below_new hbq3.out _)))
      (first | (go_at_call 26; refine (copied_ex (some ad) l n cap _ (h.out.more (by first | exact below_dr hbW.out | exact below_dr (below_new hbW.out _) | exact below_new (below_dr hbW.out) _)) (by omega)).mono ?_; rintro e wq ⟨gq, rfl, hoq, hbq⟩; have hbq2 : Hid (Below w.heap.size w wq) := (by first | exact (below_dr hbW.out).trans (hbq.mono (below_dr hbW.out).size) | exact (below_dr (below_new hbW.out _)).trans (hbq.mono (below_dr (below_new hbW.out _)).size) | exact (below_new (below_dr hbW.out) _).trans (hbq.mono (below_new (below_dr hbW.out) _).size)); have hbq3 : Hid (Below (wb.alloc (.cells #[.int .i64 (la + 1), .int .i64 conn, .string st, .int .i64 0, .int .i64 0, .int .i64 1, .int .i64 0] 33)).heap.size (wb.alloc (.cells #[.int .i64 (la + 1), .int .i64 conn, .string st, .int .i64 0, .int .i64 0, .int .i64 1, .int .i64 0] 33)) wq) := (by first | exact (below_dr (Below.refl _ _)).trans (hbq.mono (by simp)) | exact (below_dr (below_new (Below.refl _ _) _)).trans (hbq.mono (by simp)))) |  (refine step_append_any _ (by rfl) (.tmp 51) (.tmp 53) _ (by rfl) _ 33 i0 _ 7 64 Try.underlying22 hi0 hz0 hz1 hz2 rfl (by omega) _ _ _ (by rfl) (hoq.2.alloc _) (wq.heap.size + 1) (some ⟨wq.heap.size, 0, none⟩) 1 1 (flat oC [⟨la + 1, conn, st, 0, 0, 1, 0⟩]) (by rfl) ((lit_at oC_len wq [⟨la + 1, conn, st, 0, 0, 1, 0⟩] #[.int .i64 (la + 1), .int .i64 conn, .string st, .int .i64 0, .int .i64 0, .int .i64 1, .int .i64 0] (e := 33) rfl).2) (o_one _) (by have := hn.out; simp only [maxLen]; omega) (by have := hn.out; omega) (by have h9 := hbq.size; (try simp at h9 ⊢); (try omega)) ?_; intro v' w4 hown4 hg4 hat4; have hbq4 : Hid (Below (wb.alloc (.cells #[.int .i64 (la + 1), .int .i64 conn, .string st, .int .i64 0, .int .i64 0, .int .i64 1, .int .i64 0] 33)).heap.size (wb.alloc (.cells #[.int .i64 (la + 1), .int .i64 conn, .string st, .int .i64 0, .int .i64 0, .int .i64 1, .int .i64 0] 33)) w4) := (below_new hbq3.out _).grown hg4 (below_new hbq3.out _).size (fun g hg => by have h1 := (World.ownsRow.lt hoq.2 g hg).1; (try simp at h1 ⊢); omega); have hfin : Hid (OutV w w4 (l ++ [⟨la + 1, conn, st, 0, 0, 1, 0⟩]) v') := OutV.own (base := w.heap.size) (LOwn.mono (base := _) ⟨oC_len, by rw [List.length_append, flat_append]; exact hown4⟩ (by have := hbW.out.size; (try simp at this ⊢); omega)) ((below_new hbq2.out _).grown hg4 (below_new hbq2.out _).size (fun g hg => by have h1 := (World.ownsRow.lt hoq.2 g hg).1; have h2 := hbW.out.size; (try simp at h1 h2); omega)); clear hown4 hg4 hat4) | (refine step_append_any _ (by rfl) (.tmp 51) (.tmp 53) _ (by rfl) _ 33 i0 _ 7 64 Try.underlying22 hi0 hz0 hz1 hz2 rfl (by omega) _ _ _ (by rfl) (hoq.2) (wb.heap.size + 1 + 1) (some ⟨wb.heap.size + 1, 0, none⟩) 1 1 (flat oC [⟨la + 1, conn, st, 0, 0, 1, 0⟩]) (by rfl) (by have q := (lit_at oC_len (wb.alloc (.cells #[.int .i64 (la + 1), .int .i64 conn, .string st, .int .i64 0, .int .i64 0, .int .i64 1, .int .i64 0] 33)) [⟨la + 1, conn, st, 0, 0, 1, 0⟩] #[.int .i64 (la + 1), .int .i64 conn, .string st, .int .i64 0, .int .i64 0, .int .i64 1, .int .i64 0] (e := 33) rfl).2; rw [show (wb.alloc (.cells #[.int .i64 (la + 1), .int .i64 conn, .string st, .int .i64 0, .int .i64 0, .int .i64 1, .int .i64 0] 33)).heap.size = wb.heap.size + 1 by simp] at q; exact (q.drew).below (hbq.mono (by simp))) (o_one _) (by have := hn.out; simp only [maxLen]; omega) (by have := hn.out; omega) (by have h9 := hbq.size; (try simp at h9 ⊢); (try omega)) ?_; intro v' w4 hown4 hg4 hat4; have hbq4 : Hid (Below (wb.alloc (.cells #[.int .i64 (la + 1), .int .i64 conn, .string st, .int .i64 0, .int .i64 0, .int .i64 1, .int .i64 0] 33)).heap.size (wb.alloc (.cells #[.int .i64 (la + 1), .int .i64 conn, .string st, .int .i64 0, .int .i64 0, .int .i64 1, .int .i64 0] 33)) w4) := (hbq3.out).grown hg4 (hbq3.out).size (fun g hg => by have h1 := (World.ownsRow.lt hoq.2 g hg).1; (try simp at h1 ⊢); omega); have hfin : Hid (OutV w w4 (l ++ [⟨la + 1, conn, st, 0, 0, 1, 0⟩]) v') := OutV.own (base := w.heap.size) (LOwn.mono (base := _) ⟨oC_len, by rw [List.length_append, flat_append]; exact hown4⟩ (by have := hbW.out.size; (try simp at this ⊢); omega)) ((hbq2.out).grown hg4 (hbq2.out).size (fun g hg => by have h1 := (World.ownsRow.lt hoq.2 g hg).1; have h2 := hbW.out.size; (try simp at h1 h2); omega)); clear hown4 hg4 hat4))
    all_goals
      go_wp2_with fail
      go_ret3
      exact ⟨_, rfl, hfin.out⟩
  · have h0d : decide ((0 : Int) < n) = false := by simp; omega
    rw [if_neg h0] at hd
    subst hd
    clear hlast hid hid2
    go_enter Try.func20, Try.ntmps20
    go_wp2_with fail
    refine (name_any _ _).mono ?_; rintro e wb ⟨rfl, hb0⟩
    rw [hnm.out]
    replace hb0 := Lib.hid hb0
    go_wp2_with fail
    have hbW : Hid (Below w.heap.size w (wb.alloc (.cells #[.int .i64 1, .int .i64 conn, .string st, .int .i64 0, .int .i64 0, .int .i64 1, .int .i64 0] 33))) := below_new hb0.out _
    have hX0 := Lib.hid (Blk.new wb 33 #[.int .i64 1, .int .i64 conn, .string st, .int .i64 0, .int .i64 0, .int .i64 1, .int .i64 0])
    have kz : Hid (∀ wz, Below (wb.alloc (.cells #[.int .i64 1, .int .i64 conn, .string st, .int .i64 0, .int .i64 0, .int .i64 1, .int .i64 0] 33)).heap.size (wb.alloc (.cells #[.int .i64 1, .int .i64 conn, .string st, .int .i64 0, .int .i64 0, .int .i64 1, .int .i64 0] 33)) wz → wz.cell? ⟨wb.heap.size, 0, none⟩ = some (.int .i64 1) ∧ wz.cell? ⟨wb.heap.size, 1, none⟩ = some (.int .i64 conn) ∧ wz.cell? ⟨wb.heap.size, 2, none⟩ = some (.string st) ∧ wz.cell? ⟨wb.heap.size, 3, none⟩ = some (.int .i64 0) ∧ wz.cell? ⟨wb.heap.size, 4, none⟩ = some (.int .i64 0) ∧ wz.cell? ⟨wb.heap.size, 5, none⟩ = some (.int .i64 1) ∧ wz.cell? ⟨wb.heap.size, 6, none⟩ = some (.int .i64 0)) := fun wz h => by
      have q0 := hX0.out.below h (lt_of_heap hX0.out)
      exact ⟨q0.cell 0, q0.cell 1, q0.cell 2, q0.cell 3, q0.cell 4, q0.cell 5, q0.cell 6⟩
    obtain ⟨x0, x1, x2, x3, x4, x5, x6⟩ := kz.out _ (Below.refl _ _)
    go_region_held3 (fun wz => wz.cell? ⟨wb.heap.size, 0, none⟩ = some (.int .i64 1) ∧ wz.cell? ⟨wb.heap.size, 1, none⟩ = some (.int .i64 conn) ∧ wz.cell? ⟨wb.heap.size, 2, none⟩ = some (.string st) ∧ wz.cell? ⟨wb.heap.size, 3, none⟩ = some (.int .i64 0) ∧ wz.cell? ⟨wb.heap.size, 4, none⟩ = some (.int .i64 0) ∧ wz.cell? ⟨wb.heap.size, 5, none⟩ = some (.int .i64 1) ∧ wz.cell? ⟨wb.heap.size, 6, none⟩ = some (.int .i64 0))
      (first | go_keep | (exact kz.out _ (below_dr (Below.refl _ _))) | (exact kz.out _ hbq4.out) | (refine kz.out _ ?_; first | exact hbq3.out | exact below_new hbq3.out _ | exact below_dr hbq3.out | exact below_new (below_dr hbq3.out) _ | exact below_dr (below_new hbq3.out _)))
      (first | (go_at_call 26; refine (copied_ex A l n cap _ (h.out.more (by first | exact below_dr hbW.out | exact below_dr (below_new hbW.out _) | exact below_new (below_dr hbW.out) _)) (by omega)).mono ?_; rintro e wq ⟨gq, rfl, hoq, hbq⟩; have hbq2 : Hid (Below w.heap.size w wq) := (by first | exact (below_dr hbW.out).trans (hbq.mono (below_dr hbW.out).size) | exact (below_dr (below_new hbW.out _)).trans (hbq.mono (below_dr (below_new hbW.out _)).size) | exact (below_new (below_dr hbW.out) _).trans (hbq.mono (below_new (below_dr hbW.out) _).size)); have hbq3 : Hid (Below (wb.alloc (.cells #[.int .i64 1, .int .i64 conn, .string st, .int .i64 0, .int .i64 0, .int .i64 1, .int .i64 0] 33)).heap.size (wb.alloc (.cells #[.int .i64 1, .int .i64 conn, .string st, .int .i64 0, .int .i64 0, .int .i64 1, .int .i64 0] 33)) wq) := (by first | exact (below_dr (Below.refl _ _)).trans (hbq.mono (by simp)) | exact (below_dr (below_new (Below.refl _ _) _)).trans (hbq.mono (by simp)))) |  (refine step_append_any _ (by rfl) (.tmp 51) (.tmp 53) _ (by rfl) _ 33 i0 _ 7 64 Try.underlying22 hi0 hz0 hz1 hz2 rfl (by omega) _ _ _ (by rfl) (hoq.2.alloc _) (wq.heap.size + 1) (some ⟨wq.heap.size, 0, none⟩) 1 1 (flat oC [⟨1, conn, st, 0, 0, 1, 0⟩]) (by rfl) ((lit_at oC_len wq [⟨1, conn, st, 0, 0, 1, 0⟩] #[.int .i64 1, .int .i64 conn, .string st, .int .i64 0, .int .i64 0, .int .i64 1, .int .i64 0] (e := 33) rfl).2) (o_one _) (by have := hn.out; simp only [maxLen]; omega) (by have := hn.out; omega) (by have h9 := hbq.size; (try simp at h9 ⊢); (try omega)) ?_; intro v' w4 hown4 hg4 hat4; have hbq4 : Hid (Below (wb.alloc (.cells #[.int .i64 1, .int .i64 conn, .string st, .int .i64 0, .int .i64 0, .int .i64 1, .int .i64 0] 33)).heap.size (wb.alloc (.cells #[.int .i64 1, .int .i64 conn, .string st, .int .i64 0, .int .i64 0, .int .i64 1, .int .i64 0] 33)) w4) := (below_new hbq3.out _).grown hg4 (below_new hbq3.out _).size (fun g hg => by have h1 := (World.ownsRow.lt hoq.2 g hg).1; (try simp at h1 ⊢); omega); have hfin : Hid (OutV w w4 (l ++ [⟨1, conn, st, 0, 0, 1, 0⟩]) v') := OutV.own (base := w.heap.size) (LOwn.mono (base := _) ⟨oC_len, by rw [List.length_append, flat_append]; exact hown4⟩ (by have := hbW.out.size; (try simp at this ⊢); omega)) ((below_new hbq2.out _).grown hg4 (below_new hbq2.out _).size (fun g hg => by have h1 := (World.ownsRow.lt hoq.2 g hg).1; have h2 := hbW.out.size; (try simp at h1 h2); omega)); clear hown4 hg4 hat4) | (refine step_append_any _ (by rfl) (.tmp 51) (.tmp 53) _ (by rfl) _ 33 i0 _ 7 64 Try.underlying22 hi0 hz0 hz1 hz2 rfl (by omega) _ _ _ (by rfl) (hoq.2) (wb.heap.size + 1 + 1) (some ⟨wb.heap.size + 1, 0, none⟩) 1 1 (flat oC [⟨1, conn, st, 0, 0, 1, 0⟩]) (by rfl) (by have q := (lit_at oC_len (wb.alloc (.cells #[.int .i64 1, .int .i64 conn, .string st, .int .i64 0, .int .i64 0, .int .i64 1, .int .i64 0] 33)) [⟨1, conn, st, 0, 0, 1, 0⟩] #[.int .i64 1, .int .i64 conn, .string st, .int .i64 0, .int .i64 0, .int .i64 1, .int .i64 0] (e := 33) rfl).2; rw [show (wb.alloc (.cells #[.int .i64 1, .int .i64 conn, .string st, .int .i64 0, .int .i64 0, .int .i64 1, .int .i64 0] 33)).heap.size = wb.heap.size + 1 by simp] at q; exact (q.drew).below (hbq.mono (by simp))) (o_one _) (by have := hn.out; simp only [maxLen]; omega) (by have := hn.out; omega) (by have h9 := hbq.size; (try simp at h9 ⊢); (try omega)) ?_; intro v' w4 hown4 hg4 hat4; have hbq4 : Hid (Below (wb.alloc (.cells #[.int .i64 1, .int .i64 conn, .string st, .int .i64 0, .int .i64 0, .int .i64 1, .int .i64 0] 33)).heap.size (wb.alloc (.cells #[.int .i64 1, .int .i64 conn, .string st, .int .i64 0, .int .i64 0, .int .i64 1, .int .i64 0] 33)) w4) := (hbq3.out).grown hg4 (hbq3.out).size (fun g hg => by have h1 := (World.ownsRow.lt hoq.2 g hg).1; (try simp at h1 ⊢); omega); have hfin : Hid (OutV w w4 (l ++ [⟨1, conn, st, 0, 0, 1, 0⟩]) v') := OutV.own (base := w.heap.size) (LOwn.mono (base := _) ⟨oC_len, by rw [List.length_append, flat_append]; exact hown4⟩ (by have := hbW.out.size; (try simp at this ⊢); omega)) ((hbq2.out).grown hg4 (hbq2.out).size (fun g hg => by have h1 := (World.ownsRow.lt hoq.2 g hg).1; have h2 := hbW.out.size; (try simp at h1 h2); omega)); clear hown4 hg4 hat4))
    all_goals
      go_wp2_with fail
      go_ret3
      exact ⟨_, rfl, hfin.out⟩
set_option maxRecDepth 100000 in
set_option maxHeartbeats 4000000 in
theorem ropen_good (A : Option Addr) (l : List O) (n cap : Nat) (st : ByteArray) (conn : Int) (w : World) (h : OAt w w.heap.size A n l) (hc : n ≤ cap) (hm : cap ≤ maxLen) (d : Int)
    (hnm : nameB st = true) (hc1 : 0 ≤ conn) (hc2 : conn ≤ 32) (hl : n < 64) (hid : 0 < n → 0 ≤ lastId l) (hid2 : 0 < n → lastId l < 2147483647) (hd : d = if 0 < n then lastId l + 1 else 1) :
    Calls Try.prog 28 #[.slice A n cap, .string st, .int .i64 conn] w fun e w' => ∃ v, e = .returned (.tuple #[v, .int .i64 d, .int .i64 0]) ∧ OutV w w' (l ++ [⟨d, conn, st, 0, 0, 1, 0⟩]) v := by
  obtain ⟨i0, hi0, hz0, hz1, hz2⟩ := info_parts o_info
  have hm' : cap ≤ 2 ^ 63 - 1 := hm
  have hn := Lib.hid h.len
  have hlast : Hid (0 < n → ∃ ad, A = some ad ∧ ∀ wz, Below w.heap.size w wz → wz.cell? (ad.add ((n - 1) * 7)) = some (.int .i64 (lastId l))) := fun h0 => by
    obtain ⟨ad, hA, _, hk⟩ := h.kept (i := n - 1) (by rw [hn.out]; omega) rfl
    refine ⟨ad, hA, fun wz hz => ?_⟩
    rw [lastId_at l (n - 1) (by rw [hn.out]; omega) (by rw [hn.out]; omega)]
    exact (hk wz hz).1
  replace h := Lib.hid h
  replace hnm := Lib.hid hnm
  have hdl : decide ((64 : Int) ≤ n) = false := by simp; omega
  have hdl' : decide ((n : Int) < 64) = true := by simp; omega
  by_cases h0 : 0 < n
  · have h0d : decide ((0 : Int) < n) = true := by simp; omega
    have hn0 : (0 : Int) ≤ (n : Int) - 1 := by omega
    have hn1 : (n : Int) - 1 < n := by omega
    have hb1 := hid h0
    have hb2 := hid2 h0
    rw [if_pos h0] at hd
    obtain ⟨ad, hA, hk⟩ := hlast.out h0
    clear hlast hid hid2
    generalize lastId l = la at *
    replace hk := Lib.hid hk
    replace hA := Lib.hid hA
    obtain rfl : A = some ad := hA.out
    clear hA
    subst hd
    go_enter Try.func28, Try.ntmps28
    go_wp2_with fail
    refine (rname_any _ _).mono ?_; rintro e wb ⟨rfl, hb0⟩
    rw [hnm.out]
    replace hb0 := Lib.hid hb0
    have e0 := hk.out _ hb0.out
    go_wp2_with fail
    refine (in_yes _ _ _ _ (by omega) (by omega)).mono ?_; rintro e wb ⟨rfl, hbb⟩
    replace hb0 : Hid (Below w.heap.size w wb) := hb0.out.trans (hbb.mono hb0.out.size)
    clear hbb
    have e0 := hk.out _ hb0.out
    go_wp2_with fail
    have hbW : Hid (Below w.heap.size w (wb.alloc (.cells #[.int .i64 (la + 1), .int .i64 conn, .string st, .int .i64 0, .int .i64 0, .int .i64 1, .int .i64 0] 33))) := below_new hb0.out _
    have hX0 := Lib.hid (Blk.new wb 33 #[.int .i64 (la + 1), .int .i64 conn, .string st, .int .i64 0, .int .i64 0, .int .i64 1, .int .i64 0])
    have kz : Hid (∀ wz, Below (wb.alloc (.cells #[.int .i64 (la + 1), .int .i64 conn, .string st, .int .i64 0, .int .i64 0, .int .i64 1, .int .i64 0] 33)).heap.size (wb.alloc (.cells #[.int .i64 (la + 1), .int .i64 conn, .string st, .int .i64 0, .int .i64 0, .int .i64 1, .int .i64 0] 33)) wz → wz.cell? ⟨wb.heap.size, 0, none⟩ = some (.int .i64 (la + 1)) ∧ wz.cell? ⟨wb.heap.size, 1, none⟩ = some (.int .i64 conn) ∧ wz.cell? ⟨wb.heap.size, 2, none⟩ = some (.string st) ∧ wz.cell? ⟨wb.heap.size, 3, none⟩ = some (.int .i64 0) ∧ wz.cell? ⟨wb.heap.size, 4, none⟩ = some (.int .i64 0) ∧ wz.cell? ⟨wb.heap.size, 5, none⟩ = some (.int .i64 1) ∧ wz.cell? ⟨wb.heap.size, 6, none⟩ = some (.int .i64 0)) := fun wz h => by
      have q0 := hX0.out.below h (lt_of_heap hX0.out)
      exact ⟨q0.cell 0, q0.cell 1, q0.cell 2, q0.cell 3, q0.cell 4, q0.cell 5, q0.cell 6⟩
    obtain ⟨x0, x1, x2, x3, x4, x5, x6⟩ := kz.out _ (Below.refl _ _)
    have hEC : Hid (((wb.alloc (.cells #[.int .i64 (la + 1), .int .i64 conn, .string st, .int .i64 0, .int .i64 0, .int .i64 1, .int .i64 0] 33)).alloc (.cells #[] 33)).ownsRow (wb.heap.size + 1) 33 7 (.slice (some ⟨wb.heap.size + 1, 0, none⟩) 0 0) 0 []) := by
      have q := World.ownsRow_lit (base := wb.heap.size + 1) (e := 33) (size := 7) (wb.alloc (.cells #[.int .i64 (la + 1), .int .i64 conn, .string st, .int .i64 0, .int .i64 0, .int .i64 1, .int .i64 0] 33)) #[] 0 (by simp) (Nat.zero_le _) rfl
      rw [show (wb.alloc (.cells #[.int .i64 (la + 1), .int .i64 conn, .string st, .int .i64 0, .int .i64 0, .int .i64 1, .int .i64 0] 33)).heap.size = wb.heap.size + 1 by simp] at q
      exact q
    have hBC : Hid (Below (wb.alloc (.cells #[.int .i64 (la + 1), .int .i64 conn, .string st, .int .i64 0, .int .i64 0, .int .i64 1, .int .i64 0] 33)).heap.size (wb.alloc (.cells #[.int .i64 (la + 1), .int .i64 conn, .string st, .int .i64 0, .int .i64 0, .int .i64 1, .int .i64 0] 33)) ((wb.alloc (.cells #[.int .i64 (la + 1), .int .i64 conn, .string st, .int .i64 0, .int .i64 0, .int .i64 1, .int .i64 0] 33)).alloc (.cells #[] 33))) := below_new (Below.refl _ _) _
    have hRC : Hid (Reads ((wb.alloc (.cells #[.int .i64 (la + 1), .int .i64 conn, .string st, .int .i64 0, .int .i64 0, .int .i64 1, .int .i64 0] 33)).alloc (.cells #[] 33)) w.heap.size 7 (some ad) n (flat oC l)) := h.out.2.below (hbW.out.trans (hBC.out.mono hbW.out.size))
    have hEB : Hid ((((wb.alloc (.cells #[.int .i64 (la + 1), .int .i64 conn, .string st, .int .i64 0, .int .i64 0, .int .i64 1, .int .i64 0] 33)).alloc (.cells #[] 33)).alloc (.cells #[.int .i64 (la + 1), .int .i64 conn, .string st, .int .i64 0, .int .i64 0, .int .i64 1, .int .i64 0] 33)).ownsRow (wb.heap.size + 1) 33 7 (.slice (some ⟨wb.heap.size + 1, 0, none⟩) 0 0) 0 []) := hEC.out.alloc _
    have hBB : Hid (Below (wb.alloc (.cells #[.int .i64 (la + 1), .int .i64 conn, .string st, .int .i64 0, .int .i64 0, .int .i64 1, .int .i64 0] 33)).heap.size (wb.alloc (.cells #[.int .i64 (la + 1), .int .i64 conn, .string st, .int .i64 0, .int .i64 0, .int .i64 1, .int .i64 0] 33)) (((wb.alloc (.cells #[.int .i64 (la + 1), .int .i64 conn, .string st, .int .i64 0, .int .i64 0, .int .i64 1, .int .i64 0] 33)).alloc (.cells #[] 33)).alloc (.cells #[.int .i64 (la + 1), .int .i64 conn, .string st, .int .i64 0, .int .i64 0, .int .i64 1, .int .i64 0] 33))) := below_new (below_new (Below.refl _ _) _) _
    have hRB : Hid (Reads (((wb.alloc (.cells #[.int .i64 (la + 1), .int .i64 conn, .string st, .int .i64 0, .int .i64 0, .int .i64 1, .int .i64 0] 33)).alloc (.cells #[] 33)).alloc (.cells #[.int .i64 (la + 1), .int .i64 conn, .string st, .int .i64 0, .int .i64 0, .int .i64 1, .int .i64 0] 33)) w.heap.size 7 (some ad) n (flat oC l)) := h.out.2.below (hbW.out.trans (hBB.out.mono hbW.out.size))
    have hFB : Hid (Blk (((wb.alloc (.cells #[.int .i64 (la + 1), .int .i64 conn, .string st, .int .i64 0, .int .i64 0, .int .i64 1, .int .i64 0] 33)).alloc (.cells #[] 33)).alloc (.cells #[.int .i64 (la + 1), .int .i64 conn, .string st, .int .i64 0, .int .i64 0, .int .i64 1, .int .i64 0] 33)) (wb.heap.size + 1 + 1) 33 #[.int .i64 (la + 1), .int .i64 conn, .string st, .int .i64 0, .int .i64 0, .int .i64 1, .int .i64 0]) := by
      have q := Blk.new ((wb.alloc (.cells #[.int .i64 (la + 1), .int .i64 conn, .string st, .int .i64 0, .int .i64 0, .int .i64 1, .int .i64 0] 33)).alloc (.cells #[] 33)) 33 #[.int .i64 (la + 1), .int .i64 conn, .string st, .int .i64 0, .int .i64 0, .int .i64 1, .int .i64 0]
      rw [show ((wb.alloc (.cells #[.int .i64 (la + 1), .int .i64 conn, .string st, .int .i64 0, .int .i64 0, .int .i64 1, .int .i64 0] 33)).alloc (.cells #[] 33)).heap.size = wb.heap.size + 1 + 1 by simp] at q
      exact q
    have hEA : Hid ((((wb.alloc (.cells #[.int .i64 (la + 1), .int .i64 conn, .string st, .int .i64 0, .int .i64 0, .int .i64 1, .int .i64 0] 33)).alloc (.cells #[.int .i64 (la + 1), .int .i64 conn, .string st, .int .i64 0, .int .i64 0, .int .i64 1, .int .i64 0] 33)).alloc (.cells #[] 33)).ownsRow (wb.heap.size + 1) 33 7 (.slice (some ⟨wb.heap.size + 1 + 1, 0, none⟩) 0 0) 0 []) := by
      have q := World.ownsRow_lit (base := wb.heap.size + 1) (e := 33) (size := 7) ((wb.alloc (.cells #[.int .i64 (la + 1), .int .i64 conn, .string st, .int .i64 0, .int .i64 0, .int .i64 1, .int .i64 0] 33)).alloc (.cells #[.int .i64 (la + 1), .int .i64 conn, .string st, .int .i64 0, .int .i64 0, .int .i64 1, .int .i64 0] 33)) #[] 0 (by simp) (Nat.zero_le _) rfl
      rw [show ((wb.alloc (.cells #[.int .i64 (la + 1), .int .i64 conn, .string st, .int .i64 0, .int .i64 0, .int .i64 1, .int .i64 0] 33)).alloc (.cells #[.int .i64 (la + 1), .int .i64 conn, .string st, .int .i64 0, .int .i64 0, .int .i64 1, .int .i64 0] 33)).heap.size = wb.heap.size + 1 + 1 by simp] at q
      exact q
    have hBA : Hid (Below (wb.alloc (.cells #[.int .i64 (la + 1), .int .i64 conn, .string st, .int .i64 0, .int .i64 0, .int .i64 1, .int .i64 0] 33)).heap.size (wb.alloc (.cells #[.int .i64 (la + 1), .int .i64 conn, .string st, .int .i64 0, .int .i64 0, .int .i64 1, .int .i64 0] 33)) (((wb.alloc (.cells #[.int .i64 (la + 1), .int .i64 conn, .string st, .int .i64 0, .int .i64 0, .int .i64 1, .int .i64 0] 33)).alloc (.cells #[.int .i64 (la + 1), .int .i64 conn, .string st, .int .i64 0, .int .i64 0, .int .i64 1, .int .i64 0] 33)).alloc (.cells #[] 33))) := below_new (below_new (Below.refl _ _) _) _
    have hRA : Hid (Reads (((wb.alloc (.cells #[.int .i64 (la + 1), .int .i64 conn, .string st, .int .i64 0, .int .i64 0, .int .i64 1, .int .i64 0] 33)).alloc (.cells #[.int .i64 (la + 1), .int .i64 conn, .string st, .int .i64 0, .int .i64 0, .int .i64 1, .int .i64 0] 33)).alloc (.cells #[] 33)) w.heap.size 7 (some ad) n (flat oC l)) := h.out.2.below (hbW.out.trans (hBA.out.mono hbW.out.size))
    have hFA : Hid (Blk (((wb.alloc (.cells #[.int .i64 (la + 1), .int .i64 conn, .string st, .int .i64 0, .int .i64 0, .int .i64 1, .int .i64 0] 33)).alloc (.cells #[.int .i64 (la + 1), .int .i64 conn, .string st, .int .i64 0, .int .i64 0, .int .i64 1, .int .i64 0] 33)).alloc (.cells #[] 33)) (wb.heap.size + 1) 33 #[.int .i64 (la + 1), .int .i64 conn, .string st, .int .i64 0, .int .i64 0, .int .i64 1, .int .i64 0]) := by
      have q := (Blk.new (wb.alloc (.cells #[.int .i64 (la + 1), .int .i64 conn, .string st, .int .i64 0, .int .i64 0, .int .i64 1, .int .i64 0] 33)) 33 #[.int .i64 (la + 1), .int .i64 conn, .string st, .int .i64 0, .int .i64 0, .int .i64 1, .int .i64 0]).alloc (.cells #[] 33)
      rw [show (wb.alloc (.cells #[.int .i64 (la + 1), .int .i64 conn, .string st, .int .i64 0, .int .i64 0, .int .i64 1, .int .i64 0] 33)).heap.size = wb.heap.size + 1 by simp] at q
      exact q
    go_region_held3 (fun wz => wz.cell? ⟨wb.heap.size, 0, none⟩ = some (.int .i64 (la + 1)) ∧ wz.cell? ⟨wb.heap.size, 1, none⟩ = some (.int .i64 conn) ∧ wz.cell? ⟨wb.heap.size, 2, none⟩ = some (.string st) ∧ wz.cell? ⟨wb.heap.size, 3, none⟩ = some (.int .i64 0) ∧ wz.cell? ⟨wb.heap.size, 4, none⟩ = some (.int .i64 0) ∧ wz.cell? ⟨wb.heap.size, 5, none⟩ = some (.int .i64 1) ∧ wz.cell? ⟨wb.heap.size, 6, none⟩ = some (.int .i64 0))
      (first | go_keep | (exact kz.out _ (below_dr (Below.refl _ _))) | (exact kz.out _ hb7.out) | (exact kz.out _ hb4.out) | (exact kz.out _ (below_new hb4.out _)))
      (first | (refine step_append_any _ (by rfl) (.tmp 42) (.tmp 43) _ (by rfl) (wb.heap.size + 1) 33 i0 _ 7 64 Try.underlying22 hi0 hz0 hz1 hz2 rfl (by omega) (.slice (some ⟨wb.heap.size + 1, 0, none⟩) 0 0) 0 [] (by rfl) (hEC.out.drew) w.heap.size (some ad) n cap (flat oC l) (by rfl) (hRC.out.drew) (o_one _) (by simp only [maxLen]; omega) (by omega) (by simp; (try omega)) ?_; intro v4 w4 hown4 hg4 hat4; have hb4 : Hid (Below (wb.alloc (.cells #[.int .i64 (la + 1), .int .i64 conn, .string st, .int .i64 0, .int .i64 0, .int .i64 1, .int .i64 0] 33)).heap.size (wb.alloc (.cells #[.int .i64 (la + 1), .int .i64 conn, .string st, .int .i64 0, .int .i64 0, .int .i64 1, .int .i64 0] 33)) w4) := (below_dr hBC.out).grown hg4 (below_dr hBC.out).size (fun g hg => by simp [Value.ownBlock] at hg; (try simp); omega); clear hat4; replace hown4 := Lib.hid hown4; clear hg4) | (refine step_append_any _ (by rfl) (.tmp 42) (.tmp 43) _ (by rfl) (wb.heap.size + 1) 33 i0 _ 7 64 Try.underlying22 hi0 hz0 hz1 hz2 rfl (by omega) (.slice (some ⟨wb.heap.size + 1, 0, none⟩) 0 0) 0 [] (by rfl) (hEB.out.drew) w.heap.size (some ad) n cap (flat oC l) (by rfl) (hRB.out.drew) (o_one _) (by simp only [maxLen]; omega) (by omega) (by simp; (try omega)) ?_; intro v4 w4 hown4 hg4 hat4; have hb4 : Hid (Below (wb.alloc (.cells #[.int .i64 (la + 1), .int .i64 conn, .string st, .int .i64 0, .int .i64 0, .int .i64 1, .int .i64 0] 33)).heap.size (wb.alloc (.cells #[.int .i64 (la + 1), .int .i64 conn, .string st, .int .i64 0, .int .i64 0, .int .i64 1, .int .i64 0] 33)) w4) := (below_dr hBB.out).grown hg4 (below_dr hBB.out).size (fun g hg => by simp [Value.ownBlock] at hg; (try simp); omega); clear hat4; replace hown4 := Lib.hid hown4; have hF4 : Hid (Blk w4 (wb.heap.size + 1 + 1) 33 #[.int .i64 (la + 1), .int .i64 conn, .string st, .int .i64 0, .int .i64 0, .int .i64 1, .int .i64 0]) := hFB.out.drew.grown hg4 (fun e => by simp [Value.ownBlock] at e); clear hg4) | (refine step_append_any _ (by rfl) (.tmp 42) (.tmp 43) _ (by rfl) (wb.heap.size + 1) 33 i0 _ 7 64 Try.underlying22 hi0 hz0 hz1 hz2 rfl (by omega) (.slice (some ⟨wb.heap.size + 1 + 1, 0, none⟩) 0 0) 0 [] (by rfl) (hEA.out.drew) w.heap.size (some ad) n cap (flat oC l) (by rfl) (hRA.out.drew) (o_one _) (by simp only [maxLen]; omega) (by omega) (by simp; (try omega)) ?_; intro v4 w4 hown4 hg4 hat4; have hb4 : Hid (Below (wb.alloc (.cells #[.int .i64 (la + 1), .int .i64 conn, .string st, .int .i64 0, .int .i64 0, .int .i64 1, .int .i64 0] 33)).heap.size (wb.alloc (.cells #[.int .i64 (la + 1), .int .i64 conn, .string st, .int .i64 0, .int .i64 0, .int .i64 1, .int .i64 0] 33)) w4) := (below_dr hBA.out).grown hg4 (below_dr hBA.out).size (fun g hg => by simp [Value.ownBlock] at hg; (try simp); omega); clear hat4; replace hown4 := Lib.hid hown4; have hF4 : Hid (Blk w4 (wb.heap.size + 1) 33 #[.int .i64 (la + 1), .int .i64 conn, .string st, .int .i64 0, .int .i64 0, .int .i64 1, .int .i64 0]) := hFA.out.drew.grown hg4 (fun e => by simp [Value.ownBlock] at e); clear hg4) | (refine step_append_any _ (by rfl) (.tmp 44) (.tmp 46) _ (by rfl) (wb.heap.size + 1) 33 i0 _ 7 64 Try.underlying22 hi0 hz0 hz1 hz2 rfl (by omega) v4 (0 + n) ([] ++ flat oC l) (by rfl) (hown4.out.alloc _) _ _ 1 1 (flat oC [⟨la + 1, conn, st, 0, 0, 1, 0⟩]) (by rfl) (reads_blk ⟨la + 1, conn, st, 0, 0, 1, 0⟩ (Blk.new w4 33 #[.int .i64 (la + 1), .int .i64 conn, .string st, .int .i64 0, .int .i64 0, .int .i64 1, .int .i64 0])) (o_one _) (by simp only [maxLen]; omega) (by omega) (by have h9 := hb4.out.size; (try simp at h9 ⊢); (try omega)) ?_; intro v' w7 hown7 hg7 hat7; have hb7 : Hid (Below (wb.alloc (.cells #[.int .i64 (la + 1), .int .i64 conn, .string st, .int .i64 0, .int .i64 0, .int .i64 1, .int .i64 0] 33)).heap.size (wb.alloc (.cells #[.int .i64 (la + 1), .int .i64 conn, .string st, .int .i64 0, .int .i64 0, .int .i64 1, .int .i64 0] 33)) w7) := (below_new hb4.out _).grown hg7 (below_new hb4.out _).size (fun g hg => by have h1 := (World.ownsRow.lt hown4.out g hg).1; (try simp at h1 ⊢); omega); have hfin : Hid (OutV w w7 (l ++ [⟨la + 1, conn, st, 0, 0, 1, 0⟩]) v') := OutV.own (base := _) ⟨oC_len, by rw [List.length_append, flat_append, hn.out]; simpa using hown7⟩ (hbW.out.trans (hb7.out.mono hbW.out.size)); clear hown7 hg7 hat7) | (refine step_append_any _ (by rfl) (.tmp 44) (.tmp 46) _ (by rfl) (wb.heap.size + 1) 33 i0 _ 7 64 Try.underlying22 hi0 hz0 hz1 hz2 rfl (by omega) v4 (0 + n) ([] ++ flat oC l) (by rfl) (hown4.out) _ _ 1 1 (flat oC [⟨la + 1, conn, st, 0, 0, 1, 0⟩]) (by rfl) (reads_blk ⟨la + 1, conn, st, 0, 0, 1, 0⟩ hF4.out) (o_one _) (by simp only [maxLen]; omega) (by omega) (by have h9 := hb4.out.size; (try simp at h9 ⊢); (try omega)) ?_; intro v' w7 hown7 hg7 hat7; have hb7 : Hid (Below (wb.alloc (.cells #[.int .i64 (la + 1), .int .i64 conn, .string st, .int .i64 0, .int .i64 0, .int .i64 1, .int .i64 0] 33)).heap.size (wb.alloc (.cells #[.int .i64 (la + 1), .int .i64 conn, .string st, .int .i64 0, .int .i64 0, .int .i64 1, .int .i64 0] 33)) w7) := (hb4.out).grown hg7 (hb4.out).size (fun g hg => by have h1 := (World.ownsRow.lt hown4.out g hg).1; (try simp at h1 ⊢); omega); have hfin : Hid (OutV w w7 (l ++ [⟨la + 1, conn, st, 0, 0, 1, 0⟩]) v') := OutV.own (base := _) ⟨oC_len, by rw [List.length_append, flat_append, hn.out]; simpa using hown7⟩ (hbW.out.trans (hb7.out.mono hbW.out.size)); clear hown7 hg7 hat7))
    all_goals
      go_wp2_with fail
      go_ret3
      exact ⟨_, rfl, hfin.out⟩
  · have h0d : decide ((0 : Int) < n) = false := by simp; omega
    rw [if_neg h0] at hd
    subst hd
    clear hlast hid hid2
    go_enter Try.func28, Try.ntmps28
    go_wp2_with fail
    refine (rname_any _ _).mono ?_; rintro e wb ⟨rfl, hb0⟩
    rw [hnm.out]
    replace hb0 := Lib.hid hb0
    go_wp2_with fail
    refine (in_yes _ _ _ _ (by omega) (by omega)).mono ?_; rintro e wb ⟨rfl, hbb⟩
    replace hb0 : Hid (Below w.heap.size w wb) := hb0.out.trans (hbb.mono hb0.out.size)
    clear hbb
    go_wp2_with fail
    have hbW : Hid (Below w.heap.size w (wb.alloc (.cells #[.int .i64 1, .int .i64 conn, .string st, .int .i64 0, .int .i64 0, .int .i64 1, .int .i64 0] 33))) := below_new hb0.out _
    have hX0 := Lib.hid (Blk.new wb 33 #[.int .i64 1, .int .i64 conn, .string st, .int .i64 0, .int .i64 0, .int .i64 1, .int .i64 0])
    have kz : Hid (∀ wz, Below (wb.alloc (.cells #[.int .i64 1, .int .i64 conn, .string st, .int .i64 0, .int .i64 0, .int .i64 1, .int .i64 0] 33)).heap.size (wb.alloc (.cells #[.int .i64 1, .int .i64 conn, .string st, .int .i64 0, .int .i64 0, .int .i64 1, .int .i64 0] 33)) wz → wz.cell? ⟨wb.heap.size, 0, none⟩ = some (.int .i64 1) ∧ wz.cell? ⟨wb.heap.size, 1, none⟩ = some (.int .i64 conn) ∧ wz.cell? ⟨wb.heap.size, 2, none⟩ = some (.string st) ∧ wz.cell? ⟨wb.heap.size, 3, none⟩ = some (.int .i64 0) ∧ wz.cell? ⟨wb.heap.size, 4, none⟩ = some (.int .i64 0) ∧ wz.cell? ⟨wb.heap.size, 5, none⟩ = some (.int .i64 1) ∧ wz.cell? ⟨wb.heap.size, 6, none⟩ = some (.int .i64 0)) := fun wz h => by
      have q0 := hX0.out.below h (lt_of_heap hX0.out)
      exact ⟨q0.cell 0, q0.cell 1, q0.cell 2, q0.cell 3, q0.cell 4, q0.cell 5, q0.cell 6⟩
    obtain ⟨x0, x1, x2, x3, x4, x5, x6⟩ := kz.out _ (Below.refl _ _)
    have hEC : Hid (((wb.alloc (.cells #[.int .i64 1, .int .i64 conn, .string st, .int .i64 0, .int .i64 0, .int .i64 1, .int .i64 0] 33)).alloc (.cells #[] 33)).ownsRow (wb.heap.size + 1) 33 7 (.slice (some ⟨wb.heap.size + 1, 0, none⟩) 0 0) 0 []) := by
      have q := World.ownsRow_lit (base := wb.heap.size + 1) (e := 33) (size := 7) (wb.alloc (.cells #[.int .i64 1, .int .i64 conn, .string st, .int .i64 0, .int .i64 0, .int .i64 1, .int .i64 0] 33)) #[] 0 (by simp) (Nat.zero_le _) rfl
      rw [show (wb.alloc (.cells #[.int .i64 1, .int .i64 conn, .string st, .int .i64 0, .int .i64 0, .int .i64 1, .int .i64 0] 33)).heap.size = wb.heap.size + 1 by simp] at q
      exact q
    have hBC : Hid (Below (wb.alloc (.cells #[.int .i64 1, .int .i64 conn, .string st, .int .i64 0, .int .i64 0, .int .i64 1, .int .i64 0] 33)).heap.size (wb.alloc (.cells #[.int .i64 1, .int .i64 conn, .string st, .int .i64 0, .int .i64 0, .int .i64 1, .int .i64 0] 33)) ((wb.alloc (.cells #[.int .i64 1, .int .i64 conn, .string st, .int .i64 0, .int .i64 0, .int .i64 1, .int .i64 0] 33)).alloc (.cells #[] 33))) := below_new (Below.refl _ _) _
    have hRC : Hid (Reads ((wb.alloc (.cells #[.int .i64 1, .int .i64 conn, .string st, .int .i64 0, .int .i64 0, .int .i64 1, .int .i64 0] 33)).alloc (.cells #[] 33)) w.heap.size 7 A n (flat oC l)) := h.out.2.below (hbW.out.trans (hBC.out.mono hbW.out.size))
    have hEB : Hid ((((wb.alloc (.cells #[.int .i64 1, .int .i64 conn, .string st, .int .i64 0, .int .i64 0, .int .i64 1, .int .i64 0] 33)).alloc (.cells #[] 33)).alloc (.cells #[.int .i64 1, .int .i64 conn, .string st, .int .i64 0, .int .i64 0, .int .i64 1, .int .i64 0] 33)).ownsRow (wb.heap.size + 1) 33 7 (.slice (some ⟨wb.heap.size + 1, 0, none⟩) 0 0) 0 []) := hEC.out.alloc _
    have hBB : Hid (Below (wb.alloc (.cells #[.int .i64 1, .int .i64 conn, .string st, .int .i64 0, .int .i64 0, .int .i64 1, .int .i64 0] 33)).heap.size (wb.alloc (.cells #[.int .i64 1, .int .i64 conn, .string st, .int .i64 0, .int .i64 0, .int .i64 1, .int .i64 0] 33)) (((wb.alloc (.cells #[.int .i64 1, .int .i64 conn, .string st, .int .i64 0, .int .i64 0, .int .i64 1, .int .i64 0] 33)).alloc (.cells #[] 33)).alloc (.cells #[.int .i64 1, .int .i64 conn, .string st, .int .i64 0, .int .i64 0, .int .i64 1, .int .i64 0] 33))) := below_new (below_new (Below.refl _ _) _) _
    have hRB : Hid (Reads (((wb.alloc (.cells #[.int .i64 1, .int .i64 conn, .string st, .int .i64 0, .int .i64 0, .int .i64 1, .int .i64 0] 33)).alloc (.cells #[] 33)).alloc (.cells #[.int .i64 1, .int .i64 conn, .string st, .int .i64 0, .int .i64 0, .int .i64 1, .int .i64 0] 33)) w.heap.size 7 A n (flat oC l)) := h.out.2.below (hbW.out.trans (hBB.out.mono hbW.out.size))
    have hFB : Hid (Blk (((wb.alloc (.cells #[.int .i64 1, .int .i64 conn, .string st, .int .i64 0, .int .i64 0, .int .i64 1, .int .i64 0] 33)).alloc (.cells #[] 33)).alloc (.cells #[.int .i64 1, .int .i64 conn, .string st, .int .i64 0, .int .i64 0, .int .i64 1, .int .i64 0] 33)) (wb.heap.size + 1 + 1) 33 #[.int .i64 1, .int .i64 conn, .string st, .int .i64 0, .int .i64 0, .int .i64 1, .int .i64 0]) := by
      have q := Blk.new ((wb.alloc (.cells #[.int .i64 1, .int .i64 conn, .string st, .int .i64 0, .int .i64 0, .int .i64 1, .int .i64 0] 33)).alloc (.cells #[] 33)) 33 #[.int .i64 1, .int .i64 conn, .string st, .int .i64 0, .int .i64 0, .int .i64 1, .int .i64 0]
      rw [show ((wb.alloc (.cells #[.int .i64 1, .int .i64 conn, .string st, .int .i64 0, .int .i64 0, .int .i64 1, .int .i64 0] 33)).alloc (.cells #[] 33)).heap.size = wb.heap.size + 1 + 1 by simp] at q
      exact q
    have hEA : Hid ((((wb.alloc (.cells #[.int .i64 1, .int .i64 conn, .string st, .int .i64 0, .int .i64 0, .int .i64 1, .int .i64 0] 33)).alloc (.cells #[.int .i64 1, .int .i64 conn, .string st, .int .i64 0, .int .i64 0, .int .i64 1, .int .i64 0] 33)).alloc (.cells #[] 33)).ownsRow (wb.heap.size + 1) 33 7 (.slice (some ⟨wb.heap.size + 1 + 1, 0, none⟩) 0 0) 0 []) := by
      have q := World.ownsRow_lit (base := wb.heap.size + 1) (e := 33) (size := 7) ((wb.alloc (.cells #[.int .i64 1, .int .i64 conn, .string st, .int .i64 0, .int .i64 0, .int .i64 1, .int .i64 0] 33)).alloc (.cells #[.int .i64 1, .int .i64 conn, .string st, .int .i64 0, .int .i64 0, .int .i64 1, .int .i64 0] 33)) #[] 0 (by simp) (Nat.zero_le _) rfl
      rw [show ((wb.alloc (.cells #[.int .i64 1, .int .i64 conn, .string st, .int .i64 0, .int .i64 0, .int .i64 1, .int .i64 0] 33)).alloc (.cells #[.int .i64 1, .int .i64 conn, .string st, .int .i64 0, .int .i64 0, .int .i64 1, .int .i64 0] 33)).heap.size = wb.heap.size + 1 + 1 by simp] at q
      exact q
    have hBA : Hid (Below (wb.alloc (.cells #[.int .i64 1, .int .i64 conn, .string st, .int .i64 0, .int .i64 0, .int .i64 1, .int .i64 0] 33)).heap.size (wb.alloc (.cells #[.int .i64 1, .int .i64 conn, .string st, .int .i64 0, .int .i64 0, .int .i64 1, .int .i64 0] 33)) (((wb.alloc (.cells #[.int .i64 1, .int .i64 conn, .string st, .int .i64 0, .int .i64 0, .int .i64 1, .int .i64 0] 33)).alloc (.cells #[.int .i64 1, .int .i64 conn, .string st, .int .i64 0, .int .i64 0, .int .i64 1, .int .i64 0] 33)).alloc (.cells #[] 33))) := below_new (below_new (Below.refl _ _) _) _
    have hRA : Hid (Reads (((wb.alloc (.cells #[.int .i64 1, .int .i64 conn, .string st, .int .i64 0, .int .i64 0, .int .i64 1, .int .i64 0] 33)).alloc (.cells #[.int .i64 1, .int .i64 conn, .string st, .int .i64 0, .int .i64 0, .int .i64 1, .int .i64 0] 33)).alloc (.cells #[] 33)) w.heap.size 7 A n (flat oC l)) := h.out.2.below (hbW.out.trans (hBA.out.mono hbW.out.size))
    have hFA : Hid (Blk (((wb.alloc (.cells #[.int .i64 1, .int .i64 conn, .string st, .int .i64 0, .int .i64 0, .int .i64 1, .int .i64 0] 33)).alloc (.cells #[.int .i64 1, .int .i64 conn, .string st, .int .i64 0, .int .i64 0, .int .i64 1, .int .i64 0] 33)).alloc (.cells #[] 33)) (wb.heap.size + 1) 33 #[.int .i64 1, .int .i64 conn, .string st, .int .i64 0, .int .i64 0, .int .i64 1, .int .i64 0]) := by
      have q := (Blk.new (wb.alloc (.cells #[.int .i64 1, .int .i64 conn, .string st, .int .i64 0, .int .i64 0, .int .i64 1, .int .i64 0] 33)) 33 #[.int .i64 1, .int .i64 conn, .string st, .int .i64 0, .int .i64 0, .int .i64 1, .int .i64 0]).alloc (.cells #[] 33)
      rw [show (wb.alloc (.cells #[.int .i64 1, .int .i64 conn, .string st, .int .i64 0, .int .i64 0, .int .i64 1, .int .i64 0] 33)).heap.size = wb.heap.size + 1 by simp] at q
      exact q
    go_region_held3 (fun wz => wz.cell? ⟨wb.heap.size, 0, none⟩ = some (.int .i64 1) ∧ wz.cell? ⟨wb.heap.size, 1, none⟩ = some (.int .i64 conn) ∧ wz.cell? ⟨wb.heap.size, 2, none⟩ = some (.string st) ∧ wz.cell? ⟨wb.heap.size, 3, none⟩ = some (.int .i64 0) ∧ wz.cell? ⟨wb.heap.size, 4, none⟩ = some (.int .i64 0) ∧ wz.cell? ⟨wb.heap.size, 5, none⟩ = some (.int .i64 1) ∧ wz.cell? ⟨wb.heap.size, 6, none⟩ = some (.int .i64 0))
      (first | go_keep | (exact kz.out _ (below_dr (Below.refl _ _))) | (exact kz.out _ hb7.out) | (exact kz.out _ hb4.out) | (exact kz.out _ (below_new hb4.out _)))
      (first | (refine step_append_any _ (by rfl) (.tmp 42) (.tmp 43) _ (by rfl) (wb.heap.size + 1) 33 i0 _ 7 64 Try.underlying22 hi0 hz0 hz1 hz2 rfl (by omega) (.slice (some ⟨wb.heap.size + 1, 0, none⟩) 0 0) 0 [] (by rfl) (hEC.out.drew) w.heap.size A n cap (flat oC l) (by rfl) (hRC.out.drew) (o_one _) (by simp only [maxLen]; omega) (by omega) (by simp; (try omega)) ?_; intro v4 w4 hown4 hg4 hat4; have hb4 : Hid (Below (wb.alloc (.cells #[.int .i64 1, .int .i64 conn, .string st, .int .i64 0, .int .i64 0, .int .i64 1, .int .i64 0] 33)).heap.size (wb.alloc (.cells #[.int .i64 1, .int .i64 conn, .string st, .int .i64 0, .int .i64 0, .int .i64 1, .int .i64 0] 33)) w4) := (below_dr hBC.out).grown hg4 (below_dr hBC.out).size (fun g hg => by simp [Value.ownBlock] at hg; (try simp); omega); clear hat4; replace hown4 := Lib.hid hown4; clear hg4) | (refine step_append_any _ (by rfl) (.tmp 42) (.tmp 43) _ (by rfl) (wb.heap.size + 1) 33 i0 _ 7 64 Try.underlying22 hi0 hz0 hz1 hz2 rfl (by omega) (.slice (some ⟨wb.heap.size + 1, 0, none⟩) 0 0) 0 [] (by rfl) (hEB.out.drew) w.heap.size A n cap (flat oC l) (by rfl) (hRB.out.drew) (o_one _) (by simp only [maxLen]; omega) (by omega) (by simp; (try omega)) ?_; intro v4 w4 hown4 hg4 hat4; have hb4 : Hid (Below (wb.alloc (.cells #[.int .i64 1, .int .i64 conn, .string st, .int .i64 0, .int .i64 0, .int .i64 1, .int .i64 0] 33)).heap.size (wb.alloc (.cells #[.int .i64 1, .int .i64 conn, .string st, .int .i64 0, .int .i64 0, .int .i64 1, .int .i64 0] 33)) w4) := (below_dr hBB.out).grown hg4 (below_dr hBB.out).size (fun g hg => by simp [Value.ownBlock] at hg; (try simp); omega); clear hat4; replace hown4 := Lib.hid hown4; have hF4 : Hid (Blk w4 (wb.heap.size + 1 + 1) 33 #[.int .i64 1, .int .i64 conn, .string st, .int .i64 0, .int .i64 0, .int .i64 1, .int .i64 0]) := hFB.out.drew.grown hg4 (fun e => by simp [Value.ownBlock] at e); clear hg4) | (refine step_append_any _ (by rfl) (.tmp 42) (.tmp 43) _ (by rfl) (wb.heap.size + 1) 33 i0 _ 7 64 Try.underlying22 hi0 hz0 hz1 hz2 rfl (by omega) (.slice (some ⟨wb.heap.size + 1 + 1, 0, none⟩) 0 0) 0 [] (by rfl) (hEA.out.drew) w.heap.size A n cap (flat oC l) (by rfl) (hRA.out.drew) (o_one _) (by simp only [maxLen]; omega) (by omega) (by simp; (try omega)) ?_; intro v4 w4 hown4 hg4 hat4; have hb4 : Hid (Below (wb.alloc (.cells #[.int .i64 1, .int .i64 conn, .string st, .int .i64 0, .int .i64 0, .int .i64 1, .int .i64 0] 33)).heap.size (wb.alloc (.cells #[.int .i64 1, .int .i64 conn, .string st, .int .i64 0, .int .i64 0, .int .i64 1, .int .i64 0] 33)) w4) := (below_dr hBA.out).grown hg4 (below_dr hBA.out).size (fun g hg => by simp [Value.ownBlock] at hg; (try simp); omega); clear hat4; replace hown4 := Lib.hid hown4; have hF4 : Hid (Blk w4 (wb.heap.size + 1) 33 #[.int .i64 1, .int .i64 conn, .string st, .int .i64 0, .int .i64 0, .int .i64 1, .int .i64 0]) := hFA.out.drew.grown hg4 (fun e => by simp [Value.ownBlock] at e); clear hg4) | (refine step_append_any _ (by rfl) (.tmp 44) (.tmp 46) _ (by rfl) (wb.heap.size + 1) 33 i0 _ 7 64 Try.underlying22 hi0 hz0 hz1 hz2 rfl (by omega) v4 (0 + n) ([] ++ flat oC l) (by rfl) (hown4.out.alloc _) _ _ 1 1 (flat oC [⟨1, conn, st, 0, 0, 1, 0⟩]) (by rfl) (reads_blk ⟨1, conn, st, 0, 0, 1, 0⟩ (Blk.new w4 33 #[.int .i64 1, .int .i64 conn, .string st, .int .i64 0, .int .i64 0, .int .i64 1, .int .i64 0])) (o_one _) (by simp only [maxLen]; omega) (by omega) (by have h9 := hb4.out.size; (try simp at h9 ⊢); (try omega)) ?_; intro v' w7 hown7 hg7 hat7; have hb7 : Hid (Below (wb.alloc (.cells #[.int .i64 1, .int .i64 conn, .string st, .int .i64 0, .int .i64 0, .int .i64 1, .int .i64 0] 33)).heap.size (wb.alloc (.cells #[.int .i64 1, .int .i64 conn, .string st, .int .i64 0, .int .i64 0, .int .i64 1, .int .i64 0] 33)) w7) := (below_new hb4.out _).grown hg7 (below_new hb4.out _).size (fun g hg => by have h1 := (World.ownsRow.lt hown4.out g hg).1; (try simp at h1 ⊢); omega); have hfin : Hid (OutV w w7 (l ++ [⟨1, conn, st, 0, 0, 1, 0⟩]) v') := OutV.own (base := _) ⟨oC_len, by rw [List.length_append, flat_append, hn.out]; simpa using hown7⟩ (hbW.out.trans (hb7.out.mono hbW.out.size)); clear hown7 hg7 hat7) | (refine step_append_any _ (by rfl) (.tmp 44) (.tmp 46) _ (by rfl) (wb.heap.size + 1) 33 i0 _ 7 64 Try.underlying22 hi0 hz0 hz1 hz2 rfl (by omega) v4 (0 + n) ([] ++ flat oC l) (by rfl) (hown4.out) _ _ 1 1 (flat oC [⟨1, conn, st, 0, 0, 1, 0⟩]) (by rfl) (reads_blk ⟨1, conn, st, 0, 0, 1, 0⟩ hF4.out) (o_one _) (by simp only [maxLen]; omega) (by omega) (by have h9 := hb4.out.size; (try simp at h9 ⊢); (try omega)) ?_; intro v' w7 hown7 hg7 hat7; have hb7 : Hid (Below (wb.alloc (.cells #[.int .i64 1, .int .i64 conn, .string st, .int .i64 0, .int .i64 0, .int .i64 1, .int .i64 0] 33)).heap.size (wb.alloc (.cells #[.int .i64 1, .int .i64 conn, .string st, .int .i64 0, .int .i64 0, .int .i64 1, .int .i64 0] 33)) w7) := (hb4.out).grown hg7 (hb4.out).size (fun g hg => by have h1 := (World.ownsRow.lt hown4.out g hg).1; (try simp at h1 ⊢); omega); have hfin : Hid (OutV w w7 (l ++ [⟨1, conn, st, 0, 0, 1, 0⟩]) v') := OutV.own (base := _) ⟨oC_len, by rw [List.length_append, flat_append, hn.out]; simpa using hown7⟩ (hbW.out.trans (hb7.out.mono hbW.out.size)); clear hown7 hg7 hat7))
    all_goals
      go_wp2_with fail
      go_ret3
      exact ⟨_, rfl, hfin.out⟩
end Go.Proofs.Ytpejfnfhbpckiaa
