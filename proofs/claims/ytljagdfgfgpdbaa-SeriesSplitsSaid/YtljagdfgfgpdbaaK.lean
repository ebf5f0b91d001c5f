/- Series: slices.Equal at steps, walked; the chapter's example. -/
import Derived.Test.YtljagdfgfgpdbaaJ
import Derived.Test.YtljagdfgfgpdbaaI
import Derived.Test.YtljagdfgfgpdbaaH
set_option linter.unusedVariables false
namespace Go.Proofs.Ytljagdfgfgpdbaa
open Go.RowKit
set_option maxRecDepth 100000 in
set_option maxHeartbeats 1000000 in
theorem equal_any (A1 A2 : Option Addr) (a b : List Ser.Step) (n1 c1 n2 c2 : Nat) (w : World) (ha : SAt w w.heap.size A1 n1 a) (hb : SAt w w.heap.size A2 n2 b) (h1 : n1 ≤ maxLen) (h2 : n2 ≤ maxLen) :
    Calls Try.prog 14 #[.slice A1 n1 c1, .slice A2 n2 c2] w fun e w' => e = .returned (.bool (decide (a = b))) ∧ Below w.heap.size w w' := by
  unfold maxLen at h1 h2
  have la := Lib.hid ha.len
  have lb := Lib.hid hb.len
  replace ha := Lib.hid ha
  replace hb := Lib.hid hb
  by_cases hn : n1 = n2
  · subst hn
    go_enter Try.func14, Try.ntmps14
    go_wp2_with fail
    go_loopw [13] (fun i wr => ∃ k m : Nat, k ≤ n1 ∧ i = .int .i64 k ∧ wr = w.drewN m ∧ a.take k = b.take k) (fun i _ => n1 - (intOf i).toNat)
    case atStart => exact ⟨0, 0, Nat.zero_le _, rfl, rfl, rfl⟩
    case round =>
      obtain ⟨k, m, hk, rfl, rfl, hx⟩ := hrel
      by_cases hlt : k < n1
      · have hka : k < a.length := by have := la.out; omega
        have hkb : k < b.length := by have := lb.out; omega
        have hst : Hid (a[k] = b[k] → a.take (k + 1) = b.take (k + 1)) := fun h => by rw [List.take_succ_eq_append_getElem hka, List.take_succ_eq_append_getElem hkb, hx, h]
        have hne : Hid (a[k] ≠ b[k] → decide (a = b) = false) := fun h => by
          rw [decide_eq_false_iff_not]; intro e; subst e; exact h rfl
        clear hx
        obtain ⟨ad1, hA1, _, c0, c1⟩ := ha.out.at_ hlt
        obtain ⟨ad2, hA2, _, d0, d1⟩ := hb.out.at_ hlt
        subst hA1
        subst hA2
        have hs : Hid ((a[k]).1 = (b[k]).1 → (a[k]).2 = (b[k]).2 → a[k] = b[k]) := fun h1 h2 => Prod.ext h1 h2
        have hs2 : Hid (a[k] = b[k] → (a[k]).1 = (b[k]).1 ∧ (a[k]).2 = (b[k]).2) := fun h => by rw [h]; exact ⟨rfl, rfl⟩
        generalize (a[k]).1 = t1 at *
        generalize (a[k]).2 = x1 at *
        generalize (b[k]).1 = t2 at *
        generalize (b[k]).2 = x2 at *
        by_cases ht : t1 = t2
        · subst ht
          by_cases hxx : x1 = x2
          · subst hxx
            go_wp2_with fail
            go_quiet (fail)
            go_wp2_with fail
            go_roundw
            case rel => exact ⟨k + 1, _, by omega, by go_num, rfl, hst.out (hs.out (by first | rfl | trivial) (by first | rfl | trivial))⟩
            case measure => simp [intOf]; omega
          · have hd : (x1 == x2) = false := by simpa using hxx
            have hF : Hid (decide (a = b) = false) := hne.out (fun h => hxx (hs2.out h).2)
            replace hxx := Lib.hid hxx
            go_wp2_with fail
            go_quiet (fail)
            go_wp2_with fail
            go_ret
            exact ⟨by rw [hF.out]; rfl, by first | exact below_drewN (Below.refl _ _) _ | exact below_drewN (below_drewN (Below.refl _ _) _) _⟩
        · have hd : (t1 == t2) = false := by simpa using ht
          have hF : Hid (decide (a = b) = false) := hne.out (fun h => ht (hs2.out h).1)
          replace ht := Lib.hid ht
          go_wp2_with fail
          go_quiet (fail)
          go_wp2_with fail
          go_ret
          exact ⟨by rw [hF.out]; rfl, by first | exact below_drewN (Below.refl _ _) _ | exact below_drewN (below_drewN (Below.refl _ _) _) _⟩
      · have hE : Hid (decide (a = b) = true) := by
          show _ = _
          rw [List.take_of_length_le (by have := la.out; omega), List.take_of_length_le (by have := lb.out; omega)] at hx
          simpa using hx
        clear hx
        go_wp2_with fail
        go_ret
        exact ⟨by rw [hE.out]; rfl, by first | exact below_drewN (Below.refl _ _) _ | exact below_drewN (below_drewN (Below.refl _ _) _) _⟩
  · have hF : Hid (decide (a = b) = false) := by
      show _ = _
      rw [decide_eq_false_iff_not]; intro e; subst e; exact hn (by rw [← la.out, ← lb.out])
    have hd : ((n1 : Int) != n2) = true := by simp; omega
    have hd2 : ((n1 : Int) == n2) = false := by simp; omega
    replace hn := Lib.hid hn
    go_enter Try.func14, Try.ntmps14
    go_wp2_with fail
    go_ret
    exact ⟨by rw [hF.out]; rfl, Below.refl _ _⟩
theorem lit_at (w : World) (L : List Ser.Step) (cs : Array Value) (h : cs = (scells L).toArray) : SAt (w.alloc (.cells cs 29)) (w.alloc (.cells cs 29)).heap.size (some ⟨w.heap.size, 0, none⟩) L.length L := by
  subst h
  exact reads_new w (scells L) 29 2 L.length _ (scells_length L) (by simp)
theorem lit_at' (w : World) (L : List Ser.Step) (cs : Array Value) (h : cs = (scells L).toArray) (g : Nat) (hg : g = w.heap.size) : SAt (w.alloc (.cells cs 29)) (w.alloc (.cells cs 29)).heap.size (some ⟨g, 0, none⟩) L.length L := by
  subst hg; exact lit_at w L cs h
theorem b1 {w w' : World} {o : Obj} (h : Below (w.alloc o).heap.size (w.alloc o) w') : Below w.heap.size w w' := ((Below.refl _ _).alloc (Nat.le_refl _) o).trans (h.mono (by simp))
theorem a1 (w : World) (o : Obj) : Below w.heap.size w (w.alloc o) := (Below.refl _ _).alloc (Nat.le_refl _) o
theorem own_at {w : World} {base : Nat} {v : Value} {l l' : List Ser.Step} (h : SOwn w base v l') (e : l' = l) : ∃ A c, v = .slice A l.length c ∧ c ≤ maxLen ∧ l.length ≤ c ∧ SAt w w.heap.size A l.length l := by
  subst e
  obtain ⟨A, c, h1, h2, h3, _, h4⟩ := h.form
  exact ⟨A, c, h1, h3, h2, h4⟩
def exL : List Ser.Step := [(10, 5), (20, 0), (30, 7)]
def exB : List Ser.Step := [(15, 1)]
theorem exMono : Mono exL := (asc_mono exL (-1) (by simp [exL, Ser.Asc])).2
set_option maxRecDepth 100000 in
set_option maxHeartbeats 4000000 in
theorem example_any (w : World) : Calls Try.prog 11 #[] w fun e w' => e = .returned (.bool true) ∧ Below w.heap.size w w' := by
  go_enter Try.func11, Try.ntmps11
  go_wp2_with fail
  have hl := lit_at w exL #[.int .i64 10, .int .i64 5, .int .i64 20, .int .i64 0, .int .i64 30, .int .i64 7] rfl
  replace hl := hl.more (a1 _ (.cells #[.int .i64 15, .int .i64 1] 29))
  have hbb := lit_at' (w.alloc (.cells #[.int .i64 10, .int .i64 5, .int .i64 20, .int .i64 0, .int .i64 30, .int .i64 7] 29)) exB #[.int .i64 15, .int .i64 1] rfl (w.heap.size + 1) (by simp)
  have hB : Below w.heap.size w ((w.alloc (.cells #[.int .i64 10, .int .i64 5, .int .i64 20, .int .i64 0, .int .i64 30, .int .i64 7] 29)).alloc (.cells #[.int .i64 15, .int .i64 1] 29)) := (a1 _ _).trans ((a1 _ _).mono (by simp))
  refine (add_any _ _ exL exB 3 3 1 1 _ hl hbb (by decide) (by decide) (by decide) (by decide)).mono ?_
  rintro e w1 ⟨v1, rfl, ho, hb⟩
  replace hbb := Lib.hid (hbb.more hb)
  replace hl := Lib.hid (hl.more hb)
  replace hB := Lib.hid (hB.trans (hb.mono hB.size))
  clear hb
  rw [show addF exL exB = ([(10, 5), (15, 6), (20, 1), (30, 8)], 0) from by decide +kernel] at ho ⊢
  obtain ⟨As, cs, rfl, ms, ks, hsum⟩ := own_at (l := [(10, 5), (15, 6), (20, 1), (30, 8)]) ho rfl
  replace hsum := Lib.hid hsum; clear ho
  go_wp2_with fail
  refine (least_any _ _ exL exB 3 3 1 1 _ hl.out hbb.out (by decide) (by decide) (by decide) (by decide)).mono ?_
  rintro e w2 ⟨v2, rfl, ho, hb⟩
  replace hl := Lib.hid (hl.out.more hb)
  replace hbb := Lib.hid (hbb.out.more hb)
  replace hsum := Lib.hid (hsum.out.more hb)
  replace hB := Lib.hid (hB.out.trans (hb.mono hB.out.size))
  clear hb
  rw [show leastF exL exB = ([(15, 1), (20, 0), (30, 1)], 0) from by decide +kernel] at ho ⊢
  obtain ⟨Al, cl, rfl, mll, kl, hlst⟩ := own_at (l := [(15, 1), (20, 0), (30, 1)]) ho rfl
  replace hlst := Lib.hid hlst; clear ho
  go_wp2_with fail
  refine (clip_any _ exL 3 3 12 31 _ hl.out (by decide) (by decide)).mono ?_
  rintro e w3 ⟨v3, rfl, ho, hb⟩
  replace hl := Lib.hid (hl.out.more hb)
  replace hbb := Lib.hid (hbb.out.more hb)
  replace hsum := Lib.hid (hsum.out.more hb)
  replace hlst := Lib.hid (hlst.out.more hb)
  replace hB := Lib.hid (hB.out.trans (hb.mono hB.out.size))
  clear hb
  rw [show clipF exL 12 31 = ([(12, 5), (20, 0), (30, 7), (31, 0)], 0) from by decide +kernel] at ho ⊢
  obtain ⟨Ac, cc, rfl, mc, kc, hclip⟩ := own_at (l := [(12, 5), (20, 0), (30, 7), (31, 0)]) ho rfl
  replace hclip := Lib.hid hclip; clear ho
  go_wp2_with fail
  refine (shift_any _ exL 3 3 (-10) _ hl.out (by decide) (by decide) (by decide) (by decide)).mono ?_
  rintro e w4 ⟨v4, rfl, ho, hb⟩
  replace hl := Lib.hid (hl.out.more hb)
  replace hbb := Lib.hid (hbb.out.more hb)
  replace hsum := Lib.hid (hsum.out.more hb)
  replace hlst := Lib.hid (hlst.out.more hb)
  replace hclip := Lib.hid (hclip.out.more hb)
  replace hB := Lib.hid (hB.out.trans (hb.mono hB.out.size))
  clear hb
  rw [show shiftF exL (-10) = ([(0, 5), (10, 0), (20, 7)], 0) from by decide +kernel] at ho ⊢
  obtain ⟨Ah, ch, rfl, mh, kh, hshift⟩ := own_at (l := [(0, 5), (10, 0), (20, 7)]) ho rfl
  replace hshift := Lib.hid hshift; clear ho
  go_wp2_with fail
  refine (shift_any _ exL 3 3 (-11) _ hl.out (by decide) (by decide) (by decide) (by decide)).mono ?_
  rintro e w5 ⟨v5, rfl, ho, hb⟩
  replace hl := Lib.hid (hl.out.more hb)
  replace hbb := Lib.hid (hbb.out.more hb)
  replace hsum := Lib.hid (hsum.out.more hb)
  replace hlst := Lib.hid (hlst.out.more hb)
  replace hclip := Lib.hid (hclip.out.more hb)
  replace hshift := Lib.hid (hshift.out.more hb)
  replace hB := Lib.hid (hB.out.trans (hb.mono hB.out.size))
  clear hb
  rw [show shiftF exL (-11) = ([], 2) from by decide +kernel] at ho ⊢
  clear ho
  go_wp2_with fail
  refine (energy_any _ exL 3 3 12 32 _ hl.out (by decide) (by decide)).mono ?_
  rintro e w6 ⟨rfl, hb⟩
  replace hl := Lib.hid (hl.out.more hb)
  replace hbb := Lib.hid (hbb.out.more hb)
  replace hsum := Lib.hid (hsum.out.more hb)
  replace hlst := Lib.hid (hlst.out.more hb)
  replace hclip := Lib.hid (hclip.out.more hb)
  replace hshift := Lib.hid (hshift.out.more hb)
  replace hB := Lib.hid (hB.out.trans (hb.mono hB.out.size))
  clear hb
  rw [show enerF exL 12 32 = (54, 0) from by decide +kernel]
  go_wp2_with fail
  have h7 := lit_at w6 [(0, 1099511627776)] #[.int .i64 0, .int .i64 1099511627776] rfl
  refine (energy_any _ [(0, 1099511627776)] 1 1 0 8388608 _ h7 (by decide) (by decide)).mono ?_
  rintro e w7 ⟨rfl, hb⟩
  replace hb := b1 hb
  clear h7
  replace hl := Lib.hid (hl.out.more hb)
  replace hbb := Lib.hid (hbb.out.more hb)
  replace hsum := Lib.hid (hsum.out.more hb)
  replace hlst := Lib.hid (hlst.out.more hb)
  replace hclip := Lib.hid (hclip.out.more hb)
  replace hshift := Lib.hid (hshift.out.more hb)
  replace hB := Lib.hid (hB.out.trans (hb.mono hB.out.size))
  clear hb
  rw [show enerF [(0, 1099511627776)] 0 8388608 = (0, 20) from by decide +kernel]
  go_wp2_with fail
  have h8 := lit_at w7 [(5, 1), (5, 2)] #[.int .i64 5, .int .i64 1, .int .i64 5, .int .i64 2] rfl
  refine (valid_any _ [(5, 1), (5, 2)] 2 2 _ h8 (by decide)).mono ?_
  rintro e w8 ⟨rfl, hb⟩
  replace hb := b1 hb
  clear h8
  replace hl := Lib.hid (hl.out.more hb)
  replace hbb := Lib.hid (hbb.out.more hb)
  replace hsum := Lib.hid (hsum.out.more hb)
  replace hlst := Lib.hid (hlst.out.more hb)
  replace hclip := Lib.hid (hclip.out.more hb)
  replace hshift := Lib.hid (hshift.out.more hb)
  replace hB := Lib.hid (hB.out.trans (hb.mono hB.out.size))
  clear hb
  rw [show Ser.valid [(5, 1), (5, 2)] = 1 from by decide +kernel]
  go_wp2_with fail
  refine (at_any _ exL 3 3 9 _ hl.out (by decide)).mono ?_
  rintro e w9 ⟨x, rfl, hx, hb⟩
  have hx2 : x = 0 := by rw [hx exMono]; decide +kernel
  subst hx2; clear hx
  replace hl := Lib.hid (hl.out.more hb)
  replace hbb := Lib.hid (hbb.out.more hb)
  replace hsum := Lib.hid (hsum.out.more hb)
  replace hlst := Lib.hid (hlst.out.more hb)
  replace hclip := Lib.hid (hclip.out.more hb)
  replace hshift := Lib.hid (hshift.out.more hb)
  replace hB := Lib.hid (hB.out.trans (hb.mono hB.out.size))
  clear hb
  go_wp2_with fail
  refine (at_any _ exL 3 3 10 _ hl.out (by decide)).mono ?_
  rintro e w10 ⟨x, rfl, hx, hb⟩
  have hx2 : x = 5 := by rw [hx exMono]; decide +kernel
  subst hx2; clear hx
  replace hl := Lib.hid (hl.out.more hb)
  replace hbb := Lib.hid (hbb.out.more hb)
  replace hsum := Lib.hid (hsum.out.more hb)
  replace hlst := Lib.hid (hlst.out.more hb)
  replace hclip := Lib.hid (hclip.out.more hb)
  replace hshift := Lib.hid (hshift.out.more hb)
  replace hB := Lib.hid (hB.out.trans (hb.mono hB.out.size))
  clear hb
  go_wp2_with fail
  refine (at_any _ exL 3 3 25 _ hl.out (by decide)).mono ?_
  rintro e w11 ⟨x, rfl, hx, hb⟩
  have hx2 : x = 0 := by rw [hx exMono]; decide +kernel
  subst hx2; clear hx
  replace hl := Lib.hid (hl.out.more hb)
  replace hbb := Lib.hid (hbb.out.more hb)
  replace hsum := Lib.hid (hsum.out.more hb)
  replace hlst := Lib.hid (hlst.out.more hb)
  replace hclip := Lib.hid (hclip.out.more hb)
  replace hshift := Lib.hid (hshift.out.more hb)
  replace hB := Lib.hid (hB.out.trans (hb.mono hB.out.size))
  clear hb
  go_wp2_with fail
  refine (at_any _ exL 3 3 100 _ hl.out (by decide)).mono ?_
  rintro e w12 ⟨x, rfl, hx, hb⟩
  have hx2 : x = 7 := by rw [hx exMono]; decide +kernel
  subst hx2; clear hx
  replace hl := Lib.hid (hl.out.more hb)
  replace hbb := Lib.hid (hbb.out.more hb)
  replace hsum := Lib.hid (hsum.out.more hb)
  replace hlst := Lib.hid (hlst.out.more hb)
  replace hclip := Lib.hid (hclip.out.more hb)
  replace hshift := Lib.hid (hshift.out.more hb)
  replace hB := Lib.hid (hB.out.trans (hb.mono hB.out.size))
  clear hb
  go_wp2_with fail
  have h9 := lit_at w12 [(10, 5), (15, 6), (20, 1), (30, 8)] #[.int .i64 10, .int .i64 5, .int .i64 15, .int .i64 6, .int .i64 20, .int .i64 1, .int .i64 30, .int .i64 8] rfl
  refine (equal_any _ _ [(10, 5), (15, 6), (20, 1), (30, 8)] [(10, 5), (15, 6), (20, 1), (30, 8)] 4 _ 4 _ _ (hsum.out.more (a1 _ _)) h9 (by decide) (by decide)).mono ?_
  rintro e w13 ⟨rfl, hb⟩
  replace hb := b1 hb
  clear h9
  replace hl := Lib.hid (hl.out.more hb)
  replace hbb := Lib.hid (hbb.out.more hb)
  replace hsum := Lib.hid (hsum.out.more hb)
  replace hlst := Lib.hid (hlst.out.more hb)
  replace hclip := Lib.hid (hclip.out.more hb)
  replace hshift := Lib.hid (hshift.out.more hb)
  replace hB := Lib.hid (hB.out.trans (hb.mono hB.out.size))
  clear hb
  rw [show decide (([(10, 5), (15, 6), (20, 1), (30, 8)] : List Ser.Step) = [(10, 5), (15, 6), (20, 1), (30, 8)]) = true from by decide]
  go_wp2_with fail
  have h9 := lit_at w13 [(15, 1), (20, 0), (30, 1)] #[.int .i64 15, .int .i64 1, .int .i64 20, .int .i64 0, .int .i64 30, .int .i64 1] rfl
  refine (equal_any _ _ [(15, 1), (20, 0), (30, 1)] [(15, 1), (20, 0), (30, 1)] 3 _ 3 _ _ (hlst.out.more (a1 _ _)) h9 (by decide) (by decide)).mono ?_
  rintro e w14 ⟨rfl, hb⟩
  replace hb := b1 hb
  clear h9
  replace hl := Lib.hid (hl.out.more hb)
  replace hbb := Lib.hid (hbb.out.more hb)
  replace hsum := Lib.hid (hsum.out.more hb)
  replace hlst := Lib.hid (hlst.out.more hb)
  replace hclip := Lib.hid (hclip.out.more hb)
  replace hshift := Lib.hid (hshift.out.more hb)
  replace hB := Lib.hid (hB.out.trans (hb.mono hB.out.size))
  clear hb
  rw [show decide (([(15, 1), (20, 0), (30, 1)] : List Ser.Step) = [(15, 1), (20, 0), (30, 1)]) = true from by decide]
  go_wp2_with fail
  have h9 := lit_at w14 [(12, 5), (20, 0), (30, 7), (31, 0)] #[.int .i64 12, .int .i64 5, .int .i64 20, .int .i64 0, .int .i64 30, .int .i64 7, .int .i64 31, .int .i64 0] rfl
  refine (equal_any _ _ [(12, 5), (20, 0), (30, 7), (31, 0)] [(12, 5), (20, 0), (30, 7), (31, 0)] 4 _ 4 _ _ (hclip.out.more (a1 _ _)) h9 (by decide) (by decide)).mono ?_
  rintro e w15 ⟨rfl, hb⟩
  replace hb := b1 hb
  clear h9
  replace hl := Lib.hid (hl.out.more hb)
  replace hbb := Lib.hid (hbb.out.more hb)
  replace hsum := Lib.hid (hsum.out.more hb)
  replace hlst := Lib.hid (hlst.out.more hb)
  replace hclip := Lib.hid (hclip.out.more hb)
  replace hshift := Lib.hid (hshift.out.more hb)
  replace hB := Lib.hid (hB.out.trans (hb.mono hB.out.size))
  clear hb
  rw [show decide (([(12, 5), (20, 0), (30, 7), (31, 0)] : List Ser.Step) = [(12, 5), (20, 0), (30, 7), (31, 0)]) = true from by decide]
  go_wp2_with fail
  have h9 := lit_at w15 [(0, 5), (10, 0), (20, 7)] #[.int .i64 0, .int .i64 5, .int .i64 10, .int .i64 0, .int .i64 20, .int .i64 7] rfl
  refine (equal_any _ _ [(0, 5), (10, 0), (20, 7)] [(0, 5), (10, 0), (20, 7)] 3 _ 3 _ _ (hshift.out.more (a1 _ _)) h9 (by decide) (by decide)).mono ?_
  rintro e w16 ⟨rfl, hb⟩
  replace hb := b1 hb
  clear h9
  replace hl := Lib.hid (hl.out.more hb)
  replace hbb := Lib.hid (hbb.out.more hb)
  replace hsum := Lib.hid (hsum.out.more hb)
  replace hlst := Lib.hid (hlst.out.more hb)
  replace hclip := Lib.hid (hclip.out.more hb)
  replace hshift := Lib.hid (hshift.out.more hb)
  replace hB := Lib.hid (hB.out.trans (hb.mono hB.out.size))
  clear hb
  rw [show decide (([(0, 5), (10, 0), (20, 7)] : List Ser.Step) = [(0, 5), (10, 0), (20, 7)]) = true from by decide]
  go_wp2_with fail
  go_ret
  exact ⟨rfl, hB.out⟩
end Go.Proofs.Ytljagdfgfgpdbaa
