/- Authorization: the law's small and its example, walked. -/
import Derived.Test.YtiggpgeldigknaaAx
import Derived.Test.YtiggpgeldigknaaAy
set_option linter.unusedVariables false
set_option linter.unusedSimpArgs false
namespace Go.Proofs.Ytiggpgeldigknaa
open Go.RowKit
def okT (l : List Tk) : Bool := l.all fun t => decide (tvalid t = 0)
theorem okT_step (l : List Tk) (k : Nat) (h : k < l.length) : okT (l.drop k) = (decide (tvalid l[k] = 0) && okT (l.drop (k + 1))) := by
  rw [List.drop_eq_getElem_cons h]; rfl
/-- all tokens are valid, and there are at most 60 -/
def smallT (l : List Tk) : Bool := okT l && decide (l.length ≤ 60)
set_option maxRecDepth 100000 in
set_option maxHeartbeats 1000000 in
theorem small_any (A : Option Addr) (l : List Tk) (n cap : Nat) (w : World) (h : TAt w w.heap.size A n l) (hm : n ≤ maxLen) :
    Calls Try.prog 20 #[.slice A n cap] w fun e w' => e = .returned (.bool (smallT l)) ∧ Below w.heap.size w w' := by
  unfold maxLen at hm
  have hn := Lib.hid h.len
  replace h := Lib.hid h
  go_enter Try.func20, Try.ntmps20
  go_wp2_with fail
  go_loopw [7] (fun i wr => ∃ k : Nat, k ≤ n ∧ i = .int .i64 k ∧ Hid (Below w.heap.size w wr) ∧ Hid (okT l = okT (l.drop k))) (fun i _ => n - (intOf i).toNat)
  case atStart => exact ⟨0, Nat.zero_le _, rfl, Below.refl _ _, rfl⟩
  case round =>
    obtain ⟨k, hk, rfl, hb, hx⟩ := hrel
    by_cases hlt : k < n
    · have hkl : k < l.length := by rw [hn.out]; exact hlt
      have hst := Lib.hid (okT_step l k hkl)
      obtain ⟨ad, hA, hbl, c0, c1, c2, c3, c4, c5⟩ := TAt.cell (h.out.below hb.out (Nat.le_refl _)) hlt
      subst hA
      generalize l[k] = t at *
      have hv : Hid (tkV t = .agg #[.string t.id, .string t.group, .string t.contract, .int .i64 t.kind, .int .i64 t.status, .int .i64 t.expiry]) := rfl
      have hb1 : Hid (Below w.heap.size w (wr.alloc (tkObj t))) := hb.out.alloc hb.out.size _
      generalize htv : tvalid t = e0 at *
      by_cases he : e0 = 0
      · have hF : Hid (okT l = okT (l.drop (k + 1))) := by show _ = _; rw [hx.out, hst.out, he]; rfl
        have hd : (e0 != 0) = false := by simpa using he
        replace he := Lib.hid he
        replace htv := Lib.hid htv
        go_wp2_with fail
        rw [← hv.out]
        refine (rtvalid_any t _).mono ?_; rintro e w1 ⟨rfl, hb2⟩
        rw [htv.out]
        replace hb2 := Lib.hid (hb1.out.trans (hb2.mono hb1.out.size))
        go_wp2_with fail
        go_roundw
        case rel => exact ⟨k + 1, by omega, by go_num, hb2.out, hF⟩
        case measure => simp [intOf]; omega
      · have hF : Hid (okT l = false) := by show _ = _; rw [hx.out, hst.out]; simp [he]
        have hd : (e0 != 0) = true := by simpa using he
        replace he := Lib.hid he
        replace htv := Lib.hid htv
        go_wp2_with fail
        rw [← hv.out]
        refine (rtvalid_any t _).mono ?_; rintro e w1 ⟨rfl, hb2⟩
        rw [htv.out]
        replace hb2 := Lib.hid (hb1.out.trans (hb2.mono hb1.out.size))
        go_wp2_with fail
        go_ret
        exact ⟨ret_bool (by rw [smallT, hF.out]; rfl), hb2.out⟩
    · have hF : Hid (okT l = true) := by show _ = _; rw [hx.out, List.drop_of_length_le (by rw [hn.out]; omega)]; rfl
      by_cases h60 : n ≤ 60
      · go_wp2_with fail
        go_ret
        exact ⟨ret_bool (by rw [smallT, hF.out, hn.out]; simp; omega), hb.out⟩
      · go_wp2_with fail
        go_ret
        exact ⟨ret_bool (by rw [smallT, hF.out, hn.out]; simp; omega), hb.out⟩
theorem small_ok {l : List Tk} (h : smallT l = true) : (∀ t ∈ l, tvalid t = 0) ∧ l.length ≤ 60 := by
  simp only [smallT, okT, Bool.and_eq_true, List.all_eq_true, decide_eq_true_eq] at h
  exact h
theorem name_len {s : ByteArray} (h : nameB s = true) : s.size ≤ 36 := by
  simp only [nameB, Bool.and_eq_true, decide_eq_true_eq] at h; exact h.1.2
theorem field0 (a b : Int) (c : ByteArray) (w : World) : (Instr.field 29 (.agg #[.int .i64 a, .int .i64 b, .string c]) 0).run Try.prog w = .ok (.int .i64 a) w := by kernel_rfl
def exTk : Tk := ⟨⟨#[65]⟩, ⟨#[]⟩, ⟨#[]⟩, 1, 1, 100⟩
theorem exOk : ∀ t ∈ [exTk], TkOk t := by
  intro t ht
  simp at ht
  subst ht
  exact ⟨by decide, by decide, by decide⟩
def yTk : Tk := ⟨⟨#[89]⟩, ⟨#[103]⟩, ⟨#[]⟩, 0, 0, 0⟩
def y2Tk : Tk := ⟨⟨#[89]⟩, ⟨#[]⟩, ⟨#[]⟩, 0, 0, 0⟩
set_option maxRecDepth 100000 in
set_option maxHeartbeats 1000000 in
theorem example_any (w : World) : Calls Try.prog 21 #[] w fun e w' => e = .returned (.bool true) ∧ Below w.heap.size w w' := by
  have hl : TAt (w.alloc (.cells #[.string ⟨#[65]⟩, .string ⟨#[]⟩, .string ⟨#[]⟩, .int .i64 1, .int .i64 1, .int .i64 100] 33)) (w.alloc (.cells #[.string ⟨#[65]⟩, .string ⟨#[]⟩, .string ⟨#[]⟩, .int .i64 1, .int .i64 1, .int .i64 100] 33)).heap.size (some ⟨w.heap.size, 0, none⟩) 1 [exTk] := (lit_at tkC_len w [exTk] _ rfl).mono (by simp)
  have hfl := field0
  have hB := Lib.hid (a1 w (.cells #[.string ⟨#[65]⟩, .string ⟨#[]⟩, .string ⟨#[]⟩, .int .i64 1, .int .i64 1, .int .i64 100] 33))
  replace hl := Lib.hid hl
  have e1 : Hid (centralT [exTk] ⟨#[65]⟩ [] 100 = (3, 3, ⟨#[]⟩)) := by show _ = _; decide +kernel
  have e2 : Hid (centralT [exTk] ⟨#[65]⟩ [] 99 = (1, 3, ⟨#[]⟩)) := by show _ = _; decide +kernel
  have e3 : Hid (centralT [exTk] ⟨#[65]⟩ [⟨#[97]⟩] 99 = (5, 3, ⟨#[]⟩)) := by show _ = _; decide +kernel
  have e4 : Hid (endsT ⟨#[88]⟩ ⟨#[103]⟩ ⟨#[89]⟩ ⟨#[103]⟩ = true) := by show _ = _; decide +kernel
  have e5 : Hid (endsT ⟨#[88]⟩ ⟨#[]⟩ ⟨#[89]⟩ ⟨#[]⟩ = false) := by show _ = _; decide +kernel
  have v1 : Hid (decV (3, 3, ⟨#[]⟩) = .agg #[.int .i64 3, .int .i64 3, .string ⟨#[]⟩]) := rfl
  have v2 : Hid (decV (1, 3, ⟨#[]⟩) = .agg #[.int .i64 1, .int .i64 3, .string ⟨#[]⟩]) := rfl
  have v3 : Hid (decV (5, 3, ⟨#[]⟩) = .agg #[.int .i64 5, .int .i64 3, .string ⟨#[]⟩]) := rfl
  go_enter Try.func21, Try.ntmps21
  go_wp2_with fail
  refine (central_any _ [exTk] 1 1 ⟨#[65]⟩ none [] 0 0 100 _ hl.out (by decide) (by decide) exOk (gnil _ _) (by decide) (fun s h => by simp at h)).mono ?_; rintro e w1 ⟨rfl, hb1⟩
  rw [e1.out, v1.out]
  replace hl := Lib.hid (hl.out.more hb1)
  replace hB := Lib.hid (hB.out.trans (hb1.mono hB.out.size)); clear hb1
  go_wp2_with fail
  refine (central_any _ [exTk] 1 1 ⟨#[65]⟩ none [] 0 0 99 _ hl.out (by decide) (by decide) exOk (gnil _ _) (by decide) (fun s h => by simp at h)).mono ?_; rintro e w2 ⟨rfl, hb1⟩
  rw [e2.out, v2.out]
  replace hl := Lib.hid (hl.out.more hb1)
  replace hB := Lib.hid (hB.out.trans (hb1.mono hB.out.size)); clear hb1
  go_wp2_with fail
  have hg : GAt (w2.alloc (.cells #[.string ⟨#[97]⟩] 9)) (w2.alloc (.cells #[.string ⟨#[97]⟩] 9)).heap.size (some ⟨w2.heap.size, 0, none⟩) 1 [⟨#[97]⟩] := (lit_at (f := strC) (fun _ => rfl) w2 [⟨#[97]⟩] _ rfl).mono (by simp)
  refine (central_any _ [exTk] 1 1 ⟨#[65]⟩ (some ⟨w2.heap.size, 0, none⟩) [⟨#[97]⟩] 1 1 99 _ (hl.out.more (a1 _ _)) (by decide) (by decide) exOk hg (by decide) (fun s h => by simp at h; subst h; decide)).mono ?_; rintro e w3 ⟨rfl, hb1⟩
  rw [e3.out, v3.out]
  replace hB := Lib.hid (hB.out.trans ((below_a hb1).mono hB.out.size)); clear hb1 hg hl
  go_wp2_with fail
  have hy : Hid (tkV yTk = .agg #[.string ⟨#[89]⟩, .string ⟨#[103]⟩, .string ⟨#[]⟩, .int .i64 0, .int .i64 0, .int .i64 0]) := rfl
  rw [← hy.out]
  refine (ends_any ⟨#[88]⟩ ⟨#[103]⟩ yTk _ (by decide) (by decide) ⟨by decide, by decide, by decide⟩).mono ?_; rintro e w4 ⟨rfl, hb1⟩
  rw [show endsT ⟨#[88]⟩ ⟨#[103]⟩ yTk.id yTk.group = true from e4.out]
  replace hB := Lib.hid (hB.out.trans (hb1.mono hB.out.size)); clear hb1
  go_wp2_with fail
  have hy2 : Hid (tkV y2Tk = .agg #[.string ⟨#[89]⟩, .string ⟨#[]⟩, .string ⟨#[]⟩, .int .i64 0, .int .i64 0, .int .i64 0]) := rfl
  rw [← hy2.out]
  refine (ends_any ⟨#[88]⟩ ⟨#[]⟩ y2Tk _ (by decide) (by decide) ⟨by decide, by decide, by decide⟩).mono ?_; rintro e w5 ⟨rfl, hb1⟩
  rw [show endsT ⟨#[88]⟩ ⟨#[]⟩ y2Tk.id y2Tk.group = false from e5.out]
  replace hB := Lib.hid (hB.out.trans (hb1.mono hB.out.size)); clear hb1
  go_wp2_with fail
  go_ret
  exact ⟨rfl, hB.out⟩
end Go.Proofs.Ytiggpgeldigknaa
