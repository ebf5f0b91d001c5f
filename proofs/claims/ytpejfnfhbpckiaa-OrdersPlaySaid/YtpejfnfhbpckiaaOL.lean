/- Orders: longList; Open of both, whole. -/
import Derived.Test.YtpejfnfhbpckiaaOJ
set_option linter.unusedVariables false
set_option linter.unusedSimpArgs false
namespace Go.Proofs.Ytpejfnfhbpckiaa
open Go.RowKit Go.Proofs.Ytpejfnfhbpckiaa.Ord
def longR : Nat → List O → Bool
  | _, [] => false
  | k, x :: r => decide (80 ≤ k) || decide (4096 < x.st.size) || longR (k + 1) r
theorem longR_step (l : List O) (k : Nat) (h : k < l.length) : longR k (l.drop k) = (decide (80 ≤ k) || decide (4096 < l[k].st.size) || longR (k + 1) (l.drop (k + 1))) := by
  rw [List.drop_eq_getElem_cons h]; rfl
set_option maxRecDepth 100000 in
set_option maxHeartbeats 1000000 in
theorem longList_any (A : Option Addr) (l : List O) (n cap : Nat) (w : World) (h : OAt w w.heap.size A n l) (hm : n ≤ maxLen) :
    Calls Try.prog 8 #[.slice A n cap] w fun e w' => e = .returned (.bool (longR 0 l)) ∧ Below w.heap.size w w' := by
  unfold maxLen at hm
  have hn := Lib.hid h.len
  replace h := Lib.hid h
  go_enter Try.func8, Try.ntmps8
  go_wp2_with fail
  go_loopw [6] (fun i wr => ∃ k : Nat, k ≤ n ∧ i = .int .i64 k ∧ Hid (Below w.heap.size w wr) ∧ Hid (longR 0 l = longR k (l.drop k))) (fun i _ => n - (intOf i).toNat)
  case atStart => exact ⟨0, Nat.zero_le _, rfl, Below.refl _ _, rfl⟩
  case round =>
    obtain ⟨k, hk, rfl, hb, hx⟩ := hrel
    by_cases hlt : k < n
    · have hkl : k < l.length := by rw [hn.out]; exact hlt
      have hst := Lib.hid (longR_step l k hkl)
      obtain ⟨ad, hA, hbl, e0, e1, e2, e3, e4, e5, e6⟩ := OAt.cell (h.out.below hb.out (Nat.le_refl _)) hlt
      subst hA
      generalize l[k] = x at *
      obtain ⟨x0, x1, x2, x3, x4, x5, x6⟩ := x
      simp only at e0 e1 e2 e3 e4 e5 e6
      have hk0 : (0 : Int) ≤ k := by omega
      have hk1 : (k : Int) < n := by omega
      by_cases h8 : 80 ≤ k
      · have hF : Hid (longR 0 l = true) := by show _ = _; rw [hx.out, hst.out]; simp [h8]
        have hd : decide ((80 : Int) ≤ k) = true := by simp; omega
        go_wp2_with fail
        go_ret
        exact ⟨ret_bool hF.out.symm, hb.out⟩
      · have hd : decide ((80 : Int) ≤ k) = false := by simp; omega
        by_cases h4 : 4096 < x2.size
        · have hF : Hid (longR 0 l = true) := by show _ = _; rw [hx.out, hst.out]; simp [h4]
          have hd2 : decide ((4096 : Int) < x2.size) = true := by simp; omega
          go_wp2_with fail
          go_ret
          exact ⟨ret_bool hF.out.symm, hb.out⟩
        · have hF : Hid (longR 0 l = longR (k + 1) (l.drop (k + 1))) := by show _ = _; rw [hx.out, hst.out]; simp [h4, h8]
          have hd2 : decide ((4096 : Int) < x2.size) = false := by simp; omega
          go_wp2_with fail
          go_roundw
          case rel => exact ⟨k + 1, by omega, by go_num, hb.out, hF⟩
          case measure => simp [intOf]; omega
    · have hF : Hid (longR 0 l = false) := by show _ = _; rw [hx.out, List.drop_of_length_le (by rw [hn.out]; omega)]; rfl
      go_wp2_with fail
      go_ret
      exact ⟨ret_bool hF.out.symm, hb.out⟩
theorem open_any (A : Option Addr) (l : List O) (n cap : Nat) (st : ByteArray) (conn : Int) (w : World) (h : OAt w w.heap.size A n l) (hc : n ≤ cap) (hm : cap ≤ maxLen) (hid : 0 ≤ lastId l) (hid2 : lastId l ≤ 2147483647) :
    Calls Try.prog 20 #[.slice A n cap, .string st, .int .i64 conn] w fun e w' => ∃ v, e = .returned (.tuple #[v, .int .i64 (openF nameB l st conn).2.1, .int .i64 (openF nameB l st conn).2.2]) ∧ OutV w w' (openF nameB l st conn).1 v := by
  have hn := h.len
  by_cases c1 : nameB st = false
  · have e : openF nameB l st conn = (l, 0, 4) := by rw [openF, if_pos c1]
    rw [e]
    exact open_bad A l n cap st conn w h hc hm 4 (fun _ => hid) (fun _ => hid2) (.inl ⟨c1, rfl⟩)
  have c1' : nameB st = true := by simpa using c1
  by_cases c2 : conn < 0 ∨ 32 < conn
  · have e : openF nameB l st conn = (l, 0, 2) := by rw [openF, if_neg c1, if_pos c2]
    rw [e]
    exact open_bad A l n cap st conn w h hc hm 2 (fun _ => hid) (fun _ => hid2) (.inr (.inl ⟨c1', c2, rfl⟩))
  by_cases c3 : 64 ≤ l.length
  · have e : openF nameB l st conn = (l, 0, 3) := by rw [openF, if_neg c1, if_neg c2, if_pos c3]
    rw [e]
    exact open_bad A l n cap st conn w h hc hm 3 (fun _ => hid) (fun _ => hid2) (.inr (.inr (.inl ⟨c1', by omega, by omega, by omega, rfl⟩)))
  by_cases c4 : 2147483647 ≤ lastId l
  · have e : openF nameB l st conn = (l, 0, 3) := by rw [openF, if_neg c1, if_neg c2, if_neg c3, if_pos c4]
    rw [e]
    have hp : 0 < n := by
      rcases Nat.eq_zero_or_pos n with g | g
      · have : l = [] := List.eq_nil_of_length_eq_zero (by omega)
        subst this
        simp [lastId] at c4
      · exact g
    exact open_bad A l n cap st conn w h hc hm 3 (fun _ => hid) (fun _ => hid2) (.inr (.inr (.inr ⟨c1', by omega, by omega, by omega, hp, c4, rfl⟩)))
  · have e : openF nameB l st conn = (l ++ [fresh (lastId l + 1) conn st], lastId l + 1, 0) := by rw [openF, if_neg c1, if_neg c2, if_neg c3, if_neg c4]
    rw [e]
    exact open_good A l n cap st conn w h hc hm (lastId l + 1) c1' (by omega) (by omega) (by omega) (fun _ => hid) (fun _ => by omega) (by
      split
      · rfl
      · have : l = [] := List.eq_nil_of_length_eq_zero (by omega)
        subst this
        simp [lastId])
theorem ropen_any (A : Option Addr) (l : List O) (n cap : Nat) (st : ByteArray) (conn : Int) (w : World) (h : OAt w w.heap.size A n l) (hc : n ≤ cap) (hm : cap ≤ maxLen) (hid : 0 ≤ lastId l) (hid2 : lastId l ≤ 2147483647) :
    Calls Try.prog 28 #[.slice A n cap, .string st, .int .i64 conn] w fun e w' => ∃ v, e = .returned (.tuple #[v, .int .i64 (openF nameB l st conn).2.1, .int .i64 (openF nameB l st conn).2.2]) ∧ OutV w w' (openF nameB l st conn).1 v := by
  have hn := h.len
  by_cases c1 : nameB st = false
  · have e : openF nameB l st conn = (l, 0, 4) := by rw [openF, if_pos c1]
    rw [e]
    exact ropen_bad A l n cap st conn w h hc hm 4 (fun _ => hid) (fun _ => hid2) (.inl ⟨c1, rfl⟩)
  have c1' : nameB st = true := by simpa using c1
  by_cases c2 : conn < 0 ∨ 32 < conn
  · have e : openF nameB l st conn = (l, 0, 2) := by rw [openF, if_neg c1, if_pos c2]
    rw [e]
    exact ropen_bad A l n cap st conn w h hc hm 2 (fun _ => hid) (fun _ => hid2) (.inr (.inl ⟨c1', c2, rfl⟩))
  by_cases c3 : 64 ≤ l.length
  · have e : openF nameB l st conn = (l, 0, 3) := by rw [openF, if_neg c1, if_neg c2, if_pos c3]
    rw [e]
    exact ropen_bad A l n cap st conn w h hc hm 3 (fun _ => hid) (fun _ => hid2) (.inr (.inr (.inl ⟨c1', by omega, by omega, by omega, rfl⟩)))
  by_cases c4 : 2147483647 ≤ lastId l
  · have e : openF nameB l st conn = (l, 0, 3) := by rw [openF, if_neg c1, if_neg c2, if_neg c3, if_pos c4]
    rw [e]
    have hp : 0 < n := by
      rcases Nat.eq_zero_or_pos n with g | g
      · have : l = [] := List.eq_nil_of_length_eq_zero (by omega)
        subst this
        simp [lastId] at c4
      · exact g
    exact ropen_bad A l n cap st conn w h hc hm 3 (fun _ => hid) (fun _ => hid2) (.inr (.inr (.inr ⟨c1', by omega, by omega, by omega, hp, c4, rfl⟩)))
  · have e : openF nameB l st conn = (l ++ [fresh (lastId l + 1) conn st], lastId l + 1, 0) := by rw [openF, if_neg c1, if_neg c2, if_neg c3, if_neg c4]
    rw [e]
    exact ropen_good A l n cap st conn w h hc hm (lastId l + 1) c1' (by omega) (by omega) (by omega) (fun _ => hid) (fun _ => by omega) (by
      split
      · rfl
      · have : l = [] := List.eq_nil_of_length_eq_zero (by omega)
        subst this
        simp [lastId])
end Go.Proofs.Ytpejfnfhbpckiaa
