/- Series: At, walked: the program's (by sort.Search) and the reference's. -/
import Derived.Test.YtljagdfgfgpdbaaB
set_option linter.unusedVariables false
namespace Go.Proofs.Ytljagdfgfgpdbaa
open Go.RowKit
def Mono (l : List Ser.Step) : Prop := ∀ a b (ha : a < l.length) (hb : b < l.length), a < b → (l[a]'ha).1 < (l[b]'hb).1
theorem asc_mono : ∀ (l : List Ser.Step) (p : Int), Ser.Asc p l → (∀ s ∈ l, p < s.1) ∧ Mono l
  | [], _, _ => ⟨fun _ h => absurd h (by simp), fun a b ha => absurd ha (by simp)⟩
  | s :: r, p, ⟨h1, _, _, _, h5⟩ => by
    obtain ⟨i1, i2⟩ := asc_mono r s.1 h5
    refine ⟨fun x hx => ?_, fun a b ha hb hab => ?_⟩
    · rcases List.mem_cons.1 hx with rfl | h
      · exact h1
      · have := i1 x h; omega
    · cases b with
      | zero => omega
      | succ b =>
        cases a with
        | zero => exact i1 _ (List.getElem_mem _)
        | succ a => exact i2 a b (by simpa using ha) (by simpa using hb) (by omega)
theorem at_none (t : Int) : ∀ (l : List Ser.Step) (v : Int), (∀ s ∈ l, t < s.1) → Ser.atR v l t = v
  | [], _, _ => rfl
  | s :: r, v, h => by
    simp only [Ser.atR]
    rw [if_neg (by have := h s (by simp); omega)]
    exact at_none t r v (fun x hx => h x (by simp [hx]))
theorem at_every (t : Int) : ∀ (l : List Ser.Step) (v : Int), (∀ s ∈ l, s.1 ≤ t) → Ser.atR v l t = match l.getLast? with | some s => s.2 | none => v
  | [], _, _ => rfl
  | s :: r, v, h => by
    simp only [Ser.atR]
    rw [if_pos (h s (by simp)), at_every t r s.2 (fun x hx => h x (by simp [hx]))]
    cases r with
    | nil => simp
    | cons x r => simp [List.getLast?_cons_cons]; rw [List.getLast?_eq_some_getLast (by simp)]
theorem at_split {l : List Ser.Step} {t : Int} {r : Nat} (hr : r ≤ l.length) (h1 : ∀ j (h : j < l.length), j < r → (l[j]'h).1 ≤ t) (h2 : ∀ j (h : j < l.length), r ≤ j → t < (l[j]'h).1) :
    Ser.at_ l t = if h : 0 < r then (l[r - 1]'(by omega)).2 else 0 := by
  unfold Ser.at_
  have e : l = l.take r ++ l.drop r := by simp
  conv => lhs; rw [e]
  rw [Ser.atR_append, at_none, at_every]
  · by_cases h : 0 < r
    · rw [dif_pos h, List.getLast?_eq_getElem?]
      have hlen : (l.take r).length = r := by simp; omega
      rw [hlen, List.getElem?_take, if_pos (by omega), List.getElem?_eq_getElem (by omega)]
    · obtain rfl : r = 0 := by omega
      simp
  · intro s hs
    obtain ⟨j, hj, rfl⟩ := List.mem_iff_getElem.1 hs
    rw [List.getElem_take]
    exact h1 j _ (by simp at hj; omega)
  · intro s hs
    obtain ⟨j, hj, rfl⟩ := List.mem_iff_getElem.1 hs
    rw [List.getElem_drop]
    exact h2 _ _ (by omega)
set_option maxHeartbeats 400000 in
theorem atFn_any (l : List Ser.Step) (A : Option Addr) (n cap i : Nat) (t : Int) (g1 g2 : Nat) (w : World) (h : SAt w w.heap.size A n l) (hi : i < n) (hm : n ≤ maxLen) (hil : i < l.length)
    (c1 : w.cell? ⟨g1, 0, none⟩ = some (.slice A n cap)) (c2 : w.cell? ⟨g2, 0, none⟩ = some (.int .i64 t)) :
    Calls Try.prog 44 #[.int .i64 i, .pointer (some ⟨g1, 0, none⟩), .pointer (some ⟨g2, 0, none⟩)] w fun e w' => e = .returned (.bool (decide (t < (l[i]'hil).1))) ∧ ∃ m, w' = w.drewN m := by
  unfold maxLen at hm
  obtain ⟨ad, rfl, hbl, c3, _⟩ := h.at_ hi
  replace h := Lib.hid h
  generalize (l[i]).1 = x at *
  go_enter Try.func44, Try.ntmps44
  go_wp2_with fail
  go_quiet (fail)
  go_wp2_with fail
  go_ret
  exact ⟨rfl, _, rfl⟩
set_option maxRecDepth 100000 in
set_option maxHeartbeats 1000000 in
theorem search_any (l : List Ser.Step) (A : Option Addr) (n cap : Nat) (t : Int) (g1 g2 : Nat) (w : World) (h : SAt w w.heap.size A n l) (hm : n ≤ 1000000)
    (c1 : w.cell? ⟨g1, 0, none⟩ = some (.slice A n cap)) (c2 : w.cell? ⟨g2, 0, none⟩ = some (.int .i64 t)) :
    Calls Try.prog 43 #[.int .i64 n, .func (.func 44) #[] #[.pointer (some ⟨g1, 0, none⟩), .pointer (some ⟨g2, 0, none⟩)]] w fun e w' =>
      ∃ r : Nat, e = .returned (.int .i64 r) ∧ (∃ m, w' = w.drewN m) ∧ r ≤ n ∧ (Mono l → (∀ j (h : j < l.length), j < r → (l[j]'h).1 ≤ t) ∧ ∀ j (h : j < l.length), r ≤ j → t < (l[j]'h).1) := by
  have hn := Lib.hid h.len
  replace h := Lib.hid h
  replace c1 := Lib.hid c1
  replace c2 := Lib.hid c2
  go_enter Try.func43, Try.ntmps43
  go_wp2_with fail
  go_loopw [5, 6] (fun i j wr => ∃ a b m : Nat, i = .int .i64 a ∧ j = .int .i64 b ∧ wr = w.drewN m ∧ a ≤ b ∧ b ≤ n ∧
    (Mono l → (∀ q (h : q < l.length), q < a → (l[q]'h).1 ≤ t) ∧ ∀ q (h : q < l.length), b ≤ q → t < (l[q]'h).1)) (fun i j _ => (intOf j - intOf i).toNat)
  case atStart => exact ⟨0, n, 0, rfl, rfl, rfl, Nat.zero_le _, Nat.le_refl _, fun _ => ⟨fun q _ hq => absurd hq (by omega), fun q h hq => absurd h (by have := hn.out; omega)⟩⟩
  case round =>
    obtain ⟨a, b, m, rfl, rfl, rfl, hab, hbn, hx⟩ := hrel
    replace hx := Lib.hid hx
    by_cases hlt : a < b
    · go_wp2_with fail
      obtain ⟨q, hq⟩ : ∃ q, q = (a + b) / 2 := ⟨_, rfl⟩
      have hq1 : a ≤ q := by omega
      have hq2 : q < b := by omega
      rw [show ((a : Int) + b) / 2 = (q : Int) by omega]
      clear hq
      have hql : q < l.length := by have := hn.out; omega
      refine (atFn_any l A n cap q t g1 g2 (w.drewN m) (h.out) (by omega) (by simp only [maxLen]; omega) hql c1.out c2.out).mono ?_
      rintro e w1 ⟨rfl, m1, rfl⟩
      by_cases hc : t < (l[q]).1
      · have hd : decide (t < (l[q]).1) = true := by simpa using hc
        go_wp2_with fail
        go_roundw
        case rel =>
          refine ⟨a, q, _, rfl, rfl, rfl, hq1, by omega, fun hm => ?_⟩
          obtain ⟨x1, x2⟩ := hx.out hm
          refine ⟨x1, fun j hj hqj => ?_⟩
          rcases Nat.lt_or_ge q j with h1 | h1
          · have := hm q j hql hj h1; omega
          · obtain rfl : q = j := by omega
            exact hc
        case measure => simp [intOf]; omega
      · have hd : decide (t < (l[q]).1) = false := by simpa using hc
        go_wp2_with fail
        go_roundw
        case rel =>
          refine ⟨q + 1, b, _, by go_num, rfl, rfl, by omega, by omega, fun hm => ?_⟩
          obtain ⟨x1, x2⟩ := hx.out hm
          refine ⟨fun j hj hqj => ?_, x2⟩
          rcases Nat.lt_or_ge j q with h1 | h1
          · have := hm j q hj hql h1; omega
          · obtain rfl : q = j := by omega
            omega
        case measure => simp [intOf]; omega
    · obtain rfl : a = b := by omega
      go_wp2_with fail
      go_ret
      exact ⟨a, rfl, ⟨m, rfl⟩, hbn, hx.out⟩
set_option maxRecDepth 100000 in
set_option maxHeartbeats 1000000 in
theorem at_any (A : Option Addr) (l : List Ser.Step) (n cap : Nat) (t : Int) (w : World) (h : SAt w w.heap.size A n l) (hm : n ≤ 1000000) :
    Calls Try.prog 24 #[.slice A n cap, .int .i64 t] w fun e w' => ∃ v : Int, e = .returned (.int .i64 v) ∧ (Mono l → v = Ser.at_ l t) ∧ Below w.heap.size w w' := by
  have hn := Lib.hid h.len
  have hmf : ∀ (fn : Fn) (first cap : Array Value) (w : World), (Instr.makeFunc fn first cap).run Try.prog w = .ok (.func fn first cap) w := fun _ _ _ _ => rfl
  have hb : Below w.heap.size w ((w.alloc (.cells #[.slice A n cap] 22)).alloc (.cells #[.int .i64 t] 3)) := ((Below.refl _ _).alloc (Nat.le_refl _) _).alloc (by simp) _
  have h2 := h.more hb
  have hbl0 : ∀ ad, A = some ad → ∀ k, k < n → ad.block < w.heap.size := fun ad hA k hk => by
    obtain ⟨ad', hA', hb, _⟩ := h.at_ hk
    rw [hA] at hA'; cases hA'; exact hb
  replace h := Lib.hid h
  replace hb := Lib.hid hb
  go_enter Try.func24, Try.ntmps24
  go_wp2_with fail
  refine (search_any l A n cap t w.heap.size (w.heap.size + 1) _ h2 hm (by simp) (by simp)).mono ?_
  rintro e w1 ⟨r, rfl, ⟨m, rfl⟩, hr, hx⟩
  have hv : Mono l → Ser.at_ l t = if h : 0 < r then (l[r - 1]'(by have := hn.out; omega)).2 else 0 := fun hm => by
    obtain ⟨x1, x2⟩ := hx hm
    exact at_split (by have := hn.out; omega) x1 x2
  replace hv := Lib.hid hv
  clear hx
  by_cases h0 : 0 < r
  · obtain ⟨ad, rfl, _, _, c1⟩ := h2.at_ (k := r - 1) (by omega)
    have hblk := hbl0 ad rfl (r - 1) (by omega)
    replace h2 := Lib.hid h2
    have hd : ((r : Int) == 0) = false := by simp; omega
    have hrl : r - 1 < l.length := by have := hn.out; omega
    have hv2 : Hid (Mono l → (l[r - 1]).2 = Ser.at_ l t) := fun hm => by rw [hv.out hm, dif_pos h0]
    clear hv
    generalize (l[r - 1]).2 = y at *
    go_wp2_with fail
    go_ret
    exact ⟨_, rfl, hv2.out, below_drewN hb.out _⟩
  · obtain rfl : r = 0 := by omega
    replace h2 := Lib.hid h2
    go_wp2_with fail
    go_ret
    exact ⟨_, rfl, fun hm => by rw [hv.out hm]; rfl, below_drewN hb.out _⟩
set_option maxRecDepth 100000 in
set_option maxHeartbeats 1000000 in
theorem rat_any (A : Option Addr) (l : List Ser.Step) (n cap : Nat) (t : Int) (w : World) (h : SAt w w.heap.size A n l) (hm : n ≤ 1000000) :
    Calls Try.prog 28 #[.slice A n cap, .int .i64 t] w fun e w' => e = .returned (.int .i64 (Ser.at_ l t)) ∧ w = w' := by
  have hn := Lib.hid h.len
  replace h := Lib.hid h
  go_enter Try.func28, Try.ntmps28
  go_wp2_with fail
  go_loop [5, 6] (fun v i => ∃ (k : Nat) (x : Int), k ≤ n ∧ i = .int .i64 k ∧ v = .int .i64 x ∧ Ser.at_ l t = Ser.atR x (l.drop k) t) (fun _ i => n - (intOf i).toNat)
  case atStart => exact ⟨0, 0, Nat.zero_le _, rfl, rfl, rfl⟩
  case round =>
    obtain ⟨k, x, hk, rfl, rfl, hx⟩ := hrel
    by_cases hlt : k < n
    · have hkl : k < l.length := by have := hn.out; omega
      rw [List.drop_eq_getElem_cons hkl] at hx
      simp only [Ser.atR] at hx
      obtain ⟨ad, rfl, hbl, c0, c1⟩ := h.out.at_ hlt
      generalize (l[k]).1 = a at *
      generalize (l[k]).2 = v at *
      by_cases hle : a ≤ t
      · rw [if_pos hle] at hx
        replace hx := Lib.hid hx
        go_wp2_with fail
        go_round
        case rel => exact ⟨k + 1, v, by omega, by go_num, rfl, hx.out⟩
        case measure => simp [intOf]; omega
      · rw [if_neg hle] at hx
        replace hx := Lib.hid hx
        go_wp2_with fail
        go_round
        case rel => exact ⟨k + 1, x, by omega, by go_num, rfl, hx.out⟩
        case measure => simp [intOf]; omega
    · replace hx := Lib.hid hx
      go_wp2_with fail
      go_ret
      refine ⟨ret_int ?_, rfl⟩
      rw [hx.out, List.drop_of_length_le (by have := hn.out; omega)]
      rfl
end Go.Proofs.Ytljagdfgfgpdbaa
