/- Series: the reference's next, combine and Normal, walked. -/
import Derived.Test.YtljagdfgfgpdbaaD
set_option linter.unusedVariables false
namespace Go.Proofs.Ytljagdfgfgpdbaa
open Go.RowKit
theorem nxtR_mem (t : Int) : ∀ (l : List Ser.Step) (b : Int), Ser.nxtR t b l = b ∨ ∃ s ∈ l, s.1 = Ser.nxtR t b l ∧ t < s.1
  | [], _ => .inl rfl
  | s :: r, b => by
    simp only [Ser.nxtR]
    by_cases h : t < s.1 ∧ (b < 0 ∨ s.1 < b)
    · rw [if_pos h]
      rcases nxtR_mem t r s.1 with e | ⟨x, hx, e, hlt⟩
      · exact .inr ⟨s, by simp, e.symm, h.1⟩
      · exact .inr ⟨x, by simp [hx], e, hlt⟩
    · rw [if_neg h]
      rcases nxtR_mem t r b with e | ⟨x, hx, e, hlt⟩
      · exact .inl e
      · exact .inr ⟨x, by simp [hx], e, hlt⟩
theorem cnt_le (t t' : Int) (h : t ≤ t') : ∀ (l : List Ser.Step), l.countP (fun s => decide (t' ≤ s.1)) ≤ l.countP (fun s => decide (t ≤ s.1))
  | [] => Nat.le_refl _
  | s :: r => by
    have := cnt_le t t' h r
    simp only [List.countP_cons]
    by_cases h1 : t' ≤ s.1
    · simp [h1, show t ≤ s.1 by omega]; omega
    · simp [h1]; omega
theorem cnt_lt (t t' : Int) (h : t < t') : ∀ (l : List Ser.Step), (∃ s ∈ l, s.1 = t) → l.countP (fun s => decide (t' ≤ s.1)) < l.countP (fun s => decide (t ≤ s.1))
  | [], ⟨s, hs, _⟩ => absurd hs (by simp)
  | s :: r, ⟨x, hx, e⟩ => by
    simp only [List.countP_cons]
    by_cases h0 : s.1 = t
    · have := cnt_le t t' (by omega) r
      simp [show ¬ t' ≤ s.1 by omega, show t ≤ s.1 by omega]; omega
    · have := cnt_lt t t' h r ⟨x, (List.mem_cons.1 hx).resolve_left (fun h' => h0 (by rw [← h']; exact e)), e⟩
      by_cases h1 : t' ≤ s.1
      · simp [h1, show t ≤ s.1 by omega]; omega
      · simp [h1]; omega
theorem at_rng (t : Int) : ∀ (l : List Ser.Step) (v : Int), Ser.Rng l → IsVal v → IsVal (Ser.atR v l t)
  | [], _, _, h => h
  | s :: r, v, hr, h => by
    simp only [Ser.atR]
    exact at_rng t r _ (fun x hx => hr x (by simp [hx])) (by split <;> first | exact hr s (by simp) | exact h)
set_option maxRecDepth 100000 in
set_option maxHeartbeats 1000000 in
theorem next_any (A1 A2 : Option Addr) (a b : List Ser.Step) (n1 c1 n2 c2 : Nat) (t : Int) (w : World) (ha : SAt w w.heap.size A1 n1 a) (hb : SAt w w.heap.size A2 n2 b) (h1 : n1 ≤ 1000000) (h2 : n2 ≤ 1000000) :
    Calls Try.prog 45 #[.slice A1 n1 c1, .slice A2 n2 c2, .int .i64 t] w fun e w' => e = .returned (.int .i64 (Ser.nxt a b t)) ∧ w = w' := by
  have la := Lib.hid ha.len
  have lb := Lib.hid hb.len
  replace ha := Lib.hid ha
  replace hb := Lib.hid hb
  go_enter Try.func45, Try.ntmps45
  go_wp2_with fail
  go_loop [7, 8] (fun v i => ∃ (k : Nat) (x : Int), k ≤ n1 + n2 ∧ i = .int .i64 k ∧ v = .int .i64 x ∧ Ser.nxt a b t = Ser.nxtR t x ((a ++ b).drop k)) (fun _ i => n1 + n2 - (intOf i).toNat)
  case atStart => exact ⟨0, -1, Nat.zero_le _, rfl, rfl, rfl⟩
  case round =>
    obtain ⟨k, x, hk, rfl, rfl, hx⟩ := hrel
    have hl : (a ++ b).length = n1 + n2 := by have := la.out; have := lb.out; simp; omega
    by_cases hlt : k < n1 + n2
    · rw [List.drop_eq_getElem_cons (by omega)] at hx
      simp only [Ser.nxtR] at hx
      by_cases hk1 : k < n1
      · have hka : k < a.length := by have := la.out; omega
        obtain ⟨ad, rfl, _, c0, _⟩ := ha.out.at_ hk1
        have e : (a ++ b)[k]'(by omega) = a[k] := by rw [List.getElem_append_left]
        rw [e] at hx
        generalize (a[k]).1 = u at *
        clear e
        replace hl := Lib.hid hl
        by_cases hut : t < u
        · by_cases hx0 : x < 0
          · rw [if_pos ⟨hut, Or.inl hx0⟩] at hx
            replace hx := Lib.hid hx
            go_wp2_with fail
            go_round
            case rel => exact ⟨k + 1, u, by omega, by go_num, rfl, hx.out⟩
            case measure => simp [intOf]; omega
          · by_cases hxu : u < x
            · rw [if_pos ⟨hut, Or.inr hxu⟩] at hx
              replace hx := Lib.hid hx
              go_wp2_with fail
              go_round
              case rel => exact ⟨k + 1, u, by omega, by go_num, rfl, hx.out⟩
              case measure => simp [intOf]; omega
            · rw [if_neg (by omega)] at hx
              replace hx := Lib.hid hx
              go_wp2_with fail
              go_round
              case rel => exact ⟨k + 1, x, by omega, by go_num, rfl, hx.out⟩
              case measure => simp [intOf]; omega
        · rw [if_neg (by omega)] at hx
          replace hx := Lib.hid hx
          go_wp2_with fail
          go_round
          case rel => exact ⟨k + 1, x, by omega, by go_num, rfl, hx.out⟩
          case measure => simp [intOf]; omega
      · have hkb : k - n1 < b.length := by have := lb.out; omega
        obtain ⟨ad, rfl, _, c0, _⟩ := hb.out.at_ (k := k - n1) (by omega)
        have e : (a ++ b)[k]'(by omega) = b[k - n1] := by
          rw [List.getElem_append_right (by have := la.out; omega)]
          congr 1; have := la.out; omega
        rw [e] at hx
        generalize (b[k - n1]).1 = u at *
        clear e
        replace hl := Lib.hid hl
        by_cases hut : t < u
        · by_cases hx0 : x < 0
          · rw [if_pos ⟨hut, Or.inl hx0⟩] at hx
            replace hx := Lib.hid hx
            go_wp2_with fail
            go_round
            case rel => exact ⟨k + 1, u, by omega, by go_num, rfl, hx.out⟩
            case measure => simp [intOf]; omega
          · by_cases hxu : u < x
            · rw [if_pos ⟨hut, Or.inr hxu⟩] at hx
              replace hx := Lib.hid hx
              go_wp2_with fail
              go_round
              case rel => exact ⟨k + 1, u, by omega, by go_num, rfl, hx.out⟩
              case measure => simp [intOf]; omega
            · rw [if_neg (by omega)] at hx
              replace hx := Lib.hid hx
              go_wp2_with fail
              go_round
              case rel => exact ⟨k + 1, x, by omega, by go_num, rfl, hx.out⟩
              case measure => simp [intOf]; omega
        · rw [if_neg (by omega)] at hx
          replace hx := Lib.hid hx
          go_wp2_with fail
          go_round
          case rel => exact ⟨k + 1, x, by omega, by go_num, rfl, hx.out⟩
          case measure => simp [intOf]; omega
    · replace hx := Lib.hid hx
      clear hl
      have hl : Hid ((a ++ b).length ≤ k) := by show _ ≤ _; have := la.out; have := lb.out; simp; omega
      go_wp2_with fail
      go_ret
      refine ⟨ret_int ?_, rfl⟩
      rw [hx.out, List.drop_of_length_le hl.out]
      rfl
theorem rcombEq (f : Int → Int → Int) (a b : List Ser.Step) (p1 : Ser.Asc (-1) a) (p2 : Ser.Asc (-1) b) : Ser.rcomb f a b (a.length + b.length) (Ser.nxt a b (-1)) 0 = Ser.comb f a b := Ser.rcomb_comb f p1 p2 (Nat.le_refl _)
def tmOf (v : Value) : Nat := if intOf v < 0 then 0 else (268435457 - intOf v).toNat + 1
set_option maxRecDepth 100000 in
set_option maxHeartbeats 2000000 in
theorem rcombAdd (A1 A2 : Option Addr) (a b : List Ser.Step) (n1 c1 n2 c2 : Nat) (w : World) (ha : SAt w w.heap.size A1 n1 a) (hb : SAt w w.heap.size A2 n2 b) (h1 : n1 ≤ 512) (h2 : n2 ≤ 512) (p1 : Ser.Asc (-1) a) (p2 : Ser.Asc (-1) b) :
    Calls Try.prog 35 #[.slice A1 n1 c1, .slice A2 n2 c2, .bool true] w fun e w' => ∃ v, e = .returned v ∧ SOwn w' w.heap.size v (Ser.comb (fun x y => x + y) a b) ∧ Below w.heap.size w w' := by
  have la := Lib.hid ha.len
  have lb := Lib.hid hb.len
  have hC := rcombEq (fun x y => x + y) a b p1 p2
  have hmax : ∀ s ∈ a ++ b, s.1 ≤ 268435456 := fun s hs => by
    have hm : ∀ (l : List Ser.Step) (p : Int), Ser.Asc p l → ∀ s ∈ l, s.1 ≤ 268435456 := by
      intro l
      induction l with
      | nil => intro _ _ s hs; simp at hs
      | cons x r ih => intro p h s hs; exact (List.mem_cons.1 hs).elim (fun e => by rw [e]; exact h.2.1) (fun h' => ih _ h.2.2.2.2 s h')
    rcases List.mem_append.1 hs with h | h
    · exact hm a _ p1 s h
    · exact hm b _ p2 s h
  have hva : ∀ t, IsVal (Ser.at_ a t) := fun t => at_rng t a 0 p1.rng ⟨by omega, by omega⟩
  have hvb : ∀ t, IsVal (Ser.at_ b t) := fun t => at_rng t b 0 p2.rng ⟨by omega, by omega⟩
  replace hva := Lib.hid hva
  replace hvb := Lib.hid hvb
  replace hmax := Lib.hid hmax
  replace ha := Lib.hid ha
  replace hb := Lib.hid hb
  replace hC := Lib.hid hC
  replace p1 := Lib.hid p1
  replace p2 := Lib.hid p2
  generalize hCC : Ser.comb (fun x y => x + y) a b = C at *
  replace hCC := Lib.hid hCC
  go_enter Try.func35, Try.ntmps35
  go_wp2_with fail
  refine (next_any A1 A2 a b n1 c1 n2 c2 _ _ ha.out hb.out (by omega) (by omega)).mono ?_
  rintro e w1 ⟨rfl, rfl⟩
  generalize ht0 : Ser.nxt a b (-1) = t0
  replace ht0 := Lib.hid ht0
  go_wp2_with fail
  go_loopw [7, 8] (fun v i wr => ∃ (out : List Ser.Step) (t : Int) (k : Nat), i = .int .i64 t ∧ SOwn wr w.heap.size v out ∧ Below w.heap.size w wr ∧ out.length + k ≤ 1024 ∧
      C = out ++ Ser.rcomb (fun x y => x + y) a b k t (lastV out) ∧ (t < 0 ∨ (0 ≤ t ∧ t ≤ 268435456 ∧ (a ++ b).countP (fun s => decide (t ≤ s.1)) ≤ k ∧ ∃ s ∈ a ++ b, s.1 = t))) (fun _ i _ => tmOf i)
  case atStart =>
    have hl : (a ++ b).length = a.length + b.length := by simp
    refine ⟨[], t0, a.length + b.length, rfl, SOwn.nil _ _, Below.refl _ _, by have := la.out; have := lb.out; simp; omega, by rw [← hC.out, ht0.out]; rfl, ?_⟩
    rcases nxtR_mem (-1) (a ++ b) (-1) with e | ⟨s, hs, e, hlt⟩
    · left; rw [← ht0.out]; unfold Ser.nxt; rw [e]; omega
    · right
      have e2 : s.1 = t0 := by rw [← ht0.out]; exact e
      exact ⟨by omega, by rw [← e2]; exact hmax.out s hs, by rw [← hl]; exact List.countP_le_length, s, hs, e2⟩
  case round =>
    obtain ⟨out, t, k, rfl, hown, hbw, hlen, hX, ht⟩ := hrel
    replace hown := Lib.hid hown
    replace hbw := Lib.hid hbw
    replace hX := Lib.hid hX
    by_cases h0 : t < 0
    · clear ht
      go_wp2_with fail
      go_ret
      refine ⟨_, rfl, ?_, hbw.out⟩
      have : C = out := by
        rw [hX.out]
        cases k with
        | zero => simp [Ser.rcomb]
        | succ k => simp [Ser.rcomb, h0]
      rw [this]; exact hown.out
    · obtain ⟨ht1, ht2, hcnt, hmem⟩ : 0 ≤ t ∧ t ≤ 268435456 ∧ (a ++ b).countP (fun s => decide (t ≤ s.1)) ≤ k ∧ ∃ s ∈ a ++ b, s.1 = t := by
        rcases ht with h | h
        · exact absurd h h0
        · exact h
      clear ht h0
      obtain ⟨k, rfl⟩ : ∃ k', k = k' + 1 := ⟨k - 1, by
        have : 0 < (a ++ b).countP (fun s => decide (t ≤ s.1)) := by
          rw [List.countP_pos_iff]
          obtain ⟨s, hs, e⟩ := hmem
          exact ⟨s, hs, by simp; omega⟩
        omega⟩
      have hnx : Hid (Ser.nxt a b t < 0 ∨ (t < Ser.nxt a b t ∧ Ser.nxt a b t ≤ 268435456 ∧ (a ++ b).countP (fun s => decide (Ser.nxt a b t ≤ s.1)) ≤ k ∧ ∃ s ∈ a ++ b, s.1 = Ser.nxt a b t)) := by
        show _ ∨ _
        rcases nxtR_mem t (a ++ b) (-1) with e | ⟨s, hs, e, hlt⟩
        · left; unfold Ser.nxt; rw [e]; omega
        · right
          have e2 : s.1 = Ser.nxt a b t := e
          have := cnt_lt t (Ser.nxt a b t) (by omega) (a ++ b) hmem
          exact ⟨by omega, by rw [← e2]; exact hmax.out s hs, by omega, s, hs, e2⟩
      replace hcnt := Lib.hid hcnt
      replace hmem := Lib.hid hmem
      have ha1 := Lib.hid (ha.out.more hbw.out)
      have hb1 := Lib.hid (hb.out.more hbw.out)
      have hva1 := hva.out t
      have hvb1 := hvb.out t
      obtain ⟨va1, va2⟩ := hva1
      obtain ⟨vb1, vb2⟩ := hvb1
      have hX2 : Hid (C = (out ++ Ser.emit (lastV out) t ((fun x y => x + y) (Ser.at_ a t) (Ser.at_ b t))) ++ Ser.rcomb (fun x y => x + y) a b k (Ser.nxt a b t) (lastV (out ++ Ser.emit (lastV out) t ((fun x y => x + y) (Ser.at_ a t) (Ser.at_ b t))))) := by
        show _ = _
        rw [hX.out]
        simp only [Ser.rcomb]
        rw [if_neg (by omega), lastV_emit, List.append_assoc]
      simp only at hX2
      clear hX
      generalize hxx : Ser.at_ a t = x at *
      generalize hyy : Ser.at_ b t = y at *
      replace hxx := Lib.hid hxx
      replace hyy := Lib.hid hyy
      go_wp2_with fail
      refine (rat_any A1 a n1 c1 t _ ha1.out (by omega)).mono ?_
      rintro e wz ⟨rfl, rfl⟩
      rw [hxx.out]
      go_wp2_with fail
      refine (rat_any A2 b n2 c2 t _ hb1.out (by omega)).mono ?_
      rintro e wz ⟨rfl, rfl⟩
      rw [hyy.out]
      by_cases hxy : x ≤ y
      · go_wp2_with fail
        refine (rat_any A1 a n1 c1 t _ ha1.out (by omega)).mono ?_
        rintro e wz ⟨rfl, rfl⟩
        rw [hxx.out]
        go_wp2_with fail
        refine (rat_any A2 b n2 c2 t _ hb1.out (by omega)).mono ?_
        rintro e wz ⟨rfl, rfl⟩
        rw [hyy.out]
        go_wp2_with fail
        refine (rput_any w.heap.size _ out t (x + y) wr hown.out hbw.out.size (by omega)).mono ?_
        rintro e w2 ⟨v2, rfl, hown2, hbw2⟩
        have ha2 := Lib.hid (ha.out.more (hbw.out.trans hbw2))
        have hb2 := Lib.hid (hb.out.more (hbw.out.trans hbw2))
        replace hbw2 := Lib.hid (hbw.out.trans hbw2)
        replace hown2 := Lib.hid hown2
        go_wp2_with fail
        refine (next_any A1 A2 a b n1 c1 n2 c2 t _ ha2.out hb2.out (by omega) (by omega)).mono ?_
        rintro e wz ⟨rfl, rfl⟩
        generalize hnn : Ser.nxt a b t = t' at *
        replace hnn := Lib.hid hnn
        go_wp2_with fail
        go_roundw
        case rel =>
          refine ⟨_, t', k, rfl, hown2.out, hbw2.out, by have := emit_len (lastV out) t (x + y); simp; omega, hX2.out, ?_⟩
          rcases hnx.out with h | ⟨h1, h2, h3, h4⟩
          · exact .inl h
          · exact .inr ⟨by omega, h2, h3, h4⟩
        case measure =>
          rcases hnx.out with h | ⟨h1, h2, h3, h4⟩
          · simp [tmOf, intOf, h, show ¬ t < 0 by omega]
          · simp [tmOf, intOf, show ¬ t < 0 by omega, show ¬ t' < 0 by omega]; omega
      · go_wp2_with fail
        refine (rat_any A1 a n1 c1 t _ ha1.out (by omega)).mono ?_
        rintro e wz ⟨rfl, rfl⟩
        rw [hxx.out]
        go_wp2_with fail
        refine (rat_any A2 b n2 c2 t _ hb1.out (by omega)).mono ?_
        rintro e wz ⟨rfl, rfl⟩
        rw [hyy.out]
        go_wp2_with fail
        refine (rput_any w.heap.size _ out t (x + y) wr hown.out hbw.out.size (by omega)).mono ?_
        rintro e w2 ⟨v2, rfl, hown2, hbw2⟩
        have ha2 := Lib.hid (ha.out.more (hbw.out.trans hbw2))
        have hb2 := Lib.hid (hb.out.more (hbw.out.trans hbw2))
        replace hbw2 := Lib.hid (hbw.out.trans hbw2)
        replace hown2 := Lib.hid hown2
        go_wp2_with fail
        refine (next_any A1 A2 a b n1 c1 n2 c2 t _ ha2.out hb2.out (by omega) (by omega)).mono ?_
        rintro e wz ⟨rfl, rfl⟩
        generalize hnn : Ser.nxt a b t = t' at *
        replace hnn := Lib.hid hnn
        go_wp2_with fail
        go_roundw
        case rel =>
          refine ⟨_, t', k, rfl, hown2.out, hbw2.out, by have := emit_len (lastV out) t (x + y); simp; omega, hX2.out, ?_⟩
          rcases hnx.out with h | ⟨h1, h2, h3, h4⟩
          · exact .inl h
          · exact .inr ⟨by omega, h2, h3, h4⟩
        case measure =>
          rcases hnx.out with h | ⟨h1, h2, h3, h4⟩
          · simp [tmOf, intOf, h, show ¬ t < 0 by omega]
          · simp [tmOf, intOf, show ¬ t < 0 by omega, show ¬ t' < 0 by omega]; omega
set_option maxRecDepth 100000 in
set_option maxHeartbeats 2000000 in
theorem rcombLeast (A1 A2 : Option Addr) (a b : List Ser.Step) (n1 c1 n2 c2 : Nat) (w : World) (ha : SAt w w.heap.size A1 n1 a) (hb : SAt w w.heap.size A2 n2 b) (h1 : n1 ≤ 512) (h2 : n2 ≤ 512) (p1 : Ser.Asc (-1) a) (p2 : Ser.Asc (-1) b) :
    Calls Try.prog 35 #[.slice A1 n1 c1, .slice A2 n2 c2, .bool false] w fun e w' => ∃ v, e = .returned v ∧ SOwn w' w.heap.size v (Ser.comb (fun x y => min x y) a b) ∧ Below w.heap.size w w' := by
  have la := Lib.hid ha.len
  have lb := Lib.hid hb.len
  have hC := rcombEq (fun x y => min x y) a b p1 p2
  have hmax : ∀ s ∈ a ++ b, s.1 ≤ 268435456 := fun s hs => by
    have hm : ∀ (l : List Ser.Step) (p : Int), Ser.Asc p l → ∀ s ∈ l, s.1 ≤ 268435456 := by
      intro l
      induction l with
      | nil => intro _ _ s hs; simp at hs
      | cons x r ih => intro p h s hs; exact (List.mem_cons.1 hs).elim (fun e => by rw [e]; exact h.2.1) (fun h' => ih _ h.2.2.2.2 s h')
    rcases List.mem_append.1 hs with h | h
    · exact hm a _ p1 s h
    · exact hm b _ p2 s h
  have hva : ∀ t, IsVal (Ser.at_ a t) := fun t => at_rng t a 0 p1.rng ⟨by omega, by omega⟩
  have hvb : ∀ t, IsVal (Ser.at_ b t) := fun t => at_rng t b 0 p2.rng ⟨by omega, by omega⟩
  replace hva := Lib.hid hva
  replace hvb := Lib.hid hvb
  replace hmax := Lib.hid hmax
  replace ha := Lib.hid ha
  replace hb := Lib.hid hb
  replace hC := Lib.hid hC
  replace p1 := Lib.hid p1
  replace p2 := Lib.hid p2
  generalize hCC : Ser.comb (fun x y => min x y) a b = C at *
  replace hCC := Lib.hid hCC
  go_enter Try.func35, Try.ntmps35
  go_wp2_with fail
  refine (next_any A1 A2 a b n1 c1 n2 c2 _ _ ha.out hb.out (by omega) (by omega)).mono ?_
  rintro e w1 ⟨rfl, rfl⟩
  generalize ht0 : Ser.nxt a b (-1) = t0
  replace ht0 := Lib.hid ht0
  go_wp2_with fail
  go_loopw [7, 8] (fun v i wr => ∃ (out : List Ser.Step) (t : Int) (k : Nat), i = .int .i64 t ∧ SOwn wr w.heap.size v out ∧ Below w.heap.size w wr ∧ out.length + k ≤ 1024 ∧
      C = out ++ Ser.rcomb (fun x y => min x y) a b k t (lastV out) ∧ (t < 0 ∨ (0 ≤ t ∧ t ≤ 268435456 ∧ (a ++ b).countP (fun s => decide (t ≤ s.1)) ≤ k ∧ ∃ s ∈ a ++ b, s.1 = t))) (fun _ i _ => tmOf i)
  case atStart =>
    have hl : (a ++ b).length = a.length + b.length := by simp
    refine ⟨[], t0, a.length + b.length, rfl, SOwn.nil _ _, Below.refl _ _, by have := la.out; have := lb.out; simp; omega, by rw [← hC.out, ht0.out]; rfl, ?_⟩
    rcases nxtR_mem (-1) (a ++ b) (-1) with e | ⟨s, hs, e, hlt⟩
    · left; rw [← ht0.out]; unfold Ser.nxt; rw [e]; omega
    · right
      have e2 : s.1 = t0 := by rw [← ht0.out]; exact e
      exact ⟨by omega, by rw [← e2]; exact hmax.out s hs, by rw [← hl]; exact List.countP_le_length, s, hs, e2⟩
  case round =>
    obtain ⟨out, t, k, rfl, hown, hbw, hlen, hX, ht⟩ := hrel
    replace hown := Lib.hid hown
    replace hbw := Lib.hid hbw
    replace hX := Lib.hid hX
    by_cases h0 : t < 0
    · clear ht
      go_wp2_with fail
      go_ret
      refine ⟨_, rfl, ?_, hbw.out⟩
      have : C = out := by
        rw [hX.out]
        cases k with
        | zero => simp [Ser.rcomb]
        | succ k => simp [Ser.rcomb, h0]
      rw [this]; exact hown.out
    · obtain ⟨ht1, ht2, hcnt, hmem⟩ : 0 ≤ t ∧ t ≤ 268435456 ∧ (a ++ b).countP (fun s => decide (t ≤ s.1)) ≤ k ∧ ∃ s ∈ a ++ b, s.1 = t := by
        rcases ht with h | h
        · exact absurd h h0
        · exact h
      clear ht h0
      obtain ⟨k, rfl⟩ : ∃ k', k = k' + 1 := ⟨k - 1, by
        have : 0 < (a ++ b).countP (fun s => decide (t ≤ s.1)) := by
          rw [List.countP_pos_iff]
          obtain ⟨s, hs, e⟩ := hmem
          exact ⟨s, hs, by simp; omega⟩
        omega⟩
      have hnx : Hid (Ser.nxt a b t < 0 ∨ (t < Ser.nxt a b t ∧ Ser.nxt a b t ≤ 268435456 ∧ (a ++ b).countP (fun s => decide (Ser.nxt a b t ≤ s.1)) ≤ k ∧ ∃ s ∈ a ++ b, s.1 = Ser.nxt a b t)) := by
        show _ ∨ _
        rcases nxtR_mem t (a ++ b) (-1) with e | ⟨s, hs, e, hlt⟩
        · left; unfold Ser.nxt; rw [e]; omega
        · right
          have e2 : s.1 = Ser.nxt a b t := e
          have := cnt_lt t (Ser.nxt a b t) (by omega) (a ++ b) hmem
          exact ⟨by omega, by rw [← e2]; exact hmax.out s hs, by omega, s, hs, e2⟩
      replace hcnt := Lib.hid hcnt
      replace hmem := Lib.hid hmem
      have ha1 := Lib.hid (ha.out.more hbw.out)
      have hb1 := Lib.hid (hb.out.more hbw.out)
      have hva1 := hva.out t
      have hvb1 := hvb.out t
      obtain ⟨va1, va2⟩ := hva1
      obtain ⟨vb1, vb2⟩ := hvb1
      have hX2 : Hid (C = (out ++ Ser.emit (lastV out) t ((fun x y => min x y) (Ser.at_ a t) (Ser.at_ b t))) ++ Ser.rcomb (fun x y => min x y) a b k (Ser.nxt a b t) (lastV (out ++ Ser.emit (lastV out) t ((fun x y => min x y) (Ser.at_ a t) (Ser.at_ b t))))) := by
        show _ = _
        rw [hX.out]
        simp only [Ser.rcomb]
        rw [if_neg (by omega), lastV_emit, List.append_assoc]
      simp only at hX2
      clear hX
      generalize hxx : Ser.at_ a t = x at *
      generalize hyy : Ser.at_ b t = y at *
      replace hxx := Lib.hid hxx
      replace hyy := Lib.hid hyy
      go_wp2_with fail
      refine (rat_any A1 a n1 c1 t _ ha1.out (by omega)).mono ?_
      rintro e wz ⟨rfl, rfl⟩
      rw [hxx.out]
      go_wp2_with fail
      refine (rat_any A2 b n2 c2 t _ hb1.out (by omega)).mono ?_
      rintro e wz ⟨rfl, rfl⟩
      rw [hyy.out]
      by_cases hxy : x ≤ y
      · have h := hX2.out
        rw [show min x y = x by omega] at h
        replace hX2 := Lib.hid h
        clear h
        go_wp2_with fail
        refine (rput_any w.heap.size _ out t x wr hown.out hbw.out.size (by omega)).mono ?_
        rintro e w2 ⟨v2, rfl, hown2, hbw2⟩
        have ha2 := Lib.hid (ha.out.more (hbw.out.trans hbw2))
        have hb2 := Lib.hid (hb.out.more (hbw.out.trans hbw2))
        replace hbw2 := Lib.hid (hbw.out.trans hbw2)
        replace hown2 := Lib.hid hown2
        go_wp2_with fail
        refine (next_any A1 A2 a b n1 c1 n2 c2 t _ ha2.out hb2.out (by omega) (by omega)).mono ?_
        rintro e wz ⟨rfl, rfl⟩
        generalize hnn : Ser.nxt a b t = t' at *
        replace hnn := Lib.hid hnn
        go_wp2_with fail
        go_roundw
        case rel =>
          refine ⟨_, t', k, rfl, hown2.out, hbw2.out, by have := emit_len (lastV out) t x; simp; omega, hX2.out, ?_⟩
          rcases hnx.out with h | ⟨h1, h2, h3, h4⟩
          · exact .inl h
          · exact .inr ⟨by omega, h2, h3, h4⟩
        case measure =>
          rcases hnx.out with h | ⟨h1, h2, h3, h4⟩
          · simp [tmOf, intOf, h, show ¬ t < 0 by omega]
          · simp [tmOf, intOf, show ¬ t < 0 by omega, show ¬ t' < 0 by omega]; omega
      · have h := hX2.out
        rw [show min x y = y by omega] at h
        replace hX2 := Lib.hid h
        clear h
        go_wp2_with fail
        refine (rput_any w.heap.size _ out t y wr hown.out hbw.out.size (by omega)).mono ?_
        rintro e w2 ⟨v2, rfl, hown2, hbw2⟩
        have ha2 := Lib.hid (ha.out.more (hbw.out.trans hbw2))
        have hb2 := Lib.hid (hb.out.more (hbw.out.trans hbw2))
        replace hbw2 := Lib.hid (hbw.out.trans hbw2)
        replace hown2 := Lib.hid hown2
        go_wp2_with fail
        refine (next_any A1 A2 a b n1 c1 n2 c2 t _ ha2.out hb2.out (by omega) (by omega)).mono ?_
        rintro e wz ⟨rfl, rfl⟩
        generalize hnn : Ser.nxt a b t = t' at *
        replace hnn := Lib.hid hnn
        go_wp2_with fail
        go_roundw
        case rel =>
          refine ⟨_, t', k, rfl, hown2.out, hbw2.out, by have := emit_len (lastV out) t y; simp; omega, hX2.out, ?_⟩
          rcases hnx.out with h | ⟨h1, h2, h3, h4⟩
          · exact .inl h
          · exact .inr ⟨by omega, h2, h3, h4⟩
        case measure =>
          rcases hnx.out with h | ⟨h1, h2, h3, h4⟩
          · simp [tmOf, intOf, h, show ¬ t < 0 by omega]
          · simp [tmOf, intOf, show ¬ t < 0 by omega, show ¬ t' < 0 by omega]; omega
set_option maxHeartbeats 400000 in
theorem rnormal_any (A : Option Addr) (l : List Ser.Step) (n cap : Nat) (w : World) (h : SAt w w.heap.size A n l) (h1 : n ≤ 512) (p1 : Ser.Asc (-1) l) :
    Calls Try.prog 29 #[.slice A n cap] w fun e w' => ∃ v, e = .returned v ∧ SOwn w' w.heap.size v (Ser.norm 0 l) ∧ Below w.heap.size w w' := by
  have HC := fun w h => rcombAdd A none l [] n cap 0 0 w h (SAt.nil _ _) h1 (by omega) p1 trivial
  rw [Ser.comb_norm] at HC
  replace HC := Lib.hid HC
  go_enter Try.func29, Try.ntmps29
  go_wp2_with fail
  refine (HC.out _ h).mono ?_
  rintro e w1 ⟨v, rfl, h2, h3⟩
  replace h2 := Lib.hid h2
  replace h3 := Lib.hid h3
  go_wp2_with fail
  go_ret
  exact ⟨_, rfl, h2.out, h3.out⟩
end Go.Proofs.Ytljagdfgfgpdbaa
