/- Series: combine with the closure of Least, walked. -/
import Derived.Test.YtljagdfgfgpdbaaD
set_option linter.unusedVariables false
namespace Go.Proofs.Ytljagdfgfgpdbaa
open Go.RowKit
set_option maxRecDepth 100000 in
set_option maxHeartbeats 8000000 in
theorem combineLeast (A1 A2 : Option Addr) (a b : List Ser.Step) (n1 c1 n2 c2 B : Nat) (w : World) (ha : SAt w B A1 n1 a) (hb : SAt w B A2 n2 b) (hBw : B ≤ w.heap.size) (h1 : n1 ≤ c1) (h2 : n2 ≤ c2) (h3 : n1 ≤ 512) (h4 : n2 ≤ 512)
    (m1 : c1 ≤ maxLen) (m2 : c2 ≤ maxLen) (p1 : Ser.Rng a) (p2 : Ser.Rng b) :
    Calls Try.prog 31 #[.slice A1 n1 c1, .slice A2 n2 c2, .func (.func 37) #[] #[]] w fun e w' => ∃ v, e = .returned v ∧ SOwn w' w.heap.size v (Ser.comb (fun x y => min x y) a b) ∧ Below B w w' := by
  unfold maxLen at m1 m2
  have la := ha.len
  have lb := hb.len
  replace ha := Lib.hid ha
  replace hb := Lib.hid hb
  replace p1 := Lib.hid p1
  replace p2 := Lib.hid p2
  replace la := Lib.hid la
  replace lb := Lib.hid lb
  generalize hC : Ser.comb (fun x y => min x y) a b = C
  replace hC := Lib.hid hC
  go_enter Try.func31, Try.ntmps31
  go_wp2_with fail
  go_loopw [0, 1, 7, 8, 9] (fun u0 u1 u7 u8 u9 wr => ∃ (A1 : Option Addr) (n1 c1 : Nat) (a' : List Ser.Step) (A2 : Option Addr) (n2 c2 : Nat) (b' : List Ser.Step) (out : List Ser.Step) (x y : Int) (k : Nat),
      u0 = .slice A1 n1 c1 ∧ n1 ≤ c1 ∧ c1 ≤ 2 ^ 63 - 1 ∧ SAt wr B A1 n1 a' ∧ Ser.Rng a' ∧ u1 = .slice A2 n2 c2 ∧ n2 ≤ c2 ∧ c2 ≤ 2 ^ 63 - 1 ∧ SAt wr B A2 n2 b' ∧ Ser.Rng b' ∧ SOwn wr w.heap.size u7 out ∧ u8 = .int .i64 x ∧ u9 = .int .i64 y ∧ IsVal x ∧ IsVal y ∧
      a'.length + b'.length = k ∧ out.length + k ≤ 1024 ∧ C = out ++ Ser.mrg (fun x y => min x y) k a' b' x y (lastV out) ∧ Below B w wr)
    (fun u0 u1 _ _ _ _ => (match u0 with | .slice _ n _ => n | _ => 0) + (match u1 with | .slice _ n _ => n | _ => 0))
  case atStart => exact ⟨A1, n1, c1, a, A2, n2, c2, b, [], 0, 0, a.length + b.length, rfl, h1, m1, ha.out, p1.out, rfl, h2, m2, hb.out, p2.out, SOwn.nil _ _, rfl, rfl, ⟨by omega, by omega⟩, ⟨by omega, by omega⟩, rfl,
    by have := la.out; have := lb.out; simp; omega, by rw [← hC.out]; rfl, Below.refl _ _⟩
  case round =>
    clear ha hb p1 p2 la lb hC h1 h2 h3 h4 m1 m2
    obtain ⟨A1, n1, c1, a', A2, n2, c2, b', out, x, y, k, rfl, h1, m1, ha, p1, rfl, h2, m2, hb, p2, hown, rfl, rfl, vx, vy, hk, hlen, hX, hbw⟩ := hrel
    have la := ha.len
    have lb := hb.len
    replace hown := Lib.hid hown
    replace hX := Lib.hid hX
    replace hbw := Lib.hid hbw
    replace vx := Lib.hid vx
    replace vy := Lib.hid vy
    cases a' with
    | nil =>
      obtain rfl : n1 = 0 := by simpa using la.symm
      cases b' with
      | nil =>
        obtain rfl : n2 = 0 := by simpa using lb.symm
        go_wp2_with fail
        go_ret
        refine ⟨_, rfl, ?_, hbw.out⟩
        · have : C = out := by rw [hX.out]; cases k <;> simp [Ser.mrg]
          rw [this]; exact hown.out
      | cons r b2 =>
        have sa := ha
        replace ha := Lib.hid ha
        obtain ⟨ad2, hA2, q0, q1⟩ := hb.head
        subst hA2
        have sb := hb
        replace hb := Lib.hid hb
        have g2 : 0 < n2 := by simp at lb; omega
        have d2 : decide ((0 : Int) < n2) = true := by simp; omega
        have d3 : ((n2 : Int) == 0) = false := by simp; omega
        have vr : IsVal r.2 := p2 r (by simp)
        have HS : Hid (C = (out ++ Ser.emit (lastV out) r.1 (min x r.2)) ++ Ser.mrg (fun x y => min x y) (([] : List Ser.Step).length + b2.length) ([] : List Ser.Step) b2 x r.2 (lastV (out ++ Ser.emit (lastV out) r.1 (min x r.2))) ∧ True) := by
          obtain ⟨k, rfl⟩ : ∃ k', k = k' + 1 := ⟨k - 1, by simp at hk; omega⟩
          have hk2 : ([] : List Ser.Step).length + b2.length = k := by simp at hk ⊢; omega
          have e1 := hX.out
          simp only [Ser.mrg] at e1
          refine ⟨?_, trivial⟩
          · rw [lastV_emit, e1, hk2, List.append_assoc]
        replace sa := Lib.hid sa
        replace sb := Lib.hid sb
        replace vr := Lib.hid vr
        replace la := Lib.hid la
        replace lb := Lib.hid lb
        replace hk := Lib.hid hk
        go_wp2_with fail
        go_quiet (fail)
        go_wp2_with fail
        all_goals (go_quiet (fail))
        all_goals (go_wp2_with fail)
        all_goals
          refine (leastFn_any x r.2 _).mono ?_
          rintro e w1 ⟨rfl, rfl⟩
          have hbw1 : ∀ m, Below B w (wr.drewN m) := fun m => below_drewN hbw.out m
          have hown1 := hown.out
          replace hbw1 := Lib.hid hbw1
          go_wp2_with fail
          refine (put_any w.heap.size _ out r.1 (min x r.2) (wr.drewN _) hown1 hbw.out.size (by omega)).mono ?_
          rintro e w2 ⟨v2, rfl, hown2, hbw2⟩
          have hs2 : wr.heap.size ≤ w2.heap.size := hbw2.size
          have hbw3 : Below B w w2 := (hbw1.out _).trans (hbw2.mono hBw)
          have sa2 := sa.out.below (w' := w2) (B' := B) ⟨hbw3.os.trans hbw.out.os.symm, hbw3.tape.trans hbw.out.tape.symm, hbw3.output.trans hbw.out.output.symm, by omega, fun i hi => (hbw3.block i hi).trans (hbw.out.block i hi).symm⟩ (Nat.le_refl _)
          have sb2 := sb.out.below (w' := w2) (B' := B) ⟨hbw3.os.trans hbw.out.os.symm, hbw3.tape.trans hbw.out.tape.symm, hbw3.output.trans hbw.out.output.symm, by omega, fun i hi => (hbw3.block i hi).trans (hbw.out.block i hi).symm⟩ (Nat.le_refl _)
          replace hown2 := Lib.hid hown2
          replace hbw3 := Lib.hid hbw3
          replace sa2 := Lib.hid sa2
          replace sb2 := Lib.hid sb2
          clear hbw2 hown1
          go_wp2_with fail
          go_roundw
          case rel =>
            refine ⟨_, 0, c1, [], _, n2 - 1, _, b2, out ++ Ser.emit (lastV out) r.1 (min x r.2), x, r.2, [].length + b2.length, rfl, by omega, by omega, ?_, p1, rfl, by omega, by omega, ?_, (fun q hq => p2 q (by simp [hq])), hown2.out, rfl, rfl, vx.out, vr.out, rfl, by have := emit_len (lastV out) r.1 (min x r.2); have hk := hk.out; simp at hk ⊢; omega, HS.out.1, hbw3.out⟩
            · exact sa2.out
            · (first | exact sb2.out.tail | exact sb2.out.none_ (by omega))
          case measure => simp; omega
    | cons s a2 =>
      cases b' with
      | nil =>
        obtain rfl : n2 = 0 := by simpa using lb.symm
        obtain ⟨ad1, hA1, k0, k1⟩ := ha.head
        subst hA1
        have sa := ha
        replace ha := Lib.hid ha
        have g1 : 0 < n1 := by simp at la; omega
        have d1 : decide ((0 : Int) < n1) = true := by simp; omega
        have vs : IsVal s.2 := p1 s (by simp)
        have sb := hb
        replace hb := Lib.hid hb
        have HS : Hid (C = (out ++ Ser.emit (lastV out) s.1 (min s.2 y)) ++ Ser.mrg (fun x y => min x y) (a2.length + ([] : List Ser.Step).length) a2 ([] : List Ser.Step) s.2 y (lastV (out ++ Ser.emit (lastV out) s.1 (min s.2 y))) ∧ True) := by
          obtain ⟨k, rfl⟩ : ∃ k', k = k' + 1 := ⟨k - 1, by simp at hk; omega⟩
          have hk2 : a2.length + ([] : List Ser.Step).length = k := by simp at hk ⊢; omega
          have e1 := hX.out
          simp only [Ser.mrg] at e1
          refine ⟨?_, trivial⟩
          · rw [lastV_emit, e1, hk2, List.append_assoc]
        replace sa := Lib.hid sa
        replace sb := Lib.hid sb
        replace vs := Lib.hid vs
        replace la := Lib.hid la
        replace lb := Lib.hid lb
        replace hk := Lib.hid hk
        go_wp2_with fail
        go_quiet (fail)
        go_wp2_with fail
        all_goals (go_quiet (fail))
        all_goals (go_wp2_with fail)
        all_goals
          refine (leastFn_any s.2 y _).mono ?_
          rintro e w1 ⟨rfl, rfl⟩
          have hbw1 : ∀ m, Below B w (wr.drewN m) := fun m => below_drewN hbw.out m
          have hown1 := hown.out
          replace hbw1 := Lib.hid hbw1
          go_wp2_with fail
          refine (put_any w.heap.size _ out s.1 (min s.2 y) (wr.drewN _) hown1 hbw.out.size (by omega)).mono ?_
          rintro e w2 ⟨v2, rfl, hown2, hbw2⟩
          have hs2 : wr.heap.size ≤ w2.heap.size := hbw2.size
          have hbw3 : Below B w w2 := (hbw1.out _).trans (hbw2.mono hBw)
          have sa2 := sa.out.below (w' := w2) (B' := B) ⟨hbw3.os.trans hbw.out.os.symm, hbw3.tape.trans hbw.out.tape.symm, hbw3.output.trans hbw.out.output.symm, by omega, fun i hi => (hbw3.block i hi).trans (hbw.out.block i hi).symm⟩ (Nat.le_refl _)
          have sb2 := sb.out.below (w' := w2) (B' := B) ⟨hbw3.os.trans hbw.out.os.symm, hbw3.tape.trans hbw.out.tape.symm, hbw3.output.trans hbw.out.output.symm, by omega, fun i hi => (hbw3.block i hi).trans (hbw.out.block i hi).symm⟩ (Nat.le_refl _)
          replace hown2 := Lib.hid hown2
          replace hbw3 := Lib.hid hbw3
          replace sa2 := Lib.hid sa2
          replace sb2 := Lib.hid sb2
          clear hbw2 hown1
          go_wp2_with fail
          go_roundw
          case rel =>
            refine ⟨_, n1 - 1, _, a2, _, 0, c2, [], out ++ Ser.emit (lastV out) s.1 (min s.2 y), s.2, y, a2.length + [].length, rfl, by omega, by omega, ?_, (fun q hq => p1 q (by simp [hq])), rfl, by omega, by omega, ?_, p2, hown2.out, rfl, rfl, vs.out, vy.out, rfl, by have := emit_len (lastV out) s.1 (min s.2 y); have hk := hk.out; simp at hk ⊢; omega, HS.out.1, hbw3.out⟩
            · (first | exact sa2.out.tail | exact sa2.out.none_ (by omega))
            · exact sb2.out
          case measure => simp; omega
      | cons r b2 =>
        obtain ⟨ad1, hA1, k0, k1⟩ := ha.head
        subst hA1
        have sa := ha
        replace ha := Lib.hid ha
        have g1 : 0 < n1 := by simp at la; omega
        have d1 : decide ((0 : Int) < n1) = true := by simp; omega
        have vs : IsVal s.2 := p1 s (by simp)
        obtain ⟨ad2, hA2, q0, q1⟩ := hb.head
        subst hA2
        have sb := hb
        replace hb := Lib.hid hb
        have g2 : 0 < n2 := by simp at lb; omega
        have d2 : decide ((0 : Int) < n2) = true := by simp; omega
        have d3 : ((n2 : Int) == 0) = false := by simp; omega
        have vr : IsVal r.2 := p2 r (by simp)
        by_cases hc : s.1 < r.1
        · skip
          have HS : Hid (C = (out ++ Ser.emit (lastV out) s.1 (min s.2 y)) ++ Ser.mrg (fun x y => min x y) (a2.length + (r :: b2).length) a2 (r :: b2) s.2 y (lastV (out ++ Ser.emit (lastV out) s.1 (min s.2 y))) ∧ True) := by
            obtain ⟨k, rfl⟩ : ∃ k', k = k' + 1 := ⟨k - 1, by simp at hk; omega⟩
            have hk2 : a2.length + (r :: b2).length = k := by simp at hk ⊢; omega
            have e1 := hX.out
            simp only [Ser.mrg] at e1
            rw [if_pos hc] at e1
            refine ⟨?_, trivial⟩
            · rw [lastV_emit, e1, hk2, List.append_assoc]
          replace sa := Lib.hid sa
          replace sb := Lib.hid sb
          replace vs := Lib.hid vs
          replace vr := Lib.hid vr
          replace la := Lib.hid la
          replace lb := Lib.hid lb
          replace hk := Lib.hid hk
          have d4 : (s.1 == r.1) = false := by simp; omega
          have d5 : (r.1 == s.1) = false := by simp; omega
          go_wp2_with fail
          go_quiet (fail)
          go_wp2_with fail
          all_goals (go_quiet (fail))
          all_goals (go_wp2_with fail)
          all_goals
            refine (leastFn_any s.2 y _).mono ?_
            rintro e w1 ⟨rfl, rfl⟩
            have hbw1 : ∀ m, Below B w (wr.drewN m) := fun m => below_drewN hbw.out m
            have hown1 := hown.out
            replace hbw1 := Lib.hid hbw1
            go_wp2_with fail
            refine (put_any w.heap.size _ out s.1 (min s.2 y) (wr.drewN _) hown1 hbw.out.size (by omega)).mono ?_
            rintro e w2 ⟨v2, rfl, hown2, hbw2⟩
            have hs2 : wr.heap.size ≤ w2.heap.size := hbw2.size
            have hbw3 : Below B w w2 := (hbw1.out _).trans (hbw2.mono hBw)
            have sa2 := sa.out.below (w' := w2) (B' := B) ⟨hbw3.os.trans hbw.out.os.symm, hbw3.tape.trans hbw.out.tape.symm, hbw3.output.trans hbw.out.output.symm, by omega, fun i hi => (hbw3.block i hi).trans (hbw.out.block i hi).symm⟩ (Nat.le_refl _)
            have sb2 := sb.out.below (w' := w2) (B' := B) ⟨hbw3.os.trans hbw.out.os.symm, hbw3.tape.trans hbw.out.tape.symm, hbw3.output.trans hbw.out.output.symm, by omega, fun i hi => (hbw3.block i hi).trans (hbw.out.block i hi).symm⟩ (Nat.le_refl _)
            replace hown2 := Lib.hid hown2
            replace hbw3 := Lib.hid hbw3
            replace sa2 := Lib.hid sa2
            replace sb2 := Lib.hid sb2
            clear hbw2 hown1
            go_wp2_with fail
            go_roundw
            case rel =>
              refine ⟨_, n1 - 1, _, a2, _, n2, c2, (r :: b2), out ++ Ser.emit (lastV out) s.1 (min s.2 y), s.2, y, a2.length + (r :: b2).length, rfl, by omega, by omega, ?_, (fun q hq => p1 q (by simp [hq])), rfl, by omega, by omega, ?_, p2, hown2.out, rfl, rfl, vs.out, vy.out, rfl, by have := emit_len (lastV out) s.1 (min s.2 y); have hk := hk.out; simp at hk ⊢; omega, HS.out.1, hbw3.out⟩
              · (first | exact sa2.out.tail | exact sa2.out.none_ (by omega))
              · exact sb2.out
            case measure => simp; omega
        · by_cases hc2 : r.1 < s.1
          · have hc := hc2
            have HS : Hid (C = (out ++ Ser.emit (lastV out) r.1 (min x r.2)) ++ Ser.mrg (fun x y => min x y) ((s :: a2).length + b2.length) (s :: a2) b2 x r.2 (lastV (out ++ Ser.emit (lastV out) r.1 (min x r.2))) ∧ True) := by
              obtain ⟨k, rfl⟩ : ∃ k', k = k' + 1 := ⟨k - 1, by simp at hk; omega⟩
              have hk2 : (s :: a2).length + b2.length = k := by simp at hk ⊢; omega
              have e1 := hX.out
              simp only [Ser.mrg] at e1
              rw [if_neg (show ¬ s.1 < r.1 by omega), if_pos hc] at e1
              refine ⟨?_, trivial⟩
              · rw [lastV_emit, e1, hk2, List.append_assoc]
            replace sa := Lib.hid sa
            replace sb := Lib.hid sb
            replace vs := Lib.hid vs
            replace vr := Lib.hid vr
            replace la := Lib.hid la
            replace lb := Lib.hid lb
            replace hk := Lib.hid hk
            have d4 : (s.1 == r.1) = false := by simp; omega
            have d5 : (r.1 == s.1) = false := by simp; omega
            go_wp2_with fail
            go_quiet (fail)
            go_wp2_with fail
            all_goals (go_quiet (fail))
            all_goals (go_wp2_with fail)
            all_goals
              refine (leastFn_any x r.2 _).mono ?_
              rintro e w1 ⟨rfl, rfl⟩
              have hbw1 : ∀ m, Below B w (wr.drewN m) := fun m => below_drewN hbw.out m
              have hown1 := hown.out
              replace hbw1 := Lib.hid hbw1
              go_wp2_with fail
              refine (put_any w.heap.size _ out r.1 (min x r.2) (wr.drewN _) hown1 hbw.out.size (by omega)).mono ?_
              rintro e w2 ⟨v2, rfl, hown2, hbw2⟩
              have hs2 : wr.heap.size ≤ w2.heap.size := hbw2.size
              have hbw3 : Below B w w2 := (hbw1.out _).trans (hbw2.mono hBw)
              have sa2 := sa.out.below (w' := w2) (B' := B) ⟨hbw3.os.trans hbw.out.os.symm, hbw3.tape.trans hbw.out.tape.symm, hbw3.output.trans hbw.out.output.symm, by omega, fun i hi => (hbw3.block i hi).trans (hbw.out.block i hi).symm⟩ (Nat.le_refl _)
              have sb2 := sb.out.below (w' := w2) (B' := B) ⟨hbw3.os.trans hbw.out.os.symm, hbw3.tape.trans hbw.out.tape.symm, hbw3.output.trans hbw.out.output.symm, by omega, fun i hi => (hbw3.block i hi).trans (hbw.out.block i hi).symm⟩ (Nat.le_refl _)
              replace hown2 := Lib.hid hown2
              replace hbw3 := Lib.hid hbw3
              replace sa2 := Lib.hid sa2
              replace sb2 := Lib.hid sb2
              clear hbw2 hown1
              go_wp2_with fail
              go_roundw
              case rel =>
                refine ⟨_, n1, c1, (s :: a2), _, n2 - 1, _, b2, out ++ Ser.emit (lastV out) r.1 (min x r.2), x, r.2, (s :: a2).length + b2.length, rfl, by omega, by omega, ?_, p1, rfl, by omega, by omega, ?_, (fun q hq => p2 q (by simp [hq])), hown2.out, rfl, rfl, vx.out, vr.out, rfl, by have := emit_len (lastV out) r.1 (min x r.2); have hk := hk.out; simp at hk ⊢; omega, HS.out.1, hbw3.out⟩
                · exact sa2.out
                · (first | exact sb2.out.tail | exact sb2.out.none_ (by omega))
              case measure => simp; omega
          · skip
            have HS : Hid (C = (out ++ Ser.emit (lastV out) s.1 (min s.2 r.2)) ++ Ser.mrg (fun x y => min x y) (a2.length + b2.length) a2 b2 s.2 r.2 (lastV (out ++ Ser.emit (lastV out) s.1 (min s.2 r.2))) ∧ True) := by
              obtain ⟨k, rfl⟩ : ∃ k', k = k' + 1 := ⟨k - 1, by simp at hk; omega⟩
              have hk2 : a2.length + b2.length + 1 = k := by simp at hk ⊢; omega
              have e1 := hX.out
              simp only [Ser.mrg] at e1
              rw [if_neg (show ¬ s.1 < r.1 by omega), if_neg (show ¬ r.1 < s.1 by omega)] at e1
              refine ⟨?_, trivial⟩
              · rw [lastV_emit, e1, ← hk2, Ser.mrg_fuel _ (a2.length + b2.length + 1) (a2.length + b2.length) _ _ _ _ _ (Nat.le_succ _) (Nat.le_refl _), List.append_assoc]
            replace sa := Lib.hid sa
            replace sb := Lib.hid sb
            replace vs := Lib.hid vs
            replace vr := Lib.hid vr
            replace la := Lib.hid la
            replace lb := Lib.hid lb
            replace hk := Lib.hid hk
            have d4 : (s.1 == r.1) = true := by simp; omega
            have d5 : (r.1 == s.1) = true := by simp; omega
            go_wp2_with fail
            go_quiet (fail)
            go_wp2_with fail
            all_goals (go_quiet (fail))
            all_goals (go_wp2_with fail)
            all_goals (go_quiet (fail))
            all_goals (go_wp2_with fail)
            all_goals
              refine (leastFn_any s.2 r.2 _).mono ?_
              rintro e w1 ⟨rfl, rfl⟩
              have hbw1 : ∀ m, Below B w (wr.drewN m) := fun m => below_drewN hbw.out m
              have hown1 := hown.out
              replace hbw1 := Lib.hid hbw1
              go_wp2_with fail
              refine (put_any w.heap.size _ out s.1 (min s.2 r.2) (wr.drewN _) hown1 hbw.out.size (by omega)).mono ?_
              rintro e w2 ⟨v2, rfl, hown2, hbw2⟩
              have hs2 : wr.heap.size ≤ w2.heap.size := hbw2.size
              have hbw3 : Below B w w2 := (hbw1.out _).trans (hbw2.mono hBw)
              have sa2 := sa.out.below (w' := w2) (B' := B) ⟨hbw3.os.trans hbw.out.os.symm, hbw3.tape.trans hbw.out.tape.symm, hbw3.output.trans hbw.out.output.symm, by omega, fun i hi => (hbw3.block i hi).trans (hbw.out.block i hi).symm⟩ (Nat.le_refl _)
              have sb2 := sb.out.below (w' := w2) (B' := B) ⟨hbw3.os.trans hbw.out.os.symm, hbw3.tape.trans hbw.out.tape.symm, hbw3.output.trans hbw.out.output.symm, by omega, fun i hi => (hbw3.block i hi).trans (hbw.out.block i hi).symm⟩ (Nat.le_refl _)
              replace hown2 := Lib.hid hown2
              replace hbw3 := Lib.hid hbw3
              replace sa2 := Lib.hid sa2
              replace sb2 := Lib.hid sb2
              clear hbw2 hown1
              go_wp2_with fail
              go_roundw
              case rel =>
                refine ⟨_, n1 - 1, _, a2, _, n2 - 1, _, b2, out ++ Ser.emit (lastV out) s.1 (min s.2 r.2), s.2, r.2, a2.length + b2.length, rfl, by omega, by omega, ?_, (fun q hq => p1 q (by simp [hq])), rfl, by omega, by omega, ?_, (fun q hq => p2 q (by simp [hq])), hown2.out, rfl, rfl, vs.out, vr.out, rfl, by have := emit_len (lastV out) s.1 (min s.2 r.2); have hk := hk.out; simp at hk ⊢; omega, HS.out.1, hbw3.out⟩
                · (first | exact sa2.out.tail | exact sa2.out.none_ (by omega))
                · (first | exact sb2.out.tail | exact sb2.out.none_ (by omega))
              case measure => simp; omega
end Go.Proofs.Ytljagdfgfgpdbaa
