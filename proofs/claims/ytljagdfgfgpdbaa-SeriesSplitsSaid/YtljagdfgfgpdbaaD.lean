/- Series: combine, walked, with the closure of Add and with that of Least. -/
import Derived.Test.YtljagdfgfgpdbaaC
set_option linter.unusedVariables false
namespace Go.Proofs.Ytljagdfgfgpdbaa
open Go.RowKit
theorem SAt.tail {w : World} {B : Nat} {ad : Addr} {n : Nat} {s : Ser.Step} {r : List Ser.Step} (h : SAt w B (some ad) n (s :: r)) : SAt w B (some ⟨ad.block, ad.off + 2, none⟩) (n - 1) r := by
  have hl := h.len
  have := h.cut (k := 1) (cap := n + 1) (by simp at hl; omega) (by omega)
  rw [if_neg (by simp at hl; omega)] at this
  have e : ad.add (1 * 2) = ⟨ad.block, ad.off + 2, none⟩ := by simp [Addr.add]
  simpa [e] using this
theorem SAt.none_ {w : World} {B : Nat} {A A' : Option Addr} {n : Nat} {s : Ser.Step} {r : List Ser.Step} (h : SAt w B A' n (s :: r)) (h1 : n = 1) : SAt w B A (n - 1) r := by
  have hl := h.len
  subst h1
  obtain rfl : r = [] := List.eq_nil_of_length_eq_zero (by simpa using hl)
  exact ⟨by simp [scells], fun h => absurd h (by omega)⟩
theorem SAt.head {w : World} {B : Nat} {A : Option Addr} {n : Nat} {s : Ser.Step} {r : List Ser.Step} (h : SAt w B A n (s :: r)) :
    ∃ ad, A = some ad ∧ w.cell? ad = some (.int .i64 s.1) ∧ w.cell? ⟨ad.block, ad.off + 1, none⟩ = some (.int .i64 s.2) := by
  obtain ⟨ad, hA, _, c0, c1⟩ := h.at_ (k := 0) (by have := h.len; simp at this; omega)
  exact ⟨ad, hA, by simpa [Addr.add] using c0, by simpa [Addr.add] using c1⟩
theorem emit_len (last t v : Int) : (Ser.emit last t v).length ≤ 1 := by unfold Ser.emit; split <;> simp
set_option maxHeartbeats 400000 in
theorem addFn_any (x y : Int) (b : Bool) (g : Nat) (w : World) (hc : w.heap[g]? = some (.cells #[.bool b] 4 (0, 0))) (h1 : -1099511627776 ≤ x) (h2 : x ≤ 1099511627776) (h3 : -1099511627776 ≤ y) (h4 : y ≤ 1099511627776) :
    Calls Try.prog 32 #[.int .i64 x, .int .i64 y, .pointer (some ⟨g, 0, none⟩)] w fun e w' => e = .returned (.int .i64 (x + y)) ∧ w'.heap[g]? = some (.cells #[.bool (b || !Ser.okVal (x + y))] 4 (0, 0)) ∧ w.grownBy w' (some g) := by
  have c0 : w.cell? ⟨g, 0, none⟩ = some (.bool b) := by simp [World.cell?, hc]
  have f0 : w.frozen? ⟨g, 0, none⟩ = false := by simp [World.frozen?, hc]
  replace hc := Lib.hid hc
  by_cases hv : Ser.okVal (x + y) = true
  · go_enter Try.func32, Try.ntmps32
    go_wp2_with (go_at_call 33; refine (isValue_any _ _).mono ?_; rintro e w1 ⟨rfl, rfl⟩)
    go_ret
    exact ⟨rfl, by rw [hv]; simpa using hc.out, World.grownBy.refl _ _⟩
  · have hv' : Ser.okVal (x + y) = false := by simpa using hv
    clear hv
    go_enter Try.func32, Try.ntmps32
    go_wp2_with (go_at_call 33; refine (isValue_any _ _).mono ?_; rintro e w1 ⟨rfl, rfl⟩)
    go_ret
    refine ⟨rfl, ?_, ?_⟩
    · rw [hv']; have := hc.out; simp [World.setCell, Array.getElem?_modify, this]
    · exact ⟨rfl, rfl, rfl, by simp [World.setCell], fun k hk hne => Below.heap_setCell w ⟨g, 0, none⟩ _ k (by rintro rfl; exact hne rfl)⟩
theorem leastFn_any (x y : Int) (w : World) : Calls Try.prog 37 #[.int .i64 x, .int .i64 y] w fun e w' => e = .returned (.int .i64 (min x y)) ∧ w = w' := by
  by_cases h : x ≤ y
  · go_enter Try.func37, Try.ntmps37
    go_wp2_with fail
    go_ret
    exact ⟨ret_int (by omega), rfl⟩
  · go_enter Try.func37, Try.ntmps37
    go_wp2_with fail
    go_ret
    exact ⟨ret_int (by omega), rfl⟩
theorem SOwn.far {w w' : World} {base g : Nat} {v : Value} {l : List Ser.Step} (h : SOwn w base v l) (hg : w.grownBy w' (some g)) (hlt : g < base) : SOwn w' base v l :=
  World.ownsRow.kept h hg (by
    cases e : v.ownBlock with
    | none => exact Or.inl rfl
    | some k => refine Or.inr (fun hk => ?_); cases hk; have := (World.ownsRow.lt h _ e).1; omega)
def IsVal (x : Int) : Prop := -1099511627776 ≤ x ∧ x ≤ 1099511627776
set_option maxRecDepth 100000 in
set_option maxHeartbeats 8000000 in
theorem combineAdd (A1 A2 : Option Addr) (a b : List Ser.Step) (n1 c1 n2 c2 B : Nat) (w : World) (g : Nat) (hB : B ≤ g) (hg : w.heap[g]? = some (.cells #[.bool false] 4 (0, 0))) (ha : SAt w B A1 n1 a) (hb : SAt w B A2 n2 b) (hBw : B ≤ w.heap.size) (h1 : n1 ≤ c1) (h2 : n2 ≤ c2) (h3 : n1 ≤ 512) (h4 : n2 ≤ 512)
    (m1 : c1 ≤ maxLen) (m2 : c2 ≤ maxLen) (p1 : Ser.Rng a) (p2 : Ser.Rng b) :
    Calls Try.prog 31 #[.slice A1 n1 c1, .slice A2 n2 c2, .func (.func 32) #[] #[.pointer (some ⟨g, 0, none⟩)]] w fun e w' => ∃ v, e = .returned v ∧ SOwn w' w.heap.size v (Ser.comb (fun x y => x + y) a b) ∧ Below B w w' ∧ w'.heap[g]? = some (.cells #[.bool (Ser.outs (fun x y => x + y) (a.length + b.length) a b 0 0)] 4 (0, 0)) := by
  unfold maxLen at m1 m2
  have la := ha.len
  have lb := hb.len
  have hgl := lt_of_heap hg
  replace ha := Lib.hid ha
  replace hb := Lib.hid hb
  replace p1 := Lib.hid p1
  replace p2 := Lib.hid p2
  replace la := Lib.hid la
  replace lb := Lib.hid lb
  replace hg := Lib.hid hg
  generalize hC : Ser.comb (fun x y => x + y) a b = C
  replace hC := Lib.hid hC
  generalize hO : Ser.outs (fun x y => x + y) (a.length + b.length) a b 0 0 = O
  replace hO := Lib.hid hO
  go_enter Try.func31, Try.ntmps31
  go_wp2_with fail
  go_loopw [0, 1, 7, 8, 9] (fun u0 u1 u7 u8 u9 wr => ∃ (A1 : Option Addr) (n1 c1 : Nat) (a' : List Ser.Step) (A2 : Option Addr) (n2 c2 : Nat) (b' : List Ser.Step) (out : List Ser.Step) (x y : Int) (k : Nat),
      u0 = .slice A1 n1 c1 ∧ n1 ≤ c1 ∧ c1 ≤ 2 ^ 63 - 1 ∧ SAt wr B A1 n1 a' ∧ Ser.Rng a' ∧ u1 = .slice A2 n2 c2 ∧ n2 ≤ c2 ∧ c2 ≤ 2 ^ 63 - 1 ∧ SAt wr B A2 n2 b' ∧ Ser.Rng b' ∧ SOwn wr w.heap.size u7 out ∧ u8 = .int .i64 x ∧ u9 = .int .i64 y ∧ IsVal x ∧ IsVal y ∧
      a'.length + b'.length = k ∧ out.length + k ≤ 1024 ∧ C = out ++ Ser.mrg (fun x y => x + y) k a' b' x y (lastV out) ∧ Below B w wr ∧ (∃ fl, wr.heap[g]? = some (.cells #[.bool fl] 4 (0, 0)) ∧ O = (fl || Ser.outs (fun x y => x + y) k a' b' x y)))
    (fun u0 u1 _ _ _ _ => (match u0 with | .slice _ n _ => n | _ => 0) + (match u1 with | .slice _ n _ => n | _ => 0))
  case atStart => exact ⟨A1, n1, c1, a, A2, n2, c2, b, [], 0, 0, a.length + b.length, rfl, h1, m1, ha.out, p1.out, rfl, h2, m2, hb.out, p2.out, SOwn.nil _ _, rfl, rfl, ⟨by omega, by omega⟩, ⟨by omega, by omega⟩, rfl,
    by have := la.out; have := lb.out; simp; omega, by rw [← hC.out]; rfl, Below.refl _ _, false, hg.out, by rw [← hO.out]; rfl⟩
  case round =>
    clear ha hb p1 p2 la lb hC h1 h2 h3 h4 m1 m2
    obtain ⟨A1, n1, c1, a', A2, n2, c2, b', out, x, y, k, rfl, h1, m1, ha, p1, rfl, h2, m2, hb, p2, hown, rfl, rfl, vx, vy, hk, hlen, hX, hbw, fl, hg, hF⟩ := hrel
    have la := ha.len
    have lb := hb.len
    replace hown := Lib.hid hown
    replace hX := Lib.hid hX
    replace hbw := Lib.hid hbw
    replace vx := Lib.hid vx
    replace vy := Lib.hid vy
    replace hg := Lib.hid hg
    replace hF := Lib.hid hF
    cases a' with
    | nil =>
      obtain rfl : n1 = 0 := by simpa using la.symm
      cases b' with
      | nil =>
        obtain rfl : n2 = 0 := by simpa using lb.symm
        go_wp2_with fail
        go_ret
        refine ⟨_, rfl, ?_, hbw.out, ?_⟩
        · have : C = out := by rw [hX.out]; cases k <;> simp [Ser.mrg]
          rw [this]; exact hown.out
        · have : O = fl := by rw [hF.out]; cases k <;> simp [Ser.outs]
          rw [this]; exact hg.out
      | cons r b2 =>
        have sa := ha
        replace ha := Lib.hid ha
        obtain ⟨ad2, hA2, q0, q1⟩ := hb.head
        subst hA2
        have sb := hb
        replace hb := Lib.hid hb
        have g2 : 0 < n2 := by simp at lb; omega
        have d2 : decide ((0 : Int) < n2) = true := by simp; omega
        have d3 : ((n2 : Int) == 0) = false := by simp; omega
        have vr : IsVal r.2 := p2 r (by simp)
        have HS : Hid (C = (out ++ Ser.emit (lastV out) r.1 (x + r.2)) ++ Ser.mrg (fun x y => x + y) (([] : List Ser.Step).length + b2.length) ([] : List Ser.Step) b2 x r.2 (lastV (out ++ Ser.emit (lastV out) r.1 (x + r.2))) ∧ O = ((fl || !Ser.okVal (x + r.2)) || Ser.outs (fun x y => x + y) (([] : List Ser.Step).length + b2.length) ([] : List Ser.Step) b2 x r.2)) := by
          obtain ⟨k, rfl⟩ : ∃ k', k = k' + 1 := ⟨k - 1, by simp at hk; omega⟩
          have hk2 : ([] : List Ser.Step).length + b2.length = k := by simp at hk ⊢; omega
          have e1 := hX.out
          have e2 := hF.out
          simp only [Ser.outs] at e2
          simp only [Ser.mrg] at e1
          refine ⟨?_, ?_⟩
          · rw [lastV_emit, e1, hk2, List.append_assoc]
          · rw [e2, hk2, Bool.or_assoc]
        replace sa := Lib.hid sa
        replace sb := Lib.hid sb
        replace vr := Lib.hid vr
        replace la := Lib.hid la
        replace lb := Lib.hid lb
        replace hk := Lib.hid hk
        go_wp2_with fail
        go_quiet (fail)
        go_wp2_with fail
        all_goals (go_quiet (fail))
        all_goals (go_wp2_with fail)
        all_goals
          refine (addFn_any x r.2 fl g (wr.drewN _) hg.out vx.out.1 vx.out.2 vr.out.1 vr.out.2).mono ?_
          rintro e w1 ⟨rfl, hg1, hk1⟩
          have hbw1 : Below B w w1 := (below_drewN hbw.out _).grown hk1 (by have := hbw.out.size; show B ≤ wr.heap.size; omega) (fun k hk => by cases hk; exact hB)
          have hs1 : wr.heap.size ≤ w1.heap.size := hk1.size
          have hown1 := SOwn.far (w := wr.drewN _) hown.out hk1 hgl
          replace hg1 := Lib.hid hg1
          clear hk1
          replace hbw1 := Lib.hid hbw1
          go_wp2_with fail
          refine (put_any w.heap.size _ out r.1 (x + r.2) w1 hown1 (by have := hbw.out.size; omega) (by omega)).mono ?_
          rintro e w2 ⟨v2, rfl, hown2, hbw2⟩
          have hs2 := hbw2.size
          have hbw3 : Below B w w2 := hbw1.out.trans (hbw2.mono hBw)
          have sa2 := sa.out.below (w' := w2) (B' := B) ⟨hbw3.os.trans hbw.out.os.symm, hbw3.tape.trans hbw.out.tape.symm, hbw3.output.trans hbw.out.output.symm, by omega, fun i hi => (hbw3.block i hi).trans (hbw.out.block i hi).symm⟩ (Nat.le_refl _)
          have sb2 := sb.out.below (w' := w2) (B' := B) ⟨hbw3.os.trans hbw.out.os.symm, hbw3.tape.trans hbw.out.tape.symm, hbw3.output.trans hbw.out.output.symm, by omega, fun i hi => (hbw3.block i hi).trans (hbw.out.block i hi).symm⟩ (Nat.le_refl _)
          have hg2 : w2.heap[g]? = _ := (hbw2.block g hgl).trans hg1.out
          replace hown2 := Lib.hid hown2
          replace hbw3 := Lib.hid hbw3
          replace hg2 := Lib.hid hg2
          replace sa2 := Lib.hid sa2
          replace sb2 := Lib.hid sb2
          clear hbw2 hown1
          go_wp2_with fail
          go_roundw
          case rel =>
            refine ⟨_, 0, c1, [], _, n2 - 1, _, b2, out ++ Ser.emit (lastV out) r.1 (x + r.2), x, r.2, [].length + b2.length, rfl, by omega, by omega, ?_, p1, rfl, by omega, by omega, ?_, (fun q hq => p2 q (by simp [hq])), hown2.out, rfl, rfl, vx.out, vr.out, rfl, by have := emit_len (lastV out) r.1 (x + r.2); have hk := hk.out; simp at hk ⊢; omega, HS.out.1, hbw3.out, _, hg2.out, by rw [HS.out.2]⟩
            · exact sa2.out
            · (first | exact sb2.out.tail | exact sb2.out.none_ (by omega))
          case measure => simp; omega
    | cons s a2 =>
      cases b' with
      | nil =>
        obtain rfl : n2 = 0 := by simpa using lb.symm
        obtain ⟨ad1, hA1, k0, k1⟩ := ha.head
        subst hA1
        have sa := ha
        replace ha := Lib.hid ha
        have g1 : 0 < n1 := by simp at la; omega
        have d1 : decide ((0 : Int) < n1) = true := by simp; omega
        have vs : IsVal s.2 := p1 s (by simp)
        have sb := hb
        replace hb := Lib.hid hb
        have HS : Hid (C = (out ++ Ser.emit (lastV out) s.1 (s.2 + y)) ++ Ser.mrg (fun x y => x + y) (a2.length + ([] : List Ser.Step).length) a2 ([] : List Ser.Step) s.2 y (lastV (out ++ Ser.emit (lastV out) s.1 (s.2 + y))) ∧ O = ((fl || !Ser.okVal (s.2 + y)) || Ser.outs (fun x y => x + y) (a2.length + ([] : List Ser.Step).length) a2 ([] : List Ser.Step) s.2 y)) := by
          obtain ⟨k, rfl⟩ : ∃ k', k = k' + 1 := ⟨k - 1, by simp at hk; omega⟩
          have hk2 : a2.length + ([] : List Ser.Step).length = k := by simp at hk ⊢; omega
          have e1 := hX.out
          have e2 := hF.out
          simp only [Ser.outs] at e2
          simp only [Ser.mrg] at e1
          refine ⟨?_, ?_⟩
          · rw [lastV_emit, e1, hk2, List.append_assoc]
          · rw [e2, hk2, Bool.or_assoc]
        replace sa := Lib.hid sa
        replace sb := Lib.hid sb
        replace vs := Lib.hid vs
        replace la := Lib.hid la
        replace lb := Lib.hid lb
        replace hk := Lib.hid hk
        go_wp2_with fail
        go_quiet (fail)
        go_wp2_with fail
        all_goals (go_quiet (fail))
        all_goals (go_wp2_with fail)
        all_goals
          refine (addFn_any s.2 y fl g (wr.drewN _) hg.out vs.out.1 vs.out.2 vy.out.1 vy.out.2).mono ?_
          rintro e w1 ⟨rfl, hg1, hk1⟩
          have hbw1 : Below B w w1 := (below_drewN hbw.out _).grown hk1 (by have := hbw.out.size; show B ≤ wr.heap.size; omega) (fun k hk => by cases hk; exact hB)
          have hs1 : wr.heap.size ≤ w1.heap.size := hk1.size
          have hown1 := SOwn.far (w := wr.drewN _) hown.out hk1 hgl
          replace hg1 := Lib.hid hg1
          clear hk1
          replace hbw1 := Lib.hid hbw1
          go_wp2_with fail
          refine (put_any w.heap.size _ out s.1 (s.2 + y) w1 hown1 (by have := hbw.out.size; omega) (by omega)).mono ?_
          rintro e w2 ⟨v2, rfl, hown2, hbw2⟩
          have hs2 := hbw2.size
          have hbw3 : Below B w w2 := hbw1.out.trans (hbw2.mono hBw)
          have sa2 := sa.out.below (w' := w2) (B' := B) ⟨hbw3.os.trans hbw.out.os.symm, hbw3.tape.trans hbw.out.tape.symm, hbw3.output.trans hbw.out.output.symm, by omega, fun i hi => (hbw3.block i hi).trans (hbw.out.block i hi).symm⟩ (Nat.le_refl _)
          have sb2 := sb.out.below (w' := w2) (B' := B) ⟨hbw3.os.trans hbw.out.os.symm, hbw3.tape.trans hbw.out.tape.symm, hbw3.output.trans hbw.out.output.symm, by omega, fun i hi => (hbw3.block i hi).trans (hbw.out.block i hi).symm⟩ (Nat.le_refl _)
          have hg2 : w2.heap[g]? = _ := (hbw2.block g hgl).trans hg1.out
          replace hown2 := Lib.hid hown2
          replace hbw3 := Lib.hid hbw3
          replace hg2 := Lib.hid hg2
          replace sa2 := Lib.hid sa2
          replace sb2 := Lib.hid sb2
          clear hbw2 hown1
          go_wp2_with fail
          go_roundw
          case rel =>
            refine ⟨_, n1 - 1, _, a2, _, 0, c2, [], out ++ Ser.emit (lastV out) s.1 (s.2 + y), s.2, y, a2.length + [].length, rfl, by omega, by omega, ?_, (fun q hq => p1 q (by simp [hq])), rfl, by omega, by omega, ?_, p2, hown2.out, rfl, rfl, vs.out, vy.out, rfl, by have := emit_len (lastV out) s.1 (s.2 + y); have hk := hk.out; simp at hk ⊢; omega, HS.out.1, hbw3.out, _, hg2.out, by rw [HS.out.2]⟩
            · (first | exact sa2.out.tail | exact sa2.out.none_ (by omega))
            · exact sb2.out
          case measure => simp; omega
      | cons r b2 =>
        obtain ⟨ad1, hA1, k0, k1⟩ := ha.head
        subst hA1
        have sa := ha
        replace ha := Lib.hid ha
        have g1 : 0 < n1 := by simp at la; omega
        have d1 : decide ((0 : Int) < n1) = true := by simp; omega
        have vs : IsVal s.2 := p1 s (by simp)
        obtain ⟨ad2, hA2, q0, q1⟩ := hb.head
        subst hA2
        have sb := hb
        replace hb := Lib.hid hb
        have g2 : 0 < n2 := by simp at lb; omega
        have d2 : decide ((0 : Int) < n2) = true := by simp; omega
        have d3 : ((n2 : Int) == 0) = false := by simp; omega
        have vr : IsVal r.2 := p2 r (by simp)
        by_cases hc : s.1 < r.1
        · skip
          have HS : Hid (C = (out ++ Ser.emit (lastV out) s.1 (s.2 + y)) ++ Ser.mrg (fun x y => x + y) (a2.length + (r :: b2).length) a2 (r :: b2) s.2 y (lastV (out ++ Ser.emit (lastV out) s.1 (s.2 + y))) ∧ O = ((fl || !Ser.okVal (s.2 + y)) || Ser.outs (fun x y => x + y) (a2.length + (r :: b2).length) a2 (r :: b2) s.2 y)) := by
            obtain ⟨k, rfl⟩ : ∃ k', k = k' + 1 := ⟨k - 1, by simp at hk; omega⟩
            have hk2 : a2.length + (r :: b2).length = k := by simp at hk ⊢; omega
            have e1 := hX.out
            have e2 := hF.out
            simp only [Ser.outs] at e2
            simp only [Ser.mrg] at e1
            rw [if_pos hc] at e1
            rw [if_pos hc] at e2
            refine ⟨?_, ?_⟩
            · rw [lastV_emit, e1, hk2, List.append_assoc]
            · rw [e2, hk2, Bool.or_assoc]
          replace sa := Lib.hid sa
          replace sb := Lib.hid sb
          replace vs := Lib.hid vs
          replace vr := Lib.hid vr
          replace la := Lib.hid la
          replace lb := Lib.hid lb
          replace hk := Lib.hid hk
          have d4 : (s.1 == r.1) = false := by simp; omega
          have d5 : (r.1 == s.1) = false := by simp; omega
          go_wp2_with fail
          go_quiet (fail)
          go_wp2_with fail
          all_goals (go_quiet (fail))
          all_goals (go_wp2_with fail)
          all_goals
            refine (addFn_any s.2 y fl g (wr.drewN _) hg.out vs.out.1 vs.out.2 vy.out.1 vy.out.2).mono ?_
            rintro e w1 ⟨rfl, hg1, hk1⟩
            have hbw1 : Below B w w1 := (below_drewN hbw.out _).grown hk1 (by have := hbw.out.size; show B ≤ wr.heap.size; omega) (fun k hk => by cases hk; exact hB)
            have hs1 : wr.heap.size ≤ w1.heap.size := hk1.size
            have hown1 := SOwn.far (w := wr.drewN _) hown.out hk1 hgl
            replace hg1 := Lib.hid hg1
            clear hk1
            replace hbw1 := Lib.hid hbw1
            go_wp2_with fail
            refine (put_any w.heap.size _ out s.1 (s.2 + y) w1 hown1 (by have := hbw.out.size; omega) (by omega)).mono ?_
            rintro e w2 ⟨v2, rfl, hown2, hbw2⟩
            have hs2 := hbw2.size
            have hbw3 : Below B w w2 := hbw1.out.trans (hbw2.mono hBw)
            have sa2 := sa.out.below (w' := w2) (B' := B) ⟨hbw3.os.trans hbw.out.os.symm, hbw3.tape.trans hbw.out.tape.symm, hbw3.output.trans hbw.out.output.symm, by omega, fun i hi => (hbw3.block i hi).trans (hbw.out.block i hi).symm⟩ (Nat.le_refl _)
            have sb2 := sb.out.below (w' := w2) (B' := B) ⟨hbw3.os.trans hbw.out.os.symm, hbw3.tape.trans hbw.out.tape.symm, hbw3.output.trans hbw.out.output.symm, by omega, fun i hi => (hbw3.block i hi).trans (hbw.out.block i hi).symm⟩ (Nat.le_refl _)
            have hg2 : w2.heap[g]? = _ := (hbw2.block g hgl).trans hg1.out
            replace hown2 := Lib.hid hown2
            replace hbw3 := Lib.hid hbw3
            replace hg2 := Lib.hid hg2
            replace sa2 := Lib.hid sa2
            replace sb2 := Lib.hid sb2
            clear hbw2 hown1
            go_wp2_with fail
            go_roundw
            case rel =>
              refine ⟨_, n1 - 1, _, a2, _, n2, c2, (r :: b2), out ++ Ser.emit (lastV out) s.1 (s.2 + y), s.2, y, a2.length + (r :: b2).length, rfl, by omega, by omega, ?_, (fun q hq => p1 q (by simp [hq])), rfl, by omega, by omega, ?_, p2, hown2.out, rfl, rfl, vs.out, vy.out, rfl, by have := emit_len (lastV out) s.1 (s.2 + y); have hk := hk.out; simp at hk ⊢; omega, HS.out.1, hbw3.out, _, hg2.out, by rw [HS.out.2]⟩
              · (first | exact sa2.out.tail | exact sa2.out.none_ (by omega))
              · exact sb2.out
            case measure => simp; omega
        · by_cases hc2 : r.1 < s.1
          · have hc := hc2
            have HS : Hid (C = (out ++ Ser.emit (lastV out) r.1 (x + r.2)) ++ Ser.mrg (fun x y => x + y) ((s :: a2).length + b2.length) (s :: a2) b2 x r.2 (lastV (out ++ Ser.emit (lastV out) r.1 (x + r.2))) ∧ O = ((fl || !Ser.okVal (x + r.2)) || Ser.outs (fun x y => x + y) ((s :: a2).length + b2.length) (s :: a2) b2 x r.2)) := by
              obtain ⟨k, rfl⟩ : ∃ k', k = k' + 1 := ⟨k - 1, by simp at hk; omega⟩
              have hk2 : (s :: a2).length + b2.length = k := by simp at hk ⊢; omega
              have e1 := hX.out
              have e2 := hF.out
              simp only [Ser.outs] at e2
              simp only [Ser.mrg] at e1
              rw [if_neg (show ¬ s.1 < r.1 by omega), if_pos hc] at e1
              rw [if_neg (show ¬ s.1 < r.1 by omega), if_pos hc] at e2
              refine ⟨?_, ?_⟩
              · rw [lastV_emit, e1, hk2, List.append_assoc]
              · rw [e2, hk2, Bool.or_assoc]
            replace sa := Lib.hid sa
            replace sb := Lib.hid sb
            replace vs := Lib.hid vs
            replace vr := Lib.hid vr
            replace la := Lib.hid la
            replace lb := Lib.hid lb
            replace hk := Lib.hid hk
            have d4 : (s.1 == r.1) = false := by simp; omega
            have d5 : (r.1 == s.1) = false := by simp; omega
            go_wp2_with fail
            go_quiet (fail)
            go_wp2_with fail
            all_goals (go_quiet (fail))
            all_goals (go_wp2_with fail)
            all_goals
              refine (addFn_any x r.2 fl g (wr.drewN _) hg.out vx.out.1 vx.out.2 vr.out.1 vr.out.2).mono ?_
              rintro e w1 ⟨rfl, hg1, hk1⟩
              have hbw1 : Below B w w1 := (below_drewN hbw.out _).grown hk1 (by have := hbw.out.size; show B ≤ wr.heap.size; omega) (fun k hk => by cases hk; exact hB)
              have hs1 : wr.heap.size ≤ w1.heap.size := hk1.size
              have hown1 := SOwn.far (w := wr.drewN _) hown.out hk1 hgl
              replace hg1 := Lib.hid hg1
              clear hk1
              replace hbw1 := Lib.hid hbw1
              go_wp2_with fail
              refine (put_any w.heap.size _ out r.1 (x + r.2) w1 hown1 (by have := hbw.out.size; omega) (by omega)).mono ?_
              rintro e w2 ⟨v2, rfl, hown2, hbw2⟩
              have hs2 := hbw2.size
              have hbw3 : Below B w w2 := hbw1.out.trans (hbw2.mono hBw)
              have sa2 := sa.out.below (w' := w2) (B' := B) ⟨hbw3.os.trans hbw.out.os.symm, hbw3.tape.trans hbw.out.tape.symm, hbw3.output.trans hbw.out.output.symm, by omega, fun i hi => (hbw3.block i hi).trans (hbw.out.block i hi).symm⟩ (Nat.le_refl _)
              have sb2 := sb.out.below (w' := w2) (B' := B) ⟨hbw3.os.trans hbw.out.os.symm, hbw3.tape.trans hbw.out.tape.symm, hbw3.output.trans hbw.out.output.symm, by omega, fun i hi => (hbw3.block i hi).trans (hbw.out.block i hi).symm⟩ (Nat.le_refl _)
              have hg2 : w2.heap[g]? = _ := (hbw2.block g hgl).trans hg1.out
              replace hown2 := Lib.hid hown2
              replace hbw3 := Lib.hid hbw3
              replace hg2 := Lib.hid hg2
              replace sa2 := Lib.hid sa2
              replace sb2 := Lib.hid sb2
              clear hbw2 hown1
              go_wp2_with fail
              go_roundw
              case rel =>
                refine ⟨_, n1, c1, (s :: a2), _, n2 - 1, _, b2, out ++ Ser.emit (lastV out) r.1 (x + r.2), x, r.2, (s :: a2).length + b2.length, rfl, by omega, by omega, ?_, p1, rfl, by omega, by omega, ?_, (fun q hq => p2 q (by simp [hq])), hown2.out, rfl, rfl, vx.out, vr.out, rfl, by have := emit_len (lastV out) r.1 (x + r.2); have hk := hk.out; simp at hk ⊢; omega, HS.out.1, hbw3.out, _, hg2.out, by rw [HS.out.2]⟩
                · exact sa2.out
                · (first | exact sb2.out.tail | exact sb2.out.none_ (by omega))
              case measure => simp; omega
          · skip
            have HS : Hid (C = (out ++ Ser.emit (lastV out) s.1 (s.2 + r.2)) ++ Ser.mrg (fun x y => x + y) (a2.length + b2.length) a2 b2 s.2 r.2 (lastV (out ++ Ser.emit (lastV out) s.1 (s.2 + r.2))) ∧ O = ((fl || !Ser.okVal (s.2 + r.2)) || Ser.outs (fun x y => x + y) (a2.length + b2.length) a2 b2 s.2 r.2)) := by
              obtain ⟨k, rfl⟩ : ∃ k', k = k' + 1 := ⟨k - 1, by simp at hk; omega⟩
              have hk2 : a2.length + b2.length + 1 = k := by simp at hk ⊢; omega
              have e1 := hX.out
              have e2 := hF.out
              simp only [Ser.outs] at e2
              simp only [Ser.mrg] at e1
              rw [if_neg (show ¬ s.1 < r.1 by omega), if_neg (show ¬ r.1 < s.1 by omega)] at e1
              rw [if_neg (show ¬ s.1 < r.1 by omega), if_neg (show ¬ r.1 < s.1 by omega)] at e2
              refine ⟨?_, ?_⟩
              · rw [lastV_emit, e1, ← hk2, Ser.mrg_fuel _ (a2.length + b2.length + 1) (a2.length + b2.length) _ _ _ _ _ (Nat.le_succ _) (Nat.le_refl _), List.append_assoc]
              · rw [e2, ← hk2, Ser.outs_fuel _ (a2.length + b2.length + 1) (a2.length + b2.length) _ _ _ _ (Nat.le_succ _) (Nat.le_refl _), Bool.or_assoc]
            replace sa := Lib.hid sa
            replace sb := Lib.hid sb
            replace vs := Lib.hid vs
            replace vr := Lib.hid vr
            replace la := Lib.hid la
            replace lb := Lib.hid lb
            replace hk := Lib.hid hk
            have d4 : (s.1 == r.1) = true := by simp; omega
            have d5 : (r.1 == s.1) = true := by simp; omega
            go_wp2_with fail
            go_quiet (fail)
            go_wp2_with fail
            all_goals (go_quiet (fail))
            all_goals (go_wp2_with fail)
            all_goals (go_quiet (fail))
            all_goals (go_wp2_with fail)
            all_goals
              refine (addFn_any s.2 r.2 fl g (wr.drewN _) hg.out vs.out.1 vs.out.2 vr.out.1 vr.out.2).mono ?_
              rintro e w1 ⟨rfl, hg1, hk1⟩
              have hbw1 : Below B w w1 := (below_drewN hbw.out _).grown hk1 (by have := hbw.out.size; show B ≤ wr.heap.size; omega) (fun k hk => by cases hk; exact hB)
              have hs1 : wr.heap.size ≤ w1.heap.size := hk1.size
              have hown1 := SOwn.far (w := wr.drewN _) hown.out hk1 hgl
              replace hg1 := Lib.hid hg1
              clear hk1
              replace hbw1 := Lib.hid hbw1
              go_wp2_with fail
              refine (put_any w.heap.size _ out s.1 (s.2 + r.2) w1 hown1 (by have := hbw.out.size; omega) (by omega)).mono ?_
              rintro e w2 ⟨v2, rfl, hown2, hbw2⟩
              have hs2 := hbw2.size
              have hbw3 : Below B w w2 := hbw1.out.trans (hbw2.mono hBw)
              have sa2 := sa.out.below (w' := w2) (B' := B) ⟨hbw3.os.trans hbw.out.os.symm, hbw3.tape.trans hbw.out.tape.symm, hbw3.output.trans hbw.out.output.symm, by omega, fun i hi => (hbw3.block i hi).trans (hbw.out.block i hi).symm⟩ (Nat.le_refl _)
              have sb2 := sb.out.below (w' := w2) (B' := B) ⟨hbw3.os.trans hbw.out.os.symm, hbw3.tape.trans hbw.out.tape.symm, hbw3.output.trans hbw.out.output.symm, by omega, fun i hi => (hbw3.block i hi).trans (hbw.out.block i hi).symm⟩ (Nat.le_refl _)
              have hg2 : w2.heap[g]? = _ := (hbw2.block g hgl).trans hg1.out
              replace hown2 := Lib.hid hown2
              replace hbw3 := Lib.hid hbw3
              replace hg2 := Lib.hid hg2
              replace sa2 := Lib.hid sa2
              replace sb2 := Lib.hid sb2
              clear hbw2 hown1
              go_wp2_with fail
              go_roundw
              case rel =>
                refine ⟨_, n1 - 1, _, a2, _, n2 - 1, _, b2, out ++ Ser.emit (lastV out) s.1 (s.2 + r.2), s.2, r.2, a2.length + b2.length, rfl, by omega, by omega, ?_, (fun q hq => p1 q (by simp [hq])), rfl, by omega, by omega, ?_, (fun q hq => p2 q (by simp [hq])), hown2.out, rfl, rfl, vs.out, vr.out, rfl, by have := emit_len (lastV out) s.1 (s.2 + r.2); have hk := hk.out; simp at hk ⊢; omega, HS.out.1, hbw3.out, _, hg2.out, by rw [HS.out.2]⟩
                · (first | exact sa2.out.tail | exact sa2.out.none_ (by omega))
                · (first | exact sb2.out.tail | exact sb2.out.none_ (by omega))
              case measure => simp; omega
end Go.Proofs.Ytljagdfgfgpdbaa
