/- Series: the law Splits, walked. -/
import Derived.Test.YtljagdfgfgpdbaaM
set_option linter.unusedVariables false
namespace Go.Proofs.Ytljagdfgfgpdbaa
open Go.RowKit
set_option maxRecDepth 100000 in
set_option maxHeartbeats 4000000 in
theorem lawSplits (A1 A2 : Option Addr) (a b : List Ser.Step) (n1 c1 n2 c2 : Nat) (F T m : Int) (w : World) (ha : SAt w w.heap.size A1 n1 a) (hb : SAt w w.heap.size A2 n2 b) (h1 : n1 ≤ c1) (h2 : n2 ≤ c2) (m1 : c1 ≤ maxLen) (m2 : c2 ≤ maxLen) :
    Calls Try.prog 9 #[.slice A1 n1 c1, .slice A2 n2 c2, .agg #[.int .i64 F, .int .i64 T], .int .i64 m] w fun e w' => e = .returned (.bool true) ∧ Below w.heap.size w w' := by
  replace ha := Lib.hid (ha.more (a1 w (.cells #[.int .i64 F, .int .i64 T] 31)))
  replace hb := Lib.hid (hb.more (a1 w (.cells #[.int .i64 F, .int .i64 T] 31)))
  have kz : ∀ wr, Below (w.alloc (.cells #[.int .i64 F, .int .i64 T] 31)).heap.size (w.alloc (.cells #[.int .i64 F, .int .i64 T] 31)) wr → wr.cell? ⟨w.heap.size, 0, none⟩ = some (.int .i64 F) ∧ wr.cell? ⟨w.heap.size, 1, none⟩ = some (.int .i64 T) := fun wr h =>
    ⟨by rw [h.cell (by simp)]; simp, by rw [h.cell (by simp)]; simp⟩
  have hWw : Below w.heap.size w (w.alloc (.cells #[.int .i64 F, .int .i64 T] 31)) := a1 _ _
  replace kz := Lib.hid kz
  replace hWw := Lib.hid hWw
  by_cases hl1 : 600 < n1
  · go_enter Try.func9, Try.ntmps9
    go_wp2_with fail
    refine (example_any _).mono ?_
    rintro e w9 ⟨rfl, hb9⟩
    replace hb9 := Lib.hid (hWw.out.trans (hb9.mono hWw.out.size))
    go_wp2_with fail
    go_ret
    exact ⟨rfl, hb9.out⟩
  by_cases hl2 : 600 < n2
  · go_enter Try.func9, Try.ntmps9
    go_wp2_with fail
    refine (example_any _).mono ?_
    rintro e w9 ⟨rfl, hb9⟩
    replace hb9 := Lib.hid (hWw.out.trans (hb9.mono hWw.out.size))
    go_wp2_with fail
    go_ret
    exact ⟨rfl, hb9.out⟩
  by_cases hm1 : m < F
  · go_enter Try.func9, Try.ntmps9
    go_wp2_with fail
    refine (example_any _).mono ?_
    rintro e w9 ⟨rfl, hb9⟩
    replace hb9 := Lib.hid (hWw.out.trans (hb9.mono hWw.out.size))
    go_wp2_with fail
    go_ret
    exact ⟨rfl, hb9.out⟩
  by_cases hm2 : T < m
  · have hm3 : F ≤ m := by omega
    go_enter Try.func9, Try.ntmps9
    go_wp2_with fail
    refine (example_any _).mono ?_
    rintro e w9 ⟨rfl, hb9⟩
    replace hb9 := Lib.hid (hWw.out.trans (hb9.mono hWw.out.size))
    go_wp2_with fail
    go_ret
    exact ⟨rfl, hb9.out⟩
  have k1 : F ≤ m := by omega
  have k2 : m ≤ T := by omega
  clear hm1 hm2
  have g0 := Lib.hid (fun h => enerF_ok (l := a) (F := F) (T := T) h)
  have g1 := Lib.hid (fun h => enerF_ok (l := a) (F := F) (T := m) h)
  have g2 := Lib.hid (fun h => enerF_ok (l := a) (F := m) (T := T) h)
  have gA : Ser.valid a = 0 → Ser.valid b = 0 → (addF a b).2 = 0 → Good (addF a b).1 (fun u => Ser.at_ a u + Ser.at_ b u) := fun va vb h => addF_ok va vb h
  have gV : (addF a b).2 = 0 → Ser.valid a = 0 ∧ Ser.valid b = 0 := fun h => by
    unfold addF at h
    by_cases va : Ser.valid a = 0
    · by_cases vb : Ser.valid b = 0
      · exact ⟨va, vb⟩
      · rw [if_neg (by simp [va]), if_pos vb] at h; exact absurd h vb
    · rw [if_pos va] at h; exact absurd h va
  replace gA := Lib.hid gA
  replace gV := Lib.hid gV
  go_enter Try.func9, Try.ntmps9
  go_wp2_with fail
  have hB : Below (w.alloc (.cells #[.int .i64 F, .int .i64 T] 31)).heap.size (w.alloc (.cells #[.int .i64 F, .int .i64 T] 31)) (w.alloc (.cells #[.int .i64 F, .int .i64 T] 31)) := Below.refl _ _
  replace hB := Lib.hid hB
  refine (energy_any A1 a n1 c1 F T _ (ha.out.more hB.out) h1 m1).mono ?_
  rintro e w1 ⟨rfl, hb3⟩
  replace hB := hB.out.trans (hb3.mono hB.out.size)
  obtain ⟨y0, y1⟩ := kz.out _ hB
  generalize hW : w.alloc (.cells #[.int .i64 F, .int .i64 T] 31) = W at *
  replace hW := Lib.hid hW
  replace hB := Lib.hid hB
  clear hb3
  have q0 : Hid ((enerF a F T).2 = 0 → Ser.valid a = 0 ∧ isSpan F T = true ∧ (enerF a F T).1 = Ser.over (Ser.at_ a) F T ∧ -9223372036854775808 ≤ (enerF a F T).1 ∧ (enerF a F T).1 ≤ 9223372036854775807) := g0.out
  generalize (enerF a F T).1 = R0 at *
  generalize (enerF a F T).2 = E0 at *
  go_wp2_with fail
  refine (energy_any A1 a n1 c1 F m _ (ha.out.more hB.out) h1 m1).mono ?_
  rintro e w2 ⟨rfl, hb3⟩
  clear y0 y1
  replace hB := hB.out.trans (hb3.mono hB.out.size)
  obtain ⟨y0, y1⟩ := kz.out _ hB
  replace hB := Lib.hid hB
  clear hb3
  have q1 : Hid ((enerF a F m).2 = 0 → Ser.valid a = 0 ∧ isSpan F m = true ∧ (enerF a F m).1 = Ser.over (Ser.at_ a) F m ∧ -9223372036854775808 ≤ (enerF a F m).1 ∧ (enerF a F m).1 ≤ 9223372036854775807) := g1.out
  generalize (enerF a F m).1 = R1 at *
  generalize (enerF a F m).2 = E1 at *
  go_wp2_with fail
  refine (energy_any A1 a n1 c1 m T _ (ha.out.more hB.out) h1 m1).mono ?_
  rintro e w3 ⟨rfl, hb3⟩
  clear y0 y1
  replace hB := hB.out.trans (hb3.mono hB.out.size)
  replace hB := Lib.hid hB
  clear hb3
  have q2 : Hid ((enerF a m T).2 = 0 → Ser.valid a = 0 ∧ isSpan m T = true ∧ (enerF a m T).1 = Ser.over (Ser.at_ a) m T ∧ -9223372036854775808 ≤ (enerF a m T).1 ∧ (enerF a m T).1 ≤ 9223372036854775807) := g2.out
  generalize (enerF a m T).1 = R2 at *
  generalize (enerF a m T).2 = E2 at *
  clear g0 g1 g2
  go_upto_region 6 with (fail)
  go_cut [80] (fun s80 wx => s80 = .bool false ∧ Below W.heap.size W wx)
  case first =>
    by_cases h0 : E0 = 0
    · by_cases hh1 : E1 = 0
      · by_cases hh2 : E2 = 0
        · obtain ⟨_, _, e0, b0, b0'⟩ := q0.out h0
          obtain ⟨_, _, e1, _⟩ := q1.out hh1
          obtain ⟨_, _, e2, _⟩ := q2.out hh2
          have hs := Ser.over_split (g := Ser.at_ a) k1 k2
          have hsum : R1 + R2 = R0 := by omega
          subst h0 hh1 hh2
          have hd : (R0 != R1 + R2) = false := by simp [hsum]
          have b1 : -9223372036854775808 ≤ R1 + R2 := by omega
          have b2 : R1 + R2 ≤ 9223372036854775807 := by omega
          clear e0 e1 e2 hs q0 q1 q2
          replace hsum := Lib.hid hsum
          go_wp2_with fail
          go_meet
          exact ⟨rfl, hB.out⟩
        · have hd : (E2 == 0) = false := by simpa using hh2
          subst h0 hh1
          replace hh2 := Lib.hid hh2
          go_wp2_with fail
          go_meet
          exact ⟨rfl, hB.out⟩
      · have hd : (E1 == 0) = false := by simpa using hh1
        subst h0
        replace hh1 := Lib.hid hh1
        go_wp2_with fail
        go_meet
        exact ⟨rfl, hB.out⟩
    · have hd : (E0 == 0) = false := by simpa using h0
      replace h0 := Lib.hid h0
      go_wp2_with fail
      go_meet
      exact ⟨rfl, hB.out⟩
  case rest =>
    obtain ⟨rfl, hB⟩ := hcut
    clear q1 q2
    replace hB := Lib.hid hB
    go_wp2_with fail
    refine (add_any A1 A2 a b n1 c1 n2 c2 _ (ha.out.more hB.out) (hb.out.more hB.out) h1 h2 m1 m2).mono ?_
    rintro e w5 ⟨v5, rfl, ho5, hb3⟩
    obtain ⟨A5, c5, rfl, ms5, ks5, hs5⟩ := own_at ho5 rfl
    replace hs5 := Lib.hid hs5
    replace hB := hB.out.trans (hb3.mono hB.out.size)
    clear hb3 ho5
    obtain ⟨y0, y1⟩ := kz.out _ hB
    replace hB := Lib.hid hB
    generalize (addF a b).1 = R at *
    generalize (addF a b).2 = E at *
    by_cases hE : E = 0
    · obtain ⟨va, vb⟩ := gV.out hE
      have g := gA.out va vb hE
      subst hE
      by_cases h0 : E0 = 0
      · obtain ⟨_, hsp, e0, b0, b0'⟩ := q0.out h0
        subst h0
        have gat := Lib.hid g.at_
        clear g gA gV q0
        replace va := Lib.hid va
        replace vb := Lib.hid vb
        replace e0 := Lib.hid e0
        replace hsp := Lib.hid hsp
        go_wp2_with fail
        refine (energy_any A2 b n2 c2 F T _ (hb.out.more hB.out) h2 m2).mono ?_
        rintro e w6 ⟨rfl, hb3⟩
        have hs6 := Lib.hid (hs5.out.more hb3)
        clear y0 y1
        replace hB := hB.out.trans (hb3.mono hB.out.size)
        obtain ⟨y0, y1⟩ := kz.out _ hB
        replace hB := Lib.hid hB
        clear hb3 hs5
        have q3 : Hid ((enerF b F T).2 = 0 → Ser.valid b = 0 ∧ isSpan F T = true ∧ (enerF b F T).1 = Ser.over (Ser.at_ b) F T ∧ -9223372036854775808 ≤ (enerF b F T).1 ∧ (enerF b F T).1 ≤ 9223372036854775807) := enerF_ok
        generalize (enerF b F T).1 = R3 at *
        generalize (enerF b F T).2 = E3 at *
        go_wp2_with fail
        refine (energy_any A5 R R.length c5 F T _ hs6.out (by omega) (by omega)).mono ?_
        rintro e w7 ⟨rfl, hb3⟩
        replace hB := Lib.hid (hB.out.trans (hb3.mono hB.out.size))
        clear hb3 y0 y1
        have q4 : Hid ((enerF R F T).2 = 0 → Ser.valid R = 0 ∧ isSpan F T = true ∧ (enerF R F T).1 = Ser.over (Ser.at_ R) F T ∧ -9223372036854775808 ≤ (enerF R F T).1 ∧ (enerF R F T).1 ≤ 9223372036854775807) := enerF_ok
        generalize (enerF R F T).1 = R4 at *
        generalize (enerF R F T).2 = E4 at *
        by_cases hh3 : E3 = 0
        · by_cases hh4 : E4 = 0
          · obtain ⟨_, _, e3, _⟩ := q3.out hh3
            obtain ⟨_, _, e4, b4, b4'⟩ := q4.out hh4
            have hs : Ser.over (Ser.at_ R) F T = Ser.over (Ser.at_ a) F T + Ser.over (Ser.at_ b) F T := by
              unfold Ser.over
              rw [← Ser.sum_add]
              exact Ser.sum_congr _ _ (fun u _ _ => gat.out u)
            have e00 := e0.out
            have hsum : R0 + R3 = R4 := by omega
            subst hh3 hh4
            have hd : (R4 == R0 + R3) = true := by simp [hsum]
            have z1 : -9223372036854775808 ≤ R0 + R3 := by omega
            have z2 : R0 + R3 ≤ 9223372036854775807 := by omega
            clear e3 e4 hs q3 q4 e00
            replace hsum := Lib.hid hsum
            go_wp2_with fail
            refine (example_any _).mono ?_
            rintro e w9 ⟨rfl, hb9⟩
            replace hb9 := Lib.hid (hB.out.trans (hb9.mono hB.out.size))
            go_wp2_with fail
            go_ret
            exact ⟨rfl, hWw.out.trans (hb9.out.mono hWw.out.size)⟩
          · have hd : (E4 != 0) = true := by simpa using hh4
            have hd2 : (E4 == 0) = false := by simpa using hh4
            subst hh3
            replace hh4 := Lib.hid hh4
            go_wp2_with fail
            refine (example_any _).mono ?_
            rintro e w9 ⟨rfl, hb9⟩
            replace hb9 := Lib.hid (hB.out.trans (hb9.mono hB.out.size))
            go_wp2_with fail
            go_ret
            exact ⟨rfl, hWw.out.trans (hb9.out.mono hWw.out.size)⟩
        · have hd : (E3 != 0) = true := by simpa using hh3
          have hd2 : (E3 == 0) = false := by simpa using hh3
          replace hh3 := Lib.hid hh3
          go_wp2_with fail
          refine (example_any _).mono ?_
          rintro e w9 ⟨rfl, hb9⟩
          replace hb9 := Lib.hid (hB.out.trans (hb9.mono hB.out.size))
          go_wp2_with fail
          go_ret
          exact ⟨rfl, hWw.out.trans (hb9.out.mono hWw.out.size)⟩
      · have hd : (E0 != 0) = true := by simpa using h0
        have hd2 : (E0 == 0) = false := by simpa using h0
        clear q0 g
        replace h0 := Lib.hid h0
        go_wp2_with fail
        refine (example_any _).mono ?_
        rintro e w9 ⟨rfl, hb9⟩
        replace hb9 := Lib.hid (hB.out.trans (hb9.mono hB.out.size))
        go_wp2_with fail
        go_ret
        exact ⟨rfl, hWw.out.trans (hb9.out.mono hWw.out.size)⟩
    · have hd : (E != 0) = true := by simpa using hE
      have hd2 : (E == 0) = false := by simpa using hE
      clear q0
      replace hE := Lib.hid hE
      go_wp2_with fail
      refine (example_any _).mono ?_
      rintro e w9 ⟨rfl, hb9⟩
      replace hb9 := Lib.hid (hB.out.trans (hb9.mono hB.out.size))
      go_wp2_with fail
      go_ret
      exact ⟨rfl, hWw.out.trans (hb9.out.mono hWw.out.size)⟩
end Go.Proofs.Ytljagdfgfgpdbaa
