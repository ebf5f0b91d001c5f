/- Series: Add and Least, the program's and the reference's, walked. -/
import Derived.Test.YtljagdfgfgpdbaaE
import Derived.Test.YtljagdfgfgpdbaaD2
set_option linter.unusedVariables false
namespace Go.Proofs.Ytljagdfgfgpdbaa
open Go.RowKit
theorem SOwn.mono {w : World} {base base' : Nat} {v : Value} {l : List Ser.Step} (h : SOwn w base v l) (hb : base' ≤ base) : SOwn w base' v l := by
  rcases h.2 with ⟨rfl, hl⟩ | ⟨g, c, cur, rfl, h1, h2⟩
  · exact ⟨h.1, .inl ⟨rfl, hl⟩⟩
  · exact ⟨h.1, .inr ⟨g, c, cur, rfl, by omega, h2⟩⟩
def pack (e : Int) (l : List Ser.Step) : List Ser.Step × Int := if e ≠ 0 then ([], e) else if 512 < l.length then ([], 3) else (l, 0)
def addF (a b : List Ser.Step) : List Ser.Step × Int :=
  if Ser.valid a ≠ 0 then ([], Ser.valid a) else if Ser.valid b ≠ 0 then ([], Ser.valid b) else
    pack (if Ser.wide (Ser.comb (fun x y => x + y) a b) then 2 else 0) (Ser.comb (fun x y => x + y) a b)
def leastF (a b : List Ser.Step) : List Ser.Step × Int :=
  if Ser.valid a ≠ 0 then ([], Ser.valid a) else if Ser.valid b ≠ 0 then ([], Ser.valid b) else pack 0 (Ser.comb (fun x y => min x y) a b)
def bothE (a b : List Ser.Step) : Int := if Ser.valid a ≠ 0 then Ser.valid a else Ser.valid b
theorem both_any (A1 A2 : Option Addr) (a b : List Ser.Step) (n1 c1 n2 c2 : Nat) (w : World) (ha : SAt w w.heap.size A1 n1 a) (hb : SAt w w.heap.size A2 n2 b) (h1 : n1 ≤ maxLen) (h2 : n2 ≤ maxLen) :
    Calls Try.prog 30 #[.slice A1 n1 c1, .slice A2 n2 c2] w fun e w' => e = .returned (.int .i64 (bothE a b)) ∧ Below w.heap.size w w' := by
  replace ha := Lib.hid ha
  replace hb := Lib.hid hb
  by_cases hv : Ser.valid a = 0
  · replace hv := Lib.hid hv
    go_enter Try.func30, Try.ntmps30
    go_wp2_with fail
    refine (valid_any A1 a n1 c1 _ ha.out h1).mono ?_
    rintro e w1 ⟨rfl, hb1⟩
    rw [hv.out]
    have hb2 := hb.out.more hb1
    replace hb1 := Lib.hid hb1
    go_wp2_with fail
    refine (valid_any A2 b n2 c2 _ hb2 h2).mono ?_
    rintro e w2 ⟨rfl, hb3⟩
    replace hb3 := Lib.hid (hb1.out.trans (hb3.mono hb1.out.size))
    go_wp2_with fail
    go_ret
    exact ⟨ret_int (by rw [bothE, hv.out]; rfl), hb3.out⟩
  · have hd : (Ser.valid a != 0) = true := by simpa using hv
    have hd2 : (Ser.valid a == 0) = false := by simpa using hv
    have he : Hid (bothE a b = Ser.valid a) := by show _ = _; rw [bothE, if_pos hv]
    replace hv := Lib.hid hv
    go_enter Try.func30, Try.ntmps30
    go_wp2_with fail
    refine (valid_any A1 a n1 c1 _ ha.out h1).mono ?_
    rintro e w1 ⟨rfl, hb1⟩
    replace hb1 := Lib.hid hb1
    go_wp2_with fail
    go_ret
    exact ⟨ret_int he.out.symm, hb1.out⟩
set_option maxRecDepth 100000 in
set_option maxHeartbeats 1000000 in
theorem add_any (A1 A2 : Option Addr) (a b : List Ser.Step) (n1 c1 n2 c2 : Nat) (w : World) (ha : SAt w w.heap.size A1 n1 a) (hb : SAt w w.heap.size A2 n2 b) (h1 : n1 ≤ c1) (h2 : n2 ≤ c2) (m1 : c1 ≤ maxLen) (m2 : c2 ≤ maxLen) :
    Calls Try.prog 12 #[.slice A1 n1 c1, .slice A2 n2 c2] w fun e w' => ∃ v, e = .returned (.tuple #[v, .int .i64 (addF a b).2]) ∧ SOwn w' w.heap.size v (addF a b).1 ∧ Below w.heap.size w w' := by
  have hmf : ∀ (fn : Fn) (first cap : Array Value) (w : World), (Instr.makeFunc fn first cap).run Try.prog w = .ok (.func fn first cap) w := fun _ _ _ _ => rfl
  have la := Lib.hid ha.len
  have lb := Lib.hid hb.len
  replace ha := Lib.hid ha
  replace hb := Lib.hid hb
  by_cases hv : bothE a b = 0
  · have hva : Ser.valid a = 0 := by unfold bothE at hv; by_cases h : Ser.valid a = 0; · exact h
                                     · rw [if_pos h] at hv; exact hv
    have hvb : Ser.valid b = 0 := by unfold bothE at hv; rwa [if_neg (by rw [hva]; simp)] at hv
    obtain ⟨pa, l1⟩ := Ser.valid_asc hva
    obtain ⟨pb, l2⟩ := Ser.valid_asc hvb
    have hF : Hid (addF a b = pack (if Ser.wide (Ser.comb (fun x y => x + y) a b) then 2 else 0) (Ser.comb (fun x y => x + y) a b)) := by show _ = _; rw [addF, hva, hvb]; rfl
    replace hv := Lib.hid hv
    replace hva := Lib.hid hva
    replace hvb := Lib.hid hvb
    replace pa := Lib.hid pa
    replace pb := Lib.hid pb
    have l1' : n1 ≤ 512 := by have := la.out; omega
    have l2' : n2 ≤ 512 := by have := lb.out; omega
    go_enter Try.func12, Try.ntmps12
    go_wp2_with fail
    refine (both_any A1 A2 a b n1 c1 n2 c2 _ ha.out hb.out (Nat.le_trans h1 m1) (Nat.le_trans h2 m2)).mono ?_
    rintro e w1 ⟨rfl, hb1⟩
    rw [hv.out]
    have ha1 := ha.out.below hb1 (Nat.le_refl _)
    have hb1' := hb.out.below hb1 (Nat.le_refl _)
    have hs1 := hb1.size
    replace hb1 := Lib.hid hb1
    go_wp2_with fail
    have hbo : Below w.heap.size w (w1.alloc (.cells #[.bool false] 4)) := hb1.out.alloc hs1 _
    refine (combineAdd A1 A2 a b n1 c1 n2 c2 w.heap.size _ w1.heap.size hs1 (heap_alloc_new _ _) (ha.out.below hbo (Nat.le_refl _)) (hb.out.below hbo (Nat.le_refl _)) (by simp; omega) h1 h2 l1' l2' m1 m2 pa.out.rng pb.out.rng).mono ?_
    rintro e w2 ⟨v, rfl, hown, hb2, hg⟩
    replace hb2 := Lib.hid (hbo.trans hb2)
    have hc0 : w2.cell? ⟨w1.heap.size, 0, none⟩ = some (.bool (Ser.outs (fun x y => x + y) (a.length + b.length) a b 0 0)) := by simp [World.cell?, hg]
    rw [Ser.outs_wide (fun x y => x + y) (a.length + b.length) a b 0 0 0 (by decide)] at hc0
    rw [show Ser.mrg (fun x y => x + y) (a.length + b.length) a b 0 0 0 = Ser.comb (fun x y => x + y) a b from rfl] at hc0
    clear hg hbo ha1 hb1'
    replace hown : SOwn w2 w.heap.size v (Ser.comb (fun x y => x + y) a b) := SOwn.mono hown (by simp; omega)
    generalize Ser.comb (fun x y => x + y) a b = C at *
    by_cases hw : Ser.wide C = true
    · have hF2 : Hid (addF a b = ([], 2)) := by show _ = _; rw [hF.out, hw]; rfl
      rw [hw] at hc0
      replace hown := Lib.hid hown
      replace hw := Lib.hid hw
      go_wp2_with fail
      go_ret2
      exact ⟨_, by rw [hF2.out]; rfl, by rw [hF2.out]; exact SOwn.nil _ _, hb2.out⟩
    · have hw' : Ser.wide C = false := by simpa using hw
      rw [hw'] at hc0
      replace hF : Hid (addF a b = pack 0 C) := by show _ = _; rw [hF.out, hw']; rfl
      replace hw' := Lib.hid hw'
      clear hw
      obtain ⟨A3, c3, rfl, hc31, hc32, _, _⟩ := hown.form
      replace hown := Lib.hid hown
      by_cases hl : C.length ≤ 512
      · have hF2 : Hid (addF a b = (C, 0)) := by show _ = _; rw [hF.out, pack, if_neg (by simp), if_neg (by omega)]
        go_wp2_with fail
        refine (limited_yes A3 C.length c3 _ hl).mono ?_
        rintro e wz ⟨rfl, rfl⟩
        go_wp2_with fail
        go_ret2
        exact ⟨_, by rw [hF2.out]; rfl, by rw [hF2.out]; exact hown.out, hb2.out⟩
      · have hF2 : Hid (addF a b = ([], 3)) := by show _ = _; rw [hF.out, pack, if_neg (by simp), if_pos (by omega)]
        go_wp2_with fail
        refine (limited_no A3 C.length c3 _ (by omega)).mono ?_
        rintro e wz ⟨rfl, rfl⟩
        go_wp2_with fail
        go_ret2
        exact ⟨_, by rw [hF2.out]; rfl, by rw [hF2.out]; exact SOwn.nil _ _, hb2.out⟩
  · have hd : (bothE a b != 0) = true := by simpa using hv
    have hd2 : (bothE a b == 0) = false := by simpa using hv
    have hF : Hid (addF a b = ([], bothE a b)) := by
      show _ = _
      unfold addF bothE
      by_cases h : Ser.valid a = 0
      · have hb0 : Ser.valid b ≠ 0 := by unfold bothE at hv; rwa [if_neg (by rw [h]; simp)] at hv
        simp [h, hb0]
      · simp [h]
    replace hv := Lib.hid hv
    go_enter Try.func12, Try.ntmps12
    go_wp2_with fail
    refine (both_any A1 A2 a b n1 c1 n2 c2 _ ha.out hb.out (Nat.le_trans h1 m1) (Nat.le_trans h2 m2)).mono ?_
    rintro e w1 ⟨rfl, hb1⟩
    replace hb1 := Lib.hid hb1
    generalize bothE a b = eb at *
    go_wp2_with fail
    go_ret2
    exact ⟨_, by rw [hF.out]; rfl, by rw [hF.out]; exact SOwn.nil _ _, hb1.out⟩
set_option maxRecDepth 100000 in
set_option maxHeartbeats 1000000 in
theorem least_any (A1 A2 : Option Addr) (a b : List Ser.Step) (n1 c1 n2 c2 : Nat) (w : World) (ha : SAt w w.heap.size A1 n1 a) (hb : SAt w w.heap.size A2 n2 b) (h1 : n1 ≤ c1) (h2 : n2 ≤ c2) (m1 : c1 ≤ maxLen) (m2 : c2 ≤ maxLen) :
    Calls Try.prog 15 #[.slice A1 n1 c1, .slice A2 n2 c2] w fun e w' => ∃ v, e = .returned (.tuple #[v, .int .i64 (leastF a b).2]) ∧ SOwn w' w.heap.size v (leastF a b).1 ∧ Below w.heap.size w w' := by
  have hmf : ∀ (fn : Fn) (first cap : Array Value) (w : World), (Instr.makeFunc fn first cap).run Try.prog w = .ok (.func fn first cap) w := fun _ _ _ _ => rfl
  have la := Lib.hid ha.len
  have lb := Lib.hid hb.len
  replace ha := Lib.hid ha
  replace hb := Lib.hid hb
  by_cases hv : bothE a b = 0
  · have hva : Ser.valid a = 0 := by unfold bothE at hv; by_cases h : Ser.valid a = 0; · exact h
                                     · rw [if_pos h] at hv; exact hv
    have hvb : Ser.valid b = 0 := by unfold bothE at hv; rwa [if_neg (by rw [hva]; simp)] at hv
    obtain ⟨pa, l1⟩ := Ser.valid_asc hva
    obtain ⟨pb, l2⟩ := Ser.valid_asc hvb
    have hF : Hid (leastF a b = pack 0 (Ser.comb (fun x y => min x y) a b)) := by show _ = _; rw [leastF, hva, hvb]; rfl
    replace hv := Lib.hid hv
    replace hva := Lib.hid hva
    replace hvb := Lib.hid hvb
    replace pa := Lib.hid pa
    replace pb := Lib.hid pb
    have l1' : n1 ≤ 512 := by have := la.out; omega
    have l2' : n2 ≤ 512 := by have := lb.out; omega
    go_enter Try.func15, Try.ntmps15
    go_wp2_with fail
    refine (both_any A1 A2 a b n1 c1 n2 c2 _ ha.out hb.out (Nat.le_trans h1 m1) (Nat.le_trans h2 m2)).mono ?_
    rintro e w1 ⟨rfl, hb1⟩
    rw [hv.out]
    have ha1 := ha.out.below hb1 (Nat.le_refl _)
    have hb1' := hb.out.below hb1 (Nat.le_refl _)
    have hs1 := hb1.size
    replace hb1 := Lib.hid hb1
    go_wp2_with fail
    refine (combineLeast A1 A2 a b n1 c1 n2 c2 w.heap.size w1 ha1 hb1' hs1 h1 h2 l1' l2' m1 m2 pa.out.rng pb.out.rng).mono ?_
    rintro e w2 ⟨v, rfl, hown, hb2⟩
    replace hb2 := Lib.hid (hb1.out.trans hb2)
    clear ha1 hb1'
    replace hown : SOwn w2 w.heap.size v (Ser.comb (fun x y => min x y) a b) := SOwn.mono hown hs1
    generalize Ser.comb (fun x y => min x y) a b = C at *
    obtain ⟨A3, c3, rfl, hc31, hc32, _, _⟩ := hown.form
    replace hown := Lib.hid hown
    by_cases hl : C.length ≤ 512
    · have hF2 : Hid (leastF a b = (C, 0)) := by show _ = _; rw [hF.out, pack, if_neg (by simp), if_neg (by omega)]
      go_wp2_with fail
      refine (limited_yes A3 C.length c3 _ hl).mono ?_
      rintro e wz ⟨rfl, rfl⟩
      go_wp2_with fail
      go_ret2
      exact ⟨_, by rw [hF2.out]; rfl, by rw [hF2.out]; exact hown.out, hb2.out⟩
    · have hF2 : Hid (leastF a b = ([], 3)) := by show _ = _; rw [hF.out, pack, if_neg (by simp), if_pos (by omega)]
      go_wp2_with fail
      refine (limited_no A3 C.length c3 _ (by omega)).mono ?_
      rintro e wz ⟨rfl, rfl⟩
      go_wp2_with fail
      go_ret2
      exact ⟨_, by rw [hF2.out]; rfl, by rw [hF2.out]; exact SOwn.nil _ _, hb2.out⟩
  · have hd : (bothE a b != 0) = true := by simpa using hv
    have hd2 : (bothE a b == 0) = false := by simpa using hv
    have hF : Hid (leastF a b = ([], bothE a b)) := by
      show _ = _
      unfold leastF bothE
      by_cases h : Ser.valid a = 0
      · have hb0 : Ser.valid b ≠ 0 := by unfold bothE at hv; rwa [if_neg (by rw [h]; simp)] at hv
        simp [h, hb0]
      · simp [h]
    replace hv := Lib.hid hv
    go_enter Try.func15, Try.ntmps15
    go_wp2_with fail
    refine (both_any A1 A2 a b n1 c1 n2 c2 _ ha.out hb.out (Nat.le_trans h1 m1) (Nat.le_trans h2 m2)).mono ?_
    rintro e w1 ⟨rfl, hb1⟩
    replace hb1 := Lib.hid hb1
    generalize bothE a b = eb at *
    go_wp2_with fail
    go_ret2
    exact ⟨_, by rw [hF.out]; rfl, by rw [hF.out]; exact SOwn.nil _ _, hb1.out⟩
end Go.Proofs.Ytljagdfgfgpdbaa
