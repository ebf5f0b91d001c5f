/- Series: Clip, walked: the reference's. -/
import Derived.Test.YtljagdfgfgpdbaaG
set_option linter.unusedVariables false
namespace Go.Proofs.Ytljagdfgfgpdbaa
open Go.RowKit
set_option maxRecDepth 100000 in
set_option maxHeartbeats 2000000 in
theorem rclip_any (A : Option Addr) (l : List Ser.Step) (n c : Nat) (F T : Int) (w : World) (ha : SAt w w.heap.size A n l) (h1 : n ≤ c) (m1 : c ≤ maxLen) :
    Calls Try.prog 18 #[.slice A n c, .agg #[.int .i64 F, .int .i64 T]] w fun e w' => ∃ v, e = .returned (.tuple #[v, .int .i64 (clipF l F T).2]) ∧ SOwn w' w.heap.size v (clipF l F T).1 ∧ Below w.heap.size w w' := by
  have la := Lib.hid ha.len
  have mn : n ≤ maxLen := Nat.le_trans h1 m1
  generalize hW0 : w.alloc (.cells #[.int .i64 F, .int .i64 T] 31) = W0
  have hw0 : Below w.heap.size w W0 := by rw [← hW0]; exact (Below.refl _ _).alloc (Nat.le_refl _) _
  have hs0 : W0.heap.size = w.heap.size + 1 := by rw [← hW0]; simp
  have z0 : W0.cell? ⟨w.heap.size, 0, none⟩ = some (.int .i64 F) := by rw [← hW0]; simp
  have z1 : W0.cell? ⟨w.heap.size, 1, none⟩ = some (.int .i64 T) := by rw [← hW0]; simp
  replace hW0 := Lib.hid hW0
  have ha0 := Lib.hid (ha.more hw0)
  replace ha := Lib.hid ha
  replace hw0 := Lib.hid hw0
  replace hs0 := Lib.hid hs0
  replace z0 := Lib.hid z0
  replace z1 := Lib.hid z1
  generalize hG : w.heap.size = G at *
  replace hG := Lib.hid hG
  have kz : ∀ wr, Below W0.heap.size W0 wr → wr.cell? ⟨G, 0, none⟩ = some (.int .i64 F) ∧ wr.cell? ⟨G, 1, none⟩ = some (.int .i64 T) := fun wr h =>
    ⟨by rw [h.cell (by rw [hs0.out]; simp)]; exact z0.out, by rw [h.cell (by rw [hs0.out]; simp)]; exact z1.out⟩
  replace kz := Lib.hid kz
  have fin : ∀ wr, Below W0.heap.size W0 wr → Below G w wr := fun wr h => hw0.out.trans (h.mono (by rw [hs0.out]; omega))
  replace fin := Lib.hid fin
  by_cases hv : Ser.valid l = 0
  · obtain ⟨pa, l1⟩ := Ser.valid_asc hv
    have hmono := Lib.hid (asc_mono l _ pa).2
    by_cases hsp : isSpan F T = true
    · have hF : Hid (clipF l F T = pack 0 (Ser.clip l F T)) := by show _ = _; rw [clipF, hv, hsp]; rfl
      obtain ⟨sp1, sp2, sp3⟩ : 0 ≤ F ∧ F ≤ T ∧ T ≤ 268435456 := by simp [isSpan] at hsp; omega
      replace hv := Lib.hid hv
      replace hsp := Lib.hid hsp
      replace pa := Lib.hid pa
      have l1' : n ≤ 512 := by have := la.out; omega
      go_enter Try.func18, Try.ntmps18
      go_wp2_with fail
      simp only [hG.out, hW0.out]
      refine (rvalid_any A l n c _ ha0.out mn).mono ?_
      rintro e w1 ⟨rfl, hb1⟩
      rw [hv.out]
      obtain ⟨y0, y1⟩ := kz.out _ hb1
      have hs1 := hb1.size
      replace hb1 := Lib.hid hb1
      go_wp2_with fail
      refine (rspan_any F T _).mono ?_
      rintro e w2 ⟨rfl, hb2⟩
      rw [hsp.out]
      clear y0 y1
      replace hb2 := hb1.out.trans (hb2.mono hs1)
      clear hb1 hs1
      obtain ⟨y0, y1⟩ := kz.out _ hb2
      have ha2 := Lib.hid (ha0.out.more hb2)
      replace hb2 := Lib.hid hb2
      by_cases hFT : F = T
      · have hF2 : Hid (clipF l F T = ([], 0)) := by show _ = _; rw [hF.out, Ser.clip, if_pos hFT]; rfl
        have hd : (F == T) = true := by simpa using hFT
        have hd2 : ¬ F < T := by omega
        replace hFT := Lib.hid hFT
        go_wp2_with fail
        refine (rlimited_yes none 0 0 _ (by omega)).mono ?_
        rintro e wz ⟨rfl, rfl⟩
        go_wp2_with fail
        go_ret2
        exact ⟨_, by rw [hF2.out]; rfl, by rw [hF2.out]; exact SOwn.nil _ _, fin.out _ hb2.out⟩
      · have hd : (F == T) = false := by simpa using hFT
        have hd2 : F < T := by omega
        have hC : Hid (Ser.clip l F T = Ser.norm 0 ((F, Ser.at_ l F) :: (Ser.mid F T l ++ [(T, 0)]))) := by show _ = _; rw [Ser.clip, if_neg hFT]
        replace hFT := Lib.hid hFT
        go_wp2_with fail
        refine region_st (fun wz => wz.cell? ⟨G, 0, none⟩ = some (.int .i64 F) ∧ SAt wz wz.heap.size A n l ∧ Below W0.heap.size W0 wz) 7 (by kernel_rfl) (by kernel_rfl) ⟨y0, ha2.out, hb2.out.drew⟩ ?_
        clear y0 y1 ha2 hb2
        intro w3 ⟨y0, ha3, hb3⟩
        replace ha3 := Lib.hid ha3
        replace hb3 := Lib.hid hb3
        simp only [List.take_succ_cons, List.take_zero, List.drop_succ_cons, List.drop_zero]
        repeat still_step
        still_call ((rat_any A l n c F _ ha3.out (by omega)).mono fun e w' h => ⟨h.1, h.2.symm⟩)
        repeat still_step
        refine wpStill_nil ?_
        go_wp2_with fail
        refine (rput_any W0.heap.size _ [] F (Ser.at_ l F) _ (SOwn.nil _ _) hb3.out.size (by simp)).mono ?_
        rintro e w4 ⟨v4, rfl, hown4, hb4⟩
        replace hb4 := Lib.hid (hb3.out.trans hb4)
        replace hown4 := Lib.hid hown4
        clear y0
        have hst : Hid (SOwn w4 W0.heap.size v4 (Ser.norm 0 ((F, Ser.at_ l F) :: Ser.mid F T (l.take 0)))) := by show SOwn _ _ _ _; have := hown4.out; simpa [Ser.norm, Ser.mid, lastV] using this
        clear hown4
        generalize hx0 : Ser.at_ l F = x0 at *
        go_wp2_with fail
        go_loopw [7, 8] (fun v i wr => ∃ k : Nat, k ≤ n ∧ i = .int .i64 k ∧ SOwn wr W0.heap.size v (Ser.norm 0 ((F, x0) :: Ser.mid F T (l.take k))) ∧ Below W0.heap.size W0 wr) (fun _ i _ => n - (intOf i).toNat)
        case atStart => exact ⟨0, Nat.zero_le _, rfl, hst.out, hb4.out⟩
        case round =>
          obtain ⟨k, hk, rfl, hown, hb⟩ := hrel
          clear hst hb4
          have y := kz.out _ hb
          obtain ⟨y0, y1⟩ := y
          have hs := hb.size
          have har := ha0.out.more hb
          replace hb := Lib.hid hb
          replace hown := Lib.hid hown
          by_cases hlt : k < n
          · have hkl : k < l.length := by have := la.out; omega
            obtain ⟨ad, hA, hblk, c0, c1⟩ := har.at_ hlt
            subst hA
            replace har := Lib.hid har
            have hyes := Lib.hid (mid_yes F T l k hkl)
            have hno := Lib.hid (mid_no F T l k hkl)
            have hlen : Hid ((Ser.norm 0 ((F, x0) :: Ser.mid F T (l.take k))).length ≤ 1000000) := by
              show _ ≤ _
              have h1 := norm_len ((F, x0) :: Ser.mid F T (l.take k))
              have h2 := mid_len F T (l.take k)
              simp only [List.length_cons, List.length_take] at h1 h2
              omega
            have hsn := Lib.hid (norm_snoc ((F, x0) :: Ser.mid F T (l.take k)) l[k])
            have eK : Hid ((l[k]).1 = (l[k]).1) := rfl
            generalize hq : l[k] = q at *
            obtain ⟨t, x⟩ := q
            simp only at c0 c1
            by_cases hin : F < t ∧ t < T
            · obtain ⟨i1, i2⟩ := hin
              have d1 : decide (F < t) = true := by simpa using i1
              go_wp2_with fail
              go_quiet (fail)
              go_wp2_with fail
              refine region_st (fun wz => wz.cell? (ad.add (k * 2)) = some (.int .i64 t) ∧ wz.cell? ⟨(ad.add (k * 2)).block, (ad.add (k * 2)).off + 1, none⟩ = some (.int .i64 x) ∧ SOwn wz W0.heap.size _ (Ser.norm 0 ((F, x0) :: Ser.mid F T (l.take k))) ∧ Below W0.heap.size W0 wz) 11 (by kernel_rfl) (by kernel_rfl) ⟨c0, c1, hown.out, (below_drewN hb.out _).drew⟩ ?_
              clear c0 c1 hown hb y0 y1
              intro w3 ⟨c0, c1, hown, hb⟩
              replace hown := Lib.hid hown
              replace hb := Lib.hid hb
              simp only [List.take_succ_cons, List.take_zero, List.drop_succ_cons, List.drop_zero]
              repeat still_step
              refine wpStill_nil ?_
              go_wp2_with fail
              refine (rput_any W0.heap.size _ (Ser.norm 0 ((F, x0) :: Ser.mid F T (l.take k))) t x _ hown.out hb.out.size hlen.out).mono ?_
              rintro e w5 ⟨v5, rfl, hown5, hb5⟩
              replace hb5 := Lib.hid (hb.out.trans hb5)
              replace hown5 := Lib.hid hown5
              go_wp2_with fail
              go_roundw
              case rel => exact ⟨k + 1, by omega, by go_num, by rw [hyes.out i1 i2, ← List.cons_append, hsn.out]; exact hown5.out, hb5.out⟩
              case measure => simp [intOf]; omega
            · by_cases i1 : F < t
              · have d1 : decide (F < t) = true := by simpa using i1
                have i2 : T ≤ t := by omega
                go_wp2_with fail
                go_quiet (fail)
                go_wp2_with fail
                go_roundw
                case rel => exact ⟨k + 1, by omega, by go_num, by rw [hno.out (by first | omega | (simp only; omega))]; exact hown.out, below_drewN hb.out _⟩
                case measure => simp [intOf]; omega
              · have d1 : decide (F < t) = false := by simpa using i1
                go_wp2_with fail
                go_quiet (fail)
                go_wp2_with fail
                go_roundw
                case rel => exact ⟨k + 1, by omega, by go_num, by rw [hno.out (by first | omega | (simp only; omega))]; exact hown.out, below_drewN hb.out _⟩
                case measure => simp [intOf]; omega
          · have hkn : k = n := by omega
            have htk : Hid (l.take k = l) := by show _ = _; rw [List.take_of_length_le (by have := la.out; omega)]
            have hlen : Hid ((Ser.norm 0 ((F, x0) :: Ser.mid F T (l.take k))).length ≤ 1000000) := by
              show _ ≤ _
              have h1 := norm_len ((F, x0) :: Ser.mid F T (l.take k))
              have h2 := mid_len F T (l.take k)
              simp only [List.length_cons, List.length_take] at h1 h2
              omega
            have hsn := Lib.hid (norm_snoc ((F, x0) :: Ser.mid F T (l.take k)) (T, 0))
            replace hkn := Lib.hid hkn
            clear har
            go_wp2_with fail
            refine (rput_any W0.heap.size _ (Ser.norm 0 ((F, x0) :: Ser.mid F T (l.take k))) T 0 _ hown.out hb.out.size hlen.out).mono ?_
            rintro e w5 ⟨v5, rfl, hown5, hb5⟩
            replace hb5 := Lib.hid (hb.out.trans hb5)
            have hown : SOwn w5 G v5 (Ser.clip l F T) := by
              rw [hC.out]
              rw [htk.out] at hsn hown5
              rw [← List.cons_append, hsn.out]
              exact SOwn.mono hown5 (by rw [hs0.out]; omega)
            clear hown5 hC hsn hlen htk y0 y1 hb
            generalize Ser.clip l F T = C at *
            obtain ⟨A3, c3, rfl, hc31, hc32, _, _⟩ := hown.form
            replace hown := Lib.hid hown
            by_cases hl : C.length ≤ 512
            · have hF2 : Hid (clipF l F T = (C, 0)) := by show _ = _; rw [hF.out, pack, if_neg (by simp), if_neg (by omega)]
              go_wp2_with fail
              refine (rlimited_yes A3 C.length c3 _ hl).mono ?_
              rintro e wz ⟨rfl, rfl⟩
              go_wp2_with fail
              go_ret2
              exact ⟨_, by rw [hF2.out]; rfl, by rw [hF2.out]; exact hown.out, fin.out _ hb5.out⟩
            · have hF2 : Hid (clipF l F T = ([], 3)) := by show _ = _; rw [hF.out, pack, if_neg (by simp), if_pos (by omega)]
              go_wp2_with fail
              refine (rlimited_no A3 C.length c3 _ (by omega)).mono ?_
              rintro e wz ⟨rfl, rfl⟩
              go_wp2_with fail
              go_ret2
              exact ⟨_, by rw [hF2.out]; rfl, by rw [hF2.out]; exact SOwn.nil _ _, fin.out _ hb5.out⟩
    · have hsp' : isSpan F T = false := by simpa using hsp
      have hF : Hid (clipF l F T = ([], 2)) := by show _ = _; rw [clipF, hv, hsp']; rfl
      clear hsp
      replace hv := Lib.hid hv
      replace hsp' := Lib.hid hsp'
      go_enter Try.func18, Try.ntmps18
      go_wp2_with fail
      simp only [hG.out, hW0.out]
      refine (rvalid_any A l n c _ ha0.out mn).mono ?_
      rintro e w1 ⟨rfl, hb1⟩
      rw [hv.out]
      obtain ⟨y0, y1⟩ := kz.out _ hb1
      have hs1 := hb1.size
      replace hb1 := Lib.hid hb1
      go_wp2_with fail
      refine (rspan_any F T _).mono ?_
      rintro e w2 ⟨rfl, hb2⟩
      rw [hsp'.out]
      clear y0 y1
      replace hb2 := Lib.hid (hb1.out.trans (hb2.mono hs1))
      go_wp2_with fail
      go_ret2
      exact ⟨_, by rw [hF.out]; rfl, by rw [hF.out]; exact SOwn.nil _ _, fin.out _ hb2.out⟩
  · have hd : (Ser.valid l != 0) = true := by simpa using hv
    have hd2 : (Ser.valid l == 0) = false := by simpa using hv
    have hF : Hid (clipF l F T = ([], Ser.valid l)) := by show _ = _; rw [clipF, if_pos hv]
    replace hv := Lib.hid hv
    go_enter Try.func18, Try.ntmps18
    go_wp2_with fail
    simp only [hG.out, hW0.out]
    refine (rvalid_any A l n c _ ha0.out mn).mono ?_
    rintro e w1 ⟨rfl, hb1⟩
    replace hb1 := Lib.hid hb1
    generalize Ser.valid l = ev at *
    go_wp2_with fail
    go_ret2
    exact ⟨_, by rw [hF.out]; rfl, by rw [hF.out]; exact SOwn.nil _ _, fin.out _ hb1.out⟩
end Go.Proofs.Ytljagdfgfgpdbaa
