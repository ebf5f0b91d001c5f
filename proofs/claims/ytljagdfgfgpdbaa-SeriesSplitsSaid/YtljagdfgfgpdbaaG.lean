/- Series: Clip, walked: the program's. -/
import Derived.Test.YtljagdfgfgpdbaaF
import Derived.Deep.RegionHeld3
set_option linter.unusedVariables false
namespace Go.Proofs.Ytljagdfgfgpdbaa
open Go.RowKit
theorem region_st {P : Program} {id : Nat} {Q : Exit → Act → World → Prop} {a : Act} {w : World} {l : List Oper} (p : World → Prop) (n : Nat) (hm : P.follows .mixedOrders = true)
    (hB : Region.lexTailB .any l.toArray n = true) (hp : p w.drew)
    (h : ∀ w2, p w2 → wpStill P l.toArray w2 (fun a' => wpList P l.toArray Q (l.drop n) a' w2) (l.take n) a) : (Code.region id l.toArray true).wp P Q a w :=
  wp_region_still_tail n hm hB (h _ hp)
def clipF (l : List Ser.Step) (F T : Int) : List Ser.Step × Int :=
  if Ser.valid l ≠ 0 then ([], Ser.valid l) else if isSpan F T = false then ([], 2) else pack 0 (Ser.clip l F T)
def lastD (d : Int) (l : List Ser.Step) : Int := match l.getLast? with | some s => s.2 | none => d
theorem lastD_append (d : Int) (a b : List Ser.Step) : lastD d (a ++ b) = lastD (lastD d a) b := by
  unfold lastD
  cases h : b.getLast? with
  | none =>
    have : b = [] := by simpa using h
    subst this
    simp
  | some s => simp [List.getLast?_append, h]
theorem lastD_norm : ∀ (l : List Ser.Step) (d : Int), lastD d (Ser.norm d l) = lastD d l
  | [], _ => rfl
  | s :: r, d => by
    simp only [Ser.norm]
    rw [lastD_append]
    have e : lastD d (Ser.emit d s.1 s.2) = s.2 := by
      unfold Ser.emit
      split
      · rename_i h; simp [lastD, h]
      · simp [lastD]
    rw [e, lastD_norm r s.2, ← List.singleton_append, lastD_append]
    simp [lastD]
theorem norm_append : ∀ (a : List Ser.Step) (d : Int) (b : List Ser.Step), Ser.norm d (a ++ b) = Ser.norm d a ++ Ser.norm (lastD d a) b
  | [], _, _ => rfl
  | s :: r, d, b => by
    simp only [List.cons_append, Ser.norm]
    rw [norm_append r s.2 b, List.append_assoc, ← List.singleton_append (l := r), lastD_append]
    simp [lastD]
theorem norm_snoc (a : List Ser.Step) (s : Ser.Step) : Ser.norm 0 (a ++ [s]) = Ser.norm 0 a ++ Ser.emit (lastV (Ser.norm 0 a)) s.1 s.2 := by
  rw [norm_append]
  have : lastV (Ser.norm 0 a) = lastD 0 a := lastD_norm a 0
  rw [this]
  simp [Ser.norm]
theorem take_snoc (l : List Ser.Step) (k : Nat) (h : k < l.length) : l.take (k + 1) = l.take k ++ [l[k]] := by rw [List.take_succ_eq_append_getElem h]
theorem mid_yes (F T : Int) (l : List Ser.Step) (k : Nat) (h : k < l.length) (h1 : F < (l[k]).1) (h2 : (l[k]).1 < T) : Ser.mid F T (l.take (k + 1)) = Ser.mid F T (l.take k) ++ [l[k]] := by
  rw [take_snoc l k h]; unfold Ser.mid; rw [List.filter_append]; simp [h1, h2]
theorem mid_no (F T : Int) (l : List Ser.Step) (k : Nat) (h : k < l.length) (h1 : ¬ (F < (l[k]).1 ∧ (l[k]).1 < T)) : Ser.mid F T (l.take (k + 1)) = Ser.mid F T (l.take k) := by
  rw [take_snoc l k h]; unfold Ser.mid; rw [List.filter_append]
  have : List.filter (fun s => decide (F < s.1) && decide (s.1 < T)) [l[k]] = [] := by simp; omega
  rw [this]; simp
theorem norm_len (l : List Ser.Step) : (Ser.norm 0 l).length ≤ l.length := Ser.norm_length l 0
theorem mid_len (F T : Int) (l : List Ser.Step) : (Ser.mid F T l).length ≤ l.length := List.length_filter_le _ _
theorem alloc_step {w wr : World} {B : Nat} (h : Below B w wr) (hB : B ≤ w.heap.size) (o : Obj) : Below B w (wr.alloc o) := h.alloc (Nat.le_trans hB h.size) o
set_option maxRecDepth 100000 in
set_option maxHeartbeats 2000000 in
theorem clip_any (A : Option Addr) (l : List Ser.Step) (n c : Nat) (F T : Int) (w : World) (ha : SAt w w.heap.size A n l) (h1 : n ≤ c) (m1 : c ≤ maxLen) :
    Calls Try.prog 17 #[.slice A n c, .agg #[.int .i64 F, .int .i64 T]] w fun e w' => ∃ v, e = .returned (.tuple #[v, .int .i64 (clipF l F T).2]) ∧ SOwn w' w.heap.size v (clipF l F T).1 ∧ Below w.heap.size w w' := by
  have la := Lib.hid ha.len
  have mn : n ≤ maxLen := Nat.le_trans h1 m1
  generalize hW0 : w.alloc (.cells #[.int .i64 F, .int .i64 T] 31) = W0
  have hw0 : Below w.heap.size w W0 := by rw [← hW0]; exact (Below.refl _ _).alloc (Nat.le_refl _) _
  have hs0 : W0.heap.size = w.heap.size + 1 := by rw [← hW0]; simp
  have z0 : W0.cell? ⟨w.heap.size, 0, none⟩ = some (.int .i64 F) := by rw [← hW0]; simp
  have z1 : W0.cell? ⟨w.heap.size, 1, none⟩ = some (.int .i64 T) := by rw [← hW0]; simp
  replace hW0 := Lib.hid hW0
  have ha0 := Lib.hid (ha.more hw0)
  replace ha := Lib.hid ha
  replace hw0 := Lib.hid hw0
  replace hs0 := Lib.hid hs0
  replace z0 := Lib.hid z0
  replace z1 := Lib.hid z1
  generalize hG : w.heap.size = G at *
  replace hG := Lib.hid hG
  have kz : ∀ wr, Below W0.heap.size W0 wr → wr.cell? ⟨G, 0, none⟩ = some (.int .i64 F) ∧ wr.cell? ⟨G, 1, none⟩ = some (.int .i64 T) := fun wr h =>
    ⟨by rw [h.cell (by rw [hs0.out]; simp)]; exact z0.out, by rw [h.cell (by rw [hs0.out]; simp)]; exact z1.out⟩
  replace kz := Lib.hid kz
  have fin : ∀ wr, Below W0.heap.size W0 wr → Below G w wr := fun wr h => hw0.out.trans (h.mono (by rw [hs0.out]; omega))
  replace fin := Lib.hid fin
  by_cases hv : Ser.valid l = 0
  · obtain ⟨pa, l1⟩ := Ser.valid_asc hv
    have hmono := Lib.hid (asc_mono l _ pa).2
    by_cases hsp : isSpan F T = true
    · have hF : Hid (clipF l F T = pack 0 (Ser.clip l F T)) := by show _ = _; rw [clipF, hv, hsp]; rfl
      obtain ⟨sp1, sp2, sp3⟩ : 0 ≤ F ∧ F ≤ T ∧ T ≤ 268435456 := by simp [isSpan] at hsp; omega
      replace hv := Lib.hid hv
      replace hsp := Lib.hid hsp
      replace pa := Lib.hid pa
      have l1' : n ≤ 512 := by have := la.out; omega
      go_enter Try.func17, Try.ntmps17
      go_wp2_with fail
      simp only [hG.out, hW0.out]
      refine (valid_any A l n c _ ha0.out mn).mono ?_
      rintro e w1 ⟨rfl, hb1⟩
      rw [hv.out]
      obtain ⟨y0, y1⟩ := kz.out _ hb1
      have hs1 := hb1.size
      replace hb1 := Lib.hid hb1
      go_wp2_with fail
      refine (isSpan_any F T _).mono ?_
      rintro e w2 ⟨rfl, hb2⟩
      rw [hsp.out]
      clear y0 y1
      replace hb2 := hb1.out.trans (hb2.mono hs1)
      clear hb1 hs1
      obtain ⟨y0, y1⟩ := kz.out _ hb2
      have ha2 := Lib.hid (ha0.out.more hb2)
      replace hb2 := Lib.hid hb2
      by_cases hFT : F = T
      · have hF2 : Hid (clipF l F T = ([], 0)) := by show _ = _; rw [hF.out, Ser.clip, if_pos hFT]; rfl
        have hd : (F == T) = true := by simpa using hFT
        have hd2 : ¬ F < T := by omega
        replace hFT := Lib.hid hFT
        go_wp2_with fail
        go_ret2
        exact ⟨_, by rw [hF2.out]; rfl, by rw [hF2.out]; exact SOwn.nil _ _, fin.out _ hb2.out⟩
      · have hd : (F == T) = false := by simpa using hFT
        have hd2 : F < T := by omega
        have hC : Hid (Ser.clip l F T = Ser.norm 0 ((F, Ser.at_ l F) :: (Ser.mid F T l ++ [(T, 0)]))) := by show _ = _; rw [Ser.clip, if_neg hFT]
        replace hFT := Lib.hid hFT
        go_wp2_with fail
        go_region_held3 (fun w' => w'.cell? ⟨G, 0, none⟩ = some (.int .i64 F))
          (first
            | go_keep
            | (exact (kz.out _ hb3.out).1)
            | (exact (kz.out _ hb4.out).1))
          (first
            | (go_at_call 24; refine (at_any A l n c F _ (ha0.out.more (below_drewN hb2.out _)) (by omega)).mono ?_; rintro e w3 ⟨x, rfl, hx, hb3⟩; replace hx := Lib.hid (hx hmono.out); replace hb3 := Lib.hid ((below_drewN hb2.out _).trans (hb3.mono (by exact hb2.out.size))); rw [hx.out])
            | (go_at_call 39; refine (put_any W0.heap.size _ [] F (Ser.at_ l F) _ (SOwn.nil _ _) hb3.out.size (by simp)).mono ?_; rintro e w4 ⟨v4, rfl, hown4, hb4⟩; replace hb4 := Lib.hid (hb3.out.trans hb4); replace hown4 := Lib.hid hown4))
        have hst : Hid (SOwn w4 W0.heap.size v4 (Ser.norm 0 ((F, Ser.at_ l F) :: Ser.mid F T (l.take 0)))) := by show SOwn _ _ _ _; have := hown4.out; simpa [Ser.norm, Ser.mid, lastV] using this
        clear hown4
        generalize hx0 : Ser.at_ l F = x0 at *
        go_wp2_with fail
        go_loopw [7, 32] (fun v i wr => ∃ k : Nat, k ≤ n ∧ i = .int .i64 k ∧ SOwn wr W0.heap.size v (Ser.norm 0 ((F, x0) :: Ser.mid F T (l.take k))) ∧ Below W0.heap.size W0 wr) (fun _ i _ => n - (intOf i).toNat)
        case atStart => exact ⟨0, Nat.zero_le _, rfl, hst.out, hb4.out⟩
        case round =>
          obtain ⟨k, hk, rfl, hown, hb⟩ := hrel
          clear hst hb4
          have y := kz.out _ hb
          obtain ⟨y0, y1⟩ := y
          have hs := hb.size
          have har := ha0.out.more hb
          replace hb := Lib.hid hb
          replace hown := Lib.hid hown
          by_cases hlt : k < n
          · have hkl : k < l.length := by have := la.out; omega
            obtain ⟨ad, hA, hblk, c0, c1⟩ := har.at_ hlt
            subst hA
            replace har := Lib.hid har
            have hyes := Lib.hid (mid_yes F T l k hkl)
            have hno := Lib.hid (mid_no F T l k hkl)
            have hlen : Hid ((Ser.norm 0 ((F, x0) :: Ser.mid F T (l.take k))).length ≤ 1000000) := by
              show _ ≤ _
              have h1 := norm_len ((F, x0) :: Ser.mid F T (l.take k))
              have h2 := mid_len F T (l.take k)
              simp only [List.length_cons, List.length_take] at h1 h2
              omega
            have hsn := Lib.hid (norm_snoc ((F, x0) :: Ser.mid F T (l.take k)) l[k])
            have eK : Hid ((l[k]).1 = (l[k]).1) := rfl
            generalize hq : l[k] = q at *
            obtain ⟨t, x⟩ := q
            simp only at c0 c1
            have hbn : Below W0.heap.size W0 (wr.alloc (.cells #[.int .i64 t, .int .i64 x] 29)) := alloc_step hb.out (Nat.le_refl _) _
            have yn := kz.out _ hbn
            obtain ⟨yn0, yn1⟩ := yn
            replace hbn := Lib.hid hbn
            have hownn := Lib.hid (World.ownsRow.alloc hown.out (.cells #[.int .i64 t, .int .i64 x] 29))
            by_cases hin : F < t ∧ t < T
            · obtain ⟨i1, i2⟩ := hin
              go_wp2_with fail
              refine (put_any W0.heap.size _ (Ser.norm 0 ((F, x0) :: Ser.mid F T (l.take k))) t x _ hownn.out (by simp; omega) hlen.out).mono ?_
              rintro e w5 ⟨v5, rfl, hown5, hb5⟩
              replace hb5 := Lib.hid (hbn.out.trans hb5)
              replace hown5 := Lib.hid hown5
              go_wp2_with fail
              go_roundw
              case rel => exact ⟨k + 1, by omega, by go_num, by rw [hyes.out i1 i2, ← List.cons_append, hsn.out]; exact hown5.out, hb5.out⟩
              case measure => simp [intOf]; omega
            · rcases (show t ≤ F ∨ (F < t ∧ T ≤ t) by omega) with i1 | ⟨i1, i2⟩
              all_goals
                go_wp2_with fail
                go_roundw
                case rel => exact ⟨k + 1, by omega, by go_num, by rw [hno.out (by first | omega | (simp only; omega))]; exact hownn.out, hbn.out⟩
                case measure => simp [intOf]; omega
          · have hkn : k = n := by omega
            have htk : Hid (l.take k = l) := by show _ = _; rw [List.take_of_length_le (by have := la.out; omega)]
            have hlen : Hid ((Ser.norm 0 ((F, x0) :: Ser.mid F T (l.take k))).length ≤ 1000000) := by
              show _ ≤ _
              have h1 := norm_len ((F, x0) :: Ser.mid F T (l.take k))
              have h2 := mid_len F T (l.take k)
              simp only [List.length_cons, List.length_take] at h1 h2
              omega
            have hsn := Lib.hid (norm_snoc ((F, x0) :: Ser.mid F T (l.take k)) (T, 0))
            replace hkn := Lib.hid hkn
            clear har
            go_wp2_with fail
            refine (put_any W0.heap.size _ (Ser.norm 0 ((F, x0) :: Ser.mid F T (l.take k))) T 0 _ hown.out hb.out.size hlen.out).mono ?_
            rintro e w5 ⟨v5, rfl, hown5, hb5⟩
            replace hb5 := Lib.hid (hb.out.trans hb5)
            have hown : SOwn w5 G v5 (Ser.clip l F T) := by
              rw [hC.out]
              rw [htk.out] at hsn hown5
              rw [← List.cons_append, hsn.out]
              exact SOwn.mono hown5 (by rw [hs0.out]; omega)
            clear hown5 hC hsn hlen htk y0 y1 hb
            generalize Ser.clip l F T = C at *
            obtain ⟨A3, c3, rfl, hc31, hc32, _, _⟩ := hown.form
            replace hown := Lib.hid hown
            by_cases hl : C.length ≤ 512
            · have hF2 : Hid (clipF l F T = (C, 0)) := by show _ = _; rw [hF.out, pack, if_neg (by simp), if_neg (by omega)]
              go_wp2_with fail
              refine (limited_yes A3 C.length c3 _ hl).mono ?_
              rintro e wz ⟨rfl, rfl⟩
              go_wp2_with fail
              go_ret2
              exact ⟨_, by rw [hF2.out]; rfl, by rw [hF2.out]; exact hown.out, fin.out _ hb5.out⟩
            · have hF2 : Hid (clipF l F T = ([], 3)) := by show _ = _; rw [hF.out, pack, if_neg (by simp), if_pos (by omega)]
              go_wp2_with fail
              refine (limited_no A3 C.length c3 _ (by omega)).mono ?_
              rintro e wz ⟨rfl, rfl⟩
              go_wp2_with fail
              go_ret2
              exact ⟨_, by rw [hF2.out]; rfl, by rw [hF2.out]; exact SOwn.nil _ _, fin.out _ hb5.out⟩
    · have hsp' : isSpan F T = false := by simpa using hsp
      have hF : Hid (clipF l F T = ([], 2)) := by show _ = _; rw [clipF, hv, hsp']; rfl
      clear hsp
      replace hv := Lib.hid hv
      replace hsp' := Lib.hid hsp'
      go_enter Try.func17, Try.ntmps17
      go_wp2_with fail
      simp only [hG.out, hW0.out]
      refine (valid_any A l n c _ ha0.out mn).mono ?_
      rintro e w1 ⟨rfl, hb1⟩
      rw [hv.out]
      obtain ⟨y0, y1⟩ := kz.out _ hb1
      have hs1 := hb1.size
      replace hb1 := Lib.hid hb1
      go_wp2_with fail
      refine (isSpan_any F T _).mono ?_
      rintro e w2 ⟨rfl, hb2⟩
      rw [hsp'.out]
      clear y0 y1
      replace hb2 := Lib.hid (hb1.out.trans (hb2.mono hs1))
      go_wp2_with fail
      go_ret2
      exact ⟨_, by rw [hF.out]; rfl, by rw [hF.out]; exact SOwn.nil _ _, fin.out _ hb2.out⟩
  · have hd : (Ser.valid l != 0) = true := by simpa using hv
    have hd2 : (Ser.valid l == 0) = false := by simpa using hv
    have hF : Hid (clipF l F T = ([], Ser.valid l)) := by show _ = _; rw [clipF, if_pos hv]
    replace hv := Lib.hid hv
    go_enter Try.func17, Try.ntmps17
    go_wp2_with fail
    simp only [hG.out, hW0.out]
    refine (valid_any A l n c _ ha0.out mn).mono ?_
    rintro e w1 ⟨rfl, hb1⟩
    replace hb1 := Lib.hid hb1
    generalize Ser.valid l = ev at *
    go_wp2_with fail
    go_ret2
    exact ⟨_, by rw [hF.out]; rfl, by rw [hF.out]; exact SOwn.nil _ _, fin.out _ hb1.out⟩
end Go.Proofs.Ytljagdfgfgpdbaa
