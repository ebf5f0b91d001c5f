/- Series: the laws Pointwise and Splits, walked. -/
import Derived.Test.YtljagdfgfgpdbaaL
import Derived.Deep.DeepCutAuto
set_option linter.unusedVariables false
namespace Go.Proofs.Ytljagdfgfgpdbaa
open Go.RowKit
theorem outs_ok (f : Int → Int → Int) (hf : ∀ x y, Ser.okVal x = true → Ser.okVal y = true → Ser.okVal (f x y) = true) : ∀ (n : Nat) (a b : List Ser.Step) (x y : Int),
    (∀ s ∈ a, Ser.okVal s.2 = true) → (∀ s ∈ b, Ser.okVal s.2 = true) → Ser.okVal x = true → Ser.okVal y = true → Ser.outs f n a b x y = false
  | 0, _, _, _, _, _, _, _, _ => rfl
  | n + 1, [], [], _, _, _, _, _, _ => rfl
  | n + 1, s :: a, [], x, y, ha, hb, hx, hy => by
    simp only [Ser.outs]
    rw [hf _ _ (ha s (by simp)) hy, outs_ok f hf n a [] s.2 y (fun q hq => ha q (by simp [hq])) hb (ha s (by simp)) hy]; rfl
  | n + 1, [], r :: b, x, y, ha, hb, hx, hy => by
    simp only [Ser.outs]
    rw [hf _ _ hx (hb r (by simp)), outs_ok f hf n [] b x r.2 ha (fun q hq => hb q (by simp [hq])) hx (hb r (by simp))]; rfl
  | n + 1, s :: a, r :: b, x, y, ha, hb, hx, hy => by
    simp only [Ser.outs]
    split
    · rw [hf _ _ (ha s (by simp)) hy, outs_ok f hf n a (r :: b) s.2 y (fun q hq => ha q (by simp [hq])) hb (ha s (by simp)) hy]; rfl
    · split
      · rw [hf _ _ hx (hb r (by simp)), outs_ok f hf n (s :: a) b x r.2 ha (fun q hq => hb q (by simp [hq])) hx (hb r (by simp))]; rfl
      · rw [hf _ _ (ha s (by simp)) (hb r (by simp)), outs_ok f hf n a b s.2 r.2 (fun q hq => ha q (by simp [hq])) (fun q hq => hb q (by simp [hq])) (ha s (by simp)) (hb r (by simp))]; rfl
theorem ok_rng {l : List Ser.Step} (h : Ser.Rng l) : ∀ s ∈ l, Ser.okVal s.2 = true := fun s hs => by have := h s hs; simp [Ser.okVal, this.1, this.2]
/-- what the results are, where there is no error -/
structure Good (R : List Ser.Step) (g : Int → Int) : Prop where
  nrm : Ser.Nrm 0 R
  val : Ser.valid R = 0
  at_ : ∀ u, Ser.at_ R u = g u
theorem Good.len {R : List Ser.Step} {g : Int → Int} (h : Good R g) : R.length ≤ 512 := (Ser.valid_asc h.val).2
theorem Good.mono {R : List Ser.Step} {g : Int → Int} (h : Good R g) : Mono R := (asc_mono _ _ (Ser.valid_asc h.val).1).2
theorem pack_ok {e : Int} {C : List Ser.Step} (h : (pack e C).2 = 0) : e = 0 ∧ C.length ≤ 512 ∧ (pack e C).1 = C := by
  unfold pack at h ⊢
  by_cases he : e = 0
  · subst he
    simp only [ne_eq, not_true_eq_false, if_false] at h ⊢
    by_cases hl : 512 < C.length
    · rw [if_pos hl] at h; cases h
    · rw [if_neg hl]; exact ⟨by first | rfl | trivial, by omega, rfl⟩
  · rw [if_pos he] at h; exact absurd h he
theorem addF_ok {a b : List Ser.Step} (va : Ser.valid a = 0) (vb : Ser.valid b = 0) (h : (addF a b).2 = 0) : Good (addF a b).1 (fun u => Ser.at_ a u + Ser.at_ b u) := by
  have e : addF a b = pack (if Ser.wide (Ser.comb (fun x y => x + y) a b) then 2 else 0) (Ser.comb (fun x y => x + y) a b) := by rw [addF, va, vb]; rfl
  rw [e] at h ⊢
  obtain ⟨h1, h2, h3⟩ := pack_ok h
  rw [h3]
  have hw : Ser.wide (Ser.comb (fun x y => x + y) a b) = false := by
    cases hh : Ser.wide (Ser.comb (fun x y => x + y) a b) with
    | false => rfl
    | true => rw [hh] at h1; cases h1
  obtain ⟨i1, i2, i3⟩ := Ser.comb_all (fun x y => x + y) rfl (Ser.valid_asc va).1 (Ser.valid_asc vb).1
  exact ⟨i2, Ser.asc_valid (Ser.asc_of i1 (Ser.rng_of_wide hw)) h2, i3⟩
theorem leastF_ok {a b : List Ser.Step} (va : Ser.valid a = 0) (vb : Ser.valid b = 0) (h : (leastF a b).2 = 0) : Good (leastF a b).1 (fun u => min (Ser.at_ a u) (Ser.at_ b u)) := by
  have e : leastF a b = pack 0 (Ser.comb (fun x y => min x y) a b) := by rw [leastF, va, vb]; rfl
  rw [e] at h ⊢
  obtain ⟨h1, h2, h3⟩ := pack_ok h
  rw [h3]
  have hw : Ser.wide (Ser.comb (fun x y => min x y) a b) = false := by
    have := Ser.outs_wide (fun x y => min x y) (a.length + b.length) a b 0 0 0 (by decide)
    rw [outs_ok (fun x y => min x y) (fun x y hx hy => by simp [Ser.okVal] at *; omega) _ a b 0 0 (ok_rng (Ser.valid_asc va).1.rng) (ok_rng (Ser.valid_asc vb).1.rng) (by decide) (by decide)] at this
    exact this.symm
  obtain ⟨i1, i2, i3⟩ := Ser.comb_all (fun x y => min x y) rfl (Ser.valid_asc va).1 (Ser.valid_asc vb).1
  exact ⟨i2, Ser.asc_valid (Ser.asc_of i1 (Ser.rng_of_wide hw)) h2, i3⟩
theorem clipF_ok {l : List Ser.Step} {F T : Int} (va : Ser.valid l = 0) (h : (clipF l F T).2 = 0) : Good (clipF l F T).1 (fun u => if F ≤ u ∧ u < T then Ser.at_ l u else 0) := by
  have hs : isSpan F T = true := by
    cases hh : isSpan F T with
    | true => rfl
    | false => unfold clipF at h; rw [va, hh] at h; simp at h
  have e : clipF l F T = pack 0 (Ser.clip l F T) := by rw [clipF, va, hs]; rfl
  rw [e] at h ⊢
  obtain ⟨h1, h2, h3⟩ := pack_ok h
  rw [h3]
  obtain ⟨s1, s2, s3⟩ : 0 ≤ F ∧ F ≤ T ∧ T ≤ 268435456 := by simp [isSpan] at hs; omega
  obtain ⟨i1, i2, i3, i4⟩ := Ser.clip_all (Ser.valid_asc va).1 s1 s2 s3
  exact ⟨i2, Ser.asc_valid (Ser.asc_of i1 i3) h2, i4⟩
theorem shiftF_ok {l : List Ser.Step} {d : Int} (va : Ser.valid l = 0) (h : (shiftF l d).2 = 0) : Good (shiftF l d).1 (fun u => Ser.at_ l (u - d)) ∧ Ser.far d l = false := by
  have hf : Ser.far d l = false := by
    cases hh : Ser.far d l with
    | false => rfl
    | true => unfold shiftF at h; rw [va, hh] at h; simp at h
  have e : shiftF l d = (Ser.norm 0 (Ser.moved d l), 0) := by rw [shiftF, va, hf]; rfl
  rw [e]
  have ha := Ser.moved_asc0 d l (Ser.valid_asc va).1 hf
  obtain ⟨i1, i2, i3⟩ := Ser.norm_all (Ser.moved d l) 0 (-1) ha.tm
  refine ⟨⟨i2, Ser.asc_valid (Ser.asc_of i1 (Ser.norm_rng ha.rng)) ?_, fun u => ?_⟩, hf⟩
  · show (Ser.norm 0 (Ser.moved d l)).length ≤ 512
    have := norm_len (Ser.moved d l); have := moved_len l d; have := (Ser.valid_asc va).2; omega
  · show Ser.atR 0 _ u = _
    rw [i3, Ser.moved_at]; rfl
theorem shift_small {l : List Ser.Step} {d : Int} (va : Ser.valid l = 0) (h : Ser.far d l = false) (hl : l ≠ []) : -268435456 ≤ d ∧ d ≤ 268435456 := by
  cases l with
  | nil => exact absurd rfl hl
  | cons s r =>
    have h1 := (Ser.valid_asc va).1
    simp only [Ser.far, List.any_cons, Bool.or_eq_false_iff, decide_eq_false_iff_not] at h
    have := h1.1
    have := h1.2.1
    omega
theorem shift_nil {d : Int} : (shiftF [] d).1 = [] := by
  unfold shiftF
  simp [Ser.valid, Ser.vchk, Ser.far, Ser.moved, Ser.norm]
theorem enerF_ok {l : List Ser.Step} {F T : Int} (h : (enerF l F T).2 = 0) : Ser.valid l = 0 ∧ isSpan F T = true ∧ (enerF l F T).1 = Ser.over (Ser.at_ l) F T ∧ -9223372036854775808 ≤ (enerF l F T).1 ∧ (enerF l F T).1 ≤ 9223372036854775807 := by
  unfold enerF at h ⊢
  by_cases hv : Ser.valid l = 0
  · rw [if_neg (by simp [hv])] at h ⊢
    by_cases hs : isSpan F T = false
    · rw [if_pos hs] at h; cases h
    · rw [if_neg hs] at h ⊢
      have hs' : isSpan F T = true := by simpa using hs
      obtain ⟨s1, s2, s3⟩ : 0 ≤ F ∧ F ≤ T ∧ T ≤ 268435456 := by simp [isSpan] at hs'; omega
      split at h
      · cases h
      · rename_i hc
        rw [if_neg hc]
        refine ⟨hv, hs', Ser.ener_over (Ser.valid_asc hv).1.tm s2, ?_, ?_⟩
        · show -9223372036854775808 ≤ Ser.ener F T l; omega
        · show Ser.ener F T l ≤ _; omega
  · rw [if_pos hv] at h; exact absurd h hv
theorem nrm_step (l : List Ser.Step) (k : Nat) (h : k < l.length) (p : Int) (hp : Ser.Nrm p (l.drop k)) : (l[k]).2 ≠ p ∧ Ser.Nrm (l[k]).2 (l.drop (k + 1)) := by
  rw [List.drop_eq_getElem_cons h] at hp; exact hp
set_option maxRecDepth 100000 in
set_option maxHeartbeats 1000000 in
theorem isNormal (A : Option Addr) (l : List Ser.Step) (n c : Nat) (w : World) (ha : SAt w w.heap.size A n l) (h1 : n ≤ maxLen) (hn : Ser.Nrm 0 l) (hv : Ser.valid l = 0) :
    Calls Try.prog 25 #[.slice A n c] w fun e w' => e = .returned (.bool true) ∧ Below w.heap.size w w' := by
  have mn := h1
  unfold maxLen at h1
  have la := Lib.hid ha.len
  replace ha := Lib.hid ha
  replace hv := Lib.hid hv
  go_enter Try.func25, Try.ntmps25
  go_wp2_with fail
  go_loop [3, 7] (fun v i => ∃ (k : Nat) (p : Int), k ≤ n ∧ i = .int .i64 k ∧ v = .int .i64 p ∧ Ser.Nrm p (l.drop k)) (fun _ i => n - (intOf i).toNat)
  case atStart => exact ⟨0, 0, Nat.zero_le _, rfl, rfl, hn⟩
  case round =>
    obtain ⟨k, p, hk, rfl, rfl, hp⟩ := hrel
    clear hn
    by_cases hlt : k < n
    · have hkl : k < l.length := by have := la.out; omega
      obtain ⟨s1, s2⟩ := nrm_step l k hkl p hp
      obtain ⟨ad, hA, _, c0, c1⟩ := ha.out.at_ hlt
      subst hA
      clear hp
      generalize (l[k]).2 = x at *
      have hd : (x == p) = false := by simpa using s1
      replace s1 := Lib.hid s1
      replace s2 := Lib.hid s2
      go_wp2_with fail
      go_round
      case rel => exact ⟨k + 1, x, by omega, by go_num, rfl, s2.out⟩
      case measure => simp [intOf]; omega
    · clear hp
      go_wp2_with fail
      refine (valid_any A l n c _ ha.out mn).mono ?_
      rintro e w1 ⟨rfl, hb1⟩
      rw [hv.out]
      replace hb1 := Lib.hid hb1
      go_wp2_with fail
      go_ret
      exact ⟨rfl, hb1.out⟩
theorem at_val (l : List Ser.Step) (t : Int) (h : Ser.valid l = 0) : IsVal (Ser.at_ l t) := at_rng t l 0 (Ser.valid_asc h).1.rng ⟨by omega, by omega⟩
set_option maxRecDepth 100000 in
set_option maxHeartbeats 4000000 in
theorem lawPointwise (A1 A2 : Option Addr) (a b : List Ser.Step) (n1 c1 n2 c2 : Nat) (F T d t : Int) (w : World) (ha : SAt w w.heap.size A1 n1 a) (hb : SAt w w.heap.size A2 n2 b) (h1 : n1 ≤ c1) (h2 : n2 ≤ c2) (m1 : c1 ≤ maxLen) (m2 : c2 ≤ maxLen)
    (bF : -9223372036854775808 ≤ F ∧ F ≤ 9223372036854775807) (bT : -9223372036854775808 ≤ T ∧ T ≤ 9223372036854775807) (bd : -9223372036854775808 ≤ d ∧ d ≤ 9223372036854775807) (bt : -9223372036854775808 ≤ t ∧ t ≤ 9223372036854775807) :
    Calls Try.prog 8 #[.slice A1 n1 c1, .slice A2 n2 c2, .agg #[.int .i64 F, .int .i64 T], .int .i64 d, .int .i64 t] w fun e w' => e = .returned (.bool true) ∧ Below w.heap.size w w' := by
  have mn1 : n1 ≤ maxLen := Nat.le_trans h1 m1
  have mn2 : n2 ≤ maxLen := Nat.le_trans h2 m2
  have la := Lib.hid ha.len
  have lb := Lib.hid hb.len
  replace ha := Lib.hid (ha.more (a1 w (.cells #[.int .i64 F, .int .i64 T] 31)))
  replace hb := Lib.hid (hb.more (a1 w (.cells #[.int .i64 F, .int .i64 T] 31)))
  by_cases hl1 : 600 < n1
  · go_enter Try.func8, Try.ntmps8
    go_wp2_with fail
    refine (example_any _).mono ?_
    rintro e w9 ⟨rfl, hb9⟩
    replace hb9 := Lib.hid (b1 hb9)
    go_wp2_with fail
    go_ret
    exact ⟨rfl, hb9.out⟩
  by_cases hl2 : 600 < n2
  · go_enter Try.func8, Try.ntmps8
    go_wp2_with fail
    refine (example_any _).mono ?_
    rintro e w9 ⟨rfl, hb9⟩
    replace hb9 := Lib.hid (b1 hb9)
    go_wp2_with fail
    go_ret
    exact ⟨rfl, hb9.out⟩
  by_cases va : Ser.valid a ≠ 0
  · have hd : (Ser.valid a != 0) = true := by simpa using va
    have hd2 : (Ser.valid a == 0) = false := by simpa using va
    replace va := Lib.hid va
    go_enter Try.func8, Try.ntmps8
    go_wp2_with fail
    refine (valid_any A1 a n1 c1 _ ha.out mn1).mono ?_
    rintro e w1 ⟨rfl, hb1⟩
    have hB := Lib.hid (b1 hb1)
    clear hb1
    generalize Ser.valid a = ev at *
    go_wp2_with fail
    refine (example_any _).mono ?_
    rintro e w9 ⟨rfl, hb9⟩
    replace hb9 := Lib.hid (hB.out.trans (hb9.mono hB.out.size))
    go_wp2_with fail
    go_ret
    exact ⟨rfl, hb9.out⟩
  replace va : Ser.valid a = 0 := Decidable.not_not.1 va
  by_cases vb : Ser.valid b ≠ 0
  · have hd : (Ser.valid b != 0) = true := by simpa using vb
    have hd2 : (Ser.valid b == 0) = false := by simpa using vb
    replace vb := Lib.hid vb
    replace va := Lib.hid va
    go_enter Try.func8, Try.ntmps8
    go_wp2_with fail
    refine (valid_any A1 a n1 c1 _ ha.out mn1).mono ?_
    rintro e w1 ⟨rfl, hb1⟩
    rw [va.out]
    have hB := Lib.hid (b1 hb1)
    have hb2 := Lib.hid (hb.out.more hb1)
    clear hb1
    go_wp2_with fail
    refine (valid_any A2 b n2 c2 _ hb2.out mn2).mono ?_
    rintro e w2 ⟨rfl, hb3⟩
    replace hB := Lib.hid (hB.out.trans (hb3.mono hB.out.size))
    clear hb3
    generalize Ser.valid b = ev at *
    go_wp2_with fail
    refine (example_any _).mono ?_
    rintro e w9 ⟨rfl, hb9⟩
    replace hb9 := Lib.hid (hB.out.trans (hb9.mono hB.out.size))
    go_wp2_with fail
    go_ret
    exact ⟨rfl, hb9.out⟩
  replace vb : Ser.valid b = 0 := Decidable.not_not.1 vb
  have ma := Lib.hid (asc_mono _ _ (Ser.valid_asc va).1).2
  have mb := Lib.hid (asc_mono _ _ (Ser.valid_asc vb).1).2
  have l1 : n1 ≤ 512 := by have := (Ser.valid_asc va).2; have := la.out; omega
  have l2 : n2 ≤ 512 := by have := (Ser.valid_asc vb).2; have := lb.out; omega
  obtain ⟨xa1, xa2⟩ := at_val a t va
  obtain ⟨xb1, xb2⟩ := at_val b t vb
  have gAdd := Lib.hid (addF_ok va vb)
  have gLeast := Lib.hid (leastF_ok va vb)
  have gClip := Lib.hid (fun h => clipF_ok (F := F) (T := T) va h)
  have gShift := Lib.hid (fun h => shiftF_ok (d := d) va h)
  have gSmall := Lib.hid (fun hf hl => shift_small (d := d) va hf hl)
  replace va := Lib.hid va
  replace vb := Lib.hid vb
  have kz : ∀ wr, Below (w.alloc (.cells #[.int .i64 F, .int .i64 T] 31)).heap.size (w.alloc (.cells #[.int .i64 F, .int .i64 T] 31)) wr → wr.cell? ⟨w.heap.size, 0, none⟩ = some (.int .i64 F) ∧ wr.cell? ⟨w.heap.size, 1, none⟩ = some (.int .i64 T) := fun wr h =>
    ⟨by rw [h.cell (by simp)]; simp, by rw [h.cell (by simp)]; simp⟩
  replace kz := Lib.hid kz
  go_enter Try.func8, Try.ntmps8
  go_wp2_with fail
  refine (valid_any A1 a n1 c1 _ ha.out mn1).mono ?_
  rintro e w1 ⟨rfl, hB⟩
  rw [va.out]
  replace hB := Lib.hid hB
  generalize hW : w.alloc (.cells #[.int .i64 F, .int .i64 T] 31) = W at *
  have hWw : Below w.heap.size w W := by rw [← hW]; exact a1 _ _
  replace hW := Lib.hid hW
  replace hWw := Lib.hid hWw
  go_wp2_with fail
  refine (valid_any A2 b n2 c2 _ (hb.out.more hB.out) mn2).mono ?_
  rintro e w2 ⟨rfl, hb3⟩
  rw [vb.out]
  replace hB := Lib.hid (hB.out.trans (hb3.mono hB.out.size))
  clear hb3
  go_wp2_with fail
  refine (at_any A1 a n1 c1 t _ (ha.out.more hB.out) (by omega)).mono ?_
  rintro e w3 ⟨x, rfl, hx, hb3⟩
  have hx2 := hx ma.out
  subst hx2
  replace hB := Lib.hid (hB.out.trans (hb3.mono hB.out.size))
  clear hb3 hx
  go_wp2_with fail
  refine (at_any A2 b n2 c2 t _ (hb.out.more hB.out) (by omega)).mono ?_
  rintro e w4 ⟨x, rfl, hx, hb3⟩
  have hx2 := hx mb.out
  subst hx2
  replace hB := Lib.hid (hB.out.trans (hb3.mono hB.out.size))
  clear hb3 hx
  go_wp2_with fail
  refine (add_any A1 A2 a b n1 c1 n2 c2 _ (ha.out.more hB.out) (hb.out.more hB.out) h1 h2 m1 m2).mono ?_
  rintro e w5 ⟨v5, rfl, ho5, hb3⟩
  obtain ⟨A5, c5, rfl, ms5, ks5, hs5⟩ := own_at ho5 rfl
  replace hs5 := Lib.hid hs5
  replace hB := Lib.hid (hB.out.trans (hb3.mono hB.out.size))
  clear hb3 ho5
  have gA : Hid ((addF a b).2 = 0 → Good (addF a b).1 (fun u => Ser.at_ a u + Ser.at_ b u)) := gAdd
  clear gAdd
  generalize (addF a b).1 = R at *
  generalize (addF a b).2 = E at *
  go_upto_region 5 with (fail)
  go_cut [67] (fun s67 wx => s67 = .bool false ∧ Below W.heap.size W wx)
  case first =>
    by_cases hE : E = 0
    · have g := gA.out hE
      subst hE
      have gat := g.at_ t
      have gm := Lib.hid g.mono
      go_wp2_with fail
      refine (isNormal A5 R R.length c5 _ hs5.out (by omega) g.nrm g.val).mono ?_
      rintro e w6 ⟨rfl, hb3⟩
      have hs6 := Lib.hid (hs5.out.more hb3)
      have hB6 := Lib.hid (hB.out.trans (hb3.mono hB.out.size))
      have gl := g.len
      clear hb3 g gA
      go_wp2_with fail
      refine (at_any A5 R R.length c5 t _ hs6.out (by omega)).mono ?_
      rintro e w7 ⟨x, rfl, hx, hb3⟩
      have hx2 : x = Ser.at_ a t + Ser.at_ b t := (hx gm.out).trans gat
      subst hx2
      replace hB6 := Lib.hid (hB6.out.trans (hb3.mono hB6.out.size))
      clear hb3 hx gat
      go_wp2_with fail
      go_meet
      exact ⟨rfl, hB6.out⟩
    · have hd : (E == 0) = false := by simpa using hE
      replace hE := Lib.hid hE
      go_wp2_with fail
      go_meet
      exact ⟨rfl, hB.out⟩
  case rest =>
    obtain ⟨rfl, hB⟩ := hcut
    clear hs5 gA ms5 ks5
    replace hB := Lib.hid hB
    go_wp2_with fail
    refine (least_any A1 A2 a b n1 c1 n2 c2 _ (ha.out.more hB.out) (hb.out.more hB.out) h1 h2 m1 m2).mono ?_
    rintro e w5 ⟨v5, rfl, ho5, hb3⟩
    obtain ⟨A5, c5, rfl, ms5, ks5, hs5⟩ := own_at ho5 rfl
    replace hs5 := Lib.hid hs5
    replace hB := Lib.hid (hB.out.trans (hb3.mono hB.out.size))
    clear hb3 ho5
    generalize (leastF a b).1 = R at *
    generalize (leastF a b).2 = E at *
    go_upto_region 8 with (fail)
    go_cut [89] (fun s89 wx => s89 = .bool false ∧ Below W.heap.size W wx)
    case first =>
      by_cases hE : E = 0
      · have g := gLeast.out hE
        subst hE
        have gat := g.at_ t
        have gm := Lib.hid g.mono
        go_wp2_with fail
        refine (isNormal A5 R R.length c5 _ hs5.out (by omega) g.nrm g.val).mono ?_
        rintro e w6 ⟨rfl, hb3⟩
        have hs6 := Lib.hid (hs5.out.more hb3)
        have hB6 := Lib.hid (hB.out.trans (hb3.mono hB.out.size))
        have gl := g.len
        clear hb3 g gLeast
        go_wp2_with fail
        refine (at_any A5 R R.length c5 t _ hs6.out (by omega)).mono ?_
        rintro e w7 ⟨x, rfl, hx, hb3⟩
        have hx2 : x = min (Ser.at_ a t) (Ser.at_ b t) := (hx gm.out).trans gat
        replace hB6 := Lib.hid (hB6.out.trans (hb3.mono hB6.out.size))
        clear hb3 hx gat
        by_cases hxy : Ser.at_ a t ≤ Ser.at_ b t
        · rw [Int.min_eq_left hxy] at hx2
          subst hx2
          go_wp2_with fail
          go_meet
          exact ⟨rfl, hB6.out⟩
        · rw [Int.min_eq_right (by omega)] at hx2
          subst hx2
          go_wp2_with fail
          go_meet
          exact ⟨rfl, hB6.out⟩
      · have hd : (E == 0) = false := by simpa using hE
        replace hE := Lib.hid hE
        go_wp2_with fail
        go_meet
        exact ⟨rfl, hB.out⟩
    case rest =>
      obtain ⟨rfl, hB⟩ := hcut
      clear hs5 gLeast ms5 ks5
      obtain ⟨y0, y1⟩ := kz.out _ hB
      replace hB := Lib.hid hB
      go_wp2_with fail
      refine (clip_any A1 a n1 c1 F T _ (ha.out.more hB.out) h1 m1).mono ?_
      rintro e w5 ⟨v5, rfl, ho5, hb3⟩
      obtain ⟨A5, c5, rfl, ms5, ks5, hs5⟩ := own_at ho5 rfl
      replace hs5 := Lib.hid hs5
      replace hB := hB.out.trans (hb3.mono hB.out.size)
      clear hb3 ho5 y0 y1
      obtain ⟨y0, y1⟩ := kz.out _ hB
      replace hB := Lib.hid hB
      generalize (clipF a F T).1 = R at *
      generalize (clipF a F T).2 = E at *
      go_upto_if 97 with (fail)
      go_cut [] (fun wx => Below W.heap.size W wx)
      case first =>
        by_cases hE : E = 0
        · have g := gClip.out hE
          subst hE
          have gat := g.at_ t
          have gm := Lib.hid g.mono
          have gn := Lib.hid g.nrm
          have gv := Lib.hid g.val
          have gl := g.len
          clear g gClip
          by_cases hin : F ≤ t ∧ t < T
          · obtain ⟨i1, i2⟩ := hin
            simp only [i1, i2, and_self, if_true] at gat
            replace gat := Lib.hid gat
            go_wp2_with fail
            refine (isNormal A5 R R.length c5 _ hs5.out (by omega) gn.out gv.out).mono ?_
            rintro e w6 ⟨rfl, hb3⟩
            have hs6 := Lib.hid (hs5.out.more hb3)
            have hB6 := Lib.hid (hB.out.trans (hb3.mono hB.out.size))
            clear hb3
            go_wp2_with fail
            refine (at_any A5 R R.length c5 t _ hs6.out (by omega)).mono ?_
            rintro e w7 ⟨x, rfl, hx, hb3⟩
            have hx2 : x = Ser.at_ a t := (hx gm.out).trans gat.out
            subst hx2
            replace hB6 := Lib.hid (hB6.out.trans (hb3.mono hB6.out.size))
            clear hb3 hx
            go_wp2_with fail
            go_meet
            exact hB6.out
          · rcases (show t < F ∨ (F ≤ t ∧ T ≤ t) by omega) with i1 | ⟨i1, i2⟩
            · rw [if_neg (by omega)] at gat
              replace gat := Lib.hid gat
              go_wp2_with fail
              refine (isNormal A5 R R.length c5 _ hs5.out (by omega) gn.out gv.out).mono ?_
              rintro e w6 ⟨rfl, hb3⟩
              have hs6 := Lib.hid (hs5.out.more hb3)
              have hB6 := Lib.hid (hB.out.trans (hb3.mono hB.out.size))
              clear hb3
              go_wp2_with fail
              refine (at_any A5 R R.length c5 t _ hs6.out (by omega)).mono ?_
              rintro e w7 ⟨x, rfl, hx, hb3⟩
              have hx2 : x = 0 := (hx gm.out).trans gat.out
              subst hx2
              replace hB6 := Lib.hid (hB6.out.trans (hb3.mono hB6.out.size))
              clear hb3 hx
              go_wp2_with fail
              go_meet
              exact hB6.out
            · rw [if_neg (by omega)] at gat
              replace gat := Lib.hid gat
              go_wp2_with fail
              refine (isNormal A5 R R.length c5 _ hs5.out (by omega) gn.out gv.out).mono ?_
              rintro e w6 ⟨rfl, hb3⟩
              have hs6 := Lib.hid (hs5.out.more hb3)
              have hB6 := Lib.hid (hB.out.trans (hb3.mono hB.out.size))
              clear hb3
              go_wp2_with fail
              refine (at_any A5 R R.length c5 t _ hs6.out (by omega)).mono ?_
              rintro e w7 ⟨x, rfl, hx, hb3⟩
              have hx2 : x = 0 := (hx gm.out).trans gat.out
              subst hx2
              replace hB6 := Lib.hid (hB6.out.trans (hb3.mono hB6.out.size))
              clear hb3 hx
              go_wp2_with fail
              go_meet
              exact hB6.out
        · have hd : (E == 0) = false := by simpa using hE
          replace hE := Lib.hid hE
          go_wp2_with fail
          go_meet
          exact hB.out
      case rest =>
        replace hB := hcut
        clear hs5 gClip ms5 ks5 y0 y1
        replace hB := Lib.hid hB
        by_cases ht : -268435456 ≤ t ∧ t ≤ 536870912
        · obtain ⟨t1, t2⟩ := ht
          go_wp2_with fail
          refine (shift_any A1 a n1 c1 d _ (ha.out.more hB.out) h1 m1 bd.1 bd.2).mono ?_
          rintro e w5 ⟨v5, rfl, ho5, hb3⟩
          obtain ⟨A5, c5, rfl, ms5, ks5, hs5⟩ := own_at ho5 rfl
          replace hs5 := Lib.hid hs5
          replace hB := Lib.hid (hB.out.trans (hb3.mono hB.out.size))
          clear hb3 ho5
          have hnil : Hid (a = [] → (shiftF a d).1 = []) := fun h => by rw [h]; exact shift_nil
          generalize (shiftF a d).1 = R at *
          generalize (shiftF a d).2 = E at *
          by_cases hE : E = 0
          · obtain ⟨g, hf⟩ := gShift.out hE
            subst hE
            by_cases hn0 : n1 = 0
            · have hR : R = [] := hnil.out (List.eq_nil_of_length_eq_zero (by rw [la.out]; exact hn0))
              subst hn0
              subst hR
              clear g hf gShift
              go_wp2_with fail
              refine (example_any _).mono ?_
              rintro e w9 ⟨rfl, hb9⟩
              replace hb9 := Lib.hid (hB.out.trans (hb9.mono hB.out.size))
              go_wp2_with fail
              go_ret
              exact ⟨rfl, hWw.out.trans (hb9.out.mono hWw.out.size)⟩
            · have hd : ((n1 : Int) == 0) = false := by simp; omega
              obtain ⟨d1, d2⟩ := gSmall.out hf (fun h => hn0 (by rw [← la.out, h]; rfl))
              have gat := Lib.hid (g.at_ t)
              have gm := Lib.hid g.mono
              have gn := Lib.hid g.nrm
              have gv := Lib.hid g.val
              have gl := g.len
              clear g hf gShift
              replace hn0 := Lib.hid hn0
              go_wp2_with fail
              refine (isNormal A5 R R.length c5 _ hs5.out (by omega) gn.out gv.out).mono ?_
              rintro e w6 ⟨rfl, hb3⟩
              have hs6 := Lib.hid (hs5.out.more hb3)
              replace hB := Lib.hid (hB.out.trans (hb3.mono hB.out.size))
              clear hb3
              go_wp2_with fail
              refine (at_any A5 R R.length c5 t _ hs6.out (by omega)).mono ?_
              rintro e w7 ⟨x, rfl, hx, hb3⟩
              have hx2 : x = Ser.at_ a (t - d) := (hx gm.out).trans gat.out
              subst hx2
              replace hB := Lib.hid (hB.out.trans (hb3.mono hB.out.size))
              clear hb3 hx
              go_wp2_with fail
              refine (at_any A1 a n1 c1 (t - d) _ (ha.out.more hB.out) (by omega)).mono ?_
              rintro e w8 ⟨x, rfl, hx, hb3⟩
              have hx2 := hx ma.out
              subst hx2
              replace hB := Lib.hid (hB.out.trans (hb3.mono hB.out.size))
              clear hb3 hx
              go_wp2_with fail
              refine (example_any _).mono ?_
              rintro e w9 ⟨rfl, hb9⟩
              replace hb9 := Lib.hid (hB.out.trans (hb9.mono hB.out.size))
              go_wp2_with fail
              go_ret
              exact ⟨rfl, hWw.out.trans (hb9.out.mono hWw.out.size)⟩
          · have hd : (E != 0) = true := by simpa using hE
            have hd2 : (E == 0) = false := by simpa using hE
            replace hE := Lib.hid hE
            go_wp2_with fail
            refine (example_any _).mono ?_
            rintro e w9 ⟨rfl, hb9⟩
            replace hb9 := Lib.hid (hB.out.trans (hb9.mono hB.out.size))
            go_wp2_with fail
            go_ret
            exact ⟨rfl, hWw.out.trans (hb9.out.mono hWw.out.size)⟩
        · rcases (show t < -268435456 ∨ (-268435456 ≤ t ∧ 536870912 < t) by omega) with i1 | ⟨i1, i2⟩
          all_goals
            go_wp2_with fail
            refine (example_any _).mono ?_
            rintro e w9 ⟨rfl, hb9⟩
            replace hb9 := Lib.hid (hB.out.trans (hb9.mono hB.out.size))
            go_wp2_with fail
            go_ret
            exact ⟨rfl, hWw.out.trans (hb9.out.mono hWw.out.size)⟩
end Go.Proofs.Ytljagdfgfgpdbaa
