/- Series: Normal and Shift, walked. -/
import Derived.Test.YtljagdfgfgpdbaaG
import Derived.Deep.RegionHeld3
set_option linter.unusedVariables false
namespace Go.Proofs.Ytljagdfgfgpdbaa
open Go.RowKit
theorem alloc_grow2 {w wr : World} {B : Nat} (h : Below B w wr) (hB : B ≤ w.heap.size) (o : Obj) : Below B w (wr.alloc o) := h.alloc (Nat.le_trans hB h.size) o
theorem norm_step (l : List Ser.Step) (k : Nat) (h : k < l.length) (t x : Int) (ht : l[k] = (t, x)) : Ser.norm 0 (l.take (k + 1)) = Ser.norm 0 (l.take k) ++ Ser.emit (lastV (Ser.norm 0 (l.take k))) t x := by
  rw [take_snoc l k h, norm_snoc, ht]
set_option maxRecDepth 100000 in
set_option maxHeartbeats 1000000 in
theorem normal_any (A : Option Addr) (l : List Ser.Step) (n c : Nat) (w : World) (ha : SAt w w.heap.size A n l) (h1 : n ≤ 100000) :
    Calls Try.prog 27 #[.slice A n c] w fun e w' => ∃ v, e = .returned v ∧ SOwn w' w.heap.size v (Ser.norm 0 l) ∧ Below w.heap.size w w' := by
  have la := Lib.hid ha.len
  replace ha := Lib.hid ha
  go_enter Try.func27, Try.ntmps27
  go_wp2_with fail
  go_loopw [3, 8] (fun v i wr => ∃ k : Nat, k ≤ n ∧ i = .int .i64 k ∧ SOwn wr w.heap.size v (Ser.norm 0 (l.take k)) ∧ Below w.heap.size w wr) (fun _ i _ => n - (intOf i).toNat)
  case atStart => exact ⟨0, Nat.zero_le _, rfl, SOwn.nil _ _, Below.refl _ _⟩
  case round =>
    obtain ⟨k, hk, rfl, hown, hb⟩ := hrel
    have hs := hb.size
    have har := ha.out.more hb
    replace hb := Lib.hid hb
    replace hown := Lib.hid hown
    by_cases hlt : k < n
    · have hkl : k < l.length := by have := la.out; omega
      obtain ⟨ad, hA, hblk, c0, c1⟩ := har.at_ hlt
      subst hA
      replace har := Lib.hid har
      have hlen : Hid ((Ser.norm 0 (l.take k)).length ≤ 1000000) := by
        show _ ≤ _
        have h1 := norm_len (l.take k)
        simp only [List.length_take] at h1
        omega
      have hsn := Lib.hid (norm_step l k hkl (l[k]).1 (l[k]).2 rfl)
      generalize (l[k]).1 = t at *
      generalize (l[k]).2 = x at *
      have hbn := Lib.hid (alloc_grow2 hb.out (Nat.le_refl _) (.cells #[.int .i64 t, .int .i64 x] 29))
      have hownn := Lib.hid (World.ownsRow.alloc hown.out (.cells #[.int .i64 t, .int .i64 x] 29))
      go_wp2_with fail
      refine (put_any w.heap.size _ (Ser.norm 0 (l.take k)) t x _ hownn.out (by simp; omega) hlen.out).mono ?_
      rintro e w5 ⟨v5, rfl, hown5, hb5⟩
      replace hb5 := Lib.hid (hbn.out.trans hb5)
      replace hown5 := Lib.hid hown5
      go_wp2_with fail
      go_roundw
      case rel => exact ⟨k + 1, by omega, by go_num, by rw [hsn.out]; exact hown5.out, hb5.out⟩
      case measure => simp [intOf]; omega
    · have hkn : Hid (l.take k = l) := by show _ = _; exact List.take_of_length_le (by have := la.out; omega)
      go_wp2_with fail
      go_ret
      refine ⟨_, rfl, ?_, hb.out⟩
      have := hown.out
      rw [hkn.out] at this
      exact this
def shiftF (l : List Ser.Step) (d : Int) : List Ser.Step × Int :=
  if Ser.valid l ≠ 0 then ([], Ser.valid l) else if Ser.far d l = true then ([], 2) else (Ser.norm 0 (Ser.moved d l), 0)
theorem far_snoc (l : List Ser.Step) (d : Int) (k : Nat) (h : k < l.length) : Ser.far d (l.take (k + 1)) = (Ser.far d (l.take k) || (decide (d < -(l[k]).1) || decide (268435456 - (l[k]).1 < d))) := by
  unfold Ser.far; rw [List.take_succ_eq_append_getElem h, List.any_append, List.any_cons, List.any_nil, Bool.or_false]
theorem far_of_take (l : List Ser.Step) (d : Int) (k : Nat) (h : Ser.far d (l.take k) = true) : Ser.far d l = true := by
  unfold Ser.far at *
  rw [List.any_eq_true] at *
  obtain ⟨x, hx, h2⟩ := h
  exact ⟨x, List.mem_of_mem_take hx, h2⟩
theorem moved_take (l : List Ser.Step) (d : Int) (k : Nat) : Ser.moved d (l.take k) = (Ser.moved d l).take k := by unfold Ser.moved; rw [List.map_take]
theorem moved_snoc (l : List Ser.Step) (d : Int) (k : Nat) (h : k < l.length) : Ser.moved d (l.take (k + 1)) = Ser.moved d (l.take k) ++ [((l[k]).1 + d, (l[k]).2)] := by
  unfold Ser.moved; rw [List.take_succ_eq_append_getElem h, List.map_append]; rfl
theorem moved_len (l : List Ser.Step) (d : Int) : (Ser.moved d l).length = l.length := by unfold Ser.moved; simp
set_option maxRecDepth 100000 in
set_option maxHeartbeats 2000000 in
theorem shift_any (A : Option Addr) (l : List Ser.Step) (n c : Nat) (d : Int) (w : World) (ha : SAt w w.heap.size A n l) (h1 : n ≤ c) (m1 : c ≤ maxLen) (hd1 : -9223372036854775808 ≤ d) (hd2 : d ≤ 9223372036854775807) :
    Calls Try.prog 19 #[.slice A n c, .int .i64 d] w fun e w' => ∃ v, e = .returned (.tuple #[v, .int .i64 (shiftF l d).2]) ∧ SOwn w' w.heap.size v (shiftF l d).1 ∧ Below w.heap.size w w' := by
  have la := Lib.hid ha.len
  have mn : n ≤ maxLen := Nat.le_trans h1 m1
  replace ha := Lib.hid ha
  by_cases hv : Ser.valid l = 0
  · obtain ⟨pa, l1⟩ := Ser.valid_asc hv
    have hF : Hid (shiftF l d = if Ser.far d l = true then ([], 2) else (Ser.norm 0 (Ser.moved d l), 0)) := by show _ = _; rw [shiftF, hv]; rfl
    have hrng : ∀ (l : List Ser.Step) (p : Int), -1 ≤ p → Ser.Asc p l → ∀ s ∈ l, 0 ≤ s.1 ∧ s.1 ≤ 268435456 := by
      intro l
      induction l with
      | nil => intro _ _ _ s hs; simp at hs
      | cons x r ih => intro p hp h s hs; exact (List.mem_cons.1 hs).elim (fun e => by rw [e]; exact ⟨by have := h.1; omega, h.2.1⟩) (fun h' => ih _ (by have := h.1; omega) h.2.2.2.2 s h')
    have hr := Lib.hid (hrng l (-1) (by omega) pa)
    clear hrng
    replace hv := Lib.hid hv
    replace pa := Lib.hid pa
    have l1' : n ≤ 512 := by have := la.out; omega
    go_enter Try.func19, Try.ntmps19
    go_wp2_with fail
    refine (valid_any A l n c _ ha.out mn).mono ?_
    rintro e w1 ⟨rfl, hb1⟩
    rw [hv.out]
    have hs1 := hb1.size
    replace hb1 := Lib.hid hb1
    go_wp2_with fail
    go_loopw [7, 17] (fun v i wr => ∃ k : Nat, k ≤ n ∧ i = .int .i64 k ∧ SOwn wr w.heap.size v (Ser.norm 0 (Ser.moved d (l.take k))) ∧ Ser.far d (l.take k) = false ∧ Below w.heap.size w wr) (fun _ i _ => n - (intOf i).toNat)
    case atStart => exact ⟨0, Nat.zero_le _, rfl, SOwn.nil _ _, rfl, hb1.out⟩
    case round =>
      obtain ⟨k, hk, rfl, hown, hfar, hb⟩ := hrel
      clear hb1 hs1
      have hs := hb.size
      have har := ha.out.more hb
      replace hb := Lib.hid hb
      replace hown := Lib.hid hown
      by_cases hlt : k < n
      · have hkl : k < l.length := by have := la.out; omega
        obtain ⟨ad, hA, hblk, c0, c1⟩ := har.at_ hlt
        subst hA
        have hblk0 : Hid (ad.block < w.heap.size) := by obtain ⟨ad', hA', h', _⟩ := ha.out.at_ hlt; cases hA'; exact h'
        replace har := Lib.hid har
        obtain ⟨r1, r2⟩ := hr.out l[k] (List.getElem_mem hkl)
        have hfs := far_snoc l d k hkl
        rw [hfar, Bool.false_or] at hfs
        clear hfar
        replace hfs := Lib.hid hfs
        have hms := Lib.hid (moved_snoc l d k hkl)
        have hlen : Hid ((Ser.norm 0 (Ser.moved d (l.take k))).length ≤ 1000000) := by
          show _ ≤ _
          have h2 := moved_len (l.take k) d
          simp only [List.length_take] at h2
          have h1 := norm_len (Ser.moved d (l.take k))
          omega
        generalize (l[k]).1 = t at *
        generalize (l[k]).2 = x at *
        have hbn := Lib.hid (alloc_grow2 hb.out (Nat.le_refl _) (.cells #[.int .i64 t, .int .i64 x] 29))
        have hownn := Lib.hid (World.ownsRow.alloc hown.out (.cells #[.int .i64 t, .int .i64 x] 29))
        have hsn := Lib.hid (norm_snoc (Ser.moved d (l.take k)) (t + d, x))
        by_cases hin : -t ≤ d ∧ d ≤ 268435456 - t
        · obtain ⟨i1, i2⟩ := hin
          have hfs2 : Hid (Ser.far d (l.take (k + 1)) = false) := by show _ = _; rw [hfs.out]; simp; omega
          go_wp2_with fail
          refine (put_any w.heap.size _ (Ser.norm 0 (Ser.moved d (l.take k))) (t + d) x _ hownn.out (by simp; omega) hlen.out).mono ?_
          rintro e w5 ⟨v5, rfl, hown5, hb5⟩
          replace hb5 := Lib.hid (hbn.out.trans hb5)
          replace hown5 := Lib.hid hown5
          go_wp2_with fail
          go_roundw
          case rel => exact ⟨k + 1, by omega, by go_num, by rw [hms.out, hsn.out]; exact hown5.out, hfs2.out, hb5.out⟩
          case measure => simp [intOf]; omega
        · have hF2 : Hid (shiftF l d = ([], 2)) := by
            show _ = _
            rw [hF.out, if_pos (far_of_take l d (k + 1) (by rw [hfs.out]; simp; omega))]
          rcases (show d < -t ∨ (-t ≤ d ∧ 268435456 - t < d) by omega) with hx | ⟨hx1, hx⟩
          all_goals
            go_wp2_with fail
            go_ret2
            exact ⟨_, by rw [hF2.out]; rfl, by rw [hF2.out]; exact SOwn.nil _ _, hbn.out⟩
      · have htk : l.take k = l := List.take_of_length_le (by have := la.out; omega)
        rw [htk] at hfar hown
        have hF2 : Hid (shiftF l d = (Ser.norm 0 (Ser.moved d l), 0)) := by show _ = _; rw [hF.out, if_neg (by rw [hfar]; simp)]
        clear htk hfar har
        go_wp2_with fail
        go_ret2
        exact ⟨_, by rw [hF2.out]; rfl, by rw [hF2.out]; exact hown.out, hb.out⟩
  · have hdd : (Ser.valid l != 0) = true := by simpa using hv
    have hdd2 : (Ser.valid l == 0) = false := by simpa using hv
    have hF : Hid (shiftF l d = ([], Ser.valid l)) := by show _ = _; rw [shiftF, if_pos hv]
    replace hv := Lib.hid hv
    go_enter Try.func19, Try.ntmps19
    go_wp2_with fail
    refine (valid_any A l n c _ ha.out mn).mono ?_
    rintro e w1 ⟨rfl, hb1⟩
    replace hb1 := Lib.hid hb1
    generalize Ser.valid l = ev at *
    go_wp2_with fail
    go_ret2
    exact ⟨_, by rw [hF.out]; rfl, by rw [hF.out]; exact SOwn.nil _ _, hb1.out⟩
set_option maxRecDepth 100000 in
set_option maxHeartbeats 2000000 in
theorem rshift_any (A : Option Addr) (l : List Ser.Step) (n c : Nat) (d : Int) (w : World) (ha : SAt w w.heap.size A n l) (h1 : n ≤ c) (m1 : c ≤ maxLen) (hd1 : -9223372036854775808 ≤ d) (hd2 : d ≤ 9223372036854775807) :
    Calls Try.prog 20 #[.slice A n c, .int .i64 d] w fun e w' => ∃ v, e = .returned (.tuple #[v, .int .i64 (shiftF l d).2]) ∧ SOwn w' w.heap.size v (shiftF l d).1 ∧ Below w.heap.size w w' := by
  have la := Lib.hid ha.len
  have mn : n ≤ maxLen := Nat.le_trans h1 m1
  replace ha := Lib.hid ha
  obtain ⟨i0, hi0, hz0, hz1, hz2⟩ := info_parts step_info
  by_cases hv : Ser.valid l = 0
  · obtain ⟨pa, l1⟩ := Ser.valid_asc hv
    have hF : Hid (shiftF l d = if Ser.far d l = true then ([], 2) else (Ser.norm 0 (Ser.moved d l), 0)) := by show _ = _; rw [shiftF, hv]; rfl
    have hrng : ∀ (l : List Ser.Step) (p : Int), -1 ≤ p → Ser.Asc p l → ∀ s ∈ l, 0 ≤ s.1 ∧ s.1 ≤ 268435456 := by
      intro l
      induction l with
      | nil => intro _ _ _ s hs; simp at hs
      | cons x r ih => intro p hp h s hs; exact (List.mem_cons.1 hs).elim (fun e => by rw [e]; exact ⟨by have := h.1; omega, h.2.1⟩) (fun h' => ih _ (by have := h.1; omega) h.2.2.2.2 s h')
    have hr := Lib.hid (hrng l (-1) (by omega) pa)
    clear hrng
    replace hv := Lib.hid hv
    replace pa := Lib.hid pa
    have l1' : n ≤ 512 := by have := la.out; omega
    go_enter Try.func20, Try.ntmps20
    go_wp2_with fail
    refine (rvalid_any A l n c _ ha.out mn).mono ?_
    rintro e w1 ⟨rfl, hb1⟩
    rw [hv.out]
    have hs1 := hb1.size
    replace hb1 := Lib.hid hb1
    go_wp2_with fail
    go_loopw [7, 8] (fun v i wr => ∃ k : Nat, k ≤ n ∧ i = .int .i64 k ∧ SOwn wr w.heap.size v (Ser.moved d (l.take k)) ∧ Ser.far d (l.take k) = false ∧ Below w.heap.size w wr) (fun _ i _ => n - (intOf i).toNat)
    case atStart => exact ⟨0, Nat.zero_le _, rfl, SOwn.nil _ _, rfl, hb1.out⟩
    case round =>
      obtain ⟨k, hk, rfl, hown, hfar, hb⟩ := hrel
      clear hb1 hs1
      have hs := hb.size
      have har := ha.out.more hb
      replace hb := Lib.hid hb
      replace hown := Lib.hid hown
      by_cases hlt : k < n
      · have hkl : k < l.length := by have := la.out; omega
        obtain ⟨ad, hA, hblk, c0, c1⟩ := har.at_ hlt
        subst hA
        have hblk0 : Hid (ad.block < w.heap.size) := by obtain ⟨ad', hA', h', _⟩ := ha.out.at_ hlt; cases hA'; exact h'
        replace har := Lib.hid har
        obtain ⟨r1, r2⟩ := hr.out l[k] (List.getElem_mem hkl)
        have hfs := far_snoc l d k hkl
        rw [hfar, Bool.false_or] at hfs
        clear hfar
        replace hfs := Lib.hid hfs
        have hms := Lib.hid (moved_snoc l d k hkl)
        have hlen : Hid ((Ser.moved d (l.take k)).length ≤ 1000000) := by
          show _ ≤ _
          have h2 := moved_len (l.take k) d
          simp only [List.length_take] at h2
          have h1 := norm_len (Ser.moved d (l.take k))
          omega
        generalize (l[k]).1 = t at *
        generalize (l[k]).2 = x at *
        by_cases hin : -t ≤ d ∧ d ≤ 268435456 - t
        · obtain ⟨i1, i2⟩ := hin
          have hfs2 : Hid (Ser.far d (l.take (k + 1)) = false) := by show _ = _; rw [hfs.out]; simp; omega
          go_wp2_with fail
          have hdr : SOwn (wr.alloc (.cells #[.int .i64 (IntKind.i64.wrap (t + d)), .int .i64 x] 29)) w.heap.size u7 (Ser.moved d (l.take k)) := World.ownsRow.alloc hown.out _
          replace hdr := Lib.hid hdr
          have hcc : ∀ w5, Below w.heap.size w w5 → w5.cell? (ad.add (k * 2)) = some (.int .i64 t) ∧ w5.cell? ⟨(ad.add (k * 2)).block, (ad.add (k * 2)).off + 1, none⟩ = some (.int .i64 x) := fun w5 h5 => by
            have hbk : ad.block < w.heap.size := hblk0.out
            have h6 : ∀ p : Addr, p.block < w.heap.size → w5.cell? p = wr.cell? p := fun p hp => by rw [h5.cell hp, hb.out.cell hp]
            exact ⟨by rw [h6 _ (by rw [add_block]; exact hbk)]; exact c0, by rw [h6 _ (by show (ad.add (k * 2)).block < _; rw [add_block]; exact hbk)]; exact c1⟩
          replace hcc := Lib.hid hcc
          go_region_held3 (fun wz => wz.cell? (ad.add (k * 2)) = some (.int .i64 t) ∧ wz.cell? ⟨(ad.add (k * 2)).block, (ad.add (k * 2)).off + 1, none⟩ = some (.int .i64 x))
            (first
              | go_keep
              | (exact hcc.out _ ((alloc_grow2 hb.out (Nat.le_refl _) _).drew))
              | (exact hcc.out _ hb1))
            ((refine step_append_any _ (by rfl) (.tmp 38) (.tmp 52) _ (by rfl) w.heap.size 29 i0 _ 2 16 Try.underlying22 hi0 hz0 hz1 hz2 rfl (by omega) u7 (Ser.moved d (l.take k)).length (scells (Ser.moved d (l.take k))) (by rfl) hdr.out.drew (wr.heap.size + 1) (some ⟨wr.heap.size, 0, none⟩) 1 1 (scells [(IntKind.i64.wrap (t + d), x)]) (by rfl) (Reads.drew (reads_new wr _ 29 2 1 _ rfl (by omega))) (scells_one _) (by have := hlen.out; simp only [maxLen]; omega) (by have := hlen.out; omega) (by simp; omega) ?_; intro v' w4 hown1 hg1 hat1; have hb1 : Below w.heap.size w w4 := ((alloc_grow2 hb.out (Nat.le_refl _) _).drew).grown hg1 (by simp; omega) (fun g hg => (World.ownsRow.lt hown.out g hg).1)))
          have hown5 : SOwn w4 w.heap.size v' (Ser.moved d (l.take (k + 1))) := by
            unfold SOwn
            have hwr : IntKind.i64.wrap (t + d) = t + d := IntWalk.i64_in _ (by omega)
            rw [hwr] at hown1
            rw [hms.out, List.length_append, scells_append]
            exact hown1
          clear hown1 hg1 hat1
          replace hb1 := Lib.hid hb1
          replace hown5 := Lib.hid hown5
          go_wp2_with fail
          go_roundw
          case rel => exact ⟨k + 1, by omega, by go_num, hown5.out, hfs2.out, hb1.out⟩
          case measure => simp [intOf]; omega
        · have hF2 : Hid (shiftF l d = ([], 2)) := by
            show _ = _
            rw [hF.out, if_pos (far_of_take l d (k + 1) (by rw [hfs.out]; simp; omega))]
          rcases (show 268435456 - t < d ∨ (d ≤ 268435456 - t ∧ d < -t) by omega) with hx | ⟨hx1, hx⟩
          all_goals
            go_wp2_with fail
            go_ret2
            exact ⟨_, by rw [hF2.out]; rfl, by rw [hF2.out]; exact SOwn.nil _ _, hb.out⟩
      · have htk : l.take k = l := List.take_of_length_le (by have := la.out; omega)
        rw [htk] at hfar hown
        have hF2 : Hid (shiftF l d = (Ser.norm 0 (Ser.moved d l), 0)) := by show _ = _; rw [hF.out, if_neg (by rw [hfar]; simp)]
        have hpm := Lib.hid (Ser.moved_asc0 d l pa.out hfar)
        clear htk hfar har
        have hlm := Lib.hid (moved_len l d)
        obtain ⟨A3, c3, hu, hc31, hc32, _, hat⟩ := hown.out.form
        subst hu
        replace hat := Lib.hid hat
        have hlm2 : (Ser.moved d l).length ≤ 512 := by have := hlm.out; have := la.out; omega
        go_wp2_with fail
        refine (rnormal_any A3 (Ser.moved d l) _ c3 _ hat.out hlm2 hpm.out).mono ?_
        rintro e w5 ⟨v5, rfl, hown5, hb5⟩
        replace hown5 := Lib.hid (SOwn.mono hown5 hb.out.size)
        replace hb5 := Lib.hid (hb.out.trans (hb5.mono hb.out.size))
        go_wp2_with fail
        go_ret2
        exact ⟨_, by rw [hF2.out]; rfl, by rw [hF2.out]; exact hown5.out, hb5.out⟩
  · have hdd : (Ser.valid l != 0) = true := by simpa using hv
    have hdd2 : (Ser.valid l == 0) = false := by simpa using hv
    have hF : Hid (shiftF l d = ([], Ser.valid l)) := by show _ = _; rw [shiftF, if_pos hv]
    replace hv := Lib.hid hv
    go_enter Try.func20, Try.ntmps20
    go_wp2_with fail
    refine (rvalid_any A l n c _ ha.out mn).mono ?_
    rintro e w1 ⟨rfl, hb1⟩
    replace hb1 := Lib.hid hb1
    generalize Ser.valid l = ev at *
    go_wp2_with fail
    go_ret2
    exact ⟨_, by rw [hF.out]; rfl, by rw [hF.out]; exact SOwn.nil _ _, hb1.out⟩
end Go.Proofs.Ytljagdfgfgpdbaa
