/- Links: slices.Contains; what LinkOrder comes to. -/
import Derived.Test.YteolglmdfjddlaaLM
import Derived.Test.YteolglmdfjddlaaOff
set_option linter.unusedVariables false
set_option linter.unusedSimpArgs false
namespace Go.Proofs.Yteolglmdfjddlaa
open Go.RowKit
theorem cont_drop (l : List Int) (x : Int) (k : Nat) (h : k < l.length) : (l.drop k).contains x = ((x == l[k]) || (l.drop (k + 1)).contains x) := by
  rw [List.drop_eq_getElem_cons h, List.contains_cons]
theorem ic_cell {w : World} {B : Nat} {A : Option Addr} {n : Nat} {l : List Int} (h : IAt w B A n l) {k : Nat} (hk : k < n) : ∃ ad, A = some ad ∧ w.cell? (ad.add k) = some (.int .i64 (l[k]'(by rw [h.len]; exact hk))) := by
  obtain ⟨ad, hA, hb, hc⟩ := h.at_ hk
  refine ⟨ad, hA, ?_⟩
  have := hc 0 _ rfl
  simpa using this
set_option maxRecDepth 100000 in
set_option maxHeartbeats 8000000 in
theorem idx_any (A : Option Addr) (l : List Int) (n cap : Nat) (x : Int) (w : World) (h : IAt w w.heap.size A n l) (hn63 : n ≤ 1000) :
    Calls Try.prog 33 #[.slice A n cap, .int .i64 x] w fun e w' => (∃ r : Int, e = .returned (.int .i64 r) ∧ decide (0 ≤ r) = l.contains x) ∧ Below w.heap.size w w' := by
  have hn := Lib.hid h.len
  replace h := Lib.hid h
  go_enter Try.func33, Try.ntmps33
  go_wp2_with fail
  go_loopw [8] (fun i wr => ∃ k : Nat, k ≤ n ∧ i = .int .i64 k ∧ Hid (Below w.heap.size w wr) ∧ Hid (l.contains x = (l.drop k).contains x)) (fun i _ => n - (intOf i).toNat)
  case atStart => exact ⟨0, Nat.zero_le _, rfl, Below.refl _ _, rfl⟩
  case round =>
    obtain ⟨k, hkn, rfl, hb, hx⟩ := hrel
    by_cases hlt : k < n
    · have hk0 : (0 : Int) ≤ k := by omega
      have hk1 : (k : Int) < n := by omega
      have hkl : k < l.length := by have := hn.out; omega
      have hdr := Lib.hid (cont_drop l x k (by have := hn.out; omega))
      obtain ⟨ad, hA, e0⟩ := ic_cell (h.out.below hb.out (Nat.le_refl _)) hlt
      subst hA
      generalize l[k] = y at *
      by_cases hyx : x = y
      · subst hyx
        go_wp2_with fail
        go_ret
        exact ⟨⟨k, rfl, by rw [hx.out, hdr.out]; simp⟩, hb.out⟩
      · go_wp2_with fail
        go_roundw
        case rel => exact ⟨k + 1, by omega, by go_num, hb.out, by show _ = _; rw [hx.out, hdr.out, beq_eq_false_iff_ne.2 hyx, Bool.false_or]⟩
        case measure => simp [intOf]; omega
    · have hF : Hid (l.contains x = false) := by show _ = _; rw [hx.out, List.drop_eq_nil_of_le (by have := hn.out; omega)]; rfl
      go_wp2_with fail
      go_ret
      exact ⟨⟨-1, rfl, by rw [hF.out]; rfl⟩, hb.out⟩
set_option maxRecDepth 100000 in
set_option maxHeartbeats 8000000 in
theorem has_any (A : Option Addr) (l : List Int) (n cap : Nat) (x : Int) (w : World) (h : IAt w w.heap.size A n l) (hn63 : n ≤ 1000) :
    Calls Try.prog 25 #[.slice A n cap, .int .i64 x] w fun e w' => e = .returned (.bool (l.contains x)) ∧ Below w.heap.size w w' := by
  have hc := Lib.hid (idx_any A l n cap x w h hn63)
  go_enter Try.func25, Try.ntmps25
  go_wp2_with fail
  refine hc.out.mono ?_; rintro e w2 ⟨⟨r, rfl, hr⟩, hb⟩
  replace hr := Lib.hid hr
  replace hb := Lib.hid hb
  go_wp2_with fail
  go_ret
  exact ⟨by rw [← hr.out]; rfl, hb.out⟩
/-- a byte of a number -/
def nb (n : Int) : UInt8 := UInt8.ofNat (n % 256).toNat
theorem nb_eq (n : Int) : ((nb n).toNat : Int) = n % 256 := by
  have h1 := Int.emod_nonneg n (show (256 : Int) ≠ 0 by decide)
  have h2 := Int.emod_lt_of_pos n (show (0 : Int) < 256 by decide)
  unfold nb
  rw [UInt8.toNat_ofNat']
  have : (n % 256).toNat % 2 ^ 8 = (n % 256).toNat := Nat.mod_eq_of_lt (by show _ < 256; omega)
  rw [this]
  omega
def nbs (n : Int) : List UInt8 := [nb n, nb (n / 256)]
/-- what is under way: its number and when it is due -/
structure Sn where
  number : Int
  due : Int
def snC (s : Sn) : List Value := [.int .i64 s.number, .int .i64 s.due]
theorem snC_len (s : Sn) : (snC s).length = 2 := rfl
theorem sn_one (s : Sn) : ∀ u ∈ snC s, u.oneCell' = true := by
  intro u hu
  simp [snC] at hu
  rcases hu with rfl | rfl <;> rfl
def boxOf (way : List Sn) : List (Int × List UInt8) := way.map fun s => (s.due, nbs s.number)
def addS (v : Lv) (way : List Sn) : List Sn := if v.cut = false ∧ v.lose.contains v.count = false then way ++ [⟨v.count, v.now + v.delay⟩] else way
theorem ord_send {v : Lv} {way : List Sn} (hb : v.box = boxOf way) (hl : way.length ≤ 250) (hc : v.count < 2147483647) :
    playL v 1 (nbs v.count) = ({ v with count := v.count + 1, box := boxOf (addS v way) }, [], 0) := by
  have h1 : ¬ (8198 < (nbs v.count).length ∨ 2147483647 ≤ v.count) := by
    have : (nbs v.count).length = 2 := rfl
    omega
  have hlen : ¬ 256 ≤ v.box.length := by rw [hb]; unfold boxOf; rw [List.length_map]; omega
  have hS : sendL v (nbs v.count) = ({ v with count := v.count + 1, box := boxOf (addS v way) }, 0) := by
    cases hv : lostL v with
    | true =>
      rw [send_lost v _ h1 hv]
      unfold addS
      unfold lostL at hv
      rw [if_neg (by intro h; rw [h.1, h.2] at hv; exact absurd hv (by decide)), ← hb]
    | false =>
      rw [send_go v _ h1 hv hlen]
      unfold addS
      unfold lostL at hv
      simp only [Bool.or_eq_false_iff] at hv
      rw [if_pos hv]
      unfold boxOf at hb ⊢
      rw [hb, List.map_append]
      rfl
  unfold playL
  rw [if_pos rfl, hS]
theorem pop_exit (way : List Sn) (t : Int) (hge : ∀ s ∈ way, t ≤ s.due) (hasc : way.Pairwise fun a b => a.due ≤ b.due) (j : Nat)
    (hpre : ∀ s ∈ way.take j, s.due = t) (hex : ∀ s, (way.drop j).head? = some s → s.due ≠ t) :
    way.filter (fun s => decide (t < s.due)) = way.drop j ∧ way.filter (fun s => !decide (t < s.due)) = way.take j := by
  have hd : ∀ s ∈ way.drop j, t < s.due := by
    have hp : (way.drop j).Pairwise fun a b => a.due ≤ b.due := hasc.sublist (List.drop_sublist _ _)
    have hg : ∀ s ∈ way.drop j, t ≤ s.due := fun s hs => hge s (List.mem_of_mem_drop hs)
    cases hdr : way.drop j with
    | nil => intro s hs; cases hs
    | cons x r =>
      rw [hdr] at hp hg hex
      have hx : t < x.due := by
        have h1 := hg x (by simp)
        have h2 := hex x rfl
        omega
      intro s hs
      rcases List.mem_cons.1 hs with e | hs
      · rw [e]; exact hx
      · have := (List.pairwise_cons.1 hp).1 s hs
        omega
  have h1 : ∀ (p : Sn → Bool), way.filter p = (way.take j).filter p ++ (way.drop j).filter p := fun p => by rw [← List.filter_append, List.take_append_drop]
  constructor
  · rw [h1, List.filter_eq_nil_iff.2 (fun s hs => by have := hpre s hs; simp; omega), List.filter_eq_self.2 (fun s hs => by simpa using hd s hs)]
    rfl
  · rw [h1, List.filter_eq_self.2 (fun s hs => by have := hpre s hs; simp; omega), List.filter_eq_nil_iff.2 (fun s hs => by simpa using hd s hs), List.append_nil]
theorem ord_due {v : Lv} {way : List Sn} (hg : Good v) (hb : v.box = boxOf way) : (∀ s ∈ way, v.now + 1 ≤ s.due) ∧ way.Pairwise fun a b => a.due ≤ b.due := by
  constructor
  · intro s hs
    have := (hg.due (s.due, nbs s.number) (by rw [hb]; exact List.mem_map.2 ⟨s, hs, rfl⟩)).1
    omega
  · have := hg.asc
    rw [hb] at this
    unfold boxOf at this
    rw [List.pairwise_map] at this
    exact this
theorem ord_tick {v : Lv} {way : List Sn} (hg : Good v) (hb : v.box = boxOf way) (hn : v.now < 268435456) (j : Nat) (d : List UInt8)
    (hpre : ∀ s ∈ way.take j, s.due = v.now + 1) (hex : ∀ s, (way.drop j).head? = some s → s.due ≠ v.now + 1) :
    playL v 2 d = ({ v with now := v.now + 1, box := boxOf (way.drop j) }, if v.cut then [] else (way.take j).map (fun s => nbs s.number), 0) := by
  obtain ⟨h1, h2⟩ := ord_due hg hb
  obtain ⟨h3, h4⟩ := pop_exit way (v.now + 1) h1 h2 j hpre hex
  have hT : tickL v = ({ v with now := v.now + 1, box := boxOf (way.drop j) }, if v.cut then [] else (way.take j).map (fun s => nbs s.number)) := by
    unfold tickL
    rw [if_neg (by omega), hb]
    unfold boxOf
    rw [List.filter_map, List.filter_map, ← h3, ← h4]
    simp only [Function.comp_def, List.map_map]
  unfold playL
  rw [if_neg (by decide), if_pos rfl, hT]
theorem ord_cut (v : Lv) (b : Bool) (kd : Int) (d : List UInt8) (h : kd = 3 ∨ kd = 4) (hb : (kd == 3) = b) : playL v kd d = ({ v with cut := b }, [], 0) := by
  unfold playL
  rcases h with rfl | rfl
  · rw [if_neg (by decide), if_neg (by decide), if_pos rfl]
    have : b = true := by rw [← hb]; rfl
    rw [this]
    rfl
  · rw [if_neg (by decide), if_neg (by decide), if_neg (by decide), if_pos rfl]
    have : b = false := by rw [← hb]; rfl
    rw [this]
    rfl
theorem ord_none (v : Lv) (kd : Int) (d : List UInt8) (h1 : kd ≠ 1) (h2 : kd ≠ 2) (h3 : kd ≠ 3) (h4 : kd ≠ 4) : playL v kd d = (v, [], 0) := by
  unfold playL
  rw [if_neg h1, if_neg h2, if_neg h3, if_neg h4]
set_option maxRecDepth 100000 in
set_option maxHeartbeats 8000000 in
theorem valid_big (delay : Int) (A : Option Addr) (n c : Nat) (w : World) (hq : 256 < n) :
    Calls Try.prog 9 #[.agg #[Value.int .i64 0, Value.int .i64 delay, Value.bool false, Value.int .i64 0, Value.slice A n c, Value.slice none 0 0]] w fun e w' => (∃ E : Int, e = .returned (.int .i64 E) ∧ E ≠ 0) ∧ Below w.heap.size w w' := by
  have px := Lib.hid (Blk.new w 25 #[Value.int .i64 0, Value.int .i64 delay, Value.bool false, Value.int .i64 0, Value.slice A n c, Value.slice none 0 0])
  have hb0 : Hid (Below w.heap.size w (w.alloc (.cells #[Value.int .i64 0, Value.int .i64 delay, Value.bool false, Value.int .i64 0, Value.slice A n c, Value.slice none 0 0] 25))) := a1 w _
  obtain ⟨k0, k1, k2, k3, k4, k5⟩ := (show (w.alloc (.cells #[Value.int .i64 0, Value.int .i64 delay, Value.bool false, Value.int .i64 0, Value.slice A n c, Value.slice none 0 0] 25)).cell? ⟨w.heap.size, 0, none⟩ = some (Value.int .i64 0) ∧ (w.alloc (.cells #[Value.int .i64 0, Value.int .i64 delay, Value.bool false, Value.int .i64 0, Value.slice A n c, Value.slice none 0 0] 25)).cell? ⟨w.heap.size, 1, none⟩ = some (Value.int .i64 delay) ∧ (w.alloc (.cells #[Value.int .i64 0, Value.int .i64 delay, Value.bool false, Value.int .i64 0, Value.slice A n c, Value.slice none 0 0] 25)).cell? ⟨w.heap.size, 2, none⟩ = some (Value.bool false) ∧ (w.alloc (.cells #[Value.int .i64 0, Value.int .i64 delay, Value.bool false, Value.int .i64 0, Value.slice A n c, Value.slice none 0 0] 25)).cell? ⟨w.heap.size, 3, none⟩ = some (Value.int .i64 0) ∧ (w.alloc (.cells #[Value.int .i64 0, Value.int .i64 delay, Value.bool false, Value.int .i64 0, Value.slice A n c, Value.slice none 0 0] 25)).cell? ⟨w.heap.size, 4, none⟩ = some (Value.slice A n c) ∧ (w.alloc (.cells #[Value.int .i64 0, Value.int .i64 delay, Value.bool false, Value.int .i64 0, Value.slice A n c, Value.slice none 0 0] 25)).cell? ⟨w.heap.size, 5, none⟩ = some (Value.slice none 0 0) from ⟨px.out.cell 0, px.out.cell 1, px.out.cell 2, px.out.cell 3, px.out.cell 4, px.out.cell 5⟩)
  have hqi : (256 : Int) < (n : Int) := by omega
  by_cases q1 : delay < 1
  · have q1d : decide (delay < 1) = true := by simpa using q1
    go_enter Try.func9, Try.ntmps9
    go_wp2_with fail
    go_ret
    exact ⟨⟨_, rfl, by decide⟩, hb0.out⟩
  have q1d : decide (delay < 1) = false := by simpa using q1
  by_cases q2 : 60 < delay
  · have q2d : decide (60 < delay) = true := by simpa using q2
    go_enter Try.func9, Try.ntmps9
    go_wp2_with fail
    go_ret
    exact ⟨⟨_, rfl, by decide⟩, hb0.out⟩
  have q2d : decide (60 < delay) = false := by simpa using q2
  go_enter Try.func9, Try.ntmps9
  go_wp2_with fail
  go_ret
  exact ⟨⟨_, rfl, by decide⟩, hb0.out⟩
set_option maxRecDepth 100000 in
set_option maxHeartbeats 8000000 in
theorem new_big (delay : Int) (A : Option Addr) (n c : Nat) (w : World) (hq : 256 < n) :
    Calls Try.prog 11 #[.int .i64 delay, .slice A n c] w fun e w' => (∃ E : Int, e = .returned (.tuple #[lkV ⟨0, 0, false, 0, none, 0, 0, [], none, 0, 0, []⟩, .int .i64 E]) ∧ E ≠ 0) ∧ Below w.heap.size w w' := by
  have hva := Lib.hid (fun w2 => valid_big delay A n c w2 hq)
  have hZ0 := Lib.hid ((Blk.new w 25 #[Value.int .i64 0, Value.int .i64 0, Value.bool false, Value.int .i64 0, Value.slice none 0 0, Value.slice none 0 0]).alloc (.cells #[Value.int .i64 0, Value.int .i64 delay, Value.bool false, Value.int .i64 0, Value.slice A n c, Value.slice none 0 0] 25))
  have hX0 := Lib.hid (Blk.new (w.alloc (.cells #[Value.int .i64 0, Value.int .i64 0, Value.bool false, Value.int .i64 0, Value.slice none 0 0, Value.slice none 0 0] 25)) 25 #[Value.int .i64 0, Value.int .i64 delay, Value.bool false, Value.int .i64 0, Value.slice A n c, Value.slice none 0 0])
  have hb0 : Hid (Below w.heap.size w ((w.alloc (.cells #[Value.int .i64 0, Value.int .i64 0, Value.bool false, Value.int .i64 0, Value.slice none 0 0, Value.slice none 0 0] 25)).alloc (.cells #[Value.int .i64 0, Value.int .i64 delay, Value.bool false, Value.int .i64 0, Value.slice A n c, Value.slice none 0 0] 25))) := (a1 w _).alloc (by simp) _
  rw [show (w.alloc (.cells #[Value.int .i64 0, Value.int .i64 0, Value.bool false, Value.int .i64 0, Value.slice none 0 0, Value.slice none 0 0] 25)).heap.size = w.heap.size + 1 by simp] at hX0
  obtain ⟨k0, k1, k2, k3, k4, k5⟩ := (show ((w.alloc (.cells #[Value.int .i64 0, Value.int .i64 0, Value.bool false, Value.int .i64 0, Value.slice none 0 0, Value.slice none 0 0] 25)).alloc (.cells #[Value.int .i64 0, Value.int .i64 delay, Value.bool false, Value.int .i64 0, Value.slice A n c, Value.slice none 0 0] 25)).cell? ⟨(w.heap.size + 1), 0, none⟩ = some (Value.int .i64 0) ∧ ((w.alloc (.cells #[Value.int .i64 0, Value.int .i64 0, Value.bool false, Value.int .i64 0, Value.slice none 0 0, Value.slice none 0 0] 25)).alloc (.cells #[Value.int .i64 0, Value.int .i64 delay, Value.bool false, Value.int .i64 0, Value.slice A n c, Value.slice none 0 0] 25)).cell? ⟨(w.heap.size + 1), 1, none⟩ = some (Value.int .i64 delay) ∧ ((w.alloc (.cells #[Value.int .i64 0, Value.int .i64 0, Value.bool false, Value.int .i64 0, Value.slice none 0 0, Value.slice none 0 0] 25)).alloc (.cells #[Value.int .i64 0, Value.int .i64 delay, Value.bool false, Value.int .i64 0, Value.slice A n c, Value.slice none 0 0] 25)).cell? ⟨(w.heap.size + 1), 2, none⟩ = some (Value.bool false) ∧ ((w.alloc (.cells #[Value.int .i64 0, Value.int .i64 0, Value.bool false, Value.int .i64 0, Value.slice none 0 0, Value.slice none 0 0] 25)).alloc (.cells #[Value.int .i64 0, Value.int .i64 delay, Value.bool false, Value.int .i64 0, Value.slice A n c, Value.slice none 0 0] 25)).cell? ⟨(w.heap.size + 1), 3, none⟩ = some (Value.int .i64 0) ∧ ((w.alloc (.cells #[Value.int .i64 0, Value.int .i64 0, Value.bool false, Value.int .i64 0, Value.slice none 0 0, Value.slice none 0 0] 25)).alloc (.cells #[Value.int .i64 0, Value.int .i64 delay, Value.bool false, Value.int .i64 0, Value.slice A n c, Value.slice none 0 0] 25)).cell? ⟨(w.heap.size + 1), 4, none⟩ = some (Value.slice A n c) ∧ ((w.alloc (.cells #[Value.int .i64 0, Value.int .i64 0, Value.bool false, Value.int .i64 0, Value.slice none 0 0, Value.slice none 0 0] 25)).alloc (.cells #[Value.int .i64 0, Value.int .i64 delay, Value.bool false, Value.int .i64 0, Value.slice A n c, Value.slice none 0 0] 25)).cell? ⟨(w.heap.size + 1), 5, none⟩ = some (Value.slice none 0 0) from ⟨hX0.out.cell 0, hX0.out.cell 1, hX0.out.cell 2, hX0.out.cell 3, hX0.out.cell 4, hX0.out.cell 5⟩)
  go_enter Try.func11, Try.ntmps11
  go_wp2_with fail
  clear k0 k1 k2 k3 k4 k5
  generalize (w.alloc (.cells #[Value.int .i64 0, Value.int .i64 0, Value.bool false, Value.int .i64 0, Value.slice none 0 0, Value.slice none 0 0] 25)).alloc (.cells #[Value.int .i64 0, Value.int .i64 delay, Value.bool false, Value.int .i64 0, Value.slice A n c, Value.slice none 0 0] 25) = w1 at *
  refine (hva.out w1).mono ?_; rintro e w2 ⟨⟨E, rfl, hE0⟩, hb1⟩
  have hX1 := Lib.hid (hX0.out.below hb1 hX0.out.lt)
  have hZ1 := Lib.hid (hZ0.out.below hb1 hZ0.out.lt)
  have hb2 := Lib.hid (hb0.out.trans (hb1.mono hb0.out.size))
  clear hb1 hX0 hZ0 hb0 hva
  obtain ⟨k0, k1, k2, k3, k4, k5⟩ := (show w2.cell? ⟨(w.heap.size + 1), 0, none⟩ = some (Value.int .i64 0) ∧ w2.cell? ⟨(w.heap.size + 1), 1, none⟩ = some (Value.int .i64 delay) ∧ w2.cell? ⟨(w.heap.size + 1), 2, none⟩ = some (Value.bool false) ∧ w2.cell? ⟨(w.heap.size + 1), 3, none⟩ = some (Value.int .i64 0) ∧ w2.cell? ⟨(w.heap.size + 1), 4, none⟩ = some (Value.slice A n c) ∧ w2.cell? ⟨(w.heap.size + 1), 5, none⟩ = some (Value.slice none 0 0) from ⟨hX1.out.cell 0, hX1.out.cell 1, hX1.out.cell 2, hX1.out.cell 3, hX1.out.cell 4, hX1.out.cell 5⟩)
  obtain ⟨u0, u1, u2, u3, u4, u5, z0, z1, z2, z3, z4, z5⟩ := (show w2.cell? ⟨w.heap.size, 0, none⟩ = some (Value.int .i64 0) ∧ w2.cell? ⟨w.heap.size, 1, none⟩ = some (Value.int .i64 0) ∧ w2.cell? ⟨w.heap.size, 2, none⟩ = some (Value.bool false) ∧ w2.cell? ⟨w.heap.size, 3, none⟩ = some (Value.int .i64 0) ∧ w2.cell? ⟨w.heap.size, 4, none⟩ = some (Value.slice none 0 0) ∧ w2.cell? ⟨w.heap.size, 5, none⟩ = some (Value.slice none 0 0) ∧ w2.frozen? ⟨w.heap.size, 0, none⟩ = false ∧ w2.frozen? ⟨w.heap.size, 1, none⟩ = false ∧ w2.frozen? ⟨w.heap.size, 2, none⟩ = false ∧ w2.frozen? ⟨w.heap.size, 3, none⟩ = false ∧ w2.frozen? ⟨w.heap.size, 4, none⟩ = false ∧ w2.frozen? ⟨w.heap.size, 5, none⟩ = false from ⟨hZ1.out.cell 0, hZ1.out.cell 1, hZ1.out.cell 2, hZ1.out.cell 3, hZ1.out.cell 4, hZ1.out.cell 5, hZ1.out.frozen 0, hZ1.out.frozen 1, hZ1.out.frozen 2, hZ1.out.frozen 3, hZ1.out.frozen 4, hZ1.out.frozen 5⟩)
  have hE1 : (E == 0) = false := by simpa using hE0
  go_wp2_with fail
  (try simp only [Exit.inBlock, Exit.then])
  have hB := lk_set6 hZ1.out (Value.int .i64 0) (Value.int .i64 0) (Value.bool false) (Value.int .i64 0) (Value.slice none 0 0) (Value.slice none 0 0)
  have hbF := below_set6 hb2.out (Nat.le_refl _) (Value.int .i64 0) (Value.int .i64 0) (Value.bool false) (Value.int .i64 0) (Value.slice none 0 0) (Value.slice none 0 0)
  have hgF := grown_set6 (w2) (w.heap.size) (Value.int .i64 0) (Value.int .i64 0) (Value.bool false) (Value.int .i64 0) (Value.slice none 0 0) (Value.slice none 0 0)
  refine bodyPost_ret (v := .tuple #[.agg #[Value.int .i64 0, Value.int .i64 0, Value.bool false, Value.int .i64 0, Value.slice none 0 0, Value.slice none 0 0], .int .i64 E]) ?_ rfl ?_
  · refine (res2 (fn := Try.f11) (p := 4) (u := 5) (ty := 25) rfl _ _ (w.heap.size) 25 _ (0, 0) _ ?_ hB Try.underlying25 rfl (by kernel_rfl)).trans ?_
    · rfl
    · rfl
  clear hB
  generalize (((((((w2).setCell ⟨(w.heap.size), 0, none⟩ (Value.int .i64 0)).setCell ⟨(w.heap.size), 1, none⟩ (Value.int .i64 0)).setCell ⟨(w.heap.size), 2, none⟩ (Value.bool false)).setCell ⟨(w.heap.size), 3, none⟩ (Value.int .i64 0)).setCell ⟨(w.heap.size), 4, none⟩ (Value.slice none 0 0)).setCell ⟨(w.heap.size), 5, none⟩ (Value.slice none 0 0)) = wF at *
  exact ⟨⟨E, rfl, hE0⟩, hbF⟩
end Go.Proofs.Yteolglmdfjddlaa
