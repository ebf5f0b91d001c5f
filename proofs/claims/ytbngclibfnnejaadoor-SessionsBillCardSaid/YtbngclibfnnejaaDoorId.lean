/- Identifiers: capitals, values, Same, Valid: the program's and the reference's, walked. -/
import Derived.Test.YtbngclibfnnejaaDoorFlat
import Derived.WalkKit
import Derived.ProofKit
import Derived.OpenShut
import Derived.Lib.Hide
import Derived.Outline
import Derived.Deep.QuietTactic
import Derived.BigQuiet
import Derived.StillTailTactics
import Derived.Laws.RangeAny
set_option linter.unusedVariables false
namespace Go.Proofs.YtbngclibfnnejaaDoor
open Go.RowKit
/-- a byte, a small letter as a capital -/
def capOf (c : Int) : Int := if 97 ≤ c ∧ c ≤ 122 then c - 32 else c
def capL (s : ByteArray) : List Int := s.data.toList.map fun c => capOf c.toNat
theorem capL_len (s : ByteArray) : (capL s).length = s.size := by simp [capL]
theorem capL_at (s : ByteArray) (k : Nat) (h : k < s.size) : (capL s)[k]'(by rw [capL_len]; exact h) = capOf (s[k]'h).toNat := by simp [capL]; rfl
/-- equal without regard to case -/
def same (a b : ByteArray) : Bool := decide (capL a = capL b)
/-- the value of a digit or a letter -/
def valOf (r : Int) : Int := if 48 ≤ r ∧ r ≤ 57 then r - 48 else if 65 ≤ r ∧ r ≤ 90 then r - 55 else if 97 ≤ r ∧ r ≤ 122 then r - 87 else -1
theorem value_any (r : Int) (w : World) (h1 : -2147483648 ≤ r) (h2 : r ≤ 2147483647) : Calls Tryd.prog 38 #[.int .i32 r] w fun e w' => e = .returned (.int .i64 (valOf r)) ∧ w' = w := by
  rcases (show r < 48 ∨ (48 ≤ r ∧ r ≤ 57) ∨ (57 < r ∧ r < 65) ∨ (65 ≤ r ∧ r ≤ 90) ∨ (90 < r ∧ r < 97) ∨ (97 ≤ r ∧ r ≤ 122) ∨ 122 < r by omega) with h | ⟨h, g⟩ | ⟨h, g⟩ | ⟨h, g⟩ | ⟨h, g⟩ | ⟨h, g⟩ | h
  all_goals
    have hv : Hid (valOf r = valOf r) := rfl
    go_enter Tryd.func38, Tryd.ntmps38
    go_wp2
    go_ret
    exact ⟨ret_int (by unfold valOf; (repeat' split) <;> omega), rfl⟩
def capB (c : UInt8) : UInt8 := if 97 ≤ c.toNat ∧ c.toNat ≤ 122 then UInt8.ofNat (c.toNat - 32) else c
theorem capB_nat (c : UInt8) : ((capB c).toNat : Int) = capOf c.toNat := by
  have := c.toNat_lt
  unfold capB capOf
  by_cases h : 97 ≤ c.toNat ∧ c.toNat ≤ 122
  · rw [if_pos h, if_pos (by omega)]
    simp only [UInt8.toNat_ofNat']
    omega
  · rw [if_neg h, if_neg (by omega)]
/-- a string with capitals -/
def caps (s : ByteArray) : List UInt8 := s.data.toList.map capB
theorem caps_same (a b : ByteArray) : caps a = caps b ↔ capL a = capL b := by
  have e : ∀ s : ByteArray, capL s = (caps s).map fun c => (c.toNat : Int) := fun s => by
    unfold capL caps
    rw [List.map_map]
    apply List.map_congr_left
    intro c _
    exact (capB_nat c).symm
  rw [e, e]
  constructor
  · intro h; rw [h]
  · intro h
    have inj : Function.Injective (fun c : UInt8 => (c.toNat : Int)) := fun x y hxy => by
      have h2 : ((x.toNat : Int)) = y.toNat := hxy
      have : x.toNat = y.toNat := by omega
      exact UInt8.toNat_inj.1 this
    exact (List.map_inj_right (fun x y h => inj h)).1 h
theorem caps_str (a b : ByteArray) : ((⟨(caps a).toArray⟩ : ByteArray) = ⟨(caps b).toArray⟩) ↔ capL a = capL b := by
  rw [← caps_same]
  constructor
  · intro h
    have := congrArg (fun x : ByteArray => x.data.toList) h
    simpa using this
  · intro h; rw [h]
/-- a byte that an identifier may hold -/
def okc (c : Int) : Bool := decide (0 ≤ valOf c) || decide (c = 45) || decide (c = 95) || decide (c = 46) || decide (c = 58) || decide (c = 42)
/-- an identifier -/
def nameB (s : ByteArray) : Bool := decide (1 ≤ s.size) && decide (s.size ≤ 36) && s.data.toList.all fun c => okc c.toNat
def restB (s : ByteArray) (k : Nat) : Bool := (s.data.toList.drop k).all fun c => okc c.toNat
theorem name_rest (s : ByteArray) (h1 : 1 ≤ s.size) (h2 : s.size ≤ 36) : nameB s = restB s 0 := by simp [nameB, restB, h1, h2]
theorem rest_step (s : ByteArray) (k : Nat) (h : k < s.size) : restB s k = (okc (s[k]'h).toNat && restB s (k + 1)) := by
  unfold restB
  rw [List.drop_eq_getElem_cons (show k < s.data.toList.length by simpa using h), List.all_cons]
  rfl
theorem rest_end (s : ByteArray) (k : Nat) (h : ¬ k < s.size) : restB s k = true := by
  unfold restB
  rw [List.drop_of_length_le (show s.data.toList.length ≤ k by simpa using h)]
  rfl
theorem val_hi (c : Int) (h : 128 ≤ c) : valOf c = -1 := by unfold valOf; (repeat' split) <;> omega
theorem val_nc (c : Int) (h : 0 ≤ valOf c) : c ≠ 45 ∧ c ≠ 95 ∧ c ≠ 46 ∧ c ≠ 58 ∧ c ≠ 42 := by unfold valOf at h; (repeat' split at h) <;> omega
set_option maxRecDepth 100000 in
set_option maxHeartbeats 2000000 in
theorem name_any (s : ByteArray) (w : World) : Calls Tryd.prog 16 #[.string s] w fun e w' => e = .returned (.bool (nameB s)) ∧ Below w.heap.size w w' := by
  by_cases h1 : 1 ≤ s.size
  · by_cases h2 : s.size ≤ 36
    · have hnr := Lib.hid (name_rest s h1 h2)
      have hit : ∀ k, Below w.heap.size w (w.iter s k) := fun k => (Below.refl _ w).alloc (Nat.le_refl _) _
      replace hit := Lib.hid hit
      go_enter Tryd.func16, Tryd.ntmps16
      go_wp2_with fail
      go_loopw [4] (fun _ wr => ∃ k : Nat, k ≤ s.size ∧ wr = w.iter s k ∧ Hid (nameB s = restB s k)) (fun _ wr => s.size - wr.iterPos w.heap.size)
      case atStart => exact ⟨0, Nat.zero_le _, rfl, hnr.out⟩
      case round =>
        obtain ⟨k, hk, rfl, hx⟩ := hrel
        by_cases hlt : k < s.size
        · obtain ⟨x1, x2⟩ := byte_lt (s[k]'hlt)
          have hst := Lib.hid (rest_step s k hlt)
          by_cases ha : (s[k]'hlt).toNat < 128
          · have hnx := fun ty => run_next_ascii (P := Tryd.prog) w s k ty hlt ha
            by_cases hv : 0 ≤ valOf (s[k]'hlt).toNat
            · have hn : Hid (nameB s = restB s (k + 1)) := by show _ = _; rw [hx.out, hst.out]; simp [okc, hv]
              have hd : decide (valOf (s[k]'hlt).toNat < 0) = false := by simp; omega
              obtain ⟨e1, e2, e3, e4, e5⟩ := val_nc _ hv
              have d1 : (((s[k]'hlt).toNat : Int) == 45) = false := by simpa using e1
              have d2 : (((s[k]'hlt).toNat : Int) == 95) = false := by simpa using e2
              have d3 : (((s[k]'hlt).toNat : Int) == 46) = false := by simpa using e3
              have d4 : (((s[k]'hlt).toNat : Int) == 58) = false := by simpa using e4
              have d5 : (((s[k]'hlt).toNat : Int) == 42) = false := by simpa using e5
              clear e1 e2 e3 e4 e5
              go_wp2_with (go_at_call 38; refine (value_any _ _ (by omega) (by omega)).mono ?_; rintro e w1 ⟨rfl, rfl⟩)
              go_roundw
              case rel => exact ⟨k + 1, by omega, rfl, hn⟩
              case measure => simp; omega
            · have hd : decide (valOf (s[k]'hlt).toNat < 0) = true := by simp; omega
              have hgo : Hid (okc (s[k]'hlt).toNat = true → nameB s = restB s (k + 1)) := fun h => by rw [hx.out, hst.out, h]; rfl
              have hno : Hid (okc (s[k]'hlt).toNat = false → nameB s = false) := fun h => by rw [hx.out, hst.out, h]; rfl
              by_cases e45 : ((s[k]'hlt).toNat : Int) = 45
              · have d45 : (((s[k]'hlt).toNat : Int) == 45) = true := by rw [e45]; rfl
                have hn : Hid (nameB s = restB s (k + 1)) := hgo.out (by simp [okc, *])
                go_wp2_with fail
                go_roundw
                case rel => exact ⟨k + 1, by omega, rfl, hn⟩
                case measure => simp; omega
              have d45 : (((s[k]'hlt).toNat : Int) == 45) = false := by simpa using e45
              replace e45 := Lib.hid e45
              by_cases e95 : ((s[k]'hlt).toNat : Int) = 95
              · have d95 : (((s[k]'hlt).toNat : Int) == 95) = true := by rw [e95]; rfl
                have hn : Hid (nameB s = restB s (k + 1)) := hgo.out (by simp [okc, *])
                go_wp2_with fail
                go_roundw
                case rel => exact ⟨k + 1, by omega, rfl, hn⟩
                case measure => simp; omega
              have d95 : (((s[k]'hlt).toNat : Int) == 95) = false := by simpa using e95
              replace e95 := Lib.hid e95
              by_cases e46 : ((s[k]'hlt).toNat : Int) = 46
              · have d46 : (((s[k]'hlt).toNat : Int) == 46) = true := by rw [e46]; rfl
                have hn : Hid (nameB s = restB s (k + 1)) := hgo.out (by simp [okc, *])
                go_wp2_with fail
                go_roundw
                case rel => exact ⟨k + 1, by omega, rfl, hn⟩
                case measure => simp; omega
              have d46 : (((s[k]'hlt).toNat : Int) == 46) = false := by simpa using e46
              replace e46 := Lib.hid e46
              by_cases e58 : ((s[k]'hlt).toNat : Int) = 58
              · have d58 : (((s[k]'hlt).toNat : Int) == 58) = true := by rw [e58]; rfl
                have hn : Hid (nameB s = restB s (k + 1)) := hgo.out (by simp [okc, *])
                go_wp2_with fail
                go_roundw
                case rel => exact ⟨k + 1, by omega, rfl, hn⟩
                case measure => simp; omega
              have d58 : (((s[k]'hlt).toNat : Int) == 58) = false := by simpa using e58
              replace e58 := Lib.hid e58
              by_cases e42 : ((s[k]'hlt).toNat : Int) = 42
              · have d42 : (((s[k]'hlt).toNat : Int) == 42) = true := by rw [e42]; rfl
                have hn : Hid (nameB s = restB s (k + 1)) := hgo.out (by simp [okc, *])
                go_wp2_with fail
                go_roundw
                case rel => exact ⟨k + 1, by omega, rfl, hn⟩
                case measure => simp; omega
              have d42 : (((s[k]'hlt).toNat : Int) == 42) = false := by simpa using e42
              replace e42 := Lib.hid e42
              have hn : Hid (nameB s = false) := hno.out (by simp [okc, hv, e45.out, e95.out, e46.out, e58.out, e42.out])
              go_wp2_with (go_at_call 38; refine (value_any _ _ (by omega) (by omega)).mono ?_; rintro e w1 ⟨rfl, rfl⟩)
              go_ret
              exact ⟨by rw [hn.out]; rfl, hit.out _⟩
          · have hnx := fun ty => run_next_any (P := Tryd.prog) w s k ty hlt
            have hde := (decode_high s k hlt (by omega)).1
            have hle := decode_le s k
            have hnh : Hid (nameB s = false) := by
              show _ = _
              rw [hx.out, hst.out]
              simp only [okc, val_hi _ (show (128 : Int) ≤ ((s[k]'hlt).toNat : Int) by omega)]
              rw [Bool.and_eq_false_iff]
              left
              simp
              omega
            generalize (Utf8.decode s k).1 = dr at *
            generalize (Utf8.decode s k).2 = dn at *
            have hd : decide (valOf dr < 0) = true := by rw [val_hi _ (by omega)]; rfl
            have d1 : ((dr : Int) == 45) = false := by simp; omega
            have d2 : ((dr : Int) == 95) = false := by simp; omega
            have d3 : ((dr : Int) == 46) = false := by simp; omega
            have d4 : ((dr : Int) == 58) = false := by simp; omega
            have d5 : ((dr : Int) == 42) = false := by simp; omega
            go_wp2_with (go_at_call 38; refine (value_any _ _ (by omega) (by omega)).mono ?_; rintro e w1 ⟨rfl, rfl⟩)
            go_ret
            exact ⟨by rw [hnh.out]; rfl, hit.out _⟩
        · have hn : Hid (nameB s = true) := by show _ = _; rw [hx.out]; exact rest_end s k hlt
          have hnx := fun ty => run_next_end (P := Tryd.prog) w s k ty hlt
          go_wp2_with fail
          go_ret
          exact ⟨by rw [hn.out]; rfl, hit.out _⟩
    · have hn : Hid (nameB s = false) := by show _ = _; simp [nameB, h2]
      go_enter Tryd.func16, Tryd.ntmps16
      go_wp2_with fail
      go_ret
      exact ⟨by rw [hn.out]; rfl, Below.refl _ _⟩
  · have hn : Hid (nameB s = false) := by show _ = _; simp [nameB, h1]
    go_enter Tryd.func16, Tryd.ntmps16
    go_wp2_with fail
    go_ret
    exact ⟨by rw [hn.out]; rfl, Below.refl _ _⟩
end Go.Proofs.YtbngclibfnnejaaDoor
