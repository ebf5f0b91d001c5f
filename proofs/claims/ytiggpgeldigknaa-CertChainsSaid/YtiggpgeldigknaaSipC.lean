/- Seal: the words of the hash, walked. -/
import Derived.Test.YtiggpgeldigknaaSipB
set_option linter.unusedVariables false
namespace Go.Proofs.Ytiggpgeldigknaa
open Go.RowKit
def BytesAt (w : World) (B : Nat) (A : Option Addr) (l : List UInt8) : Prop :=
  0 < l.length → ∃ ad, A = some ad ∧ ad.block < B ∧ ∀ j (h : j < l.length), w.cell? (ad.add j) = some (.int .u8 ((l[j]'h).toNat : Int))
/-- the number that the first k bytes stand for -/
def Sip.lit (l : List UInt8) : Nat → Int
  | 0 => 0
  | k + 1 => bits .or .u64 (Sip.lit l k) (IntKind.u64.wrap (((l.getD k 0).toNat : Int) * 2 ^ (8 * k)))
def Sip.absorb (s : Sip.St) (m : Int) : Sip.St :=
  ⟨bits .xor .u64 (Sip.rnds ⟨s.a, s.b, s.c, bits .xor .u64 s.d m⟩ 2).a m, (Sip.rnds ⟨s.a, s.b, s.c, bits .xor .u64 s.d m⟩ 2).b, (Sip.rnds ⟨s.a, s.b, s.c, bits .xor .u64 s.d m⟩ 2).c, (Sip.rnds ⟨s.a, s.b, s.c, bits .xor .u64 s.d m⟩ 2).d⟩
set_option maxHeartbeats 400000 in
theorem little_any (A : Option Addr) (B : Nat) (l : List UInt8) (n cap : Nat) (w : World) (h : BytesAt w B A l) (hn : l.length = n) (hl : l.length ≤ 8) :
    Calls Try.prog 111 #[.slice A n cap] w fun e w' => e = .returned (.int .u64 (Sip.lit l l.length)) ∧ w' = w := by
  replace h := Lib.hid h
  subst hn
  go_enter Try.func111, Try.ntmps111
  go_wp2
  go_loop [3, 8] (fun m i => ∃ k : Nat, k ≤ l.length ∧ i = .int .i64 k ∧ m = .int .u64 (Sip.lit l k)) (fun _ i => l.length - (intOf i).toNat)
  case atStart => exact ⟨0, Nat.zero_le _, rfl, rfl⟩
  case round =>
    obtain ⟨k, hk, rfl, rfl⟩ := hrel
    by_cases hlt : k < l.length
    · obtain ⟨ad, rfl, _, hc⟩ := h.out (by omega)
      have hc0 := hc k hlt
      clear hc
      have hb : ((l[k]'hlt).toNat : Int) < 256 := by have := (l[k]'hlt).toNat_lt; omega
      have H : Hid (Sip.lit l (k + 1) = bits .or .u64 (Sip.lit l k) (IntKind.u64.wrap (((l[k]'hlt).toNat : Int) * 2 ^ (8 * k)))) := by
        show Sip.lit l (k + 1) = _
        rw [Sip.lit]; simp [List.getD_eq_getElem?_getD, List.getElem?_eq_getElem hlt]
      go_wp2
      go_round
      case rel => exact ⟨k + 1, by omega, by go_num, by rw [H.out]⟩
      case measure => simp [intOf]; omega
    · go_wp2
      go_ret
      obtain rfl : k = l.length := by omega
      exact ⟨rfl, rfl⟩
set_option maxHeartbeats 1000000 in
theorem word_any (m : Int) (w : World) (g : Nat) (s : Sip.St) (h0 : SB 136 w g s.a s.b s.c s.d w) : Calls Try.prog 110 #[.pointer (some ⟨g, 0, none⟩), .int .u64 m] w fun e w' => e = .returned (.tuple #[]) ∧ SB 136 w g (Sip.absorb s m).a (Sip.absorb s m).b (Sip.absorb s m).c (Sip.absorb s m).d w' := by
  obtain ⟨a, b, c, d⟩ := s
  simp only at h0
  have HF : Hid (Sip.absorb ⟨a, b, c, d⟩ m = ⟨bits .xor .u64 (Sip.rnds ⟨a, b, c, bits .xor .u64 d m⟩ 2).a m, (Sip.rnds ⟨a, b, c, bits .xor .u64 d m⟩ 2).b, (Sip.rnds ⟨a, b, c, bits .xor .u64 d m⟩ 2).c, (Sip.rnds ⟨a, b, c, bits .xor .u64 d m⟩ 2).d⟩) := by
    show Sip.absorb ⟨a, b, c, d⟩ m = _
    rw [Sip.absorb]
  generalize hz : Sip.rnds ⟨a, b, c, bits .xor .u64 d m⟩ 2 = z at HF
  replace hz := Lib.hid hz
  obtain ⟨z0, z1, z2, z3⟩ := z
  simp only at HF
  obtain ⟨c0, c1, c2, c3, f0⟩ := h0.facts
  have h1 := Lib.hid h0; clear h0
  go_enter Try.func110, Try.ntmps110
  go_wp2_with fail
  refine (rounds_any 2 (by omega) _ g ⟨a, b, c, bits .xor .u64 d m⟩ ⟨(h1.out.set3 _).1, World.grownBy.refl _ _⟩).mono ?_
  rintro e w2 ⟨rfl, h2⟩
  rw [hz.out] at h2
  simp only at h2
  clear c0 c1 c2 c3 f0
  have hg : w.grownBy w2 (some g) := by
    have := (h1.out.set3 (bits .xor .u64 d m)).2
    exact ⟨h2.2.os.trans this.os, h2.2.tape.trans this.tape, h2.2.output.trans this.output, Nat.le_trans this.size h2.2.size, fun k hk hne => (h2.2.block k (Nat.lt_of_lt_of_le hk this.size) hne).trans (this.block k hk hne)⟩
  have h3 : SB 136 w g _ _ _ _ w2 := ⟨h2.1, hg⟩
  clear h2 hg
  obtain ⟨c0, c1, c2, c3, f0⟩ := h3.facts
  replace h3 := Lib.hid h3
  go_wp2_with fail
  go_end0
  rw [HF.out]
  exact ⟨rfl, h3.out.set0 _⟩
end Go.Proofs.Ytiggpgeldigknaa
