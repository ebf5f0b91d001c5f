/- Fields: integers, encoded: the program's and the reference's, walked. -/
import Derived.Test.YtiggpgeldigknaaOwn
import Derived.Test.YtiggpgeldigknaaSipF
import Derived.Laws.BitsAllLaws
import Derived.Laws.BitsLemmas
set_option linter.unusedVariables false
set_option linter.unusedSimpArgs false
namespace Go.Proofs.Ytiggpgeldigknaa
open Go.RowKit
def bC (b : UInt8) : List Value := [.int .u8 (b.toNat : Int)]
theorem bC_len (b : UInt8) : (bC b).length = 1 := rfl
abbrev BAt (w : World) (B : Nat) (A : Option Addr) (n : Nat) (l : List UInt8) : Prop := LAt bC 1 w B A n l
abbrev BOwn (w : World) (base : Nat) (v : Value) (l : List UInt8) : Prop := LOwn bC 1 5 w base v l
theorem bC_one (l : List UInt8) : ∀ u ∈ flat bC l, u.oneCell' = true := by
  intro u hu
  simp only [flat, List.mem_flatMap, bC] at hu
  obtain ⟨s, _, h⟩ := hu
  simp at h
  rw [h]; rfl
theorem byte_info : (Try.prog.info? 5).map (fun i => (i.zero, i.size, i.bytes)) = some (some (.int .u8 0), 1, 1) := by kernel_rfl
/-- a byte's own slice reads as the hash's words do -/
theorem BAt.bytes {w : World} {B : Nat} {A : Option Addr} {n : Nat} {l : List UInt8} (h : BAt w B A n l) : BytesAt w B A l := by
  intro hn
  have hp : 0 < n := by have := h.len; omega
  obtain ⟨ad, hA, hb, _⟩ := h.at_ hp
  refine ⟨ad, hA, hb, fun j hj => ?_⟩
  obtain ⟨ad', hA', _, hc⟩ := h.at_ (k := j) (by have := h.len; omega)
  rw [hA] at hA'
  cases hA'
  have := hc 0 _ rfl
  simpa using this
def encF : Nat → Nat → List UInt8
  | 0, _ => []
  | f + 1, u => if u < 128 then [UInt8.ofNat u] else UInt8.ofNat (u % 128 + 128) :: encF f (u / 128)
/-- a number as bytes, seven bits in each -/
def enc (u : Nat) : List UInt8 := encF 10 u
theorem encF_len : ∀ f u, (encF f u).length ≤ f
  | 0, _ => Nat.le_refl _
  | f + 1, u => by
    unfold encF
    split
    · simp
    · have := encF_len f (u / 128); simp; omega
/-- an integer as a number -/
def zig (n : Int) : Nat := if 0 ≤ n then (2 * n).toNat else (-2 * n - 1).toNat
theorem zig_lt (n : Int) (h1 : -9223372036854775808 ≤ n) (h2 : n ≤ 9223372036854775807) : zig n < 18446744073709551616 := by unfold zig; split <;> omega
theorem zig_bits (n : Int) (h1 : -9223372036854775808 ≤ n) (h2 : n ≤ 9223372036854775807) :
    bits .xor .u64 (IntKind.u64.wrap (IntKind.u64.wrap n * 2)) (IntKind.u64.wrap (n / 9223372036854775808)) = (zig n : Int) := by
  have w64 : ∀ x : Int, IntKind.u64.wrap x = x % 18446744073709551616 := fun x => by simp [IntKind.wrap, IntKind.bits, IntKind.signed]
  by_cases h : 0 ≤ n
  · have e1 : IntKind.u64.wrap (n / 9223372036854775808) = ((0 : Nat) : Int) := by rw [w64]; omega
    have e2 : IntKind.u64.wrap (IntKind.u64.wrap n * 2) = ((zig n : Nat) : Int) := by rw [w64, w64]; unfold zig; rw [if_pos h]; omega
    rw [e1, e2, u64_xor_nat _ _ (zig_lt n h1 h2) (by decide)]
    simp
  · have e1 : IntKind.u64.wrap (n / 9223372036854775808) = ((18446744073709551615 : Nat) : Int) := by rw [w64]; omega
    have e2 : IntKind.u64.wrap (IntKind.u64.wrap n * 2) = ((18446744073709551615 - zig n : Nat) : Int) := by rw [w64, w64]; unfold zig; rw [if_neg h]; omega
    have hz := zig_lt n h1 h2
    rw [e1, e2, u64_xor_nat _ _ (by omega) (by decide)]
    congr 1
    have e3 : (18446744073709551615 - zig n) ^^^ 18446744073709551615 = 18446744073709551615 - (18446744073709551615 - zig n) := by
      have := congrArg BitVec.toNat (BitVec.xor_allOnes (x := BitVec.ofNat 64 (18446744073709551615 - zig n)))
      rw [BitVec.toNat_xor, BitVec.toNat_not, BitVec.toNat_ofNat, BitVec.toNat_allOnes, Nat.mod_eq_of_lt (by omega)] at this
      exact this
    rw [e3]
    omega
theorem grp_bits (u : Nat) (h : u < 18446744073709551616) : bits .or .u8 (bits .and .u64 (u : Int) 127 % 256) 128 = ((UInt8.ofNat (u % 128 + 128)).toNat : Int) := by
  have e : bits .and .u64 (u : Int) 127 = ((u % 128 : Nat) : Int) := by
    rw [show (127 : Int) = ((127 : Nat) : Int) by rfl, u64_and_nat _ _ h (by decide)]
    congr 1
    exact Nat.and_two_pow_sub_one_eq_mod u 7
  rw [e, show (((u % 128 : Nat) : Int) % 256) = ((u % 128 : Nat) : Int) by omega, show (128 : Int) = ((128 : Nat) : Int) by rfl, u8_or_nat _ _ (by omega) (by decide)]
  congr 1
  rw [Nat.or_comm, nat_join 7 128 (u % 128) (by decide) (by omega)]
  simp
  omega
theorem encF_more : ∀ f u, u < 128 ^ (f + 1) → encF (f + 2) u = encF (f + 1) u
  | 0, u, h => by
    have h' : u < 128 := by simpa using h
    simp [encF, h']
  | f + 1, u, h => by
    rw [encF]
    conv => rhs; rw [encF]
    split
    · rfl
    · rw [encF_more f (u / 128) (by rw [Nat.pow_succ] at h; exact Nat.div_lt_of_lt_mul (by omega))]
theorem enc_step (u : Nat) (h1 : 128 ≤ u) (h2 : u < 18446744073709551616) : enc u = UInt8.ofNat (u % 128 + 128) :: enc (u / 128) := by
  have e : encF 10 (u / 128) = encF 9 (u / 128) := encF_more 8 (u / 128) (by
    have : (128 : Nat) ^ 9 = 9223372036854775808 := by decide
    rw [this]
    omega)
  unfold enc
  rw [e]
  conv => lhs; rw [encF]
  rw [if_neg (by omega)]
theorem enc_last (u : Nat) (h : u < 128) : enc u = [UInt8.ofNat u] := by
  unfold enc
  rw [encF, if_pos h]
theorem grown_step {w wr w1 : World} {o b : Option Nat} (h : w.grownBy wr o) (hb : b = o ∨ ∃ g, b = some g ∧ w.heap.size ≤ g) (h1 : wr.grownBy w1 b) : w.grownBy w1 o :=
  ⟨h1.os.trans h.os, h1.tape.trans h.tape, h1.output.trans h.output, Nat.le_trans h.size h1.size, fun k hk hne => (h1.block k (Nat.lt_of_lt_of_le hk h.size) (fun e => by
    rcases hb with rfl | ⟨g, rfl, hg⟩
    · exact hne e
    · cases e; omega)).trans (h.block k hk hne)⟩
theorem below_own {w w' : World} {base : Nat} {v : Value} {l : List UInt8} (h : BOwn w base v l) (hb : base ≤ w.heap.size) (hg : w.grownBy w' v.ownBlock) : Below base w w' :=
  (Below.refl base w).grown hg hb (fun g hg => (World.ownsRow.lt h.2 g hg).1)
def natOf : Value → Nat | .int _ n => n.toNat | _ => 0
theorem lit_byte (w : World) (b : UInt8) (x : Int) (hx : x = (b.toNat : Int)) : BAt (w.alloc (.cells #[.int .u8 x] 5)) (w.heap.size + 1) (some ⟨w.heap.size, 0, none⟩) 1 [b] := by
  subst hx
  exact lit_at bC_len w [b] _ rfl
set_option maxRecDepth 100000 in
set_option maxHeartbeats 2000000 in
theorem appendInt_any (base : Nat) (v : Value) (l : List UInt8) (n : Int) (w : World) (h : BOwn w base v l) (hb : base ≤ w.heap.size) (hl : l.length ≤ 1000000) (h1 : -9223372036854775808 ≤ n) (h2 : n ≤ 9223372036854775807) :
    Calls Try.prog 102 #[v, .int .i64 n] w fun e w' => ∃ v', e = .returned v' ∧ BOwn w' base v' (l ++ enc (zig n)) ∧ w.grownBy w' v.ownBlock ∧ (v'.ownBlock = v.ownBlock ∨ ∃ g, v'.ownBlock = some g ∧ w.heap.size ≤ g) := by
  obtain ⟨i0, hi0, hz0, hz1, hz2⟩ := info_parts byte_info
  have hzb := zig_bits n h1 h2
  have hzl := zig_lt n h1 h2
  generalize zig n = Z at *
  have hlen : Hid ((l ++ enc Z).length ≤ 1000010) := by show _ ≤ _; have := encF_len 10 Z; simp [enc]; omega
  go_enter Try.func102, Try.ntmps102
  go_wp2_with fail
  go_loopw [0, 5] (fun b u wr => ∃ (L : List UInt8) (U : Nat), u = .int .u64 U ∧ U < 18446744073709551616 ∧ Hid (BOwn wr base b L) ∧ Hid (w.grownBy wr v.ownBlock) ∧ Hid (b.ownBlock = v.ownBlock ∨ ∃ g, b.ownBlock = some g ∧ w.heap.size ≤ g) ∧ Hid (L ++ enc U = l ++ enc Z)) (fun _ u _ => natOf u)
  case atStart => exact ⟨l, Z, rfl, hzl, h, World.grownBy.refl _ _, .inl rfl, rfl⟩
  case round =>
    obtain ⟨L, U, rfl, hU, ho, hbw, hown, hx⟩ := hrel
    obtain ⟨A2, c2, rfl, hc2, hmx2, hA2, _⟩ := ho.out.form
    clear hA2
    clear hzb hzl
    have hlL : Hid (L.length ≤ 1000010) := by show _ ≤ _; have h8 := congrArg List.length hx.out; have h9 := hlen.out; (try simp only [List.length_append] at h8); (try simp only [List.length_append] at h9); omega
    by_cases h128 : 128 ≤ U
    · have hd : decide ((128 : Int) ≤ U) = true := by simp; omega
      have hst := enc_step U h128 hU
      have hgb := grp_bits U hU
      generalize hby : UInt8.ofNat (U % 128 + 128) = by_ at *
      have hF : Hid ((L ++ [by_]) ++ enc (U / 128) = l ++ enc Z) := by show _ = _; rw [← hx.out, hst]; simp
      replace hby := Lib.hid hby
      clear hst
      have hq : Hid (((U / 128 : Nat) : Int) = (U : Int) / 128) := by show _ = _; omega
      have hrd : Hid (Reads (wr.alloc (.cells #[.int .u8 (by_.toNat : Int)] 5)) (wr.heap.size + 1) 1 (some ⟨wr.heap.size, 0, none⟩) 1 (flat bC [by_])) := (lit_byte wr by_ _ rfl).2
      have hob : Hid (BOwn (wr.alloc (.cells #[.int .u8 (by_.toNat : Int)] 5)) base (.slice A2 L.length c2) L) := ho.out.alloc _
      have hsz := hbw.out.size
      go_wp2_with (at_builtin; refine wpList_append_any _ rfl (.tmp 15) (.tmp 20) _ rfl base 5 i0 _ 1 1 Try.underlying85 hi0 hz0 hz1 hz2 rfl (by omega) (.slice A2 L.length c2) L.length (flat bC L) rfl hob.out.2 (wr.heap.size + 1) (some ⟨wr.heap.size, 0, none⟩) 1 1 (flat bC [by_]) rfl hrd.out (bC_one _) (by have := hlL.out; simp only [maxLen]; omega) (by have := hlL.out; omega) (by simp; omega) ?_; intro v' w1 hown1 hg1 hat1)
      have hown2 : Hid (BOwn w1 base v' (L ++ [by_])) := ⟨bC_len, by rw [List.length_append, flat_append]; exact hown1⟩
      have hbw2 : Hid (w.grownBy w1 v.ownBlock) := grown_step (only_alloc hbw.out _) hown.out hg1
      have hown3 : Hid (v'.ownBlock = v.ownBlock ∨ ∃ g, v'.ownBlock = some g ∧ w.heap.size ≤ g) := by
        rcases hat1 with e | e
        · rw [e]; exact hown.out
        · exact .inr ⟨_, e, by simp; omega⟩
      clear hown1 hg1 hat1
      go_wp2_with fail
      go_roundw
      case rel => exact ⟨L ++ [by_], U / 128, by rw [hq.out], by omega, hown2, hbw2, hown3, hF⟩
      case measure => simp [natOf]; omega
    · have hd : decide ((128 : Int) ≤ U) = false := by simp; omega
      have hst := enc_last U (by omega)
      have hwb : IntKind.u8.wrap (U : Int) = ((UInt8.ofNat U).toNat : Int) := by rw [IntKind.wrap_u8']; simp
      generalize hby : UInt8.ofNat U = by_ at *
      have hF : Hid (L ++ [by_] = l ++ enc Z) := by show _ = _; rw [← hx.out, hst]
      replace hby := Lib.hid hby
      clear hst
      have hrd : Hid (Reads (wr.alloc (.cells #[.int .u8 (by_.toNat : Int)] 5)) (wr.heap.size + 1) 1 (some ⟨wr.heap.size, 0, none⟩) 1 (flat bC [by_])) := (lit_byte wr by_ _ rfl).2
      have hob : Hid (BOwn (wr.alloc (.cells #[.int .u8 (by_.toNat : Int)] 5)) base (.slice A2 L.length c2) L) := ho.out.alloc _
      have hsz := hbw.out.size
      go_wp2_with (at_builtin; refine wpList_append_any _ rfl (.tmp 24) (.tmp 27) _ rfl base 5 i0 _ 1 1 Try.underlying85 hi0 hz0 hz1 hz2 rfl (by omega) (.slice A2 L.length c2) L.length (flat bC L) rfl hob.out.2 (wr.heap.size + 1) (some ⟨wr.heap.size, 0, none⟩) 1 1 (flat bC [by_]) rfl hrd.out (bC_one _) (by have := hlL.out; simp only [maxLen]; omega) (by have := hlL.out; omega) (by simp; omega) ?_; intro v' w1 hown1 hg1 hat1)
      have hown2 : Hid (BOwn w1 base v' (L ++ [by_])) := ⟨bC_len, by rw [List.length_append, flat_append]; exact hown1⟩
      have hbw2 : Hid (w.grownBy w1 v.ownBlock) := grown_step (only_alloc hbw.out _) hown.out hg1
      have hown3 : Hid (v'.ownBlock = v.ownBlock ∨ ∃ g, v'.ownBlock = some g ∧ w.heap.size ≤ g) := by
        rcases hat1 with e | e
        · rw [e]; exact hown.out
        · exact .inr ⟨_, e, by simp; omega⟩
      clear hown1 hg1 hat1
      go_wp2_with fail
      go_ret
      exact ⟨v', rfl, by rw [← hF.out]; exact hown2.out, hbw2.out, hown3.out⟩
set_option maxRecDepth 100000 in
set_option maxHeartbeats 1000000 in
theorem putInt_any (n : Int) (w : World) (h1 : -9223372036854775808 ≤ n) (h2 : n ≤ 9223372036854775807) :
    Calls Try.prog 84 #[.int .i64 n] w fun e w' => ∃ v', e = .returned v' ∧ BOwn w' w.heap.size v' (enc (zig n)) ∧ Below w.heap.size w w' := by
  have hc := appendInt_any w.heap.size (.slice none 0 0) [] n w (LOwn.nil bC_len _ _) (Nat.le_refl _) (by simp) h1 h2
  rw [List.nil_append] at hc
  generalize enc (zig n) = E at *
  replace hc := Lib.hid hc
  go_enter Try.func84, Try.ntmps84
  go_wp2_with fail
  refine hc.out.mono ?_; rintro e w1 ⟨v1, rfl, ho, hb0, _⟩
  have hb := below_own (LOwn.nil bC_len w w.heap.size) (Nat.le_refl _) hb0
  clear hb0
  replace ho := Lib.hid ho
  replace hb := Lib.hid hb
  go_wp2_with fail
  go_ret
  exact ⟨v1, rfl, ho.out, hb.out⟩
theorem grp_rem (u : Nat) (h : u < 18446744073709551616) : ((u : Int) % 128 + 128) = ((UInt8.ofNat (u % 128 + 128)).toNat : Int) := by
  simp
  omega
set_option maxRecDepth 100000 in
set_option maxHeartbeats 2000000 in
theorem rputInt_any (n : Int) (w : World) (h1 : -9223372036854775808 ≤ n) (h2 : n ≤ 9223372036854775807) :
    Calls Try.prog 85 #[.int .i64 n] w fun e w' => ∃ v', e = .returned v' ∧ BOwn w' w.heap.size v' (enc (zig n)) ∧ Below w.heap.size w w' := by
  obtain ⟨i0, hi0, hz0, hz1, hz2⟩ := info_parts byte_info
  have hzl := zig_lt n h1 h2
  have hlen : Hid ((enc (zig n)).length ≤ 10) := encF_len 10 _
  by_cases hneg : n < 0
  · have hz : Hid ((zig n : Int) = -(n + 1) * 2 + 1) := by show _ = _; unfold zig; rw [if_neg (by omega)]; omega
    generalize zig n = Z at *
    go_enter Try.func85, Try.ntmps85
    go_wp2_with fail
    go_loopw [4, 3] (fun b u wr => ∃ (L : List UInt8) (U : Nat), u = .int .u64 U ∧ U < 18446744073709551616 ∧ Hid (BOwn wr w.heap.size b L) ∧ Hid (w.grownBy wr (none : Option Nat)) ∧ Hid (b.ownBlock = (none : Option Nat) ∨ ∃ g, b.ownBlock = some g ∧ w.heap.size ≤ g) ∧ Hid (L ++ enc U = enc Z)) (fun _ u _ => natOf u)
    case atStart => exact ⟨[], Z, congrArg (Value.int .u64) (by have := hz.out; omega), hzl, LOwn.nil bC_len _ _, World.grownBy.refl _ _, .inl rfl, List.nil_append _⟩
    case round =>
      obtain ⟨L, U, rfl, hU, ho, hbw, hown, hx⟩ := hrel
      obtain ⟨A2, c2, rfl, hc2, hmx2, hA2, _⟩ := ho.out.form
      clear hA2
      clear hz hzl
      have hlL : Hid (L.length ≤ 10) := by show _ ≤ _; have h8 := congrArg List.length hx.out; have h9 := hlen.out; (try simp only [List.length_append] at h8); (try simp only [List.length_append] at h9); omega
      by_cases h128 : 128 ≤ U
      · have hd : decide ((128 : Int) ≤ U) = true := by simp; omega
        have hst := enc_step U h128 hU
        have hgb := grp_rem U hU
        generalize hby : UInt8.ofNat (U % 128 + 128) = by_ at *
        have hF : Hid ((L ++ [by_]) ++ enc (U / 128) = enc Z) := by show _ = _; rw [← hx.out, hst]; simp
        replace hby := Lib.hid hby
        clear hst
        have hq : Hid (((U / 128 : Nat) : Int) = (U : Int) / 128) := by show _ = _; omega
        have hrd : Hid (Reads (wr.alloc (.cells #[.int .u8 (by_.toNat : Int)] 5)) (wr.heap.size + 1) 1 (some ⟨wr.heap.size, 0, none⟩) 1 (flat bC [by_])) := (lit_byte wr by_ _ rfl).2
        have hob : Hid (BOwn (wr.alloc (.cells #[.int .u8 (by_.toNat : Int)] 5)) w.heap.size (.slice A2 L.length c2) L) := ho.out.alloc _
        have hsz := hbw.out.size
        go_wp2_with (at_builtin; refine wpList_append_any _ rfl (.tmp 18) (.tmp 23) _ rfl w.heap.size 5 i0 _ 1 1 Try.underlying85 hi0 hz0 hz1 hz2 rfl (by omega) (.slice A2 L.length c2) L.length (flat bC L) rfl hob.out.2 (wr.heap.size + 1) (some ⟨wr.heap.size, 0, none⟩) 1 1 (flat bC [by_]) rfl hrd.out (bC_one _) (by have := hlL.out; simp only [maxLen]; omega) (by have := hlL.out; omega) (by simp; omega) ?_; intro v' w1 hown1 hg1 hat1)
        have hown2 : Hid (BOwn w1 w.heap.size v' (L ++ [by_])) := ⟨bC_len, by rw [List.length_append, flat_append]; exact hown1⟩
        have hbw2 : Hid (w.grownBy w1 (none : Option Nat)) := grown_step (only_alloc hbw.out _) hown.out hg1
        have hown3 : Hid (v'.ownBlock = (none : Option Nat) ∨ ∃ g, v'.ownBlock = some g ∧ w.heap.size ≤ g) := by
          rcases hat1 with e | e
          · rw [e]; exact hown.out
          · exact .inr ⟨_, e, by simp; omega⟩
        clear hown1 hg1 hat1
        go_wp2_with fail
        go_roundw
        case rel => exact ⟨L ++ [by_], U / 128, by rw [hq.out], by omega, hown2, hbw2, hown3, hF⟩
        case measure => simp [natOf]; omega
      · have hd : decide ((128 : Int) ≤ U) = false := by simp; omega
        have hst := enc_last U (by omega)
        have hwb : IntKind.u8.wrap (U : Int) = ((UInt8.ofNat U).toNat : Int) := by rw [IntKind.wrap_u8']; simp
        generalize hby : UInt8.ofNat U = by_ at *
        have hF : Hid (L ++ [by_] = enc Z) := by show _ = _; rw [← hx.out, hst]
        replace hby := Lib.hid hby
        clear hst
        have hrd : Hid (Reads (wr.alloc (.cells #[.int .u8 (by_.toNat : Int)] 5)) (wr.heap.size + 1) 1 (some ⟨wr.heap.size, 0, none⟩) 1 (flat bC [by_])) := (lit_byte wr by_ _ rfl).2
        have hob : Hid (BOwn (wr.alloc (.cells #[.int .u8 (by_.toNat : Int)] 5)) w.heap.size (.slice A2 L.length c2) L) := ho.out.alloc _
        have hsz := hbw.out.size
        go_wp2_with (at_builtin; refine wpList_append_any _ rfl (.tmp 27) (.tmp 30) _ rfl w.heap.size 5 i0 _ 1 1 Try.underlying85 hi0 hz0 hz1 hz2 rfl (by omega) (.slice A2 L.length c2) L.length (flat bC L) rfl hob.out.2 (wr.heap.size + 1) (some ⟨wr.heap.size, 0, none⟩) 1 1 (flat bC [by_]) rfl hrd.out (bC_one _) (by have := hlL.out; simp only [maxLen]; omega) (by have := hlL.out; omega) (by simp; omega) ?_; intro v' w1 hown1 hg1 hat1)
        have hown2 : Hid (BOwn w1 w.heap.size v' (L ++ [by_])) := ⟨bC_len, by rw [List.length_append, flat_append]; exact hown1⟩
        have hbw2 : Hid (w.grownBy w1 (none : Option Nat)) := grown_step (only_alloc hbw.out _) hown.out hg1
        have hown3 : Hid (v'.ownBlock = (none : Option Nat) ∨ ∃ g, v'.ownBlock = some g ∧ w.heap.size ≤ g) := by
          rcases hat1 with e | e
          · rw [e]; exact hown.out
          · exact .inr ⟨_, e, by simp; omega⟩
        clear hown1 hg1 hat1
        go_wp2_with fail
        go_ret
        exact ⟨v', rfl, by rw [← hF.out]; exact hown2.out, below_own (LOwn.nil bC_len w w.heap.size) (Nat.le_refl _) hbw2.out⟩
  · have hz : Hid ((zig n : Int) = n * 2) := by show _ = _; unfold zig; rw [if_pos (by omega)]; omega
    generalize zig n = Z at *
    go_enter Try.func85, Try.ntmps85
    go_wp2_with fail
    go_loopw [4, 3] (fun b u wr => ∃ (L : List UInt8) (U : Nat), u = .int .u64 U ∧ U < 18446744073709551616 ∧ Hid (BOwn wr w.heap.size b L) ∧ Hid (w.grownBy wr (none : Option Nat)) ∧ Hid (b.ownBlock = (none : Option Nat) ∨ ∃ g, b.ownBlock = some g ∧ w.heap.size ≤ g) ∧ Hid (L ++ enc U = enc Z)) (fun _ u _ => natOf u)
    case atStart => exact ⟨[], Z, congrArg (Value.int .u64) (by have := hz.out; omega), hzl, LOwn.nil bC_len _ _, World.grownBy.refl _ _, .inl rfl, List.nil_append _⟩
    case round =>
      obtain ⟨L, U, rfl, hU, ho, hbw, hown, hx⟩ := hrel
      obtain ⟨A2, c2, rfl, hc2, hmx2, hA2, _⟩ := ho.out.form
      clear hA2
      clear hz hzl
      have hlL : Hid (L.length ≤ 10) := by show _ ≤ _; have h8 := congrArg List.length hx.out; have h9 := hlen.out; (try simp only [List.length_append] at h8); (try simp only [List.length_append] at h9); omega
      by_cases h128 : 128 ≤ U
      · have hd : decide ((128 : Int) ≤ U) = true := by simp; omega
        have hst := enc_step U h128 hU
        have hgb := grp_rem U hU
        generalize hby : UInt8.ofNat (U % 128 + 128) = by_ at *
        have hF : Hid ((L ++ [by_]) ++ enc (U / 128) = enc Z) := by show _ = _; rw [← hx.out, hst]; simp
        replace hby := Lib.hid hby
        clear hst
        have hq : Hid (((U / 128 : Nat) : Int) = (U : Int) / 128) := by show _ = _; omega
        have hrd : Hid (Reads (wr.alloc (.cells #[.int .u8 (by_.toNat : Int)] 5)) (wr.heap.size + 1) 1 (some ⟨wr.heap.size, 0, none⟩) 1 (flat bC [by_])) := (lit_byte wr by_ _ rfl).2
        have hob : Hid (BOwn (wr.alloc (.cells #[.int .u8 (by_.toNat : Int)] 5)) w.heap.size (.slice A2 L.length c2) L) := ho.out.alloc _
        have hsz := hbw.out.size
        go_wp2_with (at_builtin; refine wpList_append_any _ rfl (.tmp 18) (.tmp 23) _ rfl w.heap.size 5 i0 _ 1 1 Try.underlying85 hi0 hz0 hz1 hz2 rfl (by omega) (.slice A2 L.length c2) L.length (flat bC L) rfl hob.out.2 (wr.heap.size + 1) (some ⟨wr.heap.size, 0, none⟩) 1 1 (flat bC [by_]) rfl hrd.out (bC_one _) (by have := hlL.out; simp only [maxLen]; omega) (by have := hlL.out; omega) (by simp; omega) ?_; intro v' w1 hown1 hg1 hat1)
        have hown2 : Hid (BOwn w1 w.heap.size v' (L ++ [by_])) := ⟨bC_len, by rw [List.length_append, flat_append]; exact hown1⟩
        have hbw2 : Hid (w.grownBy w1 (none : Option Nat)) := grown_step (only_alloc hbw.out _) hown.out hg1
        have hown3 : Hid (v'.ownBlock = (none : Option Nat) ∨ ∃ g, v'.ownBlock = some g ∧ w.heap.size ≤ g) := by
          rcases hat1 with e | e
          · rw [e]; exact hown.out
          · exact .inr ⟨_, e, by simp; omega⟩
        clear hown1 hg1 hat1
        go_wp2_with fail
        go_roundw
        case rel => exact ⟨L ++ [by_], U / 128, by rw [hq.out], by omega, hown2, hbw2, hown3, hF⟩
        case measure => simp [natOf]; omega
      · have hd : decide ((128 : Int) ≤ U) = false := by simp; omega
        have hst := enc_last U (by omega)
        have hwb : IntKind.u8.wrap (U : Int) = ((UInt8.ofNat U).toNat : Int) := by rw [IntKind.wrap_u8']; simp
        generalize hby : UInt8.ofNat U = by_ at *
        have hF : Hid (L ++ [by_] = enc Z) := by show _ = _; rw [← hx.out, hst]
        replace hby := Lib.hid hby
        clear hst
        have hrd : Hid (Reads (wr.alloc (.cells #[.int .u8 (by_.toNat : Int)] 5)) (wr.heap.size + 1) 1 (some ⟨wr.heap.size, 0, none⟩) 1 (flat bC [by_])) := (lit_byte wr by_ _ rfl).2
        have hob : Hid (BOwn (wr.alloc (.cells #[.int .u8 (by_.toNat : Int)] 5)) w.heap.size (.slice A2 L.length c2) L) := ho.out.alloc _
        have hsz := hbw.out.size
        go_wp2_with (at_builtin; refine wpList_append_any _ rfl (.tmp 27) (.tmp 30) _ rfl w.heap.size 5 i0 _ 1 1 Try.underlying85 hi0 hz0 hz1 hz2 rfl (by omega) (.slice A2 L.length c2) L.length (flat bC L) rfl hob.out.2 (wr.heap.size + 1) (some ⟨wr.heap.size, 0, none⟩) 1 1 (flat bC [by_]) rfl hrd.out (bC_one _) (by have := hlL.out; simp only [maxLen]; omega) (by have := hlL.out; omega) (by simp; omega) ?_; intro v' w1 hown1 hg1 hat1)
        have hown2 : Hid (BOwn w1 w.heap.size v' (L ++ [by_])) := ⟨bC_len, by rw [List.length_append, flat_append]; exact hown1⟩
        have hbw2 : Hid (w.grownBy w1 (none : Option Nat)) := grown_step (only_alloc hbw.out _) hown.out hg1
        have hown3 : Hid (v'.ownBlock = (none : Option Nat) ∨ ∃ g, v'.ownBlock = some g ∧ w.heap.size ≤ g) := by
          rcases hat1 with e | e
          · rw [e]; exact hown.out
          · exact .inr ⟨_, e, by simp; omega⟩
        clear hown1 hg1 hat1
        go_wp2_with fail
        go_ret
        exact ⟨v', rfl, by rw [← hF.out]; exact hown2.out, below_own (LOwn.nil bC_len w w.heap.size) (Nat.le_refl _) hbw2.out⟩
end Go.Proofs.Ytiggpgeldigknaa
