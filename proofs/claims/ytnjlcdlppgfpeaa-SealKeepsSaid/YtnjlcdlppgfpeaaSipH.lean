/- Seal: the law SealKeeps, walked. -/
import Derived.Test.YtnjlcdlppgfpeaaSipG
import Derived.Test.YtnjlcdlppgfpeaaWords
import Derived.Deep.QuietTactic
import Derived.BigQuiet
set_option linter.unusedVariables false
namespace Go.Proofs.Ytnjlcdlppgfpeaa
open Go.RowKit
def bcells (l : List UInt8) : List Value := l.map fun b => .int .u8 (b.toNat : Int)
theorem BytesAt.reads {w : World} {B : Nat} {A : Option Addr} {l : List UInt8} (h : BytesAt w B A l) {n : Nat} (hn : l.length = n) : Reads w B 1 A n (bcells l) := by
  subst hn
  refine ⟨by simp [bcells], fun h0 => ?_⟩
  obtain ⟨ad, h1, h2, h3⟩ := h h0
  refine ⟨ad, h1, h2, fun j u hu => ?_⟩
  unfold bcells at hu
  rw [List.getElem?_map] at hu
  rcases Nat.lt_or_ge j l.length with hj | hj
  · rw [List.getElem?_eq_getElem hj] at hu
    rw [h3 j hj]; exact hu
  · rw [List.getElem?_eq_none hj] at hu; cases hu
theorem BytesAt.of_reads {w : World} {B : Nat} {A : Option Addr} {l : List UInt8} {n : Nat} (h : Reads w B 1 A n (bcells l)) : BytesAt w B A l := by
  intro h0
  have hl : n = l.length := by have := h.1; simp [bcells] at this; omega
  obtain ⟨ad, h1, h2, h3⟩ := h.2 (by omega)
  refine ⟨ad, h1, h2, fun j hj => h3 j _ ?_⟩
  simp [bcells, hj]
theorem bcells_one (l : List UInt8) : ∀ u ∈ bcells l, u.oneCell' = true := by
  intro u hu
  simp only [bcells, List.mem_map] at hu
  obtain ⟨b, _, rfl⟩ := hu
  rfl
theorem byte_info : (Try.prog.info? 5).map (fun i => (i.zero, i.size, i.bytes)) = some (some (.int .u8 0), 1, 1) := by kernel_rfl
theorem own_form {w1 : World} {base e size n a b : Nat} {v : Value} {xs : List Value} (hown : w1.ownsRow base e size v n xs) (hat : v.ownBlock = some a ∨ v.ownBlock = some b) :
    ∃ g c, v = .slice (some ⟨g, 0, none⟩) n c ∧ base ≤ g ∧ g < w1.heap.size ∧ n ≤ c ∧ c ≤ maxLen := by
  rcases hown.2 with ⟨rfl, _⟩ | ⟨g, c, cur, rfl, h1, h2, h3, h4, _⟩
  · simp [Value.ownBlock] at hat
  · exact ⟨g, c, rfl, h1, lt_of_heap h2, h3, h4⟩
set_option maxRecDepth 100000 in
set_option maxHeartbeats 1000000 in
theorem lawKeeps (ad : Addr) (l : List UInt8) (n cap : Nat) (key : Int) (w : World) (k : Nat) (h : BytesAt w w.heap.size (some ad) l) (hn : l.length = n) (hc : n ≤ cap) (hc2 : cap ≤ maxLen) (hl : n ≤ 5000) (hk : k ≤ n) : Calls Try.prog 7 #[.int .u64 key, .slice (some ad) n cap, .int .i64 k] w fun e w' => e = .returned (.bool true) ∧ Below w.heap.size w w' := by
  replace hn := Lib.hid hn
  unfold maxLen at hc2
  obtain ⟨i0, hi0, hz0, hz1, hz2⟩ := info_parts byte_info
  have hd0 : decide ((5000 : Int) < n) = false := by simp; omega
  have hd1 : decide ((k : Int) < 0) = false := by simp
  have hd2 : decide ((n : Int) < k) = false := by simp; omega
  go_enter Try.func7, Try.ntmps7
  go_wp2_with (first
    | (at_builtin; refine wpList_append_any _ rfl (.tmp 25) (.tmp 28) _ rfl w.heap.size 5 i0 _ 1 1 Try.underlying23 hi0 hz0 hz1 hz2 rfl (by omega) (.slice (some ⟨w.heap.size, 0, none⟩) 0 0) 0 [] rfl (World.ownsRow_lit _ _ _ (Nat.le_refl _) (by simp) (by simp)) w.heap.size (some ad) k cap (bcells (l.take k)) rfl (((h.take k).below ((Below.refl _ _).alloc (Nat.le_refl _) _) (Nat.le_refl _)).reads (by have := hn.out; simp; omega)) (bcells_one _) (by simp only [maxLen]; omega) (by omega) (by simp) ?_
       intro v1 w1 hown1 hg1 hat1
       obtain ⟨g1, c1, rfl, hg11, hg12, hc11, hc12⟩ := own_form hown1 (by simpa [Value.ownBlock] using hat1)
       have hb1 : Below w.heap.size w w1 := ((Below.refl _ _).alloc (Nat.le_refl _) _).grown hg1 (by simp) (by simp [Value.ownBlock])
       simp only [Nat.zero_add, List.nil_append] at hown1
       have B1 : BytesAt w1 w1.heap.size (some ⟨g1, 0, none⟩) (l.take k) := BytesAt.of_reads (Reads.of_own hown1)
       replace hown1 := Lib.hid hown1
       replace hb1 := Lib.hid hb1
       have h1 := h.more hb1.out
       have hs1 := hb1.out.size
       clear hat1 hg1)
    | (at_builtin; refine wpList_append_any _ rfl (.tmp 30) (.tmp 31) _ rfl w1.heap.size 5 i0 _ 1 1 Try.underlying23 hi0 hz0 hz1 hz2 rfl (by omega) (.slice (some ⟨w1.heap.size, 0, none⟩) 0 0) 0 [] rfl (World.ownsRow_lit _ _ _ (Nat.le_refl _) (by simp) (by simp)) w1.heap.size (some ad) n cap (bcells l) rfl ((h1.below ((Below.refl _ _).alloc (Nat.le_refl _) _) (Nat.le_refl _)).reads hn.out) (bcells_one _) (by simp only [maxLen]; omega) (by omega) (by simp) ?_
       intro v2 w2 hown2 hg2 hat2
       obtain ⟨g2, c2, rfl, hg21, hg22, hc21, hc22⟩ := own_form hown2 (by simpa [Value.ownBlock] using hat2)
       have hb2 : Below w1.heap.size w1 w2 := ((Below.refl _ _).alloc (Nat.le_refl _) _).grown hg2 (by simp) (by simp [Value.ownBlock])
       simp only [Nat.zero_add, List.nil_append] at hown2
       have B2 : BytesAt w2 w2.heap.size (some ⟨g2, 0, none⟩) l := BytesAt.of_reads (Reads.of_own hown2)
       have B12 := B1.more hb2
       have h2 := h1.more hb2
       replace hb2 := Lib.hid (hb1.out.trans (hb2.mono hb1.out.size))
       clear hat2 hg2 B1 h1 h hown1 hown2 hg11 hg12 hg21 hg22)
    | fail)
  refine (sum_any' _ (l.take k) k c2 key _ (B2.take k) (by have := hn.out; simp; omega) (by have := hn.out; simp; omega) (by have := hn.out; simp; omega)).mono ?_
  rintro e w3 ⟨rfl, hb3⟩
  have B23 := B2.more hb3
  have B13 := B12.more hb3
  have h3 := h2.more hb3
  replace hb3 := Lib.hid (hb2.out.trans (hb3.mono hb2.out.size))
  clear B2 B12 h2
  go_wp2_with fail
  refine (sum_any' _ (l.take k) k c1 key _ B13 (by have := hn.out; simp; omega) (by have := hn.out; simp; omega) (by have := hn.out; simp; omega)).mono ?_
  rintro e w4 ⟨rfl, hb4⟩
  have B24 := B23.more hb4
  have h4 := h3.more hb4
  replace hb4 := Lib.hid (hb3.out.trans (hb4.mono hb3.out.size))
  clear B23 B13 h3 hb1 hb2 hb3
  replace B24 := Lib.hid B24
  replace h4 := Lib.hid h4
  go_wp2_with fail
  go_loopw [52] (fun i wr => ∃ (j m : Nat), j ≤ n ∧ i = .int .i64 j ∧ wr = w4.drewN m) (fun i _ => n - (intOf i).toNat)
  case atStart => exact ⟨0, 0, Nat.zero_le _, rfl, rfl⟩
  case round =>
    obtain ⟨j, m, hj, rfl, rfl⟩ := hrel
    by_cases hlt : j < n
    · have hjl : j < l.length := by have := hn.out; omega
      obtain ⟨_, hA0, _, hcell⟩ := h4.out (by omega)
      cases hA0
      obtain ⟨_, hA, _, hcell2⟩ := B24.out (by omega)
      cases hA
      have x1 := hcell j hjl
      have x2 := hcell2 j hjl
      have e2 : (⟨g2, 0, none⟩ : Addr).add j = ⟨g2, j, none⟩ := by unfold Addr.add; split <;> simp_all
      rw [e2] at x2
      clear hcell hcell2 e2
      go_wp2_with fail
      go_quiet (fail)
      go_wp2_with fail
      go_roundw
      case rel => exact ⟨j + 1, _, by omega, by go_num, rfl⟩
      case measure => simp [intOf]; omega
    · go_wp2_with fail
      refine (example_any _).mono ?_
      rintro e w5 ⟨rfl, hb5⟩
      replace hb5 : Below w4.heap.size w4 w5 := ⟨hb5.os, hb5.tape, hb5.output, hb5.size, hb5.block⟩
      replace hb5 := Lib.hid (hb4.out.trans (hb5.mono hb4.out.size))
      go_wp2_with fail
      go_ret
      exact ⟨rfl, hb5.out⟩
theorem keeps_long (A : Option Addr) (n cap : Nat) (key k : Int) (w : World) (h1 : 5000 < n) : Calls Try.prog 7 #[.int .u64 key, .slice A n cap, .int .i64 k] w fun e w' => e = .returned (.bool true) ∧ Below w.heap.size w w' := by
  go_enter Try.func7, Try.ntmps7
  go_wp2_with fail
  refine (example_any _).mono ?_
  rintro e w' ⟨rfl, hb⟩
  replace hb := Lib.hid hb
  go_wp2_with fail
  go_ret
  exact ⟨rfl, hb.out⟩
theorem keeps_low (A : Option Addr) (n cap : Nat) (key k : Int) (w : World) (h1 : n ≤ 5000) (h2 : k < 0) : Calls Try.prog 7 #[.int .u64 key, .slice A n cap, .int .i64 k] w fun e w' => e = .returned (.bool true) ∧ Below w.heap.size w w' := by
  go_enter Try.func7, Try.ntmps7
  go_wp2_with fail
  refine (example_any _).mono ?_
  rintro e w' ⟨rfl, hb⟩
  replace hb := Lib.hid hb
  go_wp2_with fail
  go_ret
  exact ⟨rfl, hb.out⟩
theorem keeps_high (A : Option Addr) (n cap : Nat) (key k : Int) (w : World) (h1 : n ≤ 5000) (h2 : 0 ≤ k) (h3 : (n : Int) < k) : Calls Try.prog 7 #[.int .u64 key, .slice A n cap, .int .i64 k] w fun e w' => e = .returned (.bool true) ∧ Below w.heap.size w w' := by
  go_enter Try.func7, Try.ntmps7
  go_wp2_with fail
  refine (example_any _).mono ?_
  rintro e w' ⟨rfl, hb⟩
  replace hb := Lib.hid hb
  go_wp2_with fail
  go_ret
  exact ⟨rfl, hb.out⟩
set_option maxRecDepth 100000 in
set_option maxHeartbeats 1000000 in
theorem keeps_nil (key : Int) (w : World) : Calls Try.prog 7 #[.int .u64 key, .slice none 0 0, .int .i64 0] w fun e w' => e = .returned (.bool true) ∧ Below w.heap.size w w' := by
  obtain ⟨i0, hi0, hz0, hz1, hz2⟩ := info_parts byte_info
  go_enter Try.func7, Try.ntmps7
  go_wp2_with (first
    | (at_builtin; refine wpList_append_any _ rfl (.tmp 25) (.tmp 28) _ rfl w.heap.size 5 i0 _ 1 1 Try.underlying23 hi0 hz0 hz1 hz2 rfl (by omega) (.slice (some ⟨w.heap.size, 0, none⟩) 0 0) 0 [] rfl (World.ownsRow_lit _ _ _ (Nat.le_refl _) (by simp) (by simp)) w.heap.size none 0 0 (bcells []) rfl ((BytesAt.nil _ _).reads rfl) (bcells_one _) (by simp only [maxLen]; omega) (by omega) (by simp) ?_
       intro v1 w1 hown1 hg1 hat1
       obtain ⟨g1, c1, rfl, hg11, hg12, hc11, hc12⟩ := own_form hown1 (by simpa [Value.ownBlock] using hat1)
       have hb1 : Below w.heap.size w w1 := ((Below.refl _ _).alloc (Nat.le_refl _) _).grown hg1 (by simp) (by simp [Value.ownBlock])
       replace hb1 := Lib.hid hb1
       have hs1 := hb1.out.size
       clear hat1 hg1 hown1)
    | (at_builtin; refine wpList_append_any _ rfl (.tmp 30) (.tmp 31) _ rfl w1.heap.size 5 i0 _ 1 1 Try.underlying23 hi0 hz0 hz1 hz2 rfl (by omega) (.slice (some ⟨w1.heap.size, 0, none⟩) 0 0) 0 [] rfl (World.ownsRow_lit _ _ _ (Nat.le_refl _) (by simp) (by simp)) w1.heap.size none 0 0 (bcells []) rfl ((BytesAt.nil _ _).reads rfl) (bcells_one _) (by simp only [maxLen]; omega) (by omega) (by simp) ?_
       intro v2 w2 hown2 hg2 hat2
       obtain ⟨g2, c2, rfl, hg21, hg22, hc21, hc22⟩ := own_form hown2 (by simpa [Value.ownBlock] using hat2)
       have hb2 : Below w1.heap.size w1 w2 := ((Below.refl _ _).alloc (Nat.le_refl _) _).grown hg2 (by simp) (by simp [Value.ownBlock])
       replace hb2 := Lib.hid (hb1.out.trans (hb2.mono hb1.out.size))
       clear hat2 hg2 hown2 hg11 hg12 hg21 hg22)
    | fail)
  refine (sum_any' _ [] 0 c2 key _ (fun h => absurd h (by simp)) rfl (by decide) (by simp)).mono ?_
  rintro e w3 ⟨rfl, hb3⟩
  replace hb3 := Lib.hid (hb2.out.trans (hb3.mono hb2.out.size))
  go_wp2_with fail
  refine (sum_any' _ [] 0 c1 key _ (fun h => absurd h (by simp)) rfl (by decide) (by simp)).mono ?_
  rintro e w4 ⟨rfl, hb4⟩
  replace hb4 := Lib.hid (hb3.out.trans (hb4.mono hb3.out.size))
  clear hb1 hb2 hb3
  go_wp2_with fail
  refine wp_loop_rounds 1 ?_
  rw [rounds_succ]
  go_wp2_with fail
  refine (example_any _).mono ?_
  rintro e w5 ⟨rfl, hb5⟩
  replace hb5 := Lib.hid (hb4.out.trans (hb5.mono hb4.out.size))
  go_wp2_with fail
  go_ret
  exact ⟨rfl, hb5.out⟩
theorem keeps_any (A : Option Addr) (l : List UInt8) (n cap : Nat) (key k : Int) (w : World) (h : BytesAt w w.heap.size A l) (hn : l.length = n) (hc : n ≤ cap) (hc2 : cap ≤ maxLen) (hnil : A = none → n = 0 ∧ cap = 0) :
    Calls Try.prog 7 #[.int .u64 key, .slice A n cap, .int .i64 k] w fun e w' => e = .returned (.bool true) ∧ Below w.heap.size w w' := by
  by_cases h1 : 5000 < n
  · exact keeps_long A n cap key k w h1
  by_cases h2 : k < 0
  · exact keeps_low A n cap key k w (by omega) h2
  by_cases h3 : (n : Int) < k
  · exact keeps_high A n cap key k w (by omega) (by omega) h3
  obtain ⟨j, rfl⟩ := Int.eq_ofNat_of_zero_le (show 0 ≤ k by omega)
  cases A with
  | none =>
    obtain ⟨rfl, rfl⟩ := hnil rfl
    obtain rfl : j = 0 := by omega
    exact keeps_nil key w
  | some ad => exact lawKeeps ad l n cap key w j h hn hc hc2 (by omega) (by omega)
end Go.Proofs.Ytnjlcdlppgfpeaa
