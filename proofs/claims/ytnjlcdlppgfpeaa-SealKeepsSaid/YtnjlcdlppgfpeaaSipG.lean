/- Seal: the laws, walked. -/
import Derived.Test.YtnjlcdlppgfpeaaSipF
set_option linter.unusedVariables false
namespace Go.Proofs.Ytnjlcdlppgfpeaa
open Go.RowKit
theorem BytesAt.more {w w' : World} {A : Option Addr} {l : List UInt8} (h : BytesAt w w.heap.size A l) (hb : Below w.heap.size w w') : BytesAt w' w'.heap.size A l := by
  intro h0
  obtain ⟨ad, h2, h3, h4⟩ := h.below hb (Nat.le_refl _) h0
  exact ⟨ad, h2, Nat.lt_of_lt_of_le h3 hb.size, h4⟩
theorem lawSums (A : Option Addr) (l : List UInt8) (n cap : Nat) (key : Int) (w : World) (h : BytesAt w w.heap.size A l) (hn : l.length = n) (hc : n ≤ cap) : Calls Try.prog 3 #[.int .u64 key, .slice A n cap] w fun e w' => e = .returned (.bool true) ∧ Below w.heap.size w w' := by
  replace hn := Lib.hid hn
  by_cases hl : 5000 < n
  · go_enter Try.func3, Try.ntmps3
    go_wp2_with fail
    refine (example_any _).mono ?_
    rintro e w' ⟨rfl, hb⟩
    go_wp2_with fail
    go_ret
    exact ⟨rfl, hb⟩
  · go_enter Try.func3, Try.ntmps3
    go_wp2_with fail
    refine (sum_any' A l n cap key _ h hn.out (by have := hn.out; omega) (by have := hn.out; omega)).mono ?_
    rintro e w1 ⟨rfl, hb⟩
    have h1 := h.more hb
    replace hb := Lib.hid hb
    go_wp2_with fail
    refine (rsum_any A l n cap key _ h1 hn.out (by have := hn.out; omega)).mono ?_
    rintro e w2 ⟨rfl, hb2⟩
    replace hb2 := Lib.hid (hb.out.trans (hb2.mono hb.out.size))
    go_wp2_with fail
    refine (example_any _).mono ?_
    rintro e w3 ⟨rfl, hb3⟩
    replace hb3 := Lib.hid (hb2.out.trans (hb3.mono hb2.out.size))
    go_wp2_with fail
    go_ret
    exact ⟨rfl, hb3.out⟩
theorem lawDerives (s : ByteArray) (key : Int) (w : World) : Calls Try.prog 4 #[.int .u64 key, .string s] w fun e w' => e = .returned (.bool true) ∧ Below w.heap.size w w' := by
  by_cases hl : 5000 < s.size
  · go_enter Try.func4, Try.ntmps4
    go_wp2_with fail
    refine (example_any _).mono ?_
    rintro e w' ⟨rfl, hb⟩
    go_wp2_with fail
    go_ret
    exact ⟨rfl, hb⟩
  · go_enter Try.func4, Try.ntmps4
    go_wp2_with fail
    refine (derive_any s (by omega) key _).mono ?_
    rintro e w1 ⟨rfl, hb⟩
    replace hb := Lib.hid hb
    go_wp2_with fail
    refine (rderive_any s (by omega) key _).mono ?_
    rintro e w2 ⟨rfl, hb2⟩
    replace hb2 := Lib.hid (hb.out.trans (hb2.mono hb.out.size))
    go_wp2_with fail
    refine (example_any _).mono ?_
    rintro e w3 ⟨rfl, hb3⟩
    replace hb3 := Lib.hid (hb2.out.trans (hb3.mono hb2.out.size))
    go_wp2_with fail
    go_ret
    exact ⟨rfl, hb3.out⟩
theorem lawChains (A : Option Addr) (l : List UInt8) (n cap : Nat) (A2 : Option Addr) (l2 : List UInt8) (n2 cap2 : Nat) (key : Int) (w : World) (h : BytesAt w w.heap.size A l) (hn : l.length = n) (hc : n ≤ cap)
    (h2 : BytesAt w w.heap.size A2 l2) (hn2 : l2.length = n2) (hc2 : n2 ≤ cap2) : Calls Try.prog 5 #[.int .u64 key, .slice A n cap, .slice A2 n2 cap2] w fun e w' => e = .returned (.bool true) ∧ Below w.heap.size w w' := by
  replace hn := Lib.hid hn
  replace hn2 := Lib.hid hn2
  by_cases hl : 5000 < n
  · go_enter Try.func5, Try.ntmps5
    go_wp2_with fail
    refine (example_any _).mono ?_
    rintro e w' ⟨rfl, hb⟩
    go_wp2_with fail
    go_ret
    exact ⟨rfl, hb⟩
  by_cases hl2 : 5000 < n2
  · go_enter Try.func5, Try.ntmps5
    go_wp2_with fail
    refine (example_any _).mono ?_
    rintro e w' ⟨rfl, hb⟩
    go_wp2_with fail
    go_ret
    exact ⟨rfl, hb⟩
  · go_enter Try.func5, Try.ntmps5
    go_wp2_with fail
    refine (chain_any A l n cap key _ h hn.out (by have := hn.out; omega) (by have := hn.out; omega)).mono ?_
    rintro e w1 ⟨rfl, hb⟩
    have k1 := h.more hb
    have k2 := h2.more hb
    replace hb := Lib.hid hb
    go_wp2_with fail
    refine (chain_any A2 l2 n2 cap2 _ _ k2 hn2.out (by have := hn2.out; omega) (by have := hn2.out; omega)).mono ?_
    rintro e w2 ⟨rfl, hb2⟩
    have k3 := k1.more hb2
    have k4 := k2.more hb2
    replace hb2 := Lib.hid (hb.out.trans (hb2.mono hb.out.size))
    go_wp2_with fail
    refine (rchain_any A l n cap key _ k3 hn.out (by have := hn.out; omega)).mono ?_
    rintro e w3 ⟨rfl, hb3⟩
    have k5 := k4.more hb3
    replace hb3 := Lib.hid (hb2.out.trans (hb3.mono hb2.out.size))
    go_wp2_with fail
    refine (rchain_any A2 l2 n2 cap2 _ _ k5 hn2.out (by have := hn2.out; omega)).mono ?_
    rintro e w4 ⟨rfl, hb4⟩
    replace hb4 := Lib.hid (hb3.out.trans (hb4.mono hb3.out.size))
    go_wp2_with fail
    refine (example_any _).mono ?_
    rintro e w5 ⟨rfl, hb5⟩
    replace hb5 := Lib.hid (hb4.out.trans (hb5.mono hb4.out.size))
    go_wp2_with fail
    go_ret
    exact ⟨rfl, hb5.out⟩
theorem conv_bytes (A : Option Addr) (l : List UInt8) (cap B : Nat) (w : World) (h : BytesAt w B A l) : (convert 23 9 (.slice A l.length cap)).run Try.prog w = .ok (.string ⟨l.toArray⟩) w := by
  by_cases h0 : 0 < l.length
  · obtain ⟨ad, rfl, _, hc⟩ := h h0
    exact run_convert_bytes_back w 23 9 5 ad cap l Try.underlying23 Try.underlying5 Try.underlying9 hc
  · obtain rfl : l = [] := List.eq_nil_of_length_eq_zero (by omega)
    cases A with
    | none => exact run_convert_bytes_nil w 23 5 Try.underlying23 Try.underlying5 0 cap 9 Try.underlying9
    | some ad => exact run_convert_bytes_back w 23 9 5 ad cap [] Try.underlying23 Try.underlying5 Try.underlying9 (fun j hj => absurd hj (by simp))
theorem lawAgrees (A : Option Addr) (l : List UInt8) (n cap : Nat) (key : Int) (w : World) (h : BytesAt w w.heap.size A l) (hn : l.length = n) (hc : n ≤ cap) : Calls Try.prog 6 #[.int .u64 key, .slice A n cap] w fun e w' => e = .returned (.bool true) ∧ Below w.heap.size w w' := by
  replace hn := Lib.hid hn
  by_cases hl : 5000 < n
  · go_enter Try.func6, Try.ntmps6
    go_wp2_with fail
    refine (example_any _).mono ?_
    rintro e w' ⟨rfl, hb⟩
    go_wp2_with fail
    go_ret
    exact ⟨rfl, hb⟩
  · go_enter Try.func6, Try.ntmps6
    go_wp2_with fail
    refine (sum_any' A l n cap key _ h hn.out (by have := hn.out; omega) (by have := hn.out; omega)).mono ?_
    rintro e w1 ⟨rfl, hb⟩
    have h1 := h.more hb
    replace hb := Lib.hid hb
    have hcv := conv_bytes A l cap _ w1 h1
    rw [hn.out] at hcv
    go_wp2_with fail
    clear hcv
    refine (derive_any ⟨l.toArray⟩ (by have := hn.out; simp [ByteArray.size]; omega) key _).mono ?_
    rintro e w2 ⟨rfl, hb2⟩
    have h2 := h1.more hb2
    replace hb2 := Lib.hid (hb.out.trans (hb2.mono hb.out.size))
    go_wp2_with fail
    refine (chain_any A l n cap key _ h2 hn.out (by have := hn.out; omega) (by have := hn.out; omega)).mono ?_
    rintro e w3 ⟨rfl, hb3⟩
    have h3 := h2.more hb3
    replace hb3 := Lib.hid (hb2.out.trans (hb3.mono hb2.out.size))
    go_wp2_with fail
    refine (sum_any' A l n cap key _ h3 hn.out (by have := hn.out; omega) (by have := hn.out; omega)).mono ?_
    rintro e w4 ⟨rfl, hb4⟩
    replace hb4 := Lib.hid (hb3.out.trans (hb4.mono hb3.out.size))
    go_wp2_with fail
    refine (example_any _).mono ?_
    rintro e w5 ⟨rfl, hb5⟩
    replace hb5 := Lib.hid (hb4.out.trans (hb5.mono hb4.out.size))
    go_wp2_with fail
    go_ret
    exact ⟨rfl, hb5.out⟩
theorem bytes_of_row {w : World} {a : Option Addr} {len cap : Nat} {zs : List Int}
    (h : (a = none ∧ len = 0 ∧ cap = 0 ∧ zs = []) ∨ ∃ x, a = some x ∧ len ≤ cap ∧ cap ≤ maxLen ∧ zs.length = cap ∧ (∀ i, i < zs.length → w.cell? (x.add i) = some (.int .u8 (zs.getD i 0))) ∧ ∀ n ∈ zs, (Lit.int .u8 n).wf = true) :
    ∃ l : List UInt8, l.length = len ∧ BytesAt w w.heap.size a l ∧ len ≤ cap ∧ cap ≤ maxLen := by
  rcases h with ⟨rfl, rfl, rfl, rfl⟩ | ⟨x, rfl, hl, hm, hz, hcell, hwf⟩
  · exact ⟨[], rfl, BytesAt.nil _ _, Nat.le_refl _, Nat.zero_le _⟩
  · refine ⟨(zs.take len).map fun n => UInt8.ofNat n.toNat, by simp; omega, ?_, hl, hm⟩
    have key : ∀ j, j < len → w.cell? (x.add j) = some (.int .u8 (zs.getD j 0)) := fun j hj => hcell j (by omega)
    intro h0
    have h0' : 0 < len := by simp at h0; omega
    have hx : x.block < w.heap.size := by
      have h1 := key 0 h0'
      have e : x.add 0 = x := by simp [Addr.add]
      rw [e] at h1
      rcases Nat.lt_or_ge x.block w.heap.size with hlt | hge
      · exact hlt
      · simp [World.cell?, Array.getElem?_eq_none hge] at h1
    refine ⟨x, rfl, hx, fun j hj => ?_⟩
    have hj' : j < len := by simp at hj; omega
    have hjz : j < zs.length := by omega
    rw [key j hj']
    have hw := hwf (zs[j]'hjz) (List.getElem_mem hjz)
    have hr : 0 ≤ zs[j]'hjz ∧ zs[j]'hjz ≤ 255 := by simpa [Lit.wf, IntKind.min, IntKind.max, IntKind.signed, IntKind.bits] using hw
    simp only [List.getElem_map, List.getElem_take, List.getD_eq_getElem?_getD, List.getElem?_eq_getElem hjz, Option.getD_some, UInt8.toNat_ofNat']
    congr 2
    omega
end Go.Proofs.Ytnjlcdlppgfpeaa
