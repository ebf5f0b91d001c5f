/- Seal: Sum, Derive and Chain, the program's and the reference's; the published example. -/
import Derived.Test.YtnjlcdlppgfpeaaSipE
set_option linter.unusedVariables false
namespace Go.Proofs.Ytnjlcdlppgfpeaa
open Go.RowKit
def Sip.sum (key : Int) (l : List UInt8) : Int := Sip.pair key (bits .xor .u64 key 6616326155283851669) l
section
variable (A : Option Addr) (l : List UInt8) (n cap : Nat) (key : Int) (w : World) (h : BytesAt w w.heap.size A l) (hn : l.length = n) (hl : l.length ≤ 5000) (hc : l.length ≤ cap)
include h hn hl
theorem rsum_any : Calls Try.prog 10 #[.int .u64 key, .slice A n cap] w fun e w' => e = .returned (.int .u64 (Sip.sum key l)) ∧ Below w.heap.size w w' := by
  have H := fun w h => pair_any A l n cap key (bits .xor .u64 key 6616326155283851669) w h hn hl
  replace H := Lib.hid H
  go_enter Try.func10, Try.ntmps10
  go_wp2_with fail
  refine (H.out _ h).mono ?_
  rintro e w' ⟨rfl, hb⟩
  replace hb := Lib.hid hb
  go_wp2_with fail
  go_ret
  exact ⟨rfl, hb.out⟩
theorem rchain_any : Calls Try.prog 14 #[.int .u64 key, .slice A n cap] w fun e w' => e = .returned (.int .u64 (Sip.sum key l)) ∧ Below w.heap.size w w' := by
  have H := fun w h => rsum_any A l n cap key w h hn hl
  replace H := Lib.hid H
  go_enter Try.func14, Try.ntmps14
  go_wp2_with fail
  refine (H.out _ h).mono ?_
  rintro e w' ⟨rfl, hb⟩
  replace hb := Lib.hid hb
  go_wp2_with fail
  go_ret
  exact ⟨rfl, hb.out⟩
include hc
theorem chain_any : Calls Try.prog 13 #[.int .u64 key, .slice A n cap] w fun e w' => e = .returned (.int .u64 (Sip.sum key l)) ∧ Below w.heap.size w w' := by
  have H := fun w h => sum_any A l n cap key w h hn hl hc
  replace H := Lib.hid H
  go_enter Try.func13, Try.ntmps13
  go_wp2_with fail
  refine (H.out _ h).mono ?_
  rintro e w' ⟨rfl, hb⟩
  replace hb := Lib.hid hb
  go_wp2_with fail
  go_ret
  exact ⟨rfl, hb.out⟩
end
theorem bytes_made (w : World) (s : ByteArray) (cap lo hi : Nat) : BytesAt (w.alloc (.cells (bytesRow s cap) 5 (lo, hi))) (w.heap.size + 1) (some ⟨w.heap.size, 0, none⟩) s.data.toList := by
  intro _
  refine ⟨_, rfl, by simp, fun j hj => ?_⟩
  have e : (⟨w.heap.size, 0, none⟩ : Addr).add j = ⟨w.heap.size, j, none⟩ := by unfold Addr.add; split <;> simp_all
  rw [e, World.cell?_alloc_mark]
  simpa using bytesRow_at s cap j (by simpa using hj)
theorem bytes_lit (w : World) (l : List UInt8) (cs : Array Value) (h : cs = (l.map fun b => Value.int .u8 (b.toNat : Int)).toArray) : BytesAt (w.alloc (.cells cs 5)) (w.alloc (.cells cs 5)).heap.size (some ⟨w.heap.size, 0, none⟩) l := by
  intro _
  refine ⟨_, rfl, by simp, fun j hj => ?_⟩
  have e : (⟨w.heap.size, 0, none⟩ : Addr).add j = ⟨w.heap.size, j, none⟩ := by unfold Addr.add; split <;> simp_all
  rw [e, World.cell?_alloc_mark, h]
  simp [hj]
theorem BytesAt.nil (w : World) (B : Nat) : BytesAt w B none [] := fun h => absurd h (by simp)
section
variable (s : ByteArray) (hl : s.size ≤ 5000) (key : Int) (w : World)
include hl
theorem derive_any : Calls Try.prog 11 #[.int .u64 key, .string s] w fun e w' => e = .returned (.int .u64 (Sip.sum key s.data.toList)) ∧ Below w.heap.size w w' := by
  have hcv := fun w => run_bytes_of_string (P := Try.prog) w 9 23 5 s Try.underlying9 Try.underlying23 Try.underlying5
  have hcap := grownCap_ge w s.size 0 5
  generalize hc : grownCap w s.size 0 5 = cap at hcap
  replace hc := Lib.hid hc
  have hcv1 := hcv w
  rw [hc.out] at hcv1
  clear hcv
  go_enter Try.func11, Try.ntmps11
  go_wp2_with fail
  refine (sum_any _ s.data.toList s.size cap key _ ?_ (by simp) (by simpa using hl) (by simpa using hcap)).mono ?_
  · have h2 : BytesAt (w.alloc (.cells (bytesRow s cap) 5 ((bytesRow s cap).size, (bytesRow s cap).size + 1))).drew (w.heap.size + 1) (some ⟨w.heap.size, 0, none⟩) s.data.toList := bytes_made w s cap _ _
    simpa using h2
  rintro e w' ⟨rfl, hb⟩
  replace hb := Lib.hid hb
  go_wp2_with fail
  go_ret
  refine ⟨rfl, ?_⟩
  have := hb.out
  exact (((Below.refl _ _).drew).alloc (by simp) _).trans (this.mono (by simp))
theorem rderive_any : Calls Try.prog 12 #[.int .u64 key, .string s] w fun e w' => e = .returned (.int .u64 (Sip.sum key s.data.toList)) ∧ Below w.heap.size w w' := by
  have hcv := fun w => run_bytes_of_string (P := Try.prog) w 9 23 5 s Try.underlying9 Try.underlying23 Try.underlying5
  have hcap := grownCap_ge w s.size 0 5
  generalize hc : grownCap w s.size 0 5 = cap at hcap
  replace hc := Lib.hid hc
  have hcv1 := hcv w
  rw [hc.out] at hcv1
  clear hcv
  go_enter Try.func12, Try.ntmps12
  go_wp2_with fail
  refine (rsum_any _ s.data.toList s.size cap key _ ?_ (by simp) (by simpa using hl)).mono ?_
  · have h2 : BytesAt (w.alloc (.cells (bytesRow s cap) 5 ((bytesRow s cap).size, (bytesRow s cap).size + 1))).drew (w.heap.size + 1) (some ⟨w.heap.size, 0, none⟩) s.data.toList := bytes_made w s cap _ _
    simpa using h2
  rintro e w' ⟨rfl, hb⟩
  replace hb := Lib.hid hb
  go_wp2_with fail
  go_ret
  refine ⟨rfl, ?_⟩
  have := hb.out
  exact (((Below.refl _ _).drew).alloc (by simp) _).trans (this.mono (by simp))
end
theorem sum_any' (A : Option Addr) (l : List UInt8) (n cap : Nat) (key : Int) (w : World) (h : BytesAt w w.heap.size A l) (hn : l.length = n) (hl : l.length ≤ 5000) (hc : l.length ≤ cap) :
    Calls Try.prog 9 #[.int .u64 key, .slice A n cap] w fun e w' => e = .returned (.int .u64 (Sip.sum key l)) ∧ Below w.heap.size w w' := sum_any A l n cap key w h hn hl hc
theorem published : Sip.pair 506097522914230528 1084818905618843912 [0, 1, 2, 3, 4, 5, 6, 7, 8, 9, 10, 11, 12, 13, 14] = 11613035633349379557 := by decide +kernel
theorem example_any (w : World) : Calls Try.prog 8 #[] w fun e w' => e = .returned (.bool true) ∧ Below w.heap.size w w' := by
  go_enter Try.func8, Try.ntmps8
  go_wp2_with fail
  refine (pair_any _ [0, 1, 2, 3, 4, 5, 6, 7, 8, 9, 10, 11, 12, 13, 14] 15 15 _ _ _ (bytes_lit _ _ _ rfl) rfl (by decide)).mono ?_
  rintro e w1 ⟨rfl, hb1⟩
  rw [published]
  replace hb1 := Lib.hid (((Below.refl w.heap.size w).alloc (Nat.le_refl _) _).trans (hb1.mono (by simp)))
  go_wp2_with fail
  refine (sum_any' _ [97, 98] 2 2 _ _ (bytes_lit _ _ _ rfl) rfl (by decide) (by decide)).mono ?_
  rintro e w2 ⟨rfl, hb2⟩
  replace hb2 := Lib.hid ((hb1.out.alloc hb1.out.size _).trans (hb2.mono (by have := hb1.out.size; simp; omega)))
  go_wp2_with fail
  refine (rsum_any _ [97, 98] 2 2 _ _ (bytes_lit _ _ _ rfl) rfl (by decide)).mono ?_
  rintro e w3 ⟨rfl, hb3⟩
  replace hb3 := Lib.hid ((hb2.out.alloc hb2.out.size _).trans (hb3.mono (by have := hb2.out.size; simp; omega)))
  generalize hS : Sip.sum 7 [97, 98] = S
  replace hS := Lib.hid hS
  go_wp2_with fail
  refine (derive_any _ (by decide) _ _).mono ?_
  rintro e w4 ⟨rfl, hb4⟩
  replace hb4 := Lib.hid (hb3.out.trans (hb4.mono hb3.out.size))
  rw [show (ByteArray.mk #[97, 98]).data.toList = [97, 98] from rfl, hS.out]
  go_wp2_with fail
  refine (sum_any' _ [97, 98] 2 2 _ _ (bytes_lit _ _ _ rfl) rfl (by decide) (by decide)).mono ?_
  rintro e w5 ⟨rfl, hb5⟩
  replace hb5 := Lib.hid ((hb4.out.alloc hb4.out.size _).trans (hb5.mono (by have := hb4.out.size; simp; omega)))
  rw [hS.out]
  go_wp2_with fail
  refine (chain_any _ [] 0 0 _ _ (BytesAt.nil _ _) rfl (by decide) (by decide)).mono ?_
  rintro e w6 ⟨rfl, hb6⟩
  replace hb6 := Lib.hid (hb5.out.trans (hb6.mono hb5.out.size))
  generalize hN : Sip.sum 7 [] = N
  replace hN := Lib.hid hN
  go_wp2_with fail
  refine (sum_any' _ [] 0 0 _ _ (BytesAt.nil _ _) rfl (by decide) (by decide)).mono ?_
  rintro e w7 ⟨rfl, hb7⟩
  replace hb7 := Lib.hid (hb6.out.trans (hb7.mono hb6.out.size))
  rw [hN.out]
  go_wp2_with fail
  go_ret
  exact ⟨rfl, hb7.out⟩
end Go.Proofs.Ytnjlcdlppgfpeaa
