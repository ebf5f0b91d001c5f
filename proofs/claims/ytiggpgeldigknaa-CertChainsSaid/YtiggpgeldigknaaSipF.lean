/- Seal: Sum, Derive and Chain, the program's and the reference's; the published example. -/
import Derived.Test.YtiggpgeldigknaaSipE
set_option linter.unusedVariables false
namespace Go.Proofs.Ytiggpgeldigknaa
open Go.RowKit
def Sip.sum (key : Int) (l : List UInt8) : Int := Sip.pair key (bits .xor .u64 key 6616326155283851669) l
section
variable (A : Option Addr) (l : List UInt8) (n cap : Nat) (key : Int) (w : World) (h : BytesAt w w.heap.size A l) (hn : l.length = n) (hl : l.length ≤ 5000) (hc : l.length ≤ cap)
include h hn hl
theorem rsum_any : Calls Try.prog 92 #[.int .u64 key, .slice A n cap] w fun e w' => e = .returned (.int .u64 (Sip.sum key l)) ∧ Below w.heap.size w w' := by
  have H := fun w h => pair_any A l n cap key (bits .xor .u64 key 6616326155283851669) w h hn hl
  replace H := Lib.hid H
  go_enter Try.func92, Try.ntmps92
  go_wp2_with fail
  refine (H.out _ h).mono ?_
  rintro e w' ⟨rfl, hb⟩
  replace hb := Lib.hid hb
  go_wp2_with fail
  go_ret
  exact ⟨rfl, hb.out⟩
theorem rchain_any : Calls Try.prog 79 #[.int .u64 key, .slice A n cap] w fun e w' => e = .returned (.int .u64 (Sip.sum key l)) ∧ Below w.heap.size w w' := by
  have H := fun w h => rsum_any A l n cap key w h hn hl
  replace H := Lib.hid H
  go_enter Try.func79, Try.ntmps79
  go_wp2_with fail
  refine (H.out _ h).mono ?_
  rintro e w' ⟨rfl, hb⟩
  replace hb := Lib.hid hb
  go_wp2_with fail
  go_ret
  exact ⟨rfl, hb.out⟩
include hc
theorem chain_any : Calls Try.prog 100 #[.int .u64 key, .slice A n cap] w fun e w' => e = .returned (.int .u64 (Sip.sum key l)) ∧ Below w.heap.size w w' := by
  have H := fun w h => sum_any A l n cap key w h hn hl hc
  replace H := Lib.hid H
  go_enter Try.func100, Try.ntmps100
  go_wp2_with fail
  refine (H.out _ h).mono ?_
  rintro e w' ⟨rfl, hb⟩
  replace hb := Lib.hid hb
  go_wp2_with fail
  go_ret
  exact ⟨rfl, hb.out⟩
end
theorem bytes_made (w : World) (s : ByteArray) (cap lo hi : Nat) : BytesAt (w.alloc (.cells (bytesRow s cap) 5 (lo, hi))) (w.heap.size + 1) (some ⟨w.heap.size, 0, none⟩) s.data.toList := by
  intro _
  refine ⟨_, rfl, by simp, fun j hj => ?_⟩
  have e : (⟨w.heap.size, 0, none⟩ : Addr).add j = ⟨w.heap.size, j, none⟩ := by unfold Addr.add; split <;> simp_all
  rw [e, World.cell?_alloc_mark]
  simpa using bytesRow_at s cap j (by simpa using hj)
theorem bytes_lit (w : World) (l : List UInt8) (cs : Array Value) (h : cs = (l.map fun b => Value.int .u8 (b.toNat : Int)).toArray) : BytesAt (w.alloc (.cells cs 5)) (w.alloc (.cells cs 5)).heap.size (some ⟨w.heap.size, 0, none⟩) l := by
  intro _
  refine ⟨_, rfl, by simp, fun j hj => ?_⟩
  have e : (⟨w.heap.size, 0, none⟩ : Addr).add j = ⟨w.heap.size, j, none⟩ := by unfold Addr.add; split <;> simp_all
  rw [e, World.cell?_alloc_mark, h]
  simp [hj]
theorem BytesAt.nil (w : World) (B : Nat) : BytesAt w B none [] := fun h => absurd h (by simp)
theorem sum_any' (A : Option Addr) (l : List UInt8) (n cap : Nat) (key : Int) (w : World) (h : BytesAt w w.heap.size A l) (hn : l.length = n) (hl : l.length ≤ 5000) (hc : l.length ≤ cap) :
    Calls Try.prog 98 #[.int .u64 key, .slice A n cap] w fun e w' => e = .returned (.int .u64 (Sip.sum key l)) ∧ Below w.heap.size w w' := sum_any A l n cap key w h hn hl hc
end Go.Proofs.Ytiggpgeldigknaa
