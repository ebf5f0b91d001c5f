/- Certs: CertSpoilt, walked. -/
import Derived.Test.YtiggpgeldigknaaCR
set_option linter.unusedVariables false
set_option linter.unusedSimpArgs false
namespace Go.Proofs.Ytiggpgeldigknaa
open Go.RowKit
theorem str_eq {a b : ByteArray} (h : a.toList = b.toList) : a = b := by
  rw [ByteArray.toList_eq, ByteArray.toList_eq] at h
  exact Go.WideShapes.bytes_inj h
theorem noCt_ok : CtOk noCt := ⟨by decide, by decide, by decide, by decide, by decide⟩
theorem rootR_sub (c : Ct) : (rootR c).1.subj.size ≤ c.subj.size := by
  unfold rootR
  split
  · exact Nat.zero_le _
  · split
    · exact Nat.zero_le _
    · exact Nat.le_refl _
theorem issueR_ok {c b : Ct} (h : CtOk (issC c b)) : CtOk (issueR c b).1 := by
  unfold issueR
  split
  · exact noCt_ok
  · split
    · exact noCt_ok
    · split
      · exact noCt_ok
      · split
        · exact noCt_ok
        · exact ⟨h.s, h.f, h.t, h.k, h.len⟩
theorem ver_one {x r : Ct} {now : Int} (h : verR [x] [r] [] now = 0) : x.sl = sealC x r.key := by
  unfold verR at h
  simp only [List.length_cons, List.length_nil, Nat.zero_add] at h
  rw [if_neg (by decide)] at h
  split at h
  · cases h
  · have hs : stepV [x] [r] [] now 0 = 0 := by
      unfold runV at h
      split at h
      · rename_i hne
        exact absurd h hne
      · rename_i hne
        exact Classical.not_not.1 hne
    have hi : issR [x] [r] [] now 0 = rootP (rootF [] x.iss now [r]) := rfl
    unfold stepV at hs
    rw [hi] at hs
    rw [show [x].getD 0 noCt = x from rfl] at hs
    unfold stepE at hs
    split at hs
    · cases hs
    · split at hs
      · cases hs
      · split at hs
        · cases hs
        · rename_i hok
          have hr : (rootP (rootF [] x.iss now [r])).1 = r := by
            unfold rootF at hok ⊢
            rw [List.find?_cons] at hok ⊢
            cases ht : trustOk [] x.iss now r with
            | true => rfl
            | false => rw [ht] at hok; exact absurd rfl hok
          rw [hr] at hs
          split at hs
          · cases hs
          · rename_i hne
            exact Classical.not_not.1 hne
theorem ver1_any {w : World} {gx ga : Nat} (c r : Ct) (now : Int) (hx : Blk w gx 52 (ctC c).toArray) (ha : Blk w ga 52 (ctC r).toArray) (hk : CtOk c) :
    Calls Try.prog 59 #[.slice (some ⟨gx, 0, none⟩) 1 1, .agg #[.slice (some ⟨ga, 0, none⟩) 1 1, .slice none 0 0], .int .i64 now] w fun e w' => e = .returned (.int .i64 (verR [c] [r] [] now)) ∧ Below w.heap.size w w' :=
  verify_any _ _ _ 1 1 0 1 1 0 [c] [r] [] now w (lat_blk ctC_len hx [c] 1 rfl (by simp [flat])) (lat_blk ctC_len ha [r] 1 rfl (by simp [flat])) (LAt.nil iC_len _ _) (by decide) (by decide) (by decide) (by simpa using hk)
def F4 (g g5 : Nat) (ad : Addr) (n cp base : Nat) (X Rw Cw : Array Value) (E : Int) : Tmp → Value → World → Prop
  | 2, v, _ => v = .pointer (some ⟨g, 0, none⟩)
  | 5, v, _ => v = .pointer (some ⟨g5, 0, none⟩)
  | 40, v, _ => v = .pointer (some ⟨g, 8, none⟩)
  | 41, v, _ => v = .slice (some ad) n cp
  | 42, v, _ => v = .pointer (some ad)
  | 43, v, _ => v = .agg X
  | 44, v, _ => v = .agg Rw
  | 45, v, _ => v = .tuple #[.agg Cw, .int .i64 E]
  | 39, v, _ => v = .tuple #[.agg Cw, .int .i64 E]
  | 46, v, _ => v = .agg Cw
  | 47, v, _ => v = .int .i64 E
  | 8, v, _ => v = .int .i64 E
  | 7, v, w => Var 52 8 base v w
  | _, _, _ => True
def G4 (base : Nat) (Cw : Array Value) : Tmp → Value → World → Prop
  | 7, v, w => VarIs 52 base Cw v w
  | _, _, _ => True
theorem F4_more {g g5 : Nat} {ad : Addr} {n cp base : Nat} {X Rw Cw : Array Value} {E : Int} (t : Tmp) (v : Value) (w w' : World) (hR : Rb w w') (h : F4 g g5 ad n cp base X Rw Cw E t v w) : F4 g g5 ad n cp base X Rw Cw E t v w' := by
  unfold F4 at *
  split at h <;> first | exact h | exact Var.more h hR
theorem F4_st {g g5 : Nat} {ad : Addr} {n cp base : Nat} {X Rw Cw : Array Value} {E : Int} (u : Value) (t : Tmp) (v : Value) (w w' : World) (hS : St 52 base u w w') (h : F4 g g5 ad n cp base X Rw Cw E t v w) : F4 g g5 ad n cp base X Rw Cw E t v w' := by
  unfold F4 at *
  split at h <;> first | exact h | exact Var.st h hS
theorem G4_more {base : Nat} {Cw : Array Value} (t : Tmp) (v : Value) (w w' : World) (hR : Rb w w') (h : G4 base Cw t v w) : G4 base Cw t v w' := by
  unfold G4 at *
  split at h <;> first | exact h | exact VarIs.more h hR
theorem G4_st {base : Nat} {Cw : Array Value} (u : Value) (t : Tmp) (v : Value) (w w' : World) (hS : St 52 base u w w') (hne : v ≠ u) (h : G4 base Cw t v w) : G4 base Cw t v w' := by
  unfold G4 at *
  split at h <;> first | exact h | exact VarIs.st h hS hne
def F9 (g3 g7 g5 : Nat) (Ch Cc : Array Value) (B0 B1 : Bool) (sv slc ky : Int) : Tmp → Value → World → Prop
  | 3, v, _ => v = .pointer (some ⟨g3, 0, none⟩)
  | 7, v, _ => v = .pointer (some ⟨g7, 0, none⟩)
  | 5, v, _ => v = .pointer (some ⟨g5, 0, none⟩)
  | 70, v, _ => v = .agg Ch
  | 71, v, _ => v = .agg Cc
  | 72, v, _ => v = .bool B0
  | 73, v, _ => v = .bool B0
  | 74, v, _ => B0 = false → v = .agg Ch
  | 75, v, _ => B0 = false → v = .pointer (some ⟨g5, 6, none⟩)
  | 76, v, _ => B0 = false → v = .int .u64 ky
  | 77, v, _ => B0 = false → v = .int .u64 sv
  | 78, v, _ => B0 = false → v = .pointer (some ⟨g7, 7, none⟩)
  | 79, v, _ => B0 = false → v = .int .u64 slc
  | 80, v, _ => B0 = false → v = .bool B1
  | 81, v, _ => v = .bool (B0 || B1)
  | _, _, _ => True
theorem F9_more {g3 g7 g5 : Nat} {Ch Cc : Array Value} {B0 B1 : Bool} {sv slc ky : Int} (t : Tmp) (v : Value) (w w' : World) (hR : Rb w w') (h : F9 g3 g7 g5 Ch Cc B0 B1 sv slc ky t v w) : F9 g3 g7 g5 Ch Cc B0 B1 sv slc ky t v w' := by
  unfold F9 at *
  split at h <;> exact h
set_option maxRecDepth 100000 in
set_option maxHeartbeats 4000000 in
theorem lawSpoilt (c ch : Ct) (A : Option Addr) (B : List Ct) (n cp : Nat) (now : Int) (w : World) (hB : LAt ctC 8 w w.heap.size A n B) (hm : n ≤ maxLen) (hr : CtR c) (hrB : ∀ x ∈ B, CtR x) (hrh : CtR ch) :
    Calls Try.prog 19 #[.agg (ctC c ++ [Value.slice A n cp, Value.int .i64 now]).toArray, .agg (ctC ch).toArray] w fun e w' => e = .returned (.bool true) ∧ Below w.heap.size w w' := by
  have hlen := Lib.hid hB.len
  have hokr := fun h => selfC_ok (c := c) hr h
  have hsub := rootR_sub c
  have hslen := fun h => short_len (c := c) h
  have hokh := fun h (s : Int) => (show CtOk { ch with sl := s } from ⟨hrh.s, hrh.f, hrh.t, hrh.k, by have := short_len (c := ch) h; show ch.subj.size + ch.iss.size ≤ 4000; omega⟩)
  obtain ⟨s0, sb0, is_0, f0, t0, ca0, ky0, sl0⟩ := c
  obtain ⟨sh, sbh, is_h, fh, th, cah, kyh, slh⟩ := ch
  have px := Lib.hid ((Blk.new w 92 #[Value.int .i64 s0, Value.string sb0, Value.string is_0, Value.int .i64 f0, Value.int .i64 t0, Value.bool ca0, Value.int .u64 ky0, Value.int .u64 sl0, Value.slice A n cp, Value.int .i64 now]).alloc (.cells #[Value.int .i64 sh, Value.string sbh, Value.string is_h, Value.int .i64 fh, Value.int .i64 th, Value.bool cah, Value.int .u64 kyh, Value.int .u64 slh] 52))
  have ph := Blk.new (w.alloc (.cells #[Value.int .i64 s0, Value.string sb0, Value.string is_0, Value.int .i64 f0, Value.int .i64 t0, Value.bool ca0, Value.int .u64 ky0, Value.int .u64 sl0, Value.slice A n cp, Value.int .i64 now] 92)) 52 #[Value.int .i64 sh, Value.string sbh, Value.string is_h, Value.int .i64 fh, Value.int .i64 th, Value.bool cah, Value.int .u64 kyh, Value.int .u64 slh]
  rw [show (w.alloc (.cells #[Value.int .i64 s0, Value.string sb0, Value.string is_0, Value.int .i64 f0, Value.int .i64 t0, Value.bool ca0, Value.int .u64 ky0, Value.int .u64 sl0, Value.slice A n cp, Value.int .i64 now] 92)).heap.size = w.heap.size + 1 by simp] at ph
  replace ph := Lib.hid ph
  have hb := Lib.hid (below_new (a1 w (.cells #[Value.int .i64 s0, Value.string sb0, Value.string is_0, Value.int .i64 f0, Value.int .i64 t0, Value.bool ca0, Value.int .u64 ky0, Value.int .u64 sl0, Value.slice A n cp, Value.int .i64 now] 92)) (.cells #[Value.int .i64 sh, Value.string sbh, Value.string is_h, Value.int .i64 fh, Value.int .i64 th, Value.bool cah, Value.int .u64 kyh, Value.int .u64 slh] 52))
  have hB2 := hB.more hb.out
  have hB0 : Hid (LAt ctC 8 ((w.alloc (.cells #[Value.int .i64 s0, Value.string sb0, Value.string is_0, Value.int .i64 f0, Value.int .i64 t0, Value.bool ca0, Value.int .u64 ky0, Value.int .u64 sl0, Value.slice A n cp, Value.int .i64 now] 92)).alloc (.cells #[Value.int .i64 sh, Value.string sbh, Value.string is_h, Value.int .i64 fh, Value.int .i64 th, Value.bool cah, Value.int .u64 kyh, Value.int .u64 slh] 52)) w.heap.size A n B) := hB.below hb.out (Nat.le_refl _)
  clear hB
  replace hB2 := Lib.hid hB2
  by_cases hn1 : n = 1
  · subst hn1
    obtain ⟨x, rfl⟩ : ∃ x, B = [x] := List.length_eq_one_iff.1 hlen.out
    have hrx := hrB x (by simp)
    clear hrB hlen
    go_enter Try.func19, Try.ntmps19
    simp only [ctC, List.cons_append, List.nil_append]
    obtain ⟨k0, k1, k2, k3, k4, k5, k6, k7, k8, k9⟩ := (show ((w.alloc (.cells #[Value.int .i64 s0, Value.string sb0, Value.string is_0, Value.int .i64 f0, Value.int .i64 t0, Value.bool ca0, Value.int .u64 ky0, Value.int .u64 sl0, Value.slice A 1 cp, Value.int .i64 now] 92)).alloc (.cells #[Value.int .i64 sh, Value.string sbh, Value.string is_h, Value.int .i64 fh, Value.int .i64 th, Value.bool cah, Value.int .u64 kyh, Value.int .u64 slh] 52)).cell? ⟨w.heap.size, 0, none⟩ = some (Value.int .i64 s0) ∧ ((w.alloc (.cells #[Value.int .i64 s0, Value.string sb0, Value.string is_0, Value.int .i64 f0, Value.int .i64 t0, Value.bool ca0, Value.int .u64 ky0, Value.int .u64 sl0, Value.slice A 1 cp, Value.int .i64 now] 92)).alloc (.cells #[Value.int .i64 sh, Value.string sbh, Value.string is_h, Value.int .i64 fh, Value.int .i64 th, Value.bool cah, Value.int .u64 kyh, Value.int .u64 slh] 52)).cell? ⟨w.heap.size, 1, none⟩ = some (Value.string sb0) ∧ ((w.alloc (.cells #[Value.int .i64 s0, Value.string sb0, Value.string is_0, Value.int .i64 f0, Value.int .i64 t0, Value.bool ca0, Value.int .u64 ky0, Value.int .u64 sl0, Value.slice A 1 cp, Value.int .i64 now] 92)).alloc (.cells #[Value.int .i64 sh, Value.string sbh, Value.string is_h, Value.int .i64 fh, Value.int .i64 th, Value.bool cah, Value.int .u64 kyh, Value.int .u64 slh] 52)).cell? ⟨w.heap.size, 2, none⟩ = some (Value.string is_0) ∧ ((w.alloc (.cells #[Value.int .i64 s0, Value.string sb0, Value.string is_0, Value.int .i64 f0, Value.int .i64 t0, Value.bool ca0, Value.int .u64 ky0, Value.int .u64 sl0, Value.slice A 1 cp, Value.int .i64 now] 92)).alloc (.cells #[Value.int .i64 sh, Value.string sbh, Value.string is_h, Value.int .i64 fh, Value.int .i64 th, Value.bool cah, Value.int .u64 kyh, Value.int .u64 slh] 52)).cell? ⟨w.heap.size, 3, none⟩ = some (Value.int .i64 f0) ∧ ((w.alloc (.cells #[Value.int .i64 s0, Value.string sb0, Value.string is_0, Value.int .i64 f0, Value.int .i64 t0, Value.bool ca0, Value.int .u64 ky0, Value.int .u64 sl0, Value.slice A 1 cp, Value.int .i64 now] 92)).alloc (.cells #[Value.int .i64 sh, Value.string sbh, Value.string is_h, Value.int .i64 fh, Value.int .i64 th, Value.bool cah, Value.int .u64 kyh, Value.int .u64 slh] 52)).cell? ⟨w.heap.size, 4, none⟩ = some (Value.int .i64 t0) ∧ ((w.alloc (.cells #[Value.int .i64 s0, Value.string sb0, Value.string is_0, Value.int .i64 f0, Value.int .i64 t0, Value.bool ca0, Value.int .u64 ky0, Value.int .u64 sl0, Value.slice A 1 cp, Value.int .i64 now] 92)).alloc (.cells #[Value.int .i64 sh, Value.string sbh, Value.string is_h, Value.int .i64 fh, Value.int .i64 th, Value.bool cah, Value.int .u64 kyh, Value.int .u64 slh] 52)).cell? ⟨w.heap.size, 5, none⟩ = some (Value.bool ca0) ∧ ((w.alloc (.cells #[Value.int .i64 s0, Value.string sb0, Value.string is_0, Value.int .i64 f0, Value.int .i64 t0, Value.bool ca0, Value.int .u64 ky0, Value.int .u64 sl0, Value.slice A 1 cp, Value.int .i64 now] 92)).alloc (.cells #[Value.int .i64 sh, Value.string sbh, Value.string is_h, Value.int .i64 fh, Value.int .i64 th, Value.bool cah, Value.int .u64 kyh, Value.int .u64 slh] 52)).cell? ⟨w.heap.size, 6, none⟩ = some (Value.int .u64 ky0) ∧ ((w.alloc (.cells #[Value.int .i64 s0, Value.string sb0, Value.string is_0, Value.int .i64 f0, Value.int .i64 t0, Value.bool ca0, Value.int .u64 ky0, Value.int .u64 sl0, Value.slice A 1 cp, Value.int .i64 now] 92)).alloc (.cells #[Value.int .i64 sh, Value.string sbh, Value.string is_h, Value.int .i64 fh, Value.int .i64 th, Value.bool cah, Value.int .u64 kyh, Value.int .u64 slh] 52)).cell? ⟨w.heap.size, 7, none⟩ = some (Value.int .u64 sl0) ∧ ((w.alloc (.cells #[Value.int .i64 s0, Value.string sb0, Value.string is_0, Value.int .i64 f0, Value.int .i64 t0, Value.bool ca0, Value.int .u64 ky0, Value.int .u64 sl0, Value.slice A 1 cp, Value.int .i64 now] 92)).alloc (.cells #[Value.int .i64 sh, Value.string sbh, Value.string is_h, Value.int .i64 fh, Value.int .i64 th, Value.bool cah, Value.int .u64 kyh, Value.int .u64 slh] 52)).cell? ⟨w.heap.size, 8, none⟩ = some (Value.slice A 1 cp) ∧ ((w.alloc (.cells #[Value.int .i64 s0, Value.string sb0, Value.string is_0, Value.int .i64 f0, Value.int .i64 t0, Value.bool ca0, Value.int .u64 ky0, Value.int .u64 sl0, Value.slice A 1 cp, Value.int .i64 now] 92)).alloc (.cells #[Value.int .i64 sh, Value.string sbh, Value.string is_h, Value.int .i64 fh, Value.int .i64 th, Value.bool cah, Value.int .u64 kyh, Value.int .u64 slh] 52)).cell? ⟨w.heap.size, 9, none⟩ = some (Value.int .i64 now) from ⟨px.out.cell 0, px.out.cell 1, px.out.cell 2, px.out.cell 3, px.out.cell 4, px.out.cell 5, px.out.cell 6, px.out.cell 7, px.out.cell 8, px.out.cell 9⟩)
    go_wp2_with fail
    clear k0 k1 k2 k3 k4 k5 k6 k7 k8 k9
    refine (few_any A none none 1 0 0 cp 0 0 [x] [] [] _ hB2.out (LAt.nil ctC_len _ _) (LAt.nil iC_len _ _)).mono ?_; rintro e w2 ⟨rfl, hq⟩
    have hB0 := Lib.hid (hB0.out.below hq (by simp; try omega))
    have px := Lib.hid (px.out.below hq px.out.lt)
    have ph := Lib.hid (ph.out.below hq ph.out.lt)
    have hb := Lib.hid (hb.out.trans (hq.mono hb.out.size))
    clear hq
    cases hf : fewB [x] [] [] with
    | false =>
      clear hokr hsub hslen hokh
      go_wp2_with fail
      refine (awake_any _).mono ?_; rintro e wa ⟨rfl, hq⟩
      have hb := Lib.hid (hb.out.trans (hq.mono hb.out.size))
      clear hq
      go_wp2_with fail
      go_ret
      exact ⟨rfl, hb.out⟩
    | true =>
      have hsx := few_short hf (show x ∈ [x] by simp)
      replace hf := Lib.hid hf
      obtain ⟨k0, k1, k2, k3, k4, k5, k6, k7, k8, k9⟩ := (show w2.cell? ⟨w.heap.size, 0, none⟩ = some (Value.int .i64 s0) ∧ w2.cell? ⟨w.heap.size, 1, none⟩ = some (Value.string sb0) ∧ w2.cell? ⟨w.heap.size, 2, none⟩ = some (Value.string is_0) ∧ w2.cell? ⟨w.heap.size, 3, none⟩ = some (Value.int .i64 f0) ∧ w2.cell? ⟨w.heap.size, 4, none⟩ = some (Value.int .i64 t0) ∧ w2.cell? ⟨w.heap.size, 5, none⟩ = some (Value.bool ca0) ∧ w2.cell? ⟨w.heap.size, 6, none⟩ = some (Value.int .u64 ky0) ∧ w2.cell? ⟨w.heap.size, 7, none⟩ = some (Value.int .u64 sl0) ∧ w2.cell? ⟨w.heap.size, 8, none⟩ = some (Value.slice A 1 cp) ∧ w2.cell? ⟨w.heap.size, 9, none⟩ = some (Value.int .i64 now) from ⟨px.out.cell 0, px.out.cell 1, px.out.cell 2, px.out.cell 3, px.out.cell 4, px.out.cell 5, px.out.cell 6, px.out.cell 7, px.out.cell 8, px.out.cell 9⟩)
      go_wp2_with fail
      clear k0 k1 k2 k3 k4 k5 k6 k7 k8 k9
      refine (short_any ⟨s0, sb0, is_0, f0, t0, ca0, ky0, sl0⟩ _).mono ?_; rintro e w3 ⟨rfl, hq⟩
      have hB0 := Lib.hid (hB0.out.below hq (Nat.le_trans (by simp; try omega) hb.out.size))
      have px := Lib.hid (px.out.below hq px.out.lt)
      have ph := Lib.hid (ph.out.below hq ph.out.lt)
      have hb := Lib.hid (hb.out.trans (hq.mono hb.out.size))
      clear hq
      cases hs : shortB ⟨s0, sb0, is_0, f0, t0, ca0, ky0, sl0⟩ with
      | false =>
        clear hokr hsub hslen hokh
        go_wp2_with fail
        refine (awake_any _).mono ?_; rintro e wa ⟨rfl, hq⟩
        have hb := Lib.hid (hb.out.trans (hq.mono hb.out.size))
        clear hq
        go_wp2_with fail
        go_ret
        exact ⟨rfl, hb.out⟩
      | true =>
        replace hokr := hokr hs
        replace hslen := hslen hs
        replace hs := Lib.hid hs
        obtain ⟨k0, k1, k2, k3, k4, k5, k6, k7⟩ := (show w3.cell? ⟨(w.heap.size + 1), 0, none⟩ = some (Value.int .i64 sh) ∧ w3.cell? ⟨(w.heap.size + 1), 1, none⟩ = some (Value.string sbh) ∧ w3.cell? ⟨(w.heap.size + 1), 2, none⟩ = some (Value.string is_h) ∧ w3.cell? ⟨(w.heap.size + 1), 3, none⟩ = some (Value.int .i64 fh) ∧ w3.cell? ⟨(w.heap.size + 1), 4, none⟩ = some (Value.int .i64 th) ∧ w3.cell? ⟨(w.heap.size + 1), 5, none⟩ = some (Value.bool cah) ∧ w3.cell? ⟨(w.heap.size + 1), 6, none⟩ = some (Value.int .u64 kyh) ∧ w3.cell? ⟨(w.heap.size + 1), 7, none⟩ = some (Value.int .u64 slh) from ⟨ph.out.cell 0, ph.out.cell 1, ph.out.cell 2, ph.out.cell 3, ph.out.cell 4, ph.out.cell 5, ph.out.cell 6, ph.out.cell 7⟩)
        go_wp2_with fail
        clear k0 k1 k2 k3 k4 k5 k6 k7
        refine (short_any ⟨sh, sbh, is_h, fh, th, cah, kyh, slh⟩ _).mono ?_; rintro e w4 ⟨rfl, hq⟩
        have hB0 := Lib.hid (hB0.out.below hq (Nat.le_trans (by simp; try omega) hb.out.size))
        have px := Lib.hid (px.out.below hq px.out.lt)
        have ph := Lib.hid (ph.out.below hq ph.out.lt)
        have hb := Lib.hid (hb.out.trans (hq.mono hb.out.size))
        clear hq
        cases hs2 : shortB ⟨sh, sbh, is_h, fh, th, cah, kyh, slh⟩ with
        | false =>
          clear hokr hsub hslen hokh
          go_wp2_with fail
          refine (awake_any _).mono ?_; rintro e wa ⟨rfl, hq⟩
          have hb := Lib.hid (hb.out.trans (hq.mono hb.out.size))
          clear hq
          go_wp2_with fail
          go_ret
          exact ⟨rfl, hb.out⟩
        | true =>
          replace hokh := hokh hs2
          replace hs2 := Lib.hid hs2
          have h1 := fun w => root_any ⟨s0, sb0, is_0, f0, t0, ca0, ky0, sl0⟩ w hokr
          generalize rootR ⟨s0, sb0, is_0, f0, t0, ca0, ky0, sl0⟩ = yr at *
          obtain ⟨⟨sr, sbr, is_r, fr, tr, car, kyr, slr⟩, E⟩ := yr
          have hci : CtOk (issC x ⟨sr, sbr, is_r, fr, tr, car, kyr, slr⟩) := ⟨hrx.s, hrx.f, hrx.t, hrx.k, by have := short_len hsx; show x.subj.size + sbr.size ≤ 4000; simp only at hsub hslen; omega⟩
          have hiss := fun w => issue_any x ⟨sr, sbr, is_r, fr, tr, car, kyr, slr⟩ w hci
          have hcok := issueR_ok hci
          generalize issueR x ⟨sr, sbr, is_r, fr, tr, car, kyr, slr⟩ = yc at *
          obtain ⟨⟨sc, sbc, is_c, fc, tc, cac, kyc, slc⟩, E2⟩ := yc
          dsimp only [ctC] at h1 hiss
          replace h1 := Lib.hid h1
          replace hiss := Lib.hid hiss
          replace hcok := Lib.hid hcok
          replace hokh := Lib.hid hokh
          clear hokr hsub hslen hrx hsx hci
          obtain ⟨k0, k1, k2, k3, k4, k5, k6, k7, k8, k9⟩ := (show w4.cell? ⟨w.heap.size, 0, none⟩ = some (Value.int .i64 s0) ∧ w4.cell? ⟨w.heap.size, 1, none⟩ = some (Value.string sb0) ∧ w4.cell? ⟨w.heap.size, 2, none⟩ = some (Value.string is_0) ∧ w4.cell? ⟨w.heap.size, 3, none⟩ = some (Value.int .i64 f0) ∧ w4.cell? ⟨w.heap.size, 4, none⟩ = some (Value.int .i64 t0) ∧ w4.cell? ⟨w.heap.size, 5, none⟩ = some (Value.bool ca0) ∧ w4.cell? ⟨w.heap.size, 6, none⟩ = some (Value.int .u64 ky0) ∧ w4.cell? ⟨w.heap.size, 7, none⟩ = some (Value.int .u64 sl0) ∧ w4.cell? ⟨w.heap.size, 8, none⟩ = some (Value.slice A 1 cp) ∧ w4.cell? ⟨w.heap.size, 9, none⟩ = some (Value.int .i64 now) from ⟨px.out.cell 0, px.out.cell 1, px.out.cell 2, px.out.cell 3, px.out.cell 4, px.out.cell 5, px.out.cell 6, px.out.cell 7, px.out.cell 8, px.out.cell 9⟩)
          go_wp2_with fail
          clear k0 k1 k2 k3 k4 k5 k6 k7 k8 k9
          refine (h1.out _).mono ?_; rintro e w5 ⟨rfl, hq⟩
          have hB0 := Lib.hid (hB0.out.below hq (Nat.le_trans (by simp; try omega) hb.out.size))
          have px := Lib.hid (px.out.below hq px.out.lt)
          have ph := Lib.hid (ph.out.below hq ph.out.lt)
          have hb := Lib.hid (hb.out.trans (hq.mono hb.out.size))
          clear hq
          have hg5l : w.heap.size + 1 < w5.heap.size := ph.out.lt
          have pr := Lib.hid (Blk.new w5 52 #[Value.int .i64 sr, Value.string sbr, Value.string is_r, Value.int .i64 fr, Value.int .i64 tr, Value.bool car, Value.int .u64 kyr, Value.int .u64 slr])
          have hB0 := Lib.hid (hB0.out.below (a1 w5 (.cells #[Value.int .i64 sr, Value.string sbr, Value.string is_r, Value.int .i64 fr, Value.int .i64 tr, Value.bool car, Value.int .u64 kyr, Value.int .u64 slr] 52)) (Nat.le_trans (by simp; try omega) hb.out.size))
          have px := Lib.hid (px.out.alloc (.cells #[Value.int .i64 sr, Value.string sbr, Value.string is_r, Value.int .i64 fr, Value.int .i64 tr, Value.bool car, Value.int .u64 kyr, Value.int .u64 slr] 52))
          have ph := Lib.hid (ph.out.alloc (.cells #[Value.int .i64 sr, Value.string sbr, Value.string is_r, Value.int .i64 fr, Value.int .i64 tr, Value.bool car, Value.int .u64 kyr, Value.int .u64 slr] 52))
          have hb := Lib.hid (below_new hb.out (.cells #[Value.int .i64 sr, Value.string sbr, Value.string is_r, Value.int .i64 fr, Value.int .i64 tr, Value.bool car, Value.int .u64 kyr, Value.int .u64 slr] 52))
          go_wp2_with fail
          have p0 := ct_cells hB0.out (k := 0) (by decide)
          obtain ⟨ad, hA, hadb, e0, e1, e2, e3, e4, e5, e6, e7⟩ := p0
          subst hA
          have hadd : ad.add (0 * 8) = ad := by simp [Addr.add]
          rw [hadd] at e0 e1 e2 e3 e4 e5 e6 e7
          obtain ⟨sx, sbx, is_x, fx, tx, cax, kyx, slx⟩ := x
          have hg5s : w5.heap.size < (w5.alloc (.cells #[Value.int .i64 sr, Value.string sbr, Value.string is_r, Value.int .i64 fr, Value.int .i64 tr, Value.bool car, Value.int .u64 kyr, Value.int .u64 slr] 52)).heap.size := by simp
          have hwa : w.heap.size < (w5.alloc (.cells #[Value.int .i64 sr, Value.string sbr, Value.string is_r, Value.int .i64 fr, Value.int .i64 tr, Value.bool car, Value.int .u64 kyr, Value.int .u64 slr] 52)).heap.size := px.out.lt
          generalize hw3 : w5.alloc (.cells #[Value.int .i64 sr, Value.string sbr, Value.string is_r, Value.int .i64 fr, Value.int .i64 tr, Value.bool car, Value.int .u64 kyr, Value.int .u64 slr] 52) = w3 at *
          generalize w5.heap.size = g5 at *
          clear hw3
          have hcell : Hid (∀ wz, Below w3.heap.size w3 wz → wz.cell? ⟨w.heap.size, 8, none⟩ = some (Value.slice (some ad) 1 cp) ∧ wz.cell? ad = some (Value.int .i64 sx) ∧ wz.cell? ⟨ad.block, ad.off + 1, none⟩ = some (Value.string sbx) ∧ wz.cell? ⟨ad.block, ad.off + 2, none⟩ = some (Value.string is_x) ∧ wz.cell? ⟨ad.block, ad.off + 3, none⟩ = some (Value.int .i64 fx) ∧ wz.cell? ⟨ad.block, ad.off + 4, none⟩ = some (Value.int .i64 tx) ∧ wz.cell? ⟨ad.block, ad.off + 5, none⟩ = some (Value.bool cax) ∧ wz.cell? ⟨ad.block, ad.off + 6, none⟩ = some (Value.int .u64 kyx) ∧ wz.cell? ⟨ad.block, ad.off + 7, none⟩ = some (Value.int .u64 slx) ∧ wz.cell? ⟨g5, 0, none⟩ = some (Value.int .i64 sr) ∧ wz.cell? ⟨g5, 1, none⟩ = some (Value.string sbr) ∧ wz.cell? ⟨g5, 2, none⟩ = some (Value.string is_r) ∧ wz.cell? ⟨g5, 3, none⟩ = some (Value.int .i64 fr) ∧ wz.cell? ⟨g5, 4, none⟩ = some (Value.int .i64 tr) ∧ wz.cell? ⟨g5, 5, none⟩ = some (Value.bool car) ∧ wz.cell? ⟨g5, 6, none⟩ = some (Value.int .u64 kyr) ∧ wz.cell? ⟨g5, 7, none⟩ = some (Value.int .u64 slr)) := fun wz h => by
            have q := px.out.below h px.out.lt
            have q2 := pr.out.below h pr.out.lt
            exact ⟨q.cell 8, (h.cell (by omega)).trans e0, (h.cell (by show ad.block < _; omega)).trans e1, (h.cell (by show ad.block < _; omega)).trans e2, (h.cell (by show ad.block < _; omega)).trans e3, (h.cell (by show ad.block < _; omega)).trans e4, (h.cell (by show ad.block < _; omega)).trans e5, (h.cell (by show ad.block < _; omega)).trans e6, (h.cell (by show ad.block < _; omega)).trans e7, q2.cell 0, q2.cell 1, q2.cell 2, q2.cell 3, q2.cell 4, q2.cell 5, q2.cell 6, q2.cell 7⟩
          clear e0 e1 e2 e3 e4 e5 e6 e7
          refine RK.region [7] [] (F := F4 w.heap.size g5 ad 1 cp w3.heap.size #[Value.int .i64 sx, Value.string sbx, Value.string is_x, Value.int .i64 fx, Value.int .i64 tx, Value.bool cax, Value.int .u64 kyx, Value.int .u64 slx] #[Value.int .i64 sr, Value.string sbr, Value.string is_r, Value.int .i64 fr, Value.int .i64 tr, Value.bool car, Value.int .u64 kyr, Value.int .u64 slr] #[Value.int .i64 sc, Value.string sbc, Value.string is_c, Value.int .i64 fc, Value.int .i64 tc, Value.bool cac, Value.int .u64 kyc, Value.int .u64 slc] E2) (W := fun wz => Below w3.heap.size w3 wz) (R := Rb) (S := St 52 w3.heap.size) (G := G4 w3.heap.size #[Value.int .i64 sc, Value.string sbc, Value.string is_c, Value.int .i64 fc, Value.int .i64 tc, Value.bool cac, Value.int .u64 kyc, Value.int .u64 slc]) rfl F4_more G4_more F4_st G4_st (by kernel_rfl) (by kernel_rfl) (by kernel_rfl) (by kernel_rfl) (by kernel_rfl) ?_ ?_ ?_ ?_ (by decide) ?_
          · exact (Below.refl _ _).drew
          · intro t ht
            unfold F4
            split <;> first | trivial | exact rfl | (exact absurd ht (by decide))
          · simp only [List.forall_mem_cons, List.not_mem_nil, false_implies, implies_true, and_true]
            refine ⟨?_, ?_, ?_, ?_, ?_, ?_, ?_, ?_, ?_, ?_, ?_, ?_⟩
            · intro a w2 hw hf K hK
              have f0 := hf 2 rfl
              simp only [F4] at f0
              clear hf
              obtain ⟨c0, c1, c2, c3, c4, c5, c6, c7, c8, c9, c10, c11, c12, c13, c14, c15, c16⟩ := hcell.out w2 hw
              go_simp
              exact hK _ _ _ rfl rfl hw (Below.refl _ _) (fun h => absurd h (by decide))
            · intro a w2 hw hf K hK
              have f0 := hf 40 rfl
              simp only [F4] at f0
              clear hf
              obtain ⟨c0, c1, c2, c3, c4, c5, c6, c7, c8, c9, c10, c11, c12, c13, c14, c15, c16⟩ := hcell.out w2 hw
              go_simp
              exact hK _ _ _ rfl rfl hw (Below.refl _ _) (fun h => absurd h (by decide))
            · intro a w2 hw hf K hK
              have f0 := hf 41 rfl
              simp only [F4] at f0
              clear hf
              go_simp
              exact hK _ _ _ rfl rfl hw (Below.refl _ _) (fun h => absurd h (by decide))
            · intro a w2 hw hf K hK
              have f0 := hf 42 rfl
              simp only [F4] at f0
              clear hf
              obtain ⟨c0, c1, c2, c3, c4, c5, c6, c7, c8, c9, c10, c11, c12, c13, c14, c15, c16⟩ := hcell.out w2 hw
              go_simp
              exact hK _ _ _ rfl rfl hw (Below.refl _ _) (fun h => absurd h (by decide))
            · intro a w2 hw hf K hK
              have f0 := hf 5 rfl
              simp only [F4] at f0
              clear hf
              obtain ⟨c0, c1, c2, c3, c4, c5, c6, c7, c8, c9, c10, c11, c12, c13, c14, c15, c16⟩ := hcell.out w2 hw
              go_simp
              exact hK _ _ _ rfl rfl hw (Below.refl _ _) (fun h => absurd h (by decide))
            · intro a w2 hw hf K hK
              have f0 := hf 43 rfl
              have f1 := hf 44 rfl
              simp only [F4] at f0 f1
              clear hf
              go_simp
              refine (hiss.out w2).mono ?_; rintro e w5 ⟨rfl, hb⟩
              exact hK _ _ _ rfl rfl (hw.trans (hb.mono hw.size)) hb (fun h => absurd h (by decide))
            · intro a w2 hw hf K hK
              have f0 := hf 45 rfl
              simp only [F4] at f0
              clear hf
              go_simp
              exact hK _ _ _ rfl rfl hw (Below.refl _ _) (fun h => absurd h (by decide))
            · intro a w2 hw hf K hK
              have f0 := hf 39 rfl
              simp only [F4] at f0
              clear hf
              go_simp
              exact hK _ _ _ rfl rfl hw (Below.refl _ _) (fun h => absurd h (by decide))
            · intro a w2 hw hf K hK
              have f0 := hf 39 rfl
              simp only [F4] at f0
              clear hf
              go_simp
              exact hK _ _ _ rfl rfl hw (Below.refl _ _) (fun h => absurd h (by decide))
            · intro a w2 hw hf K hK
              clear hf
              go_simp
              refine hK _ _ _ rfl (Var.made w2 _ hw.size rfl) (below_new hw _) (a1 _ _) (fun _ t u ht hu => ?_)
              obtain rfl : t = 7 := by simpa using ht
              exact Var.fresh hu (Nat.le_refl _)
            · intro a w2 hw hf K hK
              have f0 := hf 7 rfl
              have f1 := hf 46 rfl
              simp only [F4] at f0 f1
              clear hf
              obtain ⟨g, e0, hg, cs, hbk, hn⟩ := f0
              obtain ⟨b0, b1, b2, b3, b4, b5, b6, b7, rfl⟩ := arr8 hn
              obtain ⟨k0, k1, k2, k3, k4, k5, k6, k7, z0, z1, z2, z3, z4, z5, z6, z7⟩ := (show w2.cell? ⟨g, 0, none⟩ = some b0 ∧ w2.cell? ⟨g, 1, none⟩ = some b1 ∧ w2.cell? ⟨g, 2, none⟩ = some b2 ∧ w2.cell? ⟨g, 3, none⟩ = some b3 ∧ w2.cell? ⟨g, 4, none⟩ = some b4 ∧ w2.cell? ⟨g, 5, none⟩ = some b5 ∧ w2.cell? ⟨g, 6, none⟩ = some b6 ∧ w2.cell? ⟨g, 7, none⟩ = some b7 ∧ w2.frozen? ⟨g, 0, none⟩ = false ∧ w2.frozen? ⟨g, 1, none⟩ = false ∧ w2.frozen? ⟨g, 2, none⟩ = false ∧ w2.frozen? ⟨g, 3, none⟩ = false ∧ w2.frozen? ⟨g, 4, none⟩ = false ∧ w2.frozen? ⟨g, 5, none⟩ = false ∧ w2.frozen? ⟨g, 6, none⟩ = false ∧ w2.frozen? ⟨g, 7, none⟩ = false from ⟨hbk.cell 0, hbk.cell 1, hbk.cell 2, hbk.cell 3, hbk.cell 4, hbk.cell 5, hbk.cell 6, hbk.cell 7, hbk.frozen 0, hbk.frozen 1, hbk.frozen 2, hbk.frozen 3, hbk.frozen 4, hbk.frozen 5, hbk.frozen 6, hbk.frozen 7⟩)
              replace hbk := Lib.hid hbk
              go_simp
              have hB := ct_set8 hbk.out (Value.int .i64 sc) (Value.string sbc) (Value.string is_c) (Value.int .i64 fc) (Value.int .i64 tc) (Value.bool cac) (Value.int .u64 kyc) (Value.int .u64 slc)
              have hS : St 52 w3.heap.size (.pointer (some ⟨g, 0, none⟩)) w2 _ := ⟨g, _, _, rfl, hg, (only_set (only_set (only_set (only_set (only_set (only_set (only_set (only_set (World.grownBy.refl _ _) 0 _) 1 _) 2 _) 3 _) 4 _) 5 _) 6 _) 7 _), hbk.out, hB, rfl⟩
              refine hK undef _ (hS.below hw (Nat.le_refl _)) ?_ ?_
              · show St _ _ (a.tmps[7]?.getD undef) _ _; rw [e0]; exact hS
              · show VarIs _ _ _ (a.tmps[7]?.getD undef) _; rw [e0]; exact ⟨g, rfl, hg, hB⟩
            · intro a w2 hw hf K hK
              have f0 := hf 47 rfl
              simp only [F4] at f0
              clear hf
              go_simp
              exact hK _ _ _ rfl rfl hw (Below.refl _ _) (fun h => absurd h (by decide))
          · simp only [List.forall_mem_cons, List.not_mem_nil, false_implies, implies_true, and_true]
            refine ⟨?_, ?_, ?_, ?_, ?_, ?_, ?_, ?_, ?_, ?_, ?_, ?_⟩
            all_goals first | exact trivial | (intro v w h; exact h)
          · intro a' w6 hd hs hw hout hf hg
            simp only [List.forall_mem_cons] at hg
            have f7 : VarIs 52 w3.heap.size #[Value.int .i64 sc, Value.string sbc, Value.string is_c, Value.int .i64 fc, Value.int .i64 tc, Value.bool cac, Value.int .u64 kyc, Value.int .u64 slc] (a'.tmps[7]?.getD undef) w6 := hg.2.2.2.2.2.2.2.2.2.2.1 trivial
            have f8 := hf 8
            simp only [F4] at f8
            have e2 : _ = some (Value.pointer (some ⟨w.heap.size, 0, none⟩)) := hout 2 rfl
            have e3 : _ = some (Value.pointer (some ⟨w.heap.size + 1, 0, none⟩)) := hout 3 rfl
            have e5 : _ = some (Value.pointer (some ⟨g5, 0, none⟩)) := hout 5 rfl
            have e6 : _ = some (Value.int .i64 E) := hout 6 rfl
            obtain ⟨tm, df⟩ := a'
            simp only at hd hs f7 f8 e2 e3 e5 e6
            have e := lit_arr tm 93 hs
            rw [show (List.range 93).map (fun i => tm[i]?.getD undef) = [tm[0]?.getD undef, tm[1]?.getD undef, tm[2]?.getD undef, tm[3]?.getD undef, tm[4]?.getD undef, tm[5]?.getD undef, tm[6]?.getD undef, tm[7]?.getD undef, tm[8]?.getD undef, tm[9]?.getD undef, tm[10]?.getD undef, tm[11]?.getD undef, tm[12]?.getD undef, tm[13]?.getD undef, tm[14]?.getD undef, tm[15]?.getD undef, tm[16]?.getD undef, tm[17]?.getD undef, tm[18]?.getD undef, tm[19]?.getD undef, tm[20]?.getD undef, tm[21]?.getD undef, tm[22]?.getD undef, tm[23]?.getD undef, tm[24]?.getD undef, tm[25]?.getD undef, tm[26]?.getD undef, tm[27]?.getD undef, tm[28]?.getD undef, tm[29]?.getD undef, tm[30]?.getD undef, tm[31]?.getD undef, tm[32]?.getD undef, tm[33]?.getD undef, tm[34]?.getD undef, tm[35]?.getD undef, tm[36]?.getD undef, tm[37]?.getD undef, tm[38]?.getD undef, tm[39]?.getD undef, tm[40]?.getD undef, tm[41]?.getD undef, tm[42]?.getD undef, tm[43]?.getD undef, tm[44]?.getD undef, tm[45]?.getD undef, tm[46]?.getD undef, tm[47]?.getD undef, tm[48]?.getD undef, tm[49]?.getD undef, tm[50]?.getD undef, tm[51]?.getD undef, tm[52]?.getD undef, tm[53]?.getD undef, tm[54]?.getD undef, tm[55]?.getD undef, tm[56]?.getD undef, tm[57]?.getD undef, tm[58]?.getD undef, tm[59]?.getD undef, tm[60]?.getD undef, tm[61]?.getD undef, tm[62]?.getD undef, tm[63]?.getD undef, tm[64]?.getD undef, tm[65]?.getD undef, tm[66]?.getD undef, tm[67]?.getD undef, tm[68]?.getD undef, tm[69]?.getD undef, tm[70]?.getD undef, tm[71]?.getD undef, tm[72]?.getD undef, tm[73]?.getD undef, tm[74]?.getD undef, tm[75]?.getD undef, tm[76]?.getD undef, tm[77]?.getD undef, tm[78]?.getD undef, tm[79]?.getD undef, tm[80]?.getD undef, tm[81]?.getD undef, tm[82]?.getD undef, tm[83]?.getD undef, tm[84]?.getD undef, tm[85]?.getD undef, tm[86]?.getD undef, tm[87]?.getD undef, tm[88]?.getD undef, tm[89]?.getD undef, tm[90]?.getD undef, tm[91]?.getD undef, tm[92]?.getD undef] from rfl] at e
            simp only [e2, e3, e5, e6, f8, Option.getD_some] at e
            clear hf hout hs hg
            obtain ⟨g7, f7, hg7, p7⟩ := f7
            rw [f7] at e
            rw [e, hd]
            clear e hd f7 f8 e2 e3 e5 e6
            generalize tm[0]?.getD undef = y0
            generalize tm[1]?.getD undef = y1
            generalize tm[4]?.getD undef = y4
            generalize tm[9]?.getD undef = y9
            generalize tm[10]?.getD undef = y10
            generalize tm[11]?.getD undef = y11
            generalize tm[12]?.getD undef = y12
            generalize tm[13]?.getD undef = y13
            generalize tm[14]?.getD undef = y14
            generalize tm[15]?.getD undef = y15
            generalize tm[16]?.getD undef = y16
            generalize tm[17]?.getD undef = y17
            generalize tm[18]?.getD undef = y18
            generalize tm[19]?.getD undef = y19
            generalize tm[20]?.getD undef = y20
            generalize tm[21]?.getD undef = y21
            generalize tm[22]?.getD undef = y22
            generalize tm[23]?.getD undef = y23
            generalize tm[24]?.getD undef = y24
            generalize tm[25]?.getD undef = y25
            generalize tm[26]?.getD undef = y26
            generalize tm[27]?.getD undef = y27
            generalize tm[28]?.getD undef = y28
            generalize tm[29]?.getD undef = y29
            generalize tm[30]?.getD undef = y30
            generalize tm[31]?.getD undef = y31
            generalize tm[32]?.getD undef = y32
            generalize tm[33]?.getD undef = y33
            generalize tm[34]?.getD undef = y34
            generalize tm[35]?.getD undef = y35
            generalize tm[36]?.getD undef = y36
            generalize tm[37]?.getD undef = y37
            generalize tm[38]?.getD undef = y38
            generalize tm[39]?.getD undef = y39
            generalize tm[40]?.getD undef = y40
            generalize tm[41]?.getD undef = y41
            generalize tm[42]?.getD undef = y42
            generalize tm[43]?.getD undef = y43
            generalize tm[44]?.getD undef = y44
            generalize tm[45]?.getD undef = y45
            generalize tm[46]?.getD undef = y46
            generalize tm[47]?.getD undef = y47
            generalize tm[48]?.getD undef = y48
            generalize tm[49]?.getD undef = y49
            generalize tm[50]?.getD undef = y50
            generalize tm[51]?.getD undef = y51
            generalize tm[52]?.getD undef = y52
            generalize tm[53]?.getD undef = y53
            generalize tm[54]?.getD undef = y54
            generalize tm[55]?.getD undef = y55
            generalize tm[56]?.getD undef = y56
            generalize tm[57]?.getD undef = y57
            generalize tm[58]?.getD undef = y58
            generalize tm[59]?.getD undef = y59
            generalize tm[60]?.getD undef = y60
            generalize tm[61]?.getD undef = y61
            generalize tm[62]?.getD undef = y62
            generalize tm[63]?.getD undef = y63
            generalize tm[64]?.getD undef = y64
            generalize tm[65]?.getD undef = y65
            generalize tm[66]?.getD undef = y66
            generalize tm[67]?.getD undef = y67
            generalize tm[68]?.getD undef = y68
            generalize tm[69]?.getD undef = y69
            generalize tm[70]?.getD undef = y70
            generalize tm[71]?.getD undef = y71
            generalize tm[72]?.getD undef = y72
            generalize tm[73]?.getD undef = y73
            generalize tm[74]?.getD undef = y74
            generalize tm[75]?.getD undef = y75
            generalize tm[76]?.getD undef = y76
            generalize tm[77]?.getD undef = y77
            generalize tm[78]?.getD undef = y78
            generalize tm[79]?.getD undef = y79
            generalize tm[80]?.getD undef = y80
            generalize tm[81]?.getD undef = y81
            generalize tm[82]?.getD undef = y82
            generalize tm[83]?.getD undef = y83
            generalize tm[84]?.getD undef = y84
            generalize tm[85]?.getD undef = y85
            generalize tm[86]?.getD undef = y86
            generalize tm[87]?.getD undef = y87
            generalize tm[88]?.getD undef = y88
            generalize tm[89]?.getD undef = y89
            generalize tm[90]?.getD undef = y90
            generalize tm[91]?.getD undef = y91
            generalize tm[92]?.getD undef = y92
            have px := Lib.hid (px.out.below hw px.out.lt)
            have hw3l : w.heap.size + 1 < w3.heap.size := ph.out.lt
            have ph := Lib.hid (ph.out.below hw ph.out.lt)
            have hw6l : w.heap.size + 1 < w6.heap.size := ph.out.lt
            have pr := Lib.hid (pr.out.below hw pr.out.lt)
            replace p7 := Lib.hid p7
            have hb := Lib.hid (hb.out.trans (hw.mono hb.out.size))
            clear hw hcell hB0 hB2 hiss h1
            by_cases hE : E = 0
            · by_cases hE2 : E2 = 0
              · subst hE
                subst hE2
                obtain ⟨k0, k1, k2, k3, k4, k5, k6, k7, c0, c1, c2, c3, c4, c5, c6, c7, d0, d1, d2, d3, d4, d5, d6, d7, d8, d9⟩ := (show w6.cell? ⟨g5, 0, none⟩ = some (Value.int .i64 sr) ∧ w6.cell? ⟨g5, 1, none⟩ = some (Value.string sbr) ∧ w6.cell? ⟨g5, 2, none⟩ = some (Value.string is_r) ∧ w6.cell? ⟨g5, 3, none⟩ = some (Value.int .i64 fr) ∧ w6.cell? ⟨g5, 4, none⟩ = some (Value.int .i64 tr) ∧ w6.cell? ⟨g5, 5, none⟩ = some (Value.bool car) ∧ w6.cell? ⟨g5, 6, none⟩ = some (Value.int .u64 kyr) ∧ w6.cell? ⟨g5, 7, none⟩ = some (Value.int .u64 slr) ∧ ((w6.alloc (.cells #[Value.int .i64 sr, Value.string sbr, Value.string is_r, Value.int .i64 fr, Value.int .i64 tr, Value.bool car, Value.int .u64 kyr, Value.int .u64 slr] 52)).alloc (.cells #[Value.slice (some ⟨w6.heap.size, 0, none⟩) 1 1, Value.slice none 0 0] 59)).cell? ⟨g7, 0, none⟩ = some (Value.int .i64 sc) ∧ ((w6.alloc (.cells #[Value.int .i64 sr, Value.string sbr, Value.string is_r, Value.int .i64 fr, Value.int .i64 tr, Value.bool car, Value.int .u64 kyr, Value.int .u64 slr] 52)).alloc (.cells #[Value.slice (some ⟨w6.heap.size, 0, none⟩) 1 1, Value.slice none 0 0] 59)).cell? ⟨g7, 1, none⟩ = some (Value.string sbc) ∧ ((w6.alloc (.cells #[Value.int .i64 sr, Value.string sbr, Value.string is_r, Value.int .i64 fr, Value.int .i64 tr, Value.bool car, Value.int .u64 kyr, Value.int .u64 slr] 52)).alloc (.cells #[Value.slice (some ⟨w6.heap.size, 0, none⟩) 1 1, Value.slice none 0 0] 59)).cell? ⟨g7, 2, none⟩ = some (Value.string is_c) ∧ ((w6.alloc (.cells #[Value.int .i64 sr, Value.string sbr, Value.string is_r, Value.int .i64 fr, Value.int .i64 tr, Value.bool car, Value.int .u64 kyr, Value.int .u64 slr] 52)).alloc (.cells #[Value.slice (some ⟨w6.heap.size, 0, none⟩) 1 1, Value.slice none 0 0] 59)).cell? ⟨g7, 3, none⟩ = some (Value.int .i64 fc) ∧ ((w6.alloc (.cells #[Value.int .i64 sr, Value.string sbr, Value.string is_r, Value.int .i64 fr, Value.int .i64 tr, Value.bool car, Value.int .u64 kyr, Value.int .u64 slr] 52)).alloc (.cells #[Value.slice (some ⟨w6.heap.size, 0, none⟩) 1 1, Value.slice none 0 0] 59)).cell? ⟨g7, 4, none⟩ = some (Value.int .i64 tc) ∧ ((w6.alloc (.cells #[Value.int .i64 sr, Value.string sbr, Value.string is_r, Value.int .i64 fr, Value.int .i64 tr, Value.bool car, Value.int .u64 kyr, Value.int .u64 slr] 52)).alloc (.cells #[Value.slice (some ⟨w6.heap.size, 0, none⟩) 1 1, Value.slice none 0 0] 59)).cell? ⟨g7, 5, none⟩ = some (Value.bool cac) ∧ ((w6.alloc (.cells #[Value.int .i64 sr, Value.string sbr, Value.string is_r, Value.int .i64 fr, Value.int .i64 tr, Value.bool car, Value.int .u64 kyr, Value.int .u64 slr] 52)).alloc (.cells #[Value.slice (some ⟨w6.heap.size, 0, none⟩) 1 1, Value.slice none 0 0] 59)).cell? ⟨g7, 6, none⟩ = some (Value.int .u64 kyc) ∧ ((w6.alloc (.cells #[Value.int .i64 sr, Value.string sbr, Value.string is_r, Value.int .i64 fr, Value.int .i64 tr, Value.bool car, Value.int .u64 kyr, Value.int .u64 slr] 52)).alloc (.cells #[Value.slice (some ⟨w6.heap.size, 0, none⟩) 1 1, Value.slice none 0 0] 59)).cell? ⟨g7, 7, none⟩ = some (Value.int .u64 slc) ∧ (((w6.alloc (.cells #[Value.int .i64 sr, Value.string sbr, Value.string is_r, Value.int .i64 fr, Value.int .i64 tr, Value.bool car, Value.int .u64 kyr, Value.int .u64 slr] 52)).alloc (.cells #[Value.slice (some ⟨w6.heap.size, 0, none⟩) 1 1, Value.slice none 0 0] 59)).alloc (.cells #[Value.int .i64 sc, Value.string sbc, Value.string is_c, Value.int .i64 fc, Value.int .i64 tc, Value.bool cac, Value.int .u64 kyc, Value.int .u64 slc] 52)).cell? ⟨w.heap.size, 0, none⟩ = some (Value.int .i64 s0) ∧ (((w6.alloc (.cells #[Value.int .i64 sr, Value.string sbr, Value.string is_r, Value.int .i64 fr, Value.int .i64 tr, Value.bool car, Value.int .u64 kyr, Value.int .u64 slr] 52)).alloc (.cells #[Value.slice (some ⟨w6.heap.size, 0, none⟩) 1 1, Value.slice none 0 0] 59)).alloc (.cells #[Value.int .i64 sc, Value.string sbc, Value.string is_c, Value.int .i64 fc, Value.int .i64 tc, Value.bool cac, Value.int .u64 kyc, Value.int .u64 slc] 52)).cell? ⟨w.heap.size, 1, none⟩ = some (Value.string sb0) ∧ (((w6.alloc (.cells #[Value.int .i64 sr, Value.string sbr, Value.string is_r, Value.int .i64 fr, Value.int .i64 tr, Value.bool car, Value.int .u64 kyr, Value.int .u64 slr] 52)).alloc (.cells #[Value.slice (some ⟨w6.heap.size, 0, none⟩) 1 1, Value.slice none 0 0] 59)).alloc (.cells #[Value.int .i64 sc, Value.string sbc, Value.string is_c, Value.int .i64 fc, Value.int .i64 tc, Value.bool cac, Value.int .u64 kyc, Value.int .u64 slc] 52)).cell? ⟨w.heap.size, 2, none⟩ = some (Value.string is_0) ∧ (((w6.alloc (.cells #[Value.int .i64 sr, Value.string sbr, Value.string is_r, Value.int .i64 fr, Value.int .i64 tr, Value.bool car, Value.int .u64 kyr, Value.int .u64 slr] 52)).alloc (.cells #[Value.slice (some ⟨w6.heap.size, 0, none⟩) 1 1, Value.slice none 0 0] 59)).alloc (.cells #[Value.int .i64 sc, Value.string sbc, Value.string is_c, Value.int .i64 fc, Value.int .i64 tc, Value.bool cac, Value.int .u64 kyc, Value.int .u64 slc] 52)).cell? ⟨w.heap.size, 3, none⟩ = some (Value.int .i64 f0) ∧ (((w6.alloc (.cells #[Value.int .i64 sr, Value.string sbr, Value.string is_r, Value.int .i64 fr, Value.int .i64 tr, Value.bool car, Value.int .u64 kyr, Value.int .u64 slr] 52)).alloc (.cells #[Value.slice (some ⟨w6.heap.size, 0, none⟩) 1 1, Value.slice none 0 0] 59)).alloc (.cells #[Value.int .i64 sc, Value.string sbc, Value.string is_c, Value.int .i64 fc, Value.int .i64 tc, Value.bool cac, Value.int .u64 kyc, Value.int .u64 slc] 52)).cell? ⟨w.heap.size, 4, none⟩ = some (Value.int .i64 t0) ∧ (((w6.alloc (.cells #[Value.int .i64 sr, Value.string sbr, Value.string is_r, Value.int .i64 fr, Value.int .i64 tr, Value.bool car, Value.int .u64 kyr, Value.int .u64 slr] 52)).alloc (.cells #[Value.slice (some ⟨w6.heap.size, 0, none⟩) 1 1, Value.slice none 0 0] 59)).alloc (.cells #[Value.int .i64 sc, Value.string sbc, Value.string is_c, Value.int .i64 fc, Value.int .i64 tc, Value.bool cac, Value.int .u64 kyc, Value.int .u64 slc] 52)).cell? ⟨w.heap.size, 5, none⟩ = some (Value.bool ca0) ∧ (((w6.alloc (.cells #[Value.int .i64 sr, Value.string sbr, Value.string is_r, Value.int .i64 fr, Value.int .i64 tr, Value.bool car, Value.int .u64 kyr, Value.int .u64 slr] 52)).alloc (.cells #[Value.slice (some ⟨w6.heap.size, 0, none⟩) 1 1, Value.slice none 0 0] 59)).alloc (.cells #[Value.int .i64 sc, Value.string sbc, Value.string is_c, Value.int .i64 fc, Value.int .i64 tc, Value.bool cac, Value.int .u64 kyc, Value.int .u64 slc] 52)).cell? ⟨w.heap.size, 6, none⟩ = some (Value.int .u64 ky0) ∧ (((w6.alloc (.cells #[Value.int .i64 sr, Value.string sbr, Value.string is_r, Value.int .i64 fr, Value.int .i64 tr, Value.bool car, Value.int .u64 kyr, Value.int .u64 slr] 52)).alloc (.cells #[Value.slice (some ⟨w6.heap.size, 0, none⟩) 1 1, Value.slice none 0 0] 59)).alloc (.cells #[Value.int .i64 sc, Value.string sbc, Value.string is_c, Value.int .i64 fc, Value.int .i64 tc, Value.bool cac, Value.int .u64 kyc, Value.int .u64 slc] 52)).cell? ⟨w.heap.size, 7, none⟩ = some (Value.int .u64 sl0) ∧ (((w6.alloc (.cells #[Value.int .i64 sr, Value.string sbr, Value.string is_r, Value.int .i64 fr, Value.int .i64 tr, Value.bool car, Value.int .u64 kyr, Value.int .u64 slr] 52)).alloc (.cells #[Value.slice (some ⟨w6.heap.size, 0, none⟩) 1 1, Value.slice none 0 0] 59)).alloc (.cells #[Value.int .i64 sc, Value.string sbc, Value.string is_c, Value.int .i64 fc, Value.int .i64 tc, Value.bool cac, Value.int .u64 kyc, Value.int .u64 slc] 52)).cell? ⟨w.heap.size, 8, none⟩ = some (Value.slice (some ad) 1 cp) ∧ (((w6.alloc (.cells #[Value.int .i64 sr, Value.string sbr, Value.string is_r, Value.int .i64 fr, Value.int .i64 tr, Value.bool car, Value.int .u64 kyr, Value.int .u64 slr] 52)).alloc (.cells #[Value.slice (some ⟨w6.heap.size, 0, none⟩) 1 1, Value.slice none 0 0] 59)).alloc (.cells #[Value.int .i64 sc, Value.string sbc, Value.string is_c, Value.int .i64 fc, Value.int .i64 tc, Value.bool cac, Value.int .u64 kyc, Value.int .u64 slc] 52)).cell? ⟨w.heap.size, 9, none⟩ = some (Value.int .i64 now) from ⟨pr.out.cell 0, pr.out.cell 1, pr.out.cell 2, pr.out.cell 3, pr.out.cell 4, pr.out.cell 5, pr.out.cell 6, pr.out.cell 7, ((p7.out.alloc (.cells #[Value.int .i64 sr, Value.string sbr, Value.string is_r, Value.int .i64 fr, Value.int .i64 tr, Value.bool car, Value.int .u64 kyr, Value.int .u64 slr] 52)).alloc (.cells #[Value.slice (some ⟨w6.heap.size, 0, none⟩) 1 1, Value.slice none 0 0] 59)).cell 0, ((p7.out.alloc (.cells #[Value.int .i64 sr, Value.string sbr, Value.string is_r, Value.int .i64 fr, Value.int .i64 tr, Value.bool car, Value.int .u64 kyr, Value.int .u64 slr] 52)).alloc (.cells #[Value.slice (some ⟨w6.heap.size, 0, none⟩) 1 1, Value.slice none 0 0] 59)).cell 1, ((p7.out.alloc (.cells #[Value.int .i64 sr, Value.string sbr, Value.string is_r, Value.int .i64 fr, Value.int .i64 tr, Value.bool car, Value.int .u64 kyr, Value.int .u64 slr] 52)).alloc (.cells #[Value.slice (some ⟨w6.heap.size, 0, none⟩) 1 1, Value.slice none 0 0] 59)).cell 2, ((p7.out.alloc (.cells #[Value.int .i64 sr, Value.string sbr, Value.string is_r, Value.int .i64 fr, Value.int .i64 tr, Value.bool car, Value.int .u64 kyr, Value.int .u64 slr] 52)).alloc (.cells #[Value.slice (some ⟨w6.heap.size, 0, none⟩) 1 1, Value.slice none 0 0] 59)).cell 3, ((p7.out.alloc (.cells #[Value.int .i64 sr, Value.string sbr, Value.string is_r, Value.int .i64 fr, Value.int .i64 tr, Value.bool car, Value.int .u64 kyr, Value.int .u64 slr] 52)).alloc (.cells #[Value.slice (some ⟨w6.heap.size, 0, none⟩) 1 1, Value.slice none 0 0] 59)).cell 4, ((p7.out.alloc (.cells #[Value.int .i64 sr, Value.string sbr, Value.string is_r, Value.int .i64 fr, Value.int .i64 tr, Value.bool car, Value.int .u64 kyr, Value.int .u64 slr] 52)).alloc (.cells #[Value.slice (some ⟨w6.heap.size, 0, none⟩) 1 1, Value.slice none 0 0] 59)).cell 5, ((p7.out.alloc (.cells #[Value.int .i64 sr, Value.string sbr, Value.string is_r, Value.int .i64 fr, Value.int .i64 tr, Value.bool car, Value.int .u64 kyr, Value.int .u64 slr] 52)).alloc (.cells #[Value.slice (some ⟨w6.heap.size, 0, none⟩) 1 1, Value.slice none 0 0] 59)).cell 6, ((p7.out.alloc (.cells #[Value.int .i64 sr, Value.string sbr, Value.string is_r, Value.int .i64 fr, Value.int .i64 tr, Value.bool car, Value.int .u64 kyr, Value.int .u64 slr] 52)).alloc (.cells #[Value.slice (some ⟨w6.heap.size, 0, none⟩) 1 1, Value.slice none 0 0] 59)).cell 7, (((px.out.alloc (.cells #[Value.int .i64 sr, Value.string sbr, Value.string is_r, Value.int .i64 fr, Value.int .i64 tr, Value.bool car, Value.int .u64 kyr, Value.int .u64 slr] 52)).alloc (.cells #[Value.slice (some ⟨w6.heap.size, 0, none⟩) 1 1, Value.slice none 0 0] 59)).alloc (.cells #[Value.int .i64 sc, Value.string sbc, Value.string is_c, Value.int .i64 fc, Value.int .i64 tc, Value.bool cac, Value.int .u64 kyc, Value.int .u64 slc] 52)).cell 0, (((px.out.alloc (.cells #[Value.int .i64 sr, Value.string sbr, Value.string is_r, Value.int .i64 fr, Value.int .i64 tr, Value.bool car, Value.int .u64 kyr, Value.int .u64 slr] 52)).alloc (.cells #[Value.slice (some ⟨w6.heap.size, 0, none⟩) 1 1, Value.slice none 0 0] 59)).alloc (.cells #[Value.int .i64 sc, Value.string sbc, Value.string is_c, Value.int .i64 fc, Value.int .i64 tc, Value.bool cac, Value.int .u64 kyc, Value.int .u64 slc] 52)).cell 1, (((px.out.alloc (.cells #[Value.int .i64 sr, Value.string sbr, Value.string is_r, Value.int .i64 fr, Value.int .i64 tr, Value.bool car, Value.int .u64 kyr, Value.int .u64 slr] 52)).alloc (.cells #[Value.slice (some ⟨w6.heap.size, 0, none⟩) 1 1, Value.slice none 0 0] 59)).alloc (.cells #[Value.int .i64 sc, Value.string sbc, Value.string is_c, Value.int .i64 fc, Value.int .i64 tc, Value.bool cac, Value.int .u64 kyc, Value.int .u64 slc] 52)).cell 2, (((px.out.alloc (.cells #[Value.int .i64 sr, Value.string sbr, Value.string is_r, Value.int .i64 fr, Value.int .i64 tr, Value.bool car, Value.int .u64 kyr, Value.int .u64 slr] 52)).alloc (.cells #[Value.slice (some ⟨w6.heap.size, 0, none⟩) 1 1, Value.slice none 0 0] 59)).alloc (.cells #[Value.int .i64 sc, Value.string sbc, Value.string is_c, Value.int .i64 fc, Value.int .i64 tc, Value.bool cac, Value.int .u64 kyc, Value.int .u64 slc] 52)).cell 3, (((px.out.alloc (.cells #[Value.int .i64 sr, Value.string sbr, Value.string is_r, Value.int .i64 fr, Value.int .i64 tr, Value.bool car, Value.int .u64 kyr, Value.int .u64 slr] 52)).alloc (.cells #[Value.slice (some ⟨w6.heap.size, 0, none⟩) 1 1, Value.slice none 0 0] 59)).alloc (.cells #[Value.int .i64 sc, Value.string sbc, Value.string is_c, Value.int .i64 fc, Value.int .i64 tc, Value.bool cac, Value.int .u64 kyc, Value.int .u64 slc] 52)).cell 4, (((px.out.alloc (.cells #[Value.int .i64 sr, Value.string sbr, Value.string is_r, Value.int .i64 fr, Value.int .i64 tr, Value.bool car, Value.int .u64 kyr, Value.int .u64 slr] 52)).alloc (.cells #[Value.slice (some ⟨w6.heap.size, 0, none⟩) 1 1, Value.slice none 0 0] 59)).alloc (.cells #[Value.int .i64 sc, Value.string sbc, Value.string is_c, Value.int .i64 fc, Value.int .i64 tc, Value.bool cac, Value.int .u64 kyc, Value.int .u64 slc] 52)).cell 5, (((px.out.alloc (.cells #[Value.int .i64 sr, Value.string sbr, Value.string is_r, Value.int .i64 fr, Value.int .i64 tr, Value.bool car, Value.int .u64 kyr, Value.int .u64 slr] 52)).alloc (.cells #[Value.slice (some ⟨w6.heap.size, 0, none⟩) 1 1, Value.slice none 0 0] 59)).alloc (.cells #[Value.int .i64 sc, Value.string sbc, Value.string is_c, Value.int .i64 fc, Value.int .i64 tc, Value.bool cac, Value.int .u64 kyc, Value.int .u64 slc] 52)).cell 6, (((px.out.alloc (.cells #[Value.int .i64 sr, Value.string sbr, Value.string is_r, Value.int .i64 fr, Value.int .i64 tr, Value.bool car, Value.int .u64 kyr, Value.int .u64 slr] 52)).alloc (.cells #[Value.slice (some ⟨w6.heap.size, 0, none⟩) 1 1, Value.slice none 0 0] 59)).alloc (.cells #[Value.int .i64 sc, Value.string sbc, Value.string is_c, Value.int .i64 fc, Value.int .i64 tc, Value.bool cac, Value.int .u64 kyc, Value.int .u64 slc] 52)).cell 7, (((px.out.alloc (.cells #[Value.int .i64 sr, Value.string sbr, Value.string is_r, Value.int .i64 fr, Value.int .i64 tr, Value.bool car, Value.int .u64 kyr, Value.int .u64 slr] 52)).alloc (.cells #[Value.slice (some ⟨w6.heap.size, 0, none⟩) 1 1, Value.slice none 0 0] 59)).alloc (.cells #[Value.int .i64 sc, Value.string sbc, Value.string is_c, Value.int .i64 fc, Value.int .i64 tc, Value.bool cac, Value.int .u64 kyc, Value.int .u64 slc] 52)).cell 8, (((px.out.alloc (.cells #[Value.int .i64 sr, Value.string sbr, Value.string is_r, Value.int .i64 fr, Value.int .i64 tr, Value.bool car, Value.int .u64 kyr, Value.int .u64 slr] 52)).alloc (.cells #[Value.slice (some ⟨w6.heap.size, 0, none⟩) 1 1, Value.slice none 0 0] 59)).alloc (.cells #[Value.int .i64 sc, Value.string sbc, Value.string is_c, Value.int .i64 fc, Value.int .i64 tc, Value.bool cac, Value.int .u64 kyc, Value.int .u64 slc] 52)).cell 9⟩)
                go_wp2_with fail
                clear k0 k1 k2 k3 k4 k5 k6 k7 c0 c1 c2 c3 c4 c5 c6 c7 d0 d1 d2 d3 d4 d5 d6 d7 d8 d9
                have pa := Lib.hid (((Blk.new w6 52 #[Value.int .i64 sr, Value.string sbr, Value.string is_r, Value.int .i64 fr, Value.int .i64 tr, Value.bool car, Value.int .u64 kyr, Value.int .u64 slr]).alloc (.cells #[Value.slice (some ⟨w6.heap.size, 0, none⟩) 1 1, Value.slice none 0 0] 59)).alloc (.cells #[Value.int .i64 sc, Value.string sbc, Value.string is_c, Value.int .i64 fc, Value.int .i64 tc, Value.bool cac, Value.int .u64 kyc, Value.int .u64 slc] 52))
                have p9 := (Blk.new (w6.alloc (.cells #[Value.int .i64 sr, Value.string sbr, Value.string is_r, Value.int .i64 fr, Value.int .i64 tr, Value.bool car, Value.int .u64 kyr, Value.int .u64 slr] 52)) 59 #[Value.slice (some ⟨w6.heap.size, 0, none⟩) 1 1, Value.slice none 0 0]).alloc (.cells #[Value.int .i64 sc, Value.string sbc, Value.string is_c, Value.int .i64 fc, Value.int .i64 tc, Value.bool cac, Value.int .u64 kyc, Value.int .u64 slc] 52)
                have pc := Blk.new ((w6.alloc (.cells #[Value.int .i64 sr, Value.string sbr, Value.string is_r, Value.int .i64 fr, Value.int .i64 tr, Value.bool car, Value.int .u64 kyr, Value.int .u64 slr] 52)).alloc (.cells #[Value.slice (some ⟨w6.heap.size, 0, none⟩) 1 1, Value.slice none 0 0] 59)) 52 #[Value.int .i64 sc, Value.string sbc, Value.string is_c, Value.int .i64 fc, Value.int .i64 tc, Value.bool cac, Value.int .u64 kyc, Value.int .u64 slc]
                rw [show (w6.alloc (.cells #[Value.int .i64 sr, Value.string sbr, Value.string is_r, Value.int .i64 fr, Value.int .i64 tr, Value.bool car, Value.int .u64 kyr, Value.int .u64 slr] 52)).heap.size = w6.heap.size + 1 by simp] at p9
                rw [show ((w6.alloc (.cells #[Value.int .i64 sr, Value.string sbr, Value.string is_r, Value.int .i64 fr, Value.int .i64 tr, Value.bool car, Value.int .u64 kyr, Value.int .u64 slr] 52)).alloc (.cells #[Value.slice (some ⟨w6.heap.size, 0, none⟩) 1 1, Value.slice none 0 0] 59)).heap.size = w6.heap.size + 1 + 1 by simp] at pc
                replace p9 := Lib.hid p9
                replace pc := Lib.hid pc
                have px := Lib.hid (px.out.alloc (.cells #[Value.int .i64 sr, Value.string sbr, Value.string is_r, Value.int .i64 fr, Value.int .i64 tr, Value.bool car, Value.int .u64 kyr, Value.int .u64 slr] 52))
                have ph := Lib.hid (ph.out.alloc (.cells #[Value.int .i64 sr, Value.string sbr, Value.string is_r, Value.int .i64 fr, Value.int .i64 tr, Value.bool car, Value.int .u64 kyr, Value.int .u64 slr] 52))
                have pr := Lib.hid (pr.out.alloc (.cells #[Value.int .i64 sr, Value.string sbr, Value.string is_r, Value.int .i64 fr, Value.int .i64 tr, Value.bool car, Value.int .u64 kyr, Value.int .u64 slr] 52))
                have p7 := Lib.hid (p7.out.alloc (.cells #[Value.int .i64 sr, Value.string sbr, Value.string is_r, Value.int .i64 fr, Value.int .i64 tr, Value.bool car, Value.int .u64 kyr, Value.int .u64 slr] 52))
                have hb := Lib.hid (below_new hb.out (.cells #[Value.int .i64 sr, Value.string sbr, Value.string is_r, Value.int .i64 fr, Value.int .i64 tr, Value.bool car, Value.int .u64 kyr, Value.int .u64 slr] 52))
                have px := Lib.hid (px.out.alloc (.cells #[Value.slice (some ⟨w6.heap.size, 0, none⟩) 1 1, Value.slice none 0 0] 59))
                have ph := Lib.hid (ph.out.alloc (.cells #[Value.slice (some ⟨w6.heap.size, 0, none⟩) 1 1, Value.slice none 0 0] 59))
                have pr := Lib.hid (pr.out.alloc (.cells #[Value.slice (some ⟨w6.heap.size, 0, none⟩) 1 1, Value.slice none 0 0] 59))
                have p7 := Lib.hid (p7.out.alloc (.cells #[Value.slice (some ⟨w6.heap.size, 0, none⟩) 1 1, Value.slice none 0 0] 59))
                have hb := Lib.hid (below_new hb.out (.cells #[Value.slice (some ⟨w6.heap.size, 0, none⟩) 1 1, Value.slice none 0 0] 59))
                have px := Lib.hid (px.out.alloc (.cells #[Value.int .i64 sc, Value.string sbc, Value.string is_c, Value.int .i64 fc, Value.int .i64 tc, Value.bool cac, Value.int .u64 kyc, Value.int .u64 slc] 52))
                have ph := Lib.hid (ph.out.alloc (.cells #[Value.int .i64 sc, Value.string sbc, Value.string is_c, Value.int .i64 fc, Value.int .i64 tc, Value.bool cac, Value.int .u64 kyc, Value.int .u64 slc] 52))
                have pr := Lib.hid (pr.out.alloc (.cells #[Value.int .i64 sc, Value.string sbc, Value.string is_c, Value.int .i64 fc, Value.int .i64 tc, Value.bool cac, Value.int .u64 kyc, Value.int .u64 slc] 52))
                have p7 := Lib.hid (p7.out.alloc (.cells #[Value.int .i64 sc, Value.string sbc, Value.string is_c, Value.int .i64 fc, Value.int .i64 tc, Value.bool cac, Value.int .u64 kyc, Value.int .u64 slc] 52))
                have hb := Lib.hid (below_new hb.out (.cells #[Value.int .i64 sc, Value.string sbc, Value.string is_c, Value.int .i64 fc, Value.int .i64 tc, Value.bool cac, Value.int .u64 kyc, Value.int .u64 slc] 52))
                refine (ver1_any ⟨sc, sbc, is_c, fc, tc, cac, kyc, slc⟩ ⟨sr, sbr, is_r, fr, tr, car, kyr, slr⟩ now pc.out pa.out hcok.out).mono ?_; rintro e w7 ⟨rfl, hq⟩
                have px := Lib.hid (px.out.below hq px.out.lt)
                have ph := Lib.hid (ph.out.below hq ph.out.lt)
                have pr := Lib.hid (pr.out.below hq pr.out.lt)
                have p7 := Lib.hid (p7.out.below hq p7.out.lt)
                have pa := Lib.hid (pa.out.below hq pa.out.lt)
                have p9 := Lib.hid (p9.out.below hq p9.out.lt)
                have hb := Lib.hid (hb.out.trans (hq.mono hb.out.size))
                clear hq
                generalize hV0 : verR [⟨sc, sbc, is_c, fc, tc, cac, kyc, slc⟩] [⟨sr, sbr, is_r, fr, tr, car, kyr, slr⟩] [] now = V
                replace hV0 := Lib.hid hV0
                by_cases hV : V = 0
                · subst hV
                  obtain ⟨c7, h7, z7⟩ := (show w7.cell? ⟨g7, 7, none⟩ = some (Value.int .u64 slc) ∧ w7.cell? ⟨w.heap.size + 1, 7, none⟩ = some (Value.int .u64 slh) ∧ w7.frozen? ⟨w.heap.size + 1, 7, none⟩ = false from ⟨p7.out.cell 7, ph.out.cell 7, ph.out.frozen 7⟩)
                  go_wp2_with fail
                  have px := Lib.hid (px.out.far (p := ⟨w.heap.size + 1, 7, none⟩) (by simp) (Value.int .u64 slc))
                  have pr := Lib.hid (pr.out.far (p := ⟨w.heap.size + 1, 7, none⟩) (by simp; omega) (Value.int .u64 slc))
                  have p7 := Lib.hid (p7.out.far (p := ⟨w.heap.size + 1, 7, none⟩) (by simp; omega) (Value.int .u64 slc))
                  have pa := Lib.hid (pa.out.far (p := ⟨w.heap.size + 1, 7, none⟩) (by simp; omega) (Value.int .u64 slc))
                  have p9 := Lib.hid (p9.out.far (p := ⟨w.heap.size + 1, 7, none⟩) (by simp; omega) (Value.int .u64 slc))
                  have ph : Hid (Blk _ _ _ #[Value.int .i64 sh, Value.string sbh, Value.string is_h, Value.int .i64 fh, Value.int .i64 th, Value.bool cah, Value.int .u64 kyh, Value.int .u64 slc]) := Lib.hid (by have := ph.out.set_ 7 (Value.int .u64 slc); simpa using this)
                  have hb := Lib.hid (below_set hb.out (Nat.le_succ _) 7 (Value.int .u64 slc))
                  generalize w7.setCell ⟨w.heap.size + 1, 7, none⟩ (Value.int .u64 slc) = w8 at px pr p7 pa p9 ph hb ⊢
                  have hsl : Hid (verR [⟨sh, sbh, is_h, fh, th, cah, kyh, slc⟩] [⟨sr, sbr, is_r, fr, tr, car, kyr, slr⟩] [] now = 0 → slc = sealC ⟨sh, sbh, is_h, fh, th, cah, kyh, slc⟩ kyr) := fun h => ver_one h
                  have hrs := fun wz => rseal_any ⟨sh, sbh, is_h, fh, th, cah, kyh, slc⟩ kyr wz (hokh.out slc)
                  have hver := fun wz gx ga hx ha => @ver1_any wz gx ga ⟨sh, sbh, is_h, fh, th, cah, kyh, slc⟩ ⟨sr, sbr, is_r, fr, tr, car, kyr, slr⟩ now hx ha (hokh.out slc)
                  generalize sealC ⟨sh, sbh, is_h, fh, th, cah, kyh, slc⟩ kyr = sv at hsl hrs
                  dsimp only [ctC] at hrs
                  replace hrs := Lib.hid hrs
                  replace hver := Lib.hid hver
                  by_cases heq : sh = sc ∧ sbh.toList = sbc.toList ∧ is_h.toList = is_c.toList ∧ fh = fc ∧ th = tc ∧ cah = cac ∧ kyh = kyc
                  · replace heq := Lib.hid heq
                    refine RK.region [] [74, 75, 76, 77, 78, 79, 80] (F := F9 (w.heap.size + 1) g7 g5 #[Value.int .i64 sh, Value.string sbh, Value.string is_h, Value.int .i64 fh, Value.int .i64 th, Value.bool cah, Value.int .u64 kyh, Value.int .u64 slc] #[Value.int .i64 sc, Value.string sbc, Value.string is_c, Value.int .i64 fc, Value.int .i64 tc, Value.bool cac, Value.int .u64 kyc, Value.int .u64 slc] true false sv slc kyr) (W := fun wz => Below w8.heap.size w8 wz) (R := Rb) (S := noS) (G := noG) rfl F9_more (fun _ _ _ _ _ _ => trivial) (fun _ _ _ _ _ h => h.elim) (fun _ _ _ _ _ h => h.elim) (by kernel_rfl) (by kernel_rfl) (by kernel_rfl) (by kernel_rfl) (by kernel_rfl) ?_ ?_ ?_ ?_ (by decide) ?_
                    · exact (Below.refl _ _).drew
                    · intro t ht
                      unfold F9
                      split <;> first | trivial | exact rfl | (exact absurd ht (by decide))
                    · have hcell : Hid ((∀ wz, Below w8.heap.size w8 wz → wz.cell? ⟨(w.heap.size + 1), 0, none⟩ = some (Value.int .i64 sh) ∧ wz.cell? ⟨(w.heap.size + 1), 1, none⟩ = some (Value.string sbh) ∧ wz.cell? ⟨(w.heap.size + 1), 2, none⟩ = some (Value.string is_h) ∧ wz.cell? ⟨(w.heap.size + 1), 3, none⟩ = some (Value.int .i64 fh) ∧ wz.cell? ⟨(w.heap.size + 1), 4, none⟩ = some (Value.int .i64 th) ∧ wz.cell? ⟨(w.heap.size + 1), 5, none⟩ = some (Value.bool cah) ∧ wz.cell? ⟨(w.heap.size + 1), 6, none⟩ = some (Value.int .u64 kyh) ∧ wz.cell? ⟨(w.heap.size + 1), 7, none⟩ = some (Value.int .u64 slc)) ∧ (∀ wz, Below w8.heap.size w8 wz → wz.cell? ⟨g7, 0, none⟩ = some (Value.int .i64 sc) ∧ wz.cell? ⟨g7, 1, none⟩ = some (Value.string sbc) ∧ wz.cell? ⟨g7, 2, none⟩ = some (Value.string is_c) ∧ wz.cell? ⟨g7, 3, none⟩ = some (Value.int .i64 fc) ∧ wz.cell? ⟨g7, 4, none⟩ = some (Value.int .i64 tc) ∧ wz.cell? ⟨g7, 5, none⟩ = some (Value.bool cac) ∧ wz.cell? ⟨g7, 6, none⟩ = some (Value.int .u64 kyc) ∧ wz.cell? ⟨g7, 7, none⟩ = some (Value.int .u64 slc)) ∧ (∀ wz, Below w8.heap.size w8 wz → wz.cell? ⟨g5, 6, none⟩ = some (Value.int .u64 kyr))) := by
                        refine ⟨fun wz h => ?_, fun wz h => ?_, fun wz h => ?_⟩
                        · have q := ph.out.below h ph.out.lt
                          exact ⟨q.cell 0, q.cell 1, q.cell 2, q.cell 3, q.cell 4, q.cell 5, q.cell 6, q.cell 7⟩
                        · have q := p7.out.below h p7.out.lt
                          exact ⟨q.cell 0, q.cell 1, q.cell 2, q.cell 3, q.cell 4, q.cell 5, q.cell 6, q.cell 7⟩
                        · exact (pr.out.below h pr.out.lt).cell 6
                      simp only [List.forall_mem_cons, List.not_mem_nil, false_implies, implies_true, and_true]
                      refine ⟨?_, ?_, ?_, ?_, ?_, ?_, ?_, ?_, ?_, ?_, ?_, ?_⟩
                      · intro a w2 hw hf K hK
                        have f0 := hf 3 rfl
                        simp only [F9] at f0
                        clear hf
                        obtain ⟨c0, c1, c2, c3, c4, c5, c6, c7⟩ := hcell.out.1 w2 hw
                        go_simp
                        exact hK _ _ _ rfl rfl hw (Below.refl _ _) (fun h => absurd h (by decide))
                      · intro a w2 hw hf K hK
                        have f0 := hf 7 rfl
                        simp only [F9] at f0
                        clear hf
                        obtain ⟨c0, c1, c2, c3, c4, c5, c6, c7⟩ := hcell.out.2.1 w2 hw
                        go_simp
                        exact hK _ _ _ rfl rfl hw (Below.refl _ _) (fun h => absurd h (by decide))
                      · intro a w2 hw hf K hK
                        have f0 := hf 70 rfl
                        have f1 := hf 71 rfl
                        simp only [F9] at f0 f1
                        clear hf
                        obtain ⟨q1, q2, q3, q4, q5, q6, q7⟩ := heq.out
                        go_simp
                        exact hK _ _ _ rfl rfl hw (Below.refl _ _) (fun h => absurd h (by decide))
                      · intro a w2 hw hf K hK
                        have f0 := hf 72 rfl
                        simp only [F9] at f0
                        clear hf
                        go_simp
                        exact hK _ _ _ rfl rfl hw (Below.refl _ _) (fun h => absurd h (by decide))
                      · exact fun w _ h => by cases h
                      · exact fun w _ h => by cases h
                      · exact fun w _ h => by cases h
                      · exact fun w _ h => by cases h
                      · exact fun w _ h => by cases h
                      · exact fun w _ h => by cases h
                      · exact fun w _ h => by cases h
                      · intro a w2 hw hf K hK
                        have f0 := hf 73 rfl
                        simp only [F9] at f0
                        clear hf
                        go_simp
                        exact hK _ _ _ rfl rfl hw (Below.refl _ _) (fun h => absurd h (by decide))
                    · simp only [List.forall_mem_cons, List.not_mem_nil, false_implies, implies_true, and_true]
                      refine ⟨?_, ?_, ?_, ?_, ?_, ?_, ?_, ?_, ?_, ?_, ?_, ?_⟩
                      all_goals first | exact trivial | (intro v w h; exact h) | (intro v w h; simp only [F9] at h; subst h; simp [RK.skips])
                    · intro a' w9 hd hs hw hout hf _
                      have f81 := hf 81
                      simp only [F9] at f81
                      have e2 : _ = some (Value.pointer (some ⟨w.heap.size, 0, none⟩)) := hout 2 rfl
                      have e3 : _ = some (Value.pointer (some ⟨w.heap.size + 1, 0, none⟩)) := hout 3 rfl
                      have e9 : _ = some (Value.pointer (some ⟨w6.heap.size + 1, 0, none⟩)) := hout 9 rfl
                      obtain ⟨tm, df⟩ := a'
                      simp only at hd hs f81 e2 e3 e9
                      have e := lit_arr tm 93 hs
                      rw [show (List.range 93).map (fun i => tm[i]?.getD undef) = [tm[0]?.getD undef, tm[1]?.getD undef, tm[2]?.getD undef, tm[3]?.getD undef, tm[4]?.getD undef, tm[5]?.getD undef, tm[6]?.getD undef, tm[7]?.getD undef, tm[8]?.getD undef, tm[9]?.getD undef, tm[10]?.getD undef, tm[11]?.getD undef, tm[12]?.getD undef, tm[13]?.getD undef, tm[14]?.getD undef, tm[15]?.getD undef, tm[16]?.getD undef, tm[17]?.getD undef, tm[18]?.getD undef, tm[19]?.getD undef, tm[20]?.getD undef, tm[21]?.getD undef, tm[22]?.getD undef, tm[23]?.getD undef, tm[24]?.getD undef, tm[25]?.getD undef, tm[26]?.getD undef, tm[27]?.getD undef, tm[28]?.getD undef, tm[29]?.getD undef, tm[30]?.getD undef, tm[31]?.getD undef, tm[32]?.getD undef, tm[33]?.getD undef, tm[34]?.getD undef, tm[35]?.getD undef, tm[36]?.getD undef, tm[37]?.getD undef, tm[38]?.getD undef, tm[39]?.getD undef, tm[40]?.getD undef, tm[41]?.getD undef, tm[42]?.getD undef, tm[43]?.getD undef, tm[44]?.getD undef, tm[45]?.getD undef, tm[46]?.getD undef, tm[47]?.getD undef, tm[48]?.getD undef, tm[49]?.getD undef, tm[50]?.getD undef, tm[51]?.getD undef, tm[52]?.getD undef, tm[53]?.getD undef, tm[54]?.getD undef, tm[55]?.getD undef, tm[56]?.getD undef, tm[57]?.getD undef, tm[58]?.getD undef, tm[59]?.getD undef, tm[60]?.getD undef, tm[61]?.getD undef, tm[62]?.getD undef, tm[63]?.getD undef, tm[64]?.getD undef, tm[65]?.getD undef, tm[66]?.getD undef, tm[67]?.getD undef, tm[68]?.getD undef, tm[69]?.getD undef, tm[70]?.getD undef, tm[71]?.getD undef, tm[72]?.getD undef, tm[73]?.getD undef, tm[74]?.getD undef, tm[75]?.getD undef, tm[76]?.getD undef, tm[77]?.getD undef, tm[78]?.getD undef, tm[79]?.getD undef, tm[80]?.getD undef, tm[81]?.getD undef, tm[82]?.getD undef, tm[83]?.getD undef, tm[84]?.getD undef, tm[85]?.getD undef, tm[86]?.getD undef, tm[87]?.getD undef, tm[88]?.getD undef, tm[89]?.getD undef, tm[90]?.getD undef, tm[91]?.getD undef, tm[92]?.getD undef] from rfl] at e
                      simp only [e2, e3, e9, f81, Option.getD_some] at e
                      clear hf hout hs
                      rw [e, hd]
                      clear e hd f81 e2 e3 e9
                      generalize tm[0]?.getD undef = u0x
                      generalize tm[1]?.getD undef = u1x
                      generalize tm[4]?.getD undef = u4x
                      generalize tm[5]?.getD undef = u5x
                      generalize tm[6]?.getD undef = u6x
                      generalize tm[7]?.getD undef = u7x
                      generalize tm[8]?.getD undef = u8x
                      generalize tm[10]?.getD undef = u10x
                      generalize tm[11]?.getD undef = u11x
                      generalize tm[12]?.getD undef = u12x
                      generalize tm[13]?.getD undef = u13x
                      generalize tm[14]?.getD undef = u14x
                      generalize tm[15]?.getD undef = u15x
                      generalize tm[16]?.getD undef = u16x
                      generalize tm[17]?.getD undef = u17x
                      generalize tm[18]?.getD undef = u18x
                      generalize tm[19]?.getD undef = u19x
                      generalize tm[20]?.getD undef = u20x
                      generalize tm[21]?.getD undef = u21x
                      generalize tm[22]?.getD undef = u22x
                      generalize tm[23]?.getD undef = u23x
                      generalize tm[24]?.getD undef = u24x
                      generalize tm[25]?.getD undef = u25x
                      generalize tm[26]?.getD undef = u26x
                      generalize tm[27]?.getD undef = u27x
                      generalize tm[28]?.getD undef = u28x
                      generalize tm[29]?.getD undef = u29x
                      generalize tm[30]?.getD undef = u30x
                      generalize tm[31]?.getD undef = u31x
                      generalize tm[32]?.getD undef = u32x
                      generalize tm[33]?.getD undef = u33x
                      generalize tm[34]?.getD undef = u34x
                      generalize tm[35]?.getD undef = u35x
                      generalize tm[36]?.getD undef = u36x
                      generalize tm[37]?.getD undef = u37x
                      generalize tm[38]?.getD undef = u38x
                      generalize tm[39]?.getD undef = u39x
                      generalize tm[40]?.getD undef = u40x
                      generalize tm[41]?.getD undef = u41x
                      generalize tm[42]?.getD undef = u42x
                      generalize tm[43]?.getD undef = u43x
                      generalize tm[44]?.getD undef = u44x
                      generalize tm[45]?.getD undef = u45x
                      generalize tm[46]?.getD undef = u46x
                      generalize tm[47]?.getD undef = u47x
                      generalize tm[48]?.getD undef = u48x
                      generalize tm[49]?.getD undef = u49x
                      generalize tm[50]?.getD undef = u50x
                      generalize tm[51]?.getD undef = u51x
                      generalize tm[52]?.getD undef = u52x
                      generalize tm[53]?.getD undef = u53x
                      generalize tm[54]?.getD undef = u54x
                      generalize tm[55]?.getD undef = u55x
                      generalize tm[56]?.getD undef = u56x
                      generalize tm[57]?.getD undef = u57x
                      generalize tm[58]?.getD undef = u58x
                      generalize tm[59]?.getD undef = u59x
                      generalize tm[60]?.getD undef = u60x
                      generalize tm[61]?.getD undef = u61x
                      generalize tm[62]?.getD undef = u62x
                      generalize tm[63]?.getD undef = u63x
                      generalize tm[64]?.getD undef = u64x
                      generalize tm[65]?.getD undef = u65x
                      generalize tm[66]?.getD undef = u66x
                      generalize tm[67]?.getD undef = u67x
                      generalize tm[68]?.getD undef = u68x
                      generalize tm[69]?.getD undef = u69x
                      generalize tm[70]?.getD undef = u70x
                      generalize tm[71]?.getD undef = u71x
                      generalize tm[72]?.getD undef = u72x
                      generalize tm[73]?.getD undef = u73x
                      generalize tm[74]?.getD undef = u74x
                      generalize tm[75]?.getD undef = u75x
                      generalize tm[76]?.getD undef = u76x
                      generalize tm[77]?.getD undef = u77x
                      generalize tm[78]?.getD undef = u78x
                      generalize tm[79]?.getD undef = u79x
                      generalize tm[80]?.getD undef = u80x
                      generalize tm[82]?.getD undef = u82x
                      generalize tm[83]?.getD undef = u83x
                      generalize tm[84]?.getD undef = u84x
                      generalize tm[85]?.getD undef = u85x
                      generalize tm[86]?.getD undef = u86x
                      generalize tm[87]?.getD undef = u87x
                      generalize tm[88]?.getD undef = u88x
                      generalize tm[89]?.getD undef = u89x
                      generalize tm[90]?.getD undef = u90x
                      generalize tm[91]?.getD undef = u91x
                      generalize tm[92]?.getD undef = u92x
                      have px := Lib.hid (px.out.below hw px.out.lt)
                      have ph := Lib.hid (ph.out.below hw ph.out.lt)
                      have pa := Lib.hid (pa.out.below hw pa.out.lt)
                      have p9 := Lib.hid (p9.out.below hw p9.out.lt)
                      have hb := Lib.hid (hb.out.trans (hw.mono hb.out.size))
                      clear hw
                      go_wp2_with fail
                      refine (awake_any _).mono ?_; rintro e wa ⟨rfl, hq⟩
                      have hb := Lib.hid (hb.out.trans (hq.mono hb.out.size))
                      clear hq
                      go_wp2_with fail
                      go_ret
                      exact ⟨rfl, hb.out⟩
                  · cases hsv : (sv == slc) with
                    | true =>
                      refine RK.region [] [] (F := F9 (w.heap.size + 1) g7 g5 #[Value.int .i64 sh, Value.string sbh, Value.string is_h, Value.int .i64 fh, Value.int .i64 th, Value.bool cah, Value.int .u64 kyh, Value.int .u64 slc] #[Value.int .i64 sc, Value.string sbc, Value.string is_c, Value.int .i64 fc, Value.int .i64 tc, Value.bool cac, Value.int .u64 kyc, Value.int .u64 slc] false true sv slc kyr) (W := fun wz => Below w8.heap.size w8 wz) (R := Rb) (S := noS) (G := noG) rfl F9_more (fun _ _ _ _ _ _ => trivial) (fun _ _ _ _ _ h => h.elim) (fun _ _ _ _ _ h => h.elim) (by kernel_rfl) (by kernel_rfl) (by kernel_rfl) (by kernel_rfl) (by kernel_rfl) ?_ ?_ ?_ ?_ (by decide) ?_
                      · exact (Below.refl _ _).drew
                      · intro t ht
                        unfold F9
                        split <;> first | trivial | exact rfl | (exact absurd ht (by decide))
                      · have hcell : Hid ((∀ wz, Below w8.heap.size w8 wz → wz.cell? ⟨(w.heap.size + 1), 0, none⟩ = some (Value.int .i64 sh) ∧ wz.cell? ⟨(w.heap.size + 1), 1, none⟩ = some (Value.string sbh) ∧ wz.cell? ⟨(w.heap.size + 1), 2, none⟩ = some (Value.string is_h) ∧ wz.cell? ⟨(w.heap.size + 1), 3, none⟩ = some (Value.int .i64 fh) ∧ wz.cell? ⟨(w.heap.size + 1), 4, none⟩ = some (Value.int .i64 th) ∧ wz.cell? ⟨(w.heap.size + 1), 5, none⟩ = some (Value.bool cah) ∧ wz.cell? ⟨(w.heap.size + 1), 6, none⟩ = some (Value.int .u64 kyh) ∧ wz.cell? ⟨(w.heap.size + 1), 7, none⟩ = some (Value.int .u64 slc)) ∧ (∀ wz, Below w8.heap.size w8 wz → wz.cell? ⟨g7, 0, none⟩ = some (Value.int .i64 sc) ∧ wz.cell? ⟨g7, 1, none⟩ = some (Value.string sbc) ∧ wz.cell? ⟨g7, 2, none⟩ = some (Value.string is_c) ∧ wz.cell? ⟨g7, 3, none⟩ = some (Value.int .i64 fc) ∧ wz.cell? ⟨g7, 4, none⟩ = some (Value.int .i64 tc) ∧ wz.cell? ⟨g7, 5, none⟩ = some (Value.bool cac) ∧ wz.cell? ⟨g7, 6, none⟩ = some (Value.int .u64 kyc) ∧ wz.cell? ⟨g7, 7, none⟩ = some (Value.int .u64 slc)) ∧ (∀ wz, Below w8.heap.size w8 wz → wz.cell? ⟨g5, 6, none⟩ = some (Value.int .u64 kyr))) := by
                          refine ⟨fun wz h => ?_, fun wz h => ?_, fun wz h => ?_⟩
                          · have q := ph.out.below h ph.out.lt
                            exact ⟨q.cell 0, q.cell 1, q.cell 2, q.cell 3, q.cell 4, q.cell 5, q.cell 6, q.cell 7⟩
                          · have q := p7.out.below h p7.out.lt
                            exact ⟨q.cell 0, q.cell 1, q.cell 2, q.cell 3, q.cell 4, q.cell 5, q.cell 6, q.cell 7⟩
                          · exact (pr.out.below h pr.out.lt).cell 6
                        simp only [List.forall_mem_cons, List.not_mem_nil, false_implies, implies_true, and_true]
                        refine ⟨?_, ?_, ?_, ?_, ?_, ?_, ?_, ?_, ?_, ?_, ?_, ?_⟩
                        · intro a w2 hw hf K hK
                          have f0 := hf 3 rfl
                          simp only [F9] at f0
                          clear hf
                          obtain ⟨c0, c1, c2, c3, c4, c5, c6, c7⟩ := hcell.out.1 w2 hw
                          go_simp
                          exact hK _ _ _ rfl rfl hw (Below.refl _ _) (fun h => absurd h (by decide))
                        · intro a w2 hw hf K hK
                          have f0 := hf 7 rfl
                          simp only [F9] at f0
                          clear hf
                          obtain ⟨c0, c1, c2, c3, c4, c5, c6, c7⟩ := hcell.out.2.1 w2 hw
                          go_simp
                          exact hK _ _ _ rfl rfl hw (Below.refl _ _) (fun h => absurd h (by decide))
                        · intro a w2 hw hf K hK
                          have f0 := hf 70 rfl
                          have f1 := hf 71 rfl
                          simp only [F9] at f0 f1
                          clear hf
                          go_simp
                          repeat' split
                          all_goals first
                            | (go_simp; exact hK _ _ _ rfl rfl hw (Below.refl _ _) (fun h => absurd h (by decide)))
                            | (exfalso; exact heq ⟨by assumption, by assumption, by assumption, by assumption, by assumption, by assumption, by assumption⟩)
                        · intro a w2 hw hf K hK
                          have f0 := hf 72 rfl
                          simp only [F9] at f0
                          clear hf
                          go_simp
                          exact hK _ _ _ rfl rfl hw (Below.refl _ _) (fun h => absurd h (by decide))
                        · intro a w2 hw hf K hK
                          have f0 := hf 3 rfl
                          simp only [F9] at f0
                          clear hf
                          obtain ⟨c0, c1, c2, c3, c4, c5, c6, c7⟩ := hcell.out.1 w2 hw
                          go_simp
                          exact hK _ _ _ rfl (fun _ => rfl) hw (Below.refl _ _) (fun h => absurd h (by decide))
                        · intro a w2 hw hf K hK
                          have f0 := hf 5 rfl
                          simp only [F9] at f0
                          clear hf
                          go_simp
                          exact hK _ _ _ rfl (fun _ => rfl) hw (Below.refl _ _) (fun h => absurd h (by decide))
                        · intro a w2 hw hf K hK
                          have f0 := hf 75 rfl
                          simp only [F9] at f0
                          clear hf
                          have f0 := f0 trivial
                          have c6 := hcell.out.2.2 w2 hw
                          go_simp
                          exact hK _ _ _ rfl (fun _ => rfl) hw (Below.refl _ _) (fun h => absurd h (by decide))
                        · intro a w2 hw hf K hK
                          have f0 := hf 74 rfl
                          have f1 := hf 76 rfl
                          simp only [F9] at f0 f1
                          clear hf
                          have f0 := f0 trivial
                          have f1 := f1 trivial
                          go_simp
                          refine (hrs.out w2).mono ?_; rintro e w5 ⟨rfl, hbq⟩
                          exact hK _ _ _ rfl (fun _ => rfl) (hw.trans (hbq.mono hw.size)) hbq (fun h => absurd h (by decide))
                        · intro a w2 hw hf K hK
                          have f0 := hf 7 rfl
                          simp only [F9] at f0
                          clear hf
                          go_simp
                          exact hK _ _ _ rfl (fun _ => rfl) hw (Below.refl _ _) (fun h => absurd h (by decide))
                        · intro a w2 hw hf K hK
                          have f0 := hf 78 rfl
                          simp only [F9] at f0
                          clear hf
                          have f0 := f0 trivial
                          obtain ⟨c0, c1, c2, c3, c4, c5, c6, c7⟩ := hcell.out.2.1 w2 hw
                          go_simp
                          exact hK _ _ _ rfl (fun _ => rfl) hw (Below.refl _ _) (fun h => absurd h (by decide))
                        · intro a w2 hw hf K hK
                          have f0 := hf 77 rfl
                          have f1 := hf 79 rfl
                          simp only [F9] at f0 f1
                          clear hf
                          have f0 := f0 trivial
                          have f1 := f1 trivial
                          go_simp
                          exact hK _ _ _ rfl (fun _ => by rw [← hsv]) hw (Below.refl _ _) (fun h => absurd h (by decide))
                        · intro a w2 hw hf K hK
                          have f0 := hf 73 rfl
                          have f1 := hf 80 rfl
                          simp only [F9] at f0 f1
                          clear hf
                          have f1 := f1 trivial
                          go_simp
                          exact hK _ _ _ rfl rfl hw (Below.refl _ _) (fun h => absurd h (by decide))
                      · simp only [List.forall_mem_cons, List.not_mem_nil, false_implies, implies_true, and_true]
                        refine ⟨?_, ?_, ?_, ?_, ?_, ?_, ?_, ?_, ?_, ?_, ?_, ?_⟩
                        all_goals first | exact trivial | (intro v w h; exact h) | (intro v w h; simp only [F9] at h; subst h; simp [RK.skips])
                      · intro a' w9 hd hs hw hout hf _
                        have f81 := hf 81
                        simp only [F9] at f81
                        have e2 : _ = some (Value.pointer (some ⟨w.heap.size, 0, none⟩)) := hout 2 rfl
                        have e3 : _ = some (Value.pointer (some ⟨w.heap.size + 1, 0, none⟩)) := hout 3 rfl
                        have e9 : _ = some (Value.pointer (some ⟨w6.heap.size + 1, 0, none⟩)) := hout 9 rfl
                        obtain ⟨tm, df⟩ := a'
                        simp only at hd hs f81 e2 e3 e9
                        have e := lit_arr tm 93 hs
                        rw [show (List.range 93).map (fun i => tm[i]?.getD undef) = [tm[0]?.getD undef, tm[1]?.getD undef, tm[2]?.getD undef, tm[3]?.getD undef, tm[4]?.getD undef, tm[5]?.getD undef, tm[6]?.getD undef, tm[7]?.getD undef, tm[8]?.getD undef, tm[9]?.getD undef, tm[10]?.getD undef, tm[11]?.getD undef, tm[12]?.getD undef, tm[13]?.getD undef, tm[14]?.getD undef, tm[15]?.getD undef, tm[16]?.getD undef, tm[17]?.getD undef, tm[18]?.getD undef, tm[19]?.getD undef, tm[20]?.getD undef, tm[21]?.getD undef, tm[22]?.getD undef, tm[23]?.getD undef, tm[24]?.getD undef, tm[25]?.getD undef, tm[26]?.getD undef, tm[27]?.getD undef, tm[28]?.getD undef, tm[29]?.getD undef, tm[30]?.getD undef, tm[31]?.getD undef, tm[32]?.getD undef, tm[33]?.getD undef, tm[34]?.getD undef, tm[35]?.getD undef, tm[36]?.getD undef, tm[37]?.getD undef, tm[38]?.getD undef, tm[39]?.getD undef, tm[40]?.getD undef, tm[41]?.getD undef, tm[42]?.getD undef, tm[43]?.getD undef, tm[44]?.getD undef, tm[45]?.getD undef, tm[46]?.getD undef, tm[47]?.getD undef, tm[48]?.getD undef, tm[49]?.getD undef, tm[50]?.getD undef, tm[51]?.getD undef, tm[52]?.getD undef, tm[53]?.getD undef, tm[54]?.getD undef, tm[55]?.getD undef, tm[56]?.getD undef, tm[57]?.getD undef, tm[58]?.getD undef, tm[59]?.getD undef, tm[60]?.getD undef, tm[61]?.getD undef, tm[62]?.getD undef, tm[63]?.getD undef, tm[64]?.getD undef, tm[65]?.getD undef, tm[66]?.getD undef, tm[67]?.getD undef, tm[68]?.getD undef, tm[69]?.getD undef, tm[70]?.getD undef, tm[71]?.getD undef, tm[72]?.getD undef, tm[73]?.getD undef, tm[74]?.getD undef, tm[75]?.getD undef, tm[76]?.getD undef, tm[77]?.getD undef, tm[78]?.getD undef, tm[79]?.getD undef, tm[80]?.getD undef, tm[81]?.getD undef, tm[82]?.getD undef, tm[83]?.getD undef, tm[84]?.getD undef, tm[85]?.getD undef, tm[86]?.getD undef, tm[87]?.getD undef, tm[88]?.getD undef, tm[89]?.getD undef, tm[90]?.getD undef, tm[91]?.getD undef, tm[92]?.getD undef] from rfl] at e
                        simp only [e2, e3, e9, f81, Option.getD_some] at e
                        clear hf hout hs
                        rw [e, hd]
                        clear e hd f81 e2 e3 e9
                        generalize tm[0]?.getD undef = u0x
                        generalize tm[1]?.getD undef = u1x
                        generalize tm[4]?.getD undef = u4x
                        generalize tm[5]?.getD undef = u5x
                        generalize tm[6]?.getD undef = u6x
                        generalize tm[7]?.getD undef = u7x
                        generalize tm[8]?.getD undef = u8x
                        generalize tm[10]?.getD undef = u10x
                        generalize tm[11]?.getD undef = u11x
                        generalize tm[12]?.getD undef = u12x
                        generalize tm[13]?.getD undef = u13x
                        generalize tm[14]?.getD undef = u14x
                        generalize tm[15]?.getD undef = u15x
                        generalize tm[16]?.getD undef = u16x
                        generalize tm[17]?.getD undef = u17x
                        generalize tm[18]?.getD undef = u18x
                        generalize tm[19]?.getD undef = u19x
                        generalize tm[20]?.getD undef = u20x
                        generalize tm[21]?.getD undef = u21x
                        generalize tm[22]?.getD undef = u22x
                        generalize tm[23]?.getD undef = u23x
                        generalize tm[24]?.getD undef = u24x
                        generalize tm[25]?.getD undef = u25x
                        generalize tm[26]?.getD undef = u26x
                        generalize tm[27]?.getD undef = u27x
                        generalize tm[28]?.getD undef = u28x
                        generalize tm[29]?.getD undef = u29x
                        generalize tm[30]?.getD undef = u30x
                        generalize tm[31]?.getD undef = u31x
                        generalize tm[32]?.getD undef = u32x
                        generalize tm[33]?.getD undef = u33x
                        generalize tm[34]?.getD undef = u34x
                        generalize tm[35]?.getD undef = u35x
                        generalize tm[36]?.getD undef = u36x
                        generalize tm[37]?.getD undef = u37x
                        generalize tm[38]?.getD undef = u38x
                        generalize tm[39]?.getD undef = u39x
                        generalize tm[40]?.getD undef = u40x
                        generalize tm[41]?.getD undef = u41x
                        generalize tm[42]?.getD undef = u42x
                        generalize tm[43]?.getD undef = u43x
                        generalize tm[44]?.getD undef = u44x
                        generalize tm[45]?.getD undef = u45x
                        generalize tm[46]?.getD undef = u46x
                        generalize tm[47]?.getD undef = u47x
                        generalize tm[48]?.getD undef = u48x
                        generalize tm[49]?.getD undef = u49x
                        generalize tm[50]?.getD undef = u50x
                        generalize tm[51]?.getD undef = u51x
                        generalize tm[52]?.getD undef = u52x
                        generalize tm[53]?.getD undef = u53x
                        generalize tm[54]?.getD undef = u54x
                        generalize tm[55]?.getD undef = u55x
                        generalize tm[56]?.getD undef = u56x
                        generalize tm[57]?.getD undef = u57x
                        generalize tm[58]?.getD undef = u58x
                        generalize tm[59]?.getD undef = u59x
                        generalize tm[60]?.getD undef = u60x
                        generalize tm[61]?.getD undef = u61x
                        generalize tm[62]?.getD undef = u62x
                        generalize tm[63]?.getD undef = u63x
                        generalize tm[64]?.getD undef = u64x
                        generalize tm[65]?.getD undef = u65x
                        generalize tm[66]?.getD undef = u66x
                        generalize tm[67]?.getD undef = u67x
                        generalize tm[68]?.getD undef = u68x
                        generalize tm[69]?.getD undef = u69x
                        generalize tm[70]?.getD undef = u70x
                        generalize tm[71]?.getD undef = u71x
                        generalize tm[72]?.getD undef = u72x
                        generalize tm[73]?.getD undef = u73x
                        generalize tm[74]?.getD undef = u74x
                        generalize tm[75]?.getD undef = u75x
                        generalize tm[76]?.getD undef = u76x
                        generalize tm[77]?.getD undef = u77x
                        generalize tm[78]?.getD undef = u78x
                        generalize tm[79]?.getD undef = u79x
                        generalize tm[80]?.getD undef = u80x
                        generalize tm[82]?.getD undef = u82x
                        generalize tm[83]?.getD undef = u83x
                        generalize tm[84]?.getD undef = u84x
                        generalize tm[85]?.getD undef = u85x
                        generalize tm[86]?.getD undef = u86x
                        generalize tm[87]?.getD undef = u87x
                        generalize tm[88]?.getD undef = u88x
                        generalize tm[89]?.getD undef = u89x
                        generalize tm[90]?.getD undef = u90x
                        generalize tm[91]?.getD undef = u91x
                        generalize tm[92]?.getD undef = u92x
                        have px := Lib.hid (px.out.below hw px.out.lt)
                        have ph := Lib.hid (ph.out.below hw ph.out.lt)
                        have pa := Lib.hid (pa.out.below hw pa.out.lt)
                        have p9 := Lib.hid (p9.out.below hw p9.out.lt)
                        have hb := Lib.hid (hb.out.trans (hw.mono hb.out.size))
                        clear hw
                        go_wp2_with fail
                        refine (awake_any _).mono ?_; rintro e wa ⟨rfl, hq⟩
                        have hb := Lib.hid (hb.out.trans (hq.mono hb.out.size))
                        clear hq
                        go_wp2_with fail
                        go_ret
                        exact ⟨rfl, hb.out⟩
                    | false =>
                      have hne : ¬ verR [⟨sh, sbh, is_h, fh, th, cah, kyh, slc⟩] [⟨sr, sbr, is_r, fr, tr, car, kyr, slr⟩] [] now = 0 := fun h => by
                        have := hsl.out h
                        simp [this] at hsv
                      refine RK.region [] [] (F := F9 (w.heap.size + 1) g7 g5 #[Value.int .i64 sh, Value.string sbh, Value.string is_h, Value.int .i64 fh, Value.int .i64 th, Value.bool cah, Value.int .u64 kyh, Value.int .u64 slc] #[Value.int .i64 sc, Value.string sbc, Value.string is_c, Value.int .i64 fc, Value.int .i64 tc, Value.bool cac, Value.int .u64 kyc, Value.int .u64 slc] false false sv slc kyr) (W := fun wz => Below w8.heap.size w8 wz) (R := Rb) (S := noS) (G := noG) rfl F9_more (fun _ _ _ _ _ _ => trivial) (fun _ _ _ _ _ h => h.elim) (fun _ _ _ _ _ h => h.elim) (by kernel_rfl) (by kernel_rfl) (by kernel_rfl) (by kernel_rfl) (by kernel_rfl) ?_ ?_ ?_ ?_ (by decide) ?_
                      · exact (Below.refl _ _).drew
                      · intro t ht
                        unfold F9
                        split <;> first | trivial | exact rfl | (exact absurd ht (by decide))
                      · have hcell : Hid ((∀ wz, Below w8.heap.size w8 wz → wz.cell? ⟨(w.heap.size + 1), 0, none⟩ = some (Value.int .i64 sh) ∧ wz.cell? ⟨(w.heap.size + 1), 1, none⟩ = some (Value.string sbh) ∧ wz.cell? ⟨(w.heap.size + 1), 2, none⟩ = some (Value.string is_h) ∧ wz.cell? ⟨(w.heap.size + 1), 3, none⟩ = some (Value.int .i64 fh) ∧ wz.cell? ⟨(w.heap.size + 1), 4, none⟩ = some (Value.int .i64 th) ∧ wz.cell? ⟨(w.heap.size + 1), 5, none⟩ = some (Value.bool cah) ∧ wz.cell? ⟨(w.heap.size + 1), 6, none⟩ = some (Value.int .u64 kyh) ∧ wz.cell? ⟨(w.heap.size + 1), 7, none⟩ = some (Value.int .u64 slc)) ∧ (∀ wz, Below w8.heap.size w8 wz → wz.cell? ⟨g7, 0, none⟩ = some (Value.int .i64 sc) ∧ wz.cell? ⟨g7, 1, none⟩ = some (Value.string sbc) ∧ wz.cell? ⟨g7, 2, none⟩ = some (Value.string is_c) ∧ wz.cell? ⟨g7, 3, none⟩ = some (Value.int .i64 fc) ∧ wz.cell? ⟨g7, 4, none⟩ = some (Value.int .i64 tc) ∧ wz.cell? ⟨g7, 5, none⟩ = some (Value.bool cac) ∧ wz.cell? ⟨g7, 6, none⟩ = some (Value.int .u64 kyc) ∧ wz.cell? ⟨g7, 7, none⟩ = some (Value.int .u64 slc)) ∧ (∀ wz, Below w8.heap.size w8 wz → wz.cell? ⟨g5, 6, none⟩ = some (Value.int .u64 kyr))) := by
                          refine ⟨fun wz h => ?_, fun wz h => ?_, fun wz h => ?_⟩
                          · have q := ph.out.below h ph.out.lt
                            exact ⟨q.cell 0, q.cell 1, q.cell 2, q.cell 3, q.cell 4, q.cell 5, q.cell 6, q.cell 7⟩
                          · have q := p7.out.below h p7.out.lt
                            exact ⟨q.cell 0, q.cell 1, q.cell 2, q.cell 3, q.cell 4, q.cell 5, q.cell 6, q.cell 7⟩
                          · exact (pr.out.below h pr.out.lt).cell 6
                        simp only [List.forall_mem_cons, List.not_mem_nil, false_implies, implies_true, and_true]
                        refine ⟨?_, ?_, ?_, ?_, ?_, ?_, ?_, ?_, ?_, ?_, ?_, ?_⟩
                        · intro a w2 hw hf K hK
                          have f0 := hf 3 rfl
                          simp only [F9] at f0
                          clear hf
                          obtain ⟨c0, c1, c2, c3, c4, c5, c6, c7⟩ := hcell.out.1 w2 hw
                          go_simp
                          exact hK _ _ _ rfl rfl hw (Below.refl _ _) (fun h => absurd h (by decide))
                        · intro a w2 hw hf K hK
                          have f0 := hf 7 rfl
                          simp only [F9] at f0
                          clear hf
                          obtain ⟨c0, c1, c2, c3, c4, c5, c6, c7⟩ := hcell.out.2.1 w2 hw
                          go_simp
                          exact hK _ _ _ rfl rfl hw (Below.refl _ _) (fun h => absurd h (by decide))
                        · intro a w2 hw hf K hK
                          have f0 := hf 70 rfl
                          have f1 := hf 71 rfl
                          simp only [F9] at f0 f1
                          clear hf
                          go_simp
                          repeat' split
                          all_goals first
                            | (go_simp; exact hK _ _ _ rfl rfl hw (Below.refl _ _) (fun h => absurd h (by decide)))
                            | (exfalso; exact heq ⟨by assumption, by assumption, by assumption, by assumption, by assumption, by assumption, by assumption⟩)
                        · intro a w2 hw hf K hK
                          have f0 := hf 72 rfl
                          simp only [F9] at f0
                          clear hf
                          go_simp
                          exact hK _ _ _ rfl rfl hw (Below.refl _ _) (fun h => absurd h (by decide))
                        · intro a w2 hw hf K hK
                          have f0 := hf 3 rfl
                          simp only [F9] at f0
                          clear hf
                          obtain ⟨c0, c1, c2, c3, c4, c5, c6, c7⟩ := hcell.out.1 w2 hw
                          go_simp
                          exact hK _ _ _ rfl (fun _ => rfl) hw (Below.refl _ _) (fun h => absurd h (by decide))
                        · intro a w2 hw hf K hK
                          have f0 := hf 5 rfl
                          simp only [F9] at f0
                          clear hf
                          go_simp
                          exact hK _ _ _ rfl (fun _ => rfl) hw (Below.refl _ _) (fun h => absurd h (by decide))
                        · intro a w2 hw hf K hK
                          have f0 := hf 75 rfl
                          simp only [F9] at f0
                          clear hf
                          have f0 := f0 trivial
                          have c6 := hcell.out.2.2 w2 hw
                          go_simp
                          exact hK _ _ _ rfl (fun _ => rfl) hw (Below.refl _ _) (fun h => absurd h (by decide))
                        · intro a w2 hw hf K hK
                          have f0 := hf 74 rfl
                          have f1 := hf 76 rfl
                          simp only [F9] at f0 f1
                          clear hf
                          have f0 := f0 trivial
                          have f1 := f1 trivial
                          go_simp
                          refine (hrs.out w2).mono ?_; rintro e w5 ⟨rfl, hbq⟩
                          exact hK _ _ _ rfl (fun _ => rfl) (hw.trans (hbq.mono hw.size)) hbq (fun h => absurd h (by decide))
                        · intro a w2 hw hf K hK
                          have f0 := hf 7 rfl
                          simp only [F9] at f0
                          clear hf
                          go_simp
                          exact hK _ _ _ rfl (fun _ => rfl) hw (Below.refl _ _) (fun h => absurd h (by decide))
                        · intro a w2 hw hf K hK
                          have f0 := hf 78 rfl
                          simp only [F9] at f0
                          clear hf
                          have f0 := f0 trivial
                          obtain ⟨c0, c1, c2, c3, c4, c5, c6, c7⟩ := hcell.out.2.1 w2 hw
                          go_simp
                          exact hK _ _ _ rfl (fun _ => rfl) hw (Below.refl _ _) (fun h => absurd h (by decide))
                        · intro a w2 hw hf K hK
                          have f0 := hf 77 rfl
                          have f1 := hf 79 rfl
                          simp only [F9] at f0 f1
                          clear hf
                          have f0 := f0 trivial
                          have f1 := f1 trivial
                          go_simp
                          exact hK _ _ _ rfl (fun _ => by rw [← hsv]) hw (Below.refl _ _) (fun h => absurd h (by decide))
                        · intro a w2 hw hf K hK
                          have f0 := hf 73 rfl
                          have f1 := hf 80 rfl
                          simp only [F9] at f0 f1
                          clear hf
                          have f1 := f1 trivial
                          go_simp
                          exact hK _ _ _ rfl rfl hw (Below.refl _ _) (fun h => absurd h (by decide))
                      · simp only [List.forall_mem_cons, List.not_mem_nil, false_implies, implies_true, and_true]
                        refine ⟨?_, ?_, ?_, ?_, ?_, ?_, ?_, ?_, ?_, ?_, ?_, ?_⟩
                        all_goals first | exact trivial | (intro v w h; exact h) | (intro v w h; simp only [F9] at h; subst h; simp [RK.skips])
                      · intro a' w9 hd hs hw hout hf _
                        have f81 := hf 81
                        simp only [F9] at f81
                        have e2 : _ = some (Value.pointer (some ⟨w.heap.size, 0, none⟩)) := hout 2 rfl
                        have e3 : _ = some (Value.pointer (some ⟨w.heap.size + 1, 0, none⟩)) := hout 3 rfl
                        have e9 : _ = some (Value.pointer (some ⟨w6.heap.size + 1, 0, none⟩)) := hout 9 rfl
                        obtain ⟨tm, df⟩ := a'
                        simp only at hd hs f81 e2 e3 e9
                        have e := lit_arr tm 93 hs
                        rw [show (List.range 93).map (fun i => tm[i]?.getD undef) = [tm[0]?.getD undef, tm[1]?.getD undef, tm[2]?.getD undef, tm[3]?.getD undef, tm[4]?.getD undef, tm[5]?.getD undef, tm[6]?.getD undef, tm[7]?.getD undef, tm[8]?.getD undef, tm[9]?.getD undef, tm[10]?.getD undef, tm[11]?.getD undef, tm[12]?.getD undef, tm[13]?.getD undef, tm[14]?.getD undef, tm[15]?.getD undef, tm[16]?.getD undef, tm[17]?.getD undef, tm[18]?.getD undef, tm[19]?.getD undef, tm[20]?.getD undef, tm[21]?.getD undef, tm[22]?.getD undef, tm[23]?.getD undef, tm[24]?.getD undef, tm[25]?.getD undef, tm[26]?.getD undef, tm[27]?.getD undef, tm[28]?.getD undef, tm[29]?.getD undef, tm[30]?.getD undef, tm[31]?.getD undef, tm[32]?.getD undef, tm[33]?.getD undef, tm[34]?.getD undef, tm[35]?.getD undef, tm[36]?.getD undef, tm[37]?.getD undef, tm[38]?.getD undef, tm[39]?.getD undef, tm[40]?.getD undef, tm[41]?.getD undef, tm[42]?.getD undef, tm[43]?.getD undef, tm[44]?.getD undef, tm[45]?.getD undef, tm[46]?.getD undef, tm[47]?.getD undef, tm[48]?.getD undef, tm[49]?.getD undef, tm[50]?.getD undef, tm[51]?.getD undef, tm[52]?.getD undef, tm[53]?.getD undef, tm[54]?.getD undef, tm[55]?.getD undef, tm[56]?.getD undef, tm[57]?.getD undef, tm[58]?.getD undef, tm[59]?.getD undef, tm[60]?.getD undef, tm[61]?.getD undef, tm[62]?.getD undef, tm[63]?.getD undef, tm[64]?.getD undef, tm[65]?.getD undef, tm[66]?.getD undef, tm[67]?.getD undef, tm[68]?.getD undef, tm[69]?.getD undef, tm[70]?.getD undef, tm[71]?.getD undef, tm[72]?.getD undef, tm[73]?.getD undef, tm[74]?.getD undef, tm[75]?.getD undef, tm[76]?.getD undef, tm[77]?.getD undef, tm[78]?.getD undef, tm[79]?.getD undef, tm[80]?.getD undef, tm[81]?.getD undef, tm[82]?.getD undef, tm[83]?.getD undef, tm[84]?.getD undef, tm[85]?.getD undef, tm[86]?.getD undef, tm[87]?.getD undef, tm[88]?.getD undef, tm[89]?.getD undef, tm[90]?.getD undef, tm[91]?.getD undef, tm[92]?.getD undef] from rfl] at e
                        simp only [e2, e3, e9, f81, Option.getD_some] at e
                        clear hf hout hs
                        rw [e, hd]
                        clear e hd f81 e2 e3 e9
                        generalize tm[0]?.getD undef = u0x
                        generalize tm[1]?.getD undef = u1x
                        generalize tm[4]?.getD undef = u4x
                        generalize tm[5]?.getD undef = u5x
                        generalize tm[6]?.getD undef = u6x
                        generalize tm[7]?.getD undef = u7x
                        generalize tm[8]?.getD undef = u8x
                        generalize tm[10]?.getD undef = u10x
                        generalize tm[11]?.getD undef = u11x
                        generalize tm[12]?.getD undef = u12x
                        generalize tm[13]?.getD undef = u13x
                        generalize tm[14]?.getD undef = u14x
                        generalize tm[15]?.getD undef = u15x
                        generalize tm[16]?.getD undef = u16x
                        generalize tm[17]?.getD undef = u17x
                        generalize tm[18]?.getD undef = u18x
                        generalize tm[19]?.getD undef = u19x
                        generalize tm[20]?.getD undef = u20x
                        generalize tm[21]?.getD undef = u21x
                        generalize tm[22]?.getD undef = u22x
                        generalize tm[23]?.getD undef = u23x
                        generalize tm[24]?.getD undef = u24x
                        generalize tm[25]?.getD undef = u25x
                        generalize tm[26]?.getD undef = u26x
                        generalize tm[27]?.getD undef = u27x
                        generalize tm[28]?.getD undef = u28x
                        generalize tm[29]?.getD undef = u29x
                        generalize tm[30]?.getD undef = u30x
                        generalize tm[31]?.getD undef = u31x
                        generalize tm[32]?.getD undef = u32x
                        generalize tm[33]?.getD undef = u33x
                        generalize tm[34]?.getD undef = u34x
                        generalize tm[35]?.getD undef = u35x
                        generalize tm[36]?.getD undef = u36x
                        generalize tm[37]?.getD undef = u37x
                        generalize tm[38]?.getD undef = u38x
                        generalize tm[39]?.getD undef = u39x
                        generalize tm[40]?.getD undef = u40x
                        generalize tm[41]?.getD undef = u41x
                        generalize tm[42]?.getD undef = u42x
                        generalize tm[43]?.getD undef = u43x
                        generalize tm[44]?.getD undef = u44x
                        generalize tm[45]?.getD undef = u45x
                        generalize tm[46]?.getD undef = u46x
                        generalize tm[47]?.getD undef = u47x
                        generalize tm[48]?.getD undef = u48x
                        generalize tm[49]?.getD undef = u49x
                        generalize tm[50]?.getD undef = u50x
                        generalize tm[51]?.getD undef = u51x
                        generalize tm[52]?.getD undef = u52x
                        generalize tm[53]?.getD undef = u53x
                        generalize tm[54]?.getD undef = u54x
                        generalize tm[55]?.getD undef = u55x
                        generalize tm[56]?.getD undef = u56x
                        generalize tm[57]?.getD undef = u57x
                        generalize tm[58]?.getD undef = u58x
                        generalize tm[59]?.getD undef = u59x
                        generalize tm[60]?.getD undef = u60x
                        generalize tm[61]?.getD undef = u61x
                        generalize tm[62]?.getD undef = u62x
                        generalize tm[63]?.getD undef = u63x
                        generalize tm[64]?.getD undef = u64x
                        generalize tm[65]?.getD undef = u65x
                        generalize tm[66]?.getD undef = u66x
                        generalize tm[67]?.getD undef = u67x
                        generalize tm[68]?.getD undef = u68x
                        generalize tm[69]?.getD undef = u69x
                        generalize tm[70]?.getD undef = u70x
                        generalize tm[71]?.getD undef = u71x
                        generalize tm[72]?.getD undef = u72x
                        generalize tm[73]?.getD undef = u73x
                        generalize tm[74]?.getD undef = u74x
                        generalize tm[75]?.getD undef = u75x
                        generalize tm[76]?.getD undef = u76x
                        generalize tm[77]?.getD undef = u77x
                        generalize tm[78]?.getD undef = u78x
                        generalize tm[79]?.getD undef = u79x
                        generalize tm[80]?.getD undef = u80x
                        generalize tm[82]?.getD undef = u82x
                        generalize tm[83]?.getD undef = u83x
                        generalize tm[84]?.getD undef = u84x
                        generalize tm[85]?.getD undef = u85x
                        generalize tm[86]?.getD undef = u86x
                        generalize tm[87]?.getD undef = u87x
                        generalize tm[88]?.getD undef = u88x
                        generalize tm[89]?.getD undef = u89x
                        generalize tm[90]?.getD undef = u90x
                        generalize tm[91]?.getD undef = u91x
                        generalize tm[92]?.getD undef = u92x
                        have px := Lib.hid (px.out.below hw px.out.lt)
                        have ph := Lib.hid (ph.out.below hw ph.out.lt)
                        have pa := Lib.hid (pa.out.below hw pa.out.lt)
                        have p9 := Lib.hid (p9.out.below hw p9.out.lt)
                        have hb := Lib.hid (hb.out.trans (hw.mono hb.out.size))
                        clear hw
                        obtain ⟨k0, k1, k2, k3, k4, k5, k6, k7, t0, t1, d0, d1, d2, d3, d4, d5, d6, d7, d8, d9⟩ := (show w9.cell? ⟨(w.heap.size + 1), 0, none⟩ = some (Value.int .i64 sh) ∧ w9.cell? ⟨(w.heap.size + 1), 1, none⟩ = some (Value.string sbh) ∧ w9.cell? ⟨(w.heap.size + 1), 2, none⟩ = some (Value.string is_h) ∧ w9.cell? ⟨(w.heap.size + 1), 3, none⟩ = some (Value.int .i64 fh) ∧ w9.cell? ⟨(w.heap.size + 1), 4, none⟩ = some (Value.int .i64 th) ∧ w9.cell? ⟨(w.heap.size + 1), 5, none⟩ = some (Value.bool cah) ∧ w9.cell? ⟨(w.heap.size + 1), 6, none⟩ = some (Value.int .u64 kyh) ∧ w9.cell? ⟨(w.heap.size + 1), 7, none⟩ = some (Value.int .u64 slc) ∧ (w9.alloc (.cells #[Value.int .i64 sh, Value.string sbh, Value.string is_h, Value.int .i64 fh, Value.int .i64 th, Value.bool cah, Value.int .u64 kyh, Value.int .u64 slc] 52)).cell? ⟨(w6.heap.size + 1), 0, none⟩ = some (Value.slice (some ⟨w6.heap.size, 0, none⟩) 1 1) ∧ (w9.alloc (.cells #[Value.int .i64 sh, Value.string sbh, Value.string is_h, Value.int .i64 fh, Value.int .i64 th, Value.bool cah, Value.int .u64 kyh, Value.int .u64 slc] 52)).cell? ⟨(w6.heap.size + 1), 1, none⟩ = some (Value.slice none 0 0) ∧ (w9.alloc (.cells #[Value.int .i64 sh, Value.string sbh, Value.string is_h, Value.int .i64 fh, Value.int .i64 th, Value.bool cah, Value.int .u64 kyh, Value.int .u64 slc] 52)).cell? ⟨w.heap.size, 0, none⟩ = some (Value.int .i64 s0) ∧ (w9.alloc (.cells #[Value.int .i64 sh, Value.string sbh, Value.string is_h, Value.int .i64 fh, Value.int .i64 th, Value.bool cah, Value.int .u64 kyh, Value.int .u64 slc] 52)).cell? ⟨w.heap.size, 1, none⟩ = some (Value.string sb0) ∧ (w9.alloc (.cells #[Value.int .i64 sh, Value.string sbh, Value.string is_h, Value.int .i64 fh, Value.int .i64 th, Value.bool cah, Value.int .u64 kyh, Value.int .u64 slc] 52)).cell? ⟨w.heap.size, 2, none⟩ = some (Value.string is_0) ∧ (w9.alloc (.cells #[Value.int .i64 sh, Value.string sbh, Value.string is_h, Value.int .i64 fh, Value.int .i64 th, Value.bool cah, Value.int .u64 kyh, Value.int .u64 slc] 52)).cell? ⟨w.heap.size, 3, none⟩ = some (Value.int .i64 f0) ∧ (w9.alloc (.cells #[Value.int .i64 sh, Value.string sbh, Value.string is_h, Value.int .i64 fh, Value.int .i64 th, Value.bool cah, Value.int .u64 kyh, Value.int .u64 slc] 52)).cell? ⟨w.heap.size, 4, none⟩ = some (Value.int .i64 t0) ∧ (w9.alloc (.cells #[Value.int .i64 sh, Value.string sbh, Value.string is_h, Value.int .i64 fh, Value.int .i64 th, Value.bool cah, Value.int .u64 kyh, Value.int .u64 slc] 52)).cell? ⟨w.heap.size, 5, none⟩ = some (Value.bool ca0) ∧ (w9.alloc (.cells #[Value.int .i64 sh, Value.string sbh, Value.string is_h, Value.int .i64 fh, Value.int .i64 th, Value.bool cah, Value.int .u64 kyh, Value.int .u64 slc] 52)).cell? ⟨w.heap.size, 6, none⟩ = some (Value.int .u64 ky0) ∧ (w9.alloc (.cells #[Value.int .i64 sh, Value.string sbh, Value.string is_h, Value.int .i64 fh, Value.int .i64 th, Value.bool cah, Value.int .u64 kyh, Value.int .u64 slc] 52)).cell? ⟨w.heap.size, 7, none⟩ = some (Value.int .u64 sl0) ∧ (w9.alloc (.cells #[Value.int .i64 sh, Value.string sbh, Value.string is_h, Value.int .i64 fh, Value.int .i64 th, Value.bool cah, Value.int .u64 kyh, Value.int .u64 slc] 52)).cell? ⟨w.heap.size, 8, none⟩ = some (Value.slice (some ad) 1 cp) ∧ (w9.alloc (.cells #[Value.int .i64 sh, Value.string sbh, Value.string is_h, Value.int .i64 fh, Value.int .i64 th, Value.bool cah, Value.int .u64 kyh, Value.int .u64 slc] 52)).cell? ⟨w.heap.size, 9, none⟩ = some (Value.int .i64 now) from ⟨ph.out.cell 0, ph.out.cell 1, ph.out.cell 2, ph.out.cell 3, ph.out.cell 4, ph.out.cell 5, ph.out.cell 6, ph.out.cell 7, (p9.out.alloc (.cells #[Value.int .i64 sh, Value.string sbh, Value.string is_h, Value.int .i64 fh, Value.int .i64 th, Value.bool cah, Value.int .u64 kyh, Value.int .u64 slc] 52)).cell 0, (p9.out.alloc (.cells #[Value.int .i64 sh, Value.string sbh, Value.string is_h, Value.int .i64 fh, Value.int .i64 th, Value.bool cah, Value.int .u64 kyh, Value.int .u64 slc] 52)).cell 1, (px.out.alloc (.cells #[Value.int .i64 sh, Value.string sbh, Value.string is_h, Value.int .i64 fh, Value.int .i64 th, Value.bool cah, Value.int .u64 kyh, Value.int .u64 slc] 52)).cell 0, (px.out.alloc (.cells #[Value.int .i64 sh, Value.string sbh, Value.string is_h, Value.int .i64 fh, Value.int .i64 th, Value.bool cah, Value.int .u64 kyh, Value.int .u64 slc] 52)).cell 1, (px.out.alloc (.cells #[Value.int .i64 sh, Value.string sbh, Value.string is_h, Value.int .i64 fh, Value.int .i64 th, Value.bool cah, Value.int .u64 kyh, Value.int .u64 slc] 52)).cell 2, (px.out.alloc (.cells #[Value.int .i64 sh, Value.string sbh, Value.string is_h, Value.int .i64 fh, Value.int .i64 th, Value.bool cah, Value.int .u64 kyh, Value.int .u64 slc] 52)).cell 3, (px.out.alloc (.cells #[Value.int .i64 sh, Value.string sbh, Value.string is_h, Value.int .i64 fh, Value.int .i64 th, Value.bool cah, Value.int .u64 kyh, Value.int .u64 slc] 52)).cell 4, (px.out.alloc (.cells #[Value.int .i64 sh, Value.string sbh, Value.string is_h, Value.int .i64 fh, Value.int .i64 th, Value.bool cah, Value.int .u64 kyh, Value.int .u64 slc] 52)).cell 5, (px.out.alloc (.cells #[Value.int .i64 sh, Value.string sbh, Value.string is_h, Value.int .i64 fh, Value.int .i64 th, Value.bool cah, Value.int .u64 kyh, Value.int .u64 slc] 52)).cell 6, (px.out.alloc (.cells #[Value.int .i64 sh, Value.string sbh, Value.string is_h, Value.int .i64 fh, Value.int .i64 th, Value.bool cah, Value.int .u64 kyh, Value.int .u64 slc] 52)).cell 7, (px.out.alloc (.cells #[Value.int .i64 sh, Value.string sbh, Value.string is_h, Value.int .i64 fh, Value.int .i64 th, Value.bool cah, Value.int .u64 kyh, Value.int .u64 slc] 52)).cell 8, (px.out.alloc (.cells #[Value.int .i64 sh, Value.string sbh, Value.string is_h, Value.int .i64 fh, Value.int .i64 th, Value.bool cah, Value.int .u64 kyh, Value.int .u64 slc] 52)).cell 9⟩)
                        go_wp2_with fail
                        clear k0 k1 k2 k3 k4 k5 k6 k7 t0 t1 d0 d1 d2 d3 d4 d5 d6 d7 d8 d9
                        have pc := Lib.hid (Blk.new w9 52 #[Value.int .i64 sh, Value.string sbh, Value.string is_h, Value.int .i64 fh, Value.int .i64 th, Value.bool cah, Value.int .u64 kyh, Value.int .u64 slc])
                        have pa := Lib.hid (pa.out.alloc (.cells #[Value.int .i64 sh, Value.string sbh, Value.string is_h, Value.int .i64 fh, Value.int .i64 th, Value.bool cah, Value.int .u64 kyh, Value.int .u64 slc] 52))
                        have hb := Lib.hid (below_new hb.out (.cells #[Value.int .i64 sh, Value.string sbh, Value.string is_h, Value.int .i64 fh, Value.int .i64 th, Value.bool cah, Value.int .u64 kyh, Value.int .u64 slc] 52))
                        refine (hver.out _ _ _ pc.out pa.out).mono ?_; rintro e wv ⟨rfl, hq⟩
                        have hb := Lib.hid (hb.out.trans (hq.mono hb.out.size))
                        clear hq
                        generalize verR [⟨sh, sbh, is_h, fh, th, cah, kyh, slc⟩] [⟨sr, sbr, is_r, fr, tr, car, kyr, slr⟩] [] now = V2 at hne
                        have hVb : (V2 != 0) = true := by simpa using hne
                        go_wp2_with fail
                        refine (awake_any _).mono ?_; rintro e wa ⟨rfl, hq⟩
                        have hb := Lib.hid (hb.out.trans (hq.mono hb.out.size))
                        clear hq
                        go_wp2_with fail
                        go_ret
                        exact ⟨rfl, hb.out⟩
                · have hVb : (V != 0) = true := by simpa using hV
                  go_wp2_with fail
                  refine (awake_any _).mono ?_; rintro e wa ⟨rfl, hq⟩
                  have hb := Lib.hid (hb.out.trans (hq.mono hb.out.size))
                  clear hq
                  go_wp2_with fail
                  go_ret
                  exact ⟨rfl, hb.out⟩
              · have hEb : (E2 != 0) = true := by simpa using hE2
                subst hE
                obtain ⟨k0, k1, k2, k3, k4, k5, k6, k7⟩ := (show w6.cell? ⟨g5, 0, none⟩ = some (Value.int .i64 sr) ∧ w6.cell? ⟨g5, 1, none⟩ = some (Value.string sbr) ∧ w6.cell? ⟨g5, 2, none⟩ = some (Value.string is_r) ∧ w6.cell? ⟨g5, 3, none⟩ = some (Value.int .i64 fr) ∧ w6.cell? ⟨g5, 4, none⟩ = some (Value.int .i64 tr) ∧ w6.cell? ⟨g5, 5, none⟩ = some (Value.bool car) ∧ w6.cell? ⟨g5, 6, none⟩ = some (Value.int .u64 kyr) ∧ w6.cell? ⟨g5, 7, none⟩ = some (Value.int .u64 slr) from ⟨pr.out.cell 0, pr.out.cell 1, pr.out.cell 2, pr.out.cell 3, pr.out.cell 4, pr.out.cell 5, pr.out.cell 6, pr.out.cell 7⟩)
                go_wp2_with fail
                clear k0 k1 k2 k3 k4 k5 k6 k7
                have hb := Lib.hid (below_new (below_new hb.out (.cells #[Value.int .i64 sr, Value.string sbr, Value.string is_r, Value.int .i64 fr, Value.int .i64 tr, Value.bool car, Value.int .u64 kyr, Value.int .u64 slr] 52)) (.cells #[Value.slice (some ⟨w6.heap.size, 0, none⟩) 1 1, Value.slice none 0 0] 59))
                refine (awake_any _).mono ?_; rintro e wa ⟨rfl, hq⟩
                have hb := Lib.hid (hb.out.trans (hq.mono hb.out.size))
                clear hq
                go_wp2_with fail
                go_ret
                exact ⟨rfl, hb.out⟩
            · have hEb : (E != 0) = true := by simpa using hE
              obtain ⟨k0, k1, k2, k3, k4, k5, k6, k7⟩ := (show w6.cell? ⟨g5, 0, none⟩ = some (Value.int .i64 sr) ∧ w6.cell? ⟨g5, 1, none⟩ = some (Value.string sbr) ∧ w6.cell? ⟨g5, 2, none⟩ = some (Value.string is_r) ∧ w6.cell? ⟨g5, 3, none⟩ = some (Value.int .i64 fr) ∧ w6.cell? ⟨g5, 4, none⟩ = some (Value.int .i64 tr) ∧ w6.cell? ⟨g5, 5, none⟩ = some (Value.bool car) ∧ w6.cell? ⟨g5, 6, none⟩ = some (Value.int .u64 kyr) ∧ w6.cell? ⟨g5, 7, none⟩ = some (Value.int .u64 slr) from ⟨pr.out.cell 0, pr.out.cell 1, pr.out.cell 2, pr.out.cell 3, pr.out.cell 4, pr.out.cell 5, pr.out.cell 6, pr.out.cell 7⟩)
              go_wp2_with fail
              clear k0 k1 k2 k3 k4 k5 k6 k7
              have hb := Lib.hid (below_new (below_new hb.out (.cells #[Value.int .i64 sr, Value.string sbr, Value.string is_r, Value.int .i64 fr, Value.int .i64 tr, Value.bool car, Value.int .u64 kyr, Value.int .u64 slr] 52)) (.cells #[Value.slice (some ⟨w6.heap.size, 0, none⟩) 1 1, Value.slice none 0 0] 59))
              refine (awake_any _).mono ?_; rintro e wa ⟨rfl, hq⟩
              have hb := Lib.hid (hb.out.trans (hq.mono hb.out.size))
              clear hq
              go_wp2_with fail
              go_ret
              exact ⟨rfl, hb.out⟩
  · have hnn : ((n : Int) != 1) = true := by simp; omega
    clear hokr hsub hslen hokh
    go_enter Try.func19, Try.ntmps19
    simp only [ctC, List.cons_append, List.nil_append]
    obtain ⟨k0, k1, k2, k3, k4, k5, k6, k7, k8, k9⟩ := (show ((w.alloc (.cells #[Value.int .i64 s0, Value.string sb0, Value.string is_0, Value.int .i64 f0, Value.int .i64 t0, Value.bool ca0, Value.int .u64 ky0, Value.int .u64 sl0, Value.slice A n cp, Value.int .i64 now] 92)).alloc (.cells #[Value.int .i64 sh, Value.string sbh, Value.string is_h, Value.int .i64 fh, Value.int .i64 th, Value.bool cah, Value.int .u64 kyh, Value.int .u64 slh] 52)).cell? ⟨w.heap.size, 0, none⟩ = some (Value.int .i64 s0) ∧ ((w.alloc (.cells #[Value.int .i64 s0, Value.string sb0, Value.string is_0, Value.int .i64 f0, Value.int .i64 t0, Value.bool ca0, Value.int .u64 ky0, Value.int .u64 sl0, Value.slice A n cp, Value.int .i64 now] 92)).alloc (.cells #[Value.int .i64 sh, Value.string sbh, Value.string is_h, Value.int .i64 fh, Value.int .i64 th, Value.bool cah, Value.int .u64 kyh, Value.int .u64 slh] 52)).cell? ⟨w.heap.size, 1, none⟩ = some (Value.string sb0) ∧ ((w.alloc (.cells #[Value.int .i64 s0, Value.string sb0, Value.string is_0, Value.int .i64 f0, Value.int .i64 t0, Value.bool ca0, Value.int .u64 ky0, Value.int .u64 sl0, Value.slice A n cp, Value.int .i64 now] 92)).alloc (.cells #[Value.int .i64 sh, Value.string sbh, Value.string is_h, Value.int .i64 fh, Value.int .i64 th, Value.bool cah, Value.int .u64 kyh, Value.int .u64 slh] 52)).cell? ⟨w.heap.size, 2, none⟩ = some (Value.string is_0) ∧ ((w.alloc (.cells #[Value.int .i64 s0, Value.string sb0, Value.string is_0, Value.int .i64 f0, Value.int .i64 t0, Value.bool ca0, Value.int .u64 ky0, Value.int .u64 sl0, Value.slice A n cp, Value.int .i64 now] 92)).alloc (.cells #[Value.int .i64 sh, Value.string sbh, Value.string is_h, Value.int .i64 fh, Value.int .i64 th, Value.bool cah, Value.int .u64 kyh, Value.int .u64 slh] 52)).cell? ⟨w.heap.size, 3, none⟩ = some (Value.int .i64 f0) ∧ ((w.alloc (.cells #[Value.int .i64 s0, Value.string sb0, Value.string is_0, Value.int .i64 f0, Value.int .i64 t0, Value.bool ca0, Value.int .u64 ky0, Value.int .u64 sl0, Value.slice A n cp, Value.int .i64 now] 92)).alloc (.cells #[Value.int .i64 sh, Value.string sbh, Value.string is_h, Value.int .i64 fh, Value.int .i64 th, Value.bool cah, Value.int .u64 kyh, Value.int .u64 slh] 52)).cell? ⟨w.heap.size, 4, none⟩ = some (Value.int .i64 t0) ∧ ((w.alloc (.cells #[Value.int .i64 s0, Value.string sb0, Value.string is_0, Value.int .i64 f0, Value.int .i64 t0, Value.bool ca0, Value.int .u64 ky0, Value.int .u64 sl0, Value.slice A n cp, Value.int .i64 now] 92)).alloc (.cells #[Value.int .i64 sh, Value.string sbh, Value.string is_h, Value.int .i64 fh, Value.int .i64 th, Value.bool cah, Value.int .u64 kyh, Value.int .u64 slh] 52)).cell? ⟨w.heap.size, 5, none⟩ = some (Value.bool ca0) ∧ ((w.alloc (.cells #[Value.int .i64 s0, Value.string sb0, Value.string is_0, Value.int .i64 f0, Value.int .i64 t0, Value.bool ca0, Value.int .u64 ky0, Value.int .u64 sl0, Value.slice A n cp, Value.int .i64 now] 92)).alloc (.cells #[Value.int .i64 sh, Value.string sbh, Value.string is_h, Value.int .i64 fh, Value.int .i64 th, Value.bool cah, Value.int .u64 kyh, Value.int .u64 slh] 52)).cell? ⟨w.heap.size, 6, none⟩ = some (Value.int .u64 ky0) ∧ ((w.alloc (.cells #[Value.int .i64 s0, Value.string sb0, Value.string is_0, Value.int .i64 f0, Value.int .i64 t0, Value.bool ca0, Value.int .u64 ky0, Value.int .u64 sl0, Value.slice A n cp, Value.int .i64 now] 92)).alloc (.cells #[Value.int .i64 sh, Value.string sbh, Value.string is_h, Value.int .i64 fh, Value.int .i64 th, Value.bool cah, Value.int .u64 kyh, Value.int .u64 slh] 52)).cell? ⟨w.heap.size, 7, none⟩ = some (Value.int .u64 sl0) ∧ ((w.alloc (.cells #[Value.int .i64 s0, Value.string sb0, Value.string is_0, Value.int .i64 f0, Value.int .i64 t0, Value.bool ca0, Value.int .u64 ky0, Value.int .u64 sl0, Value.slice A n cp, Value.int .i64 now] 92)).alloc (.cells #[Value.int .i64 sh, Value.string sbh, Value.string is_h, Value.int .i64 fh, Value.int .i64 th, Value.bool cah, Value.int .u64 kyh, Value.int .u64 slh] 52)).cell? ⟨w.heap.size, 8, none⟩ = some (Value.slice A n cp) ∧ ((w.alloc (.cells #[Value.int .i64 s0, Value.string sb0, Value.string is_0, Value.int .i64 f0, Value.int .i64 t0, Value.bool ca0, Value.int .u64 ky0, Value.int .u64 sl0, Value.slice A n cp, Value.int .i64 now] 92)).alloc (.cells #[Value.int .i64 sh, Value.string sbh, Value.string is_h, Value.int .i64 fh, Value.int .i64 th, Value.bool cah, Value.int .u64 kyh, Value.int .u64 slh] 52)).cell? ⟨w.heap.size, 9, none⟩ = some (Value.int .i64 now) from ⟨px.out.cell 0, px.out.cell 1, px.out.cell 2, px.out.cell 3, px.out.cell 4, px.out.cell 5, px.out.cell 6, px.out.cell 7, px.out.cell 8, px.out.cell 9⟩)
    go_wp2_with fail
    refine (awake_any _).mono ?_; rintro e wa ⟨rfl, hq⟩
    have hb := Lib.hid (hb.out.trans (hq.mono hb.out.size))
    clear hq
    go_wp2_with fail
    go_ret
    exact ⟨rfl, hb.out⟩
end Go.Proofs.Ytiggpgeldigknaa
