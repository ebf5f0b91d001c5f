/- Certs: Content. -/
import Derived.Test.YtiggpgeldigknaaCA
set_option linter.unusedVariables false
set_option linter.unusedSimpArgs false
namespace Go.Proofs.Ytiggpgeldigknaa
open Go.RowKit
def caI (b : Bool) : Int := if b then 1 else 0
def keyAt (K : Int) (i : Nat) : UInt8 := UInt8.ofNat (K.toNat / 2 ^ (56 - 8 * i) % 256)
def keyL (K : Int) (k : Nat) : List UInt8 := (List.range k).map (keyAt K)
theorem keyL_len (K : Int) (k : Nat) : (keyL K k).length = k := by simp [keyL]
theorem keyL_snoc (K : Int) (k : Nat) : keyL K (k + 1) = keyL K k ++ [keyAt K k] := by simp [keyL, List.range_succ]
def ctB (c : Ct) (ci : Int) : List UInt8 := fdB 1 (enc (zig c.serial)) ++ (fdB 2 c.subj.data.toList ++ (fdB 3 c.iss.data.toList ++ (fdB 4 (enc (zig c.from_)) ++ (fdB 5 (enc (zig c.to_)) ++ (fdB 6 (enc (zig ci)) ++ fdB 7 (keyL c.key 8))))))
structure CtOk (c : Ct) : Prop where
  s : -9223372036854775808 ≤ c.serial ∧ c.serial ≤ 9223372036854775807
  f : -9223372036854775808 ≤ c.from_ ∧ c.from_ ≤ 9223372036854775807
  t : -9223372036854775808 ≤ c.to_ ∧ c.to_ ≤ 9223372036854775807
  k : 0 ≤ c.key ∧ c.key < 18446744073709551616
  len : c.subj.size + c.iss.size ≤ 4000
theorem ctB_le {c : Ct} (h : CtOk c) (ci : Int) : (ctB c ci).length ≤ 5000 := by
  have h1 := fdB_le 1 (enc (zig c.serial))
  have h2 := fdB_le 2 c.subj.data.toList
  have h3 := fdB_le 3 c.iss.data.toList
  have h4 := fdB_le 4 (enc (zig c.from_))
  have h5 := fdB_le 5 (enc (zig c.to_))
  have h6 := fdB_le 6 (enc (zig ci))
  have h7 := fdB_le 7 (keyL c.key 8)
  have g1 := enc_le (zig c.serial)
  have g2 := enc_le (zig c.from_)
  have g3 := enc_le (zig c.to_)
  have g4 := enc_le (zig ci)
  have g5 := keyL_len c.key 8
  have e1 : c.subj.data.toList.length = c.subj.size := by simp
  have e2 : c.iss.data.toList.length = c.iss.size := by simp
  have := h.len
  unfold ctB
  simp only [List.length_append]
  omega
theorem fl_seven {c : Ct} (hk : CtOk c) (ci : Int) (w : World) {A0 A1 A2 A3 A4 A5 A6 : Option Addr} {n0 n1 n2 n3 n4 n5 n6 c0 c1 c2 c3 c4 c5 c6 : Nat}
    (h0 : BAt w w.heap.size A0 n0 (enc (zig c.serial))) (h1 : BAt w w.heap.size A1 n1 c.subj.data.toList) (h2 : BAt w w.heap.size A2 n2 c.iss.data.toList) (h3 : BAt w w.heap.size A3 n3 (enc (zig c.from_))) (h4 : BAt w w.heap.size A4 n4 (enc (zig c.to_)))
    (h5 : BAt w w.heap.size A5 n5 (enc (zig ci))) (h6 : BAt w w.heap.size A6 n6 (keyL c.key 8)) :
    Fl (ctB c ci) (.slice (some ⟨w.heap.size, 0, none⟩) 7 7) (w.alloc (.cells #[.int .i64 1, .slice A0 n0 c0, .int .i64 2, .slice A1 n1 c1, .int .i64 3, .slice A2 n2 c2, .int .i64 4, .slice A3 n3 c3, .int .i64 5, .slice A4 n4 c4, .int .i64 6, .slice A5 n5 c5, .int .i64 7, .slice A6 n6 c6] 117)) := by
  have hb := a1 w (.cells #[.int .i64 1, .slice A0 n0 c0, .int .i64 2, .slice A1 n1 c1, .int .i64 3, .slice A2 n2 c2, .int .i64 4, .slice A3 n3 c3, .int .i64 5, .slice A4 n4 c4, .int .i64 6, .slice A5 n5 c5, .int .i64 7, .slice A6 n6 c6] 117)
  have hB : putB [⟨1, A0, n0, c0, enc (zig c.serial)⟩, ⟨2, A1, n1, c1, c.subj.data.toList⟩, ⟨3, A2, n2, c2, c.iss.data.toList⟩, ⟨4, A3, n3, c3, enc (zig c.from_)⟩, ⟨5, A4, n4, c4, enc (zig c.to_)⟩, ⟨6, A5, n5, c5, enc (zig ci)⟩, ⟨7, A6, n6, c6, keyL c.key 8⟩] = ctB c ci := by
    simp only [putB, List.flatMap_cons, List.flatMap_nil, put1, ctB, fdB, List.append_nil, List.append_assoc]
  refine ⟨_, [⟨1, A0, n0, c0, enc (zig c.serial)⟩, ⟨2, A1, n1, c1, c.subj.data.toList⟩, ⟨3, A2, n2, c2, c.iss.data.toList⟩, ⟨4, A3, n3, c3, enc (zig c.from_)⟩, ⟨5, A4, n4, c4, enc (zig c.to_)⟩, ⟨6, A5, n5, c5, enc (zig ci)⟩, ⟨7, A6, n6, c6, keyL c.key 8⟩], _, _, rfl, ?_, ?_, ?_, hB⟩
  · have := lit_at (e := 117) fdC_len w [⟨1, A0, n0, c0, enc (zig c.serial)⟩, ⟨2, A1, n1, c1, c.subj.data.toList⟩, ⟨3, A2, n2, c2, c.iss.data.toList⟩, ⟨4, A3, n3, c3, enc (zig c.from_)⟩, ⟨5, A4, n4, c4, enc (zig c.to_)⟩, ⟨6, A5, n5, c5, enc (zig ci)⟩, ⟨7, A6, n6, c6, keyL c.key 8⟩] #[.int .i64 1, .slice A0 n0 c0, .int .i64 2, .slice A1 n1 c1, .int .i64 3, .slice A2 n2 c2, .int .i64 4, .slice A3 n3 c3, .int .i64 5, .slice A4 n4 c4, .int .i64 6, .slice A5 n5 c5, .int .i64 7, .slice A6 n6 c6] rfl
    simpa using this
  · simp only [List.forall_mem_cons, List.not_mem_nil, false_implies, implies_true, and_true]
    exact ⟨h0.more hb, h1.more hb, h2.more hb, h3.more hb, h4.more hb, h5.more hb, h6.more hb⟩
  · have hl := ctB_le hk ci
    refine ⟨by simp, ?_, ?_, by rw [hB]; omega⟩
    · intro i h
      match i, h with
      | 0, _ => simp
      | 1, _ => simp
      | 2, _ => simp
      | 3, _ => simp
      | 4, _ => simp
      | 5, _ => simp
      | 6, _ => simp
    · intro i h
      match i, h with
      | 0, _ => simp
      | 1, _ => simp
      | 2, _ => simp
      | 3, _ => simp
      | 4, _ => simp
      | 5, _ => simp
def cF (g : Nat) (c : Ct) (ci : Int) : Tmp → Value → World → Prop
  | 1, v, _ => v = .pointer (some ⟨g, 0, none⟩)
  | 3, v, _ => v = .int .i64 ci
  | 4, v, w => Sl (keyL c.key 8) v w
  | 23, v, _ => v = .pointer (some ⟨g, 0, none⟩)
  | 24, v, _ => v = .int .i64 c.serial
  | 25, v, w => Sl (enc (zig c.serial)) v w
  | 26, v, w => Fs 1 (enc (zig c.serial)) v w
  | 27, v, _ => v = .pointer (some ⟨g, 1, none⟩)
  | 28, v, _ => v = .string c.subj
  | 29, v, w => Sl c.subj.data.toList v w
  | 30, v, w => Fs 2 c.subj.data.toList v w
  | 31, v, _ => v = .pointer (some ⟨g, 2, none⟩)
  | 32, v, _ => v = .string c.iss
  | 33, v, w => Sl c.iss.data.toList v w
  | 34, v, w => Fs 3 c.iss.data.toList v w
  | 35, v, _ => v = .pointer (some ⟨g, 3, none⟩)
  | 36, v, _ => v = .pointer (some ⟨g, 3, none⟩)
  | 37, v, _ => v = .int .i64 c.from_
  | 38, v, w => Sl (enc (zig c.from_)) v w
  | 39, v, w => Fs 4 (enc (zig c.from_)) v w
  | 40, v, _ => v = .pointer (some ⟨g, 3, none⟩)
  | 41, v, _ => v = .pointer (some ⟨g, 4, none⟩)
  | 42, v, _ => v = .int .i64 c.to_
  | 43, v, w => Sl (enc (zig c.to_)) v w
  | 44, v, w => Fs 5 (enc (zig c.to_)) v w
  | 45, v, _ => v = .int .i64 ci
  | 46, v, w => Sl (enc (zig ci)) v w
  | 47, v, w => Fs 6 (enc (zig ci)) v w
  | 48, v, w => Sl (keyL c.key 8) v w
  | 49, v, w => Fs 7 (keyL c.key 8) v w
  | 50, v, w => Fl (ctB c ci) v w
  | 51, v, w => Rs (ctB c ci) v w
  | 22, v, w => Rs (ctB c ci) v w
  | 52, v, w => Sl (ctB c ci) v w
  | 6, v, w => Sl (ctB c ci) v w
  | 53, v, _ => v = .int .i64 0
  | 7, v, _ => v = .int .i64 0
  | _, _, _ => True
theorem cF_more {g : Nat} {c : Ct} {ci : Int} (t : Tmp) (v : Value) (w w' : World) (hR : R w w') (h : cF g c ci t v w) : cF g c ci t v w' := by
  unfold cF at *
  split at h <;> first | exact h | exact Sl.more h hR | exact Fs.more h hR | exact Fl.more h hR | exact Rs.more h hR
set_option maxRecDepth 100000 in
set_option maxHeartbeats 20000000 in
theorem content_any (c : Ct) (w : World) (hk : CtOk c) :
    Calls Try.prog 54 #[.agg (ctC c).toArray] w fun e w' => ∃ v, e = .returned v ∧ Sl (ctB c (caI c.ca)) v w' ∧ Below w.heap.size w w' := by
  obtain ⟨i0, hi0, hz0, hz1, hz2⟩ := info_parts byte_info
  obtain ⟨hk0, hk1⟩ := hk.k
  replace hk := Lib.hid hk
  have kz : ∀ wz, Below (w.alloc (.cells #[Value.int .i64 c.serial, Value.string c.subj, Value.string c.iss, Value.int .i64 c.from_, Value.int .i64 c.to_, Value.bool c.ca, Value.int .u64 c.key, Value.int .u64 c.sl] 52)).heap.size (w.alloc (.cells #[Value.int .i64 c.serial, Value.string c.subj, Value.string c.iss, Value.int .i64 c.from_, Value.int .i64 c.to_, Value.bool c.ca, Value.int .u64 c.key, Value.int .u64 c.sl] 52)) wz → wz.cell? ⟨w.heap.size, 0, none⟩ = some (Value.int .i64 c.serial) ∧ wz.cell? ⟨w.heap.size, 1, none⟩ = some (Value.string c.subj) ∧ wz.cell? ⟨w.heap.size, 2, none⟩ = some (Value.string c.iss) ∧ wz.cell? ⟨w.heap.size, 3, none⟩ = some (Value.int .i64 c.from_) ∧ wz.cell? ⟨w.heap.size, 4, none⟩ = some (Value.int .i64 c.to_) ∧ wz.cell? ⟨w.heap.size, 5, none⟩ = some (Value.bool c.ca) ∧ wz.cell? ⟨w.heap.size, 6, none⟩ = some (Value.int .u64 c.key) ∧ wz.cell? ⟨w.heap.size, 7, none⟩ = some (Value.int .u64 c.sl) := fun wz h => by
    obtain ⟨k0, k1, k2, k3, k4, k5, k6, k7⟩ := ct_box w c wz h
    exact ⟨k0, k1, k2, k3, k4, k5, k6, k7⟩
  replace kz := Lib.hid kz
  go_enter Try.func54, Try.ntmps54
  unfold ctC
  generalize hw1 : w.alloc (.cells #[Value.int .i64 c.serial, Value.string c.subj, Value.string c.iss, Value.int .i64 c.from_, Value.int .i64 c.to_, Value.bool c.ca, Value.int .u64 c.key, Value.int .u64 c.sl] 52) = w1 at kz
  cases hca : c.ca with
  | true =>
    rw [hca] at hw1 kz
    obtain ⟨k0, k1, k2, k3, k4, k5, k6, k7⟩ := kz.out _ (Below.refl _ _)
    replace hw1 := Lib.hid hw1
    go_wp2_with fail
    go_loopw [4, 5] (fun b sh wr => ∃ k : Nat, k ≤ 8 ∧ sh = .int .i64 (56 - 8 * (k : Int)) ∧ Hid (BOwn wr w1.heap.size b (keyL c.key k)) ∧ Hid (Below w1.heap.size w1 wr)) (fun _ sh _ => (intOf sh + 8).toNat)
    case atStart => exact ⟨0, by omega, rfl, LOwn.nil bC_len _ _, by show Below _ _ _; rw [hw1.out]; exact Below.refl _ _⟩
    case round =>
     clear k0 k1 k2 k3 k4 k5 k6 k7
     obtain ⟨k, hk8, rfl, ho, hb⟩ := hrel
     obtain ⟨A2, c2, rfl, hc2, hmx2, -, hA2⟩ := ho.out.form
     replace hA2 := Lib.hid hA2
     obtain ⟨k0, k1, k2, k3, k4, k5, k6, k7⟩ := kz.out _ hb.out
     by_cases hk : k = 8
     · subst hk
       clear hmx2 ho k0 k1 k2 k3 k4 k5 k6 k7
       replace hc2 := Lib.hid hc2
       go_wp2_with fail
       refine RI.region (F := cF w.heap.size c 1) (W := hW w1) (R := R) rfl cF_more (by kernel_rfl) (by kernel_rfl) (by kernel_rfl) (by kernel_rfl) ?_ ?_ ?_ ?_
       · exact hb.out.drew
       · intro t ht
         unfold cF
         split <;> first | trivial | exact rfl | exact ⟨_, _, _, rfl, hA2.out, hc2.out⟩ | (exact absurd ht (by decide))
       · clear hb hA2 hc2
         simp only [List.forall_mem_cons, List.not_mem_nil, false_implies, implies_true, and_true]
         refine ⟨?_, ?_, ?_, ?_, ?_, ?_, ?_, ?_, ?_, ?_, ?_, ?_, ?_, ?_, ?_, ?_, ?_, ?_, ?_, ?_, ?_, ?_, ?_, ?_, ?_, ?_, ?_, ?_, ?_, ?_, ?_, ?_, ?_, ?_⟩
         · intro a w2 hw hf K hK
           have f0 := hf 1 rfl
           simp only [cF] at f0
           clear hf
           go_simp
           exact hK _ _ _ rfl rfl hw (Below.refl _ _)
         · intro a w2 hw hf K hK
           have f0 := hf 23 rfl
           simp only [cF] at f0
           clear hf
           obtain ⟨e0, e1, e2, e3, e4, e5, e6, e7⟩ := kz.out w2 hw
           go_simp
           exact hK _ _ _ rfl rfl hw (Below.refl _ _)
         · intro a w2 hw hf K hK
           have f0 := hf 24 rfl
           simp only [cF] at f0
           clear hf
           go_simp
           refine (putInt_any c.serial w2 (by have := hk.out.s; have := hk.out.f; have := hk.out.t; omega) (by have := hk.out.s; have := hk.out.f; have := hk.out.t; omega)).mono ?_; rintro e w3 ⟨v, rfl, ho, hb⟩
           exact hK _ _ _ rfl (own_sl (w' := w3) ho) (hw.trans (hb.mono hw.size)) hb
         · intro a w2 hw hf K hK
           have f0 := hf 25 rfl
           simp only [cF] at f0
           clear hf
           obtain ⟨A, n, c9, f0, hA, -⟩ := f0
           go_simp
           exact hK _ _ _ rfl ⟨_, _, _, rfl, hA⟩ hw (Below.refl _ _)
         · intro a w2 hw hf K hK
           have f0 := hf 1 rfl
           simp only [cF] at f0
           clear hf
           go_simp
           exact hK _ _ _ rfl rfl hw (Below.refl _ _)
         · intro a w2 hw hf K hK
           have f0 := hf 27 rfl
           simp only [cF] at f0
           clear hf
           obtain ⟨e0, e1, e2, e3, e4, e5, e6, e7⟩ := kz.out w2 hw
           go_simp
           exact hK _ _ _ rfl rfl hw (Below.refl _ _)
         · intro a w2 hw hf K hK
           have f0 := hf 28 rfl
           simp only [cF] at f0
           clear hf
           have hcv := run_bytes_of_string (P := Try.prog) w2 9 85 5 c.subj Try.underlying9 Try.underlying85 Try.underlying5
           have hcap := Lib.hid (grownCap_ge w2 c.subj.size 0 5)
           generalize grownCap w2 c.subj.size 0 5 = cap at hcv hcap
           go_simp
           exact hK _ _ _ rfl (sl_conv w2 c.subj cap (by have := hcap.out; omega) _ _) (below_conv hw hw.size _) (below_conv (Below.refl _ _) (Nat.le_refl _) _)
         · intro a w2 hw hf K hK
           have f0 := hf 29 rfl
           simp only [cF] at f0
           clear hf
           obtain ⟨A, n, c9, f0, hA, -⟩ := f0
           go_simp
           exact hK _ _ _ rfl ⟨_, _, _, rfl, hA⟩ hw (Below.refl _ _)
         · intro a w2 hw hf K hK
           have f0 := hf 1 rfl
           simp only [cF] at f0
           clear hf
           go_simp
           exact hK _ _ _ rfl rfl hw (Below.refl _ _)
         · intro a w2 hw hf K hK
           have f0 := hf 31 rfl
           simp only [cF] at f0
           clear hf
           obtain ⟨e0, e1, e2, e3, e4, e5, e6, e7⟩ := kz.out w2 hw
           go_simp
           exact hK _ _ _ rfl rfl hw (Below.refl _ _)
         · intro a w2 hw hf K hK
           have f0 := hf 32 rfl
           simp only [cF] at f0
           clear hf
           have hcv := run_bytes_of_string (P := Try.prog) w2 9 85 5 c.iss Try.underlying9 Try.underlying85 Try.underlying5
           have hcap := Lib.hid (grownCap_ge w2 c.iss.size 0 5)
           generalize grownCap w2 c.iss.size 0 5 = cap at hcv hcap
           go_simp
           exact hK _ _ _ rfl (sl_conv w2 c.iss cap (by have := hcap.out; omega) _ _) (below_conv hw hw.size _) (below_conv (Below.refl _ _) (Nat.le_refl _) _)
         · intro a w2 hw hf K hK
           have f0 := hf 33 rfl
           simp only [cF] at f0
           clear hf
           obtain ⟨A, n, c9, f0, hA, -⟩ := f0
           go_simp
           exact hK _ _ _ rfl ⟨_, _, _, rfl, hA⟩ hw (Below.refl _ _)
         · intro a w2 hw hf K hK
           have f0 := hf 1 rfl
           simp only [cF] at f0
           clear hf
           go_simp
           exact hK _ _ _ rfl rfl hw (Below.refl _ _)
         · intro a w2 hw hf K hK
           have f0 := hf 35 rfl
           simp only [cF] at f0
           clear hf
           go_simp
           exact hK _ _ _ rfl rfl hw (Below.refl _ _)
         · intro a w2 hw hf K hK
           have f0 := hf 36 rfl
           simp only [cF] at f0
           clear hf
           obtain ⟨e0, e1, e2, e3, e4, e5, e6, e7⟩ := kz.out w2 hw
           go_simp
           exact hK _ _ _ rfl rfl hw (Below.refl _ _)
         · intro a w2 hw hf K hK
           have f0 := hf 37 rfl
           simp only [cF] at f0
           clear hf
           go_simp
           refine (putInt_any c.from_ w2 (by have := hk.out.s; have := hk.out.f; have := hk.out.t; omega) (by have := hk.out.s; have := hk.out.f; have := hk.out.t; omega)).mono ?_; rintro e w3 ⟨v, rfl, ho, hb⟩
           exact hK _ _ _ rfl (own_sl (w' := w3) ho) (hw.trans (hb.mono hw.size)) hb
         · intro a w2 hw hf K hK
           have f0 := hf 38 rfl
           simp only [cF] at f0
           clear hf
           obtain ⟨A, n, c9, f0, hA, -⟩ := f0
           go_simp
           exact hK _ _ _ rfl ⟨_, _, _, rfl, hA⟩ hw (Below.refl _ _)
         · intro a w2 hw hf K hK
           have f0 := hf 1 rfl
           simp only [cF] at f0
           clear hf
           go_simp
           exact hK _ _ _ rfl rfl hw (Below.refl _ _)
         · intro a w2 hw hf K hK
           have f0 := hf 40 rfl
           simp only [cF] at f0
           clear hf
           go_simp
           exact hK _ _ _ rfl rfl hw (Below.refl _ _)
         · intro a w2 hw hf K hK
           have f0 := hf 41 rfl
           simp only [cF] at f0
           clear hf
           obtain ⟨e0, e1, e2, e3, e4, e5, e6, e7⟩ := kz.out w2 hw
           go_simp
           exact hK _ _ _ rfl rfl hw (Below.refl _ _)
         · intro a w2 hw hf K hK
           have f0 := hf 42 rfl
           simp only [cF] at f0
           clear hf
           go_simp
           refine (putInt_any c.to_ w2 (by have := hk.out.s; have := hk.out.f; have := hk.out.t; omega) (by have := hk.out.s; have := hk.out.f; have := hk.out.t; omega)).mono ?_; rintro e w3 ⟨v, rfl, ho, hb⟩
           exact hK _ _ _ rfl (own_sl (w' := w3) ho) (hw.trans (hb.mono hw.size)) hb
         · intro a w2 hw hf K hK
           have f0 := hf 43 rfl
           simp only [cF] at f0
           clear hf
           obtain ⟨A, n, c9, f0, hA, -⟩ := f0
           go_simp
           exact hK _ _ _ rfl ⟨_, _, _, rfl, hA⟩ hw (Below.refl _ _)
         · intro a w2 hw hf K hK
           have f0 := hf 3 rfl
           simp only [cF] at f0
           clear hf
           go_simp
           exact hK _ _ _ rfl rfl hw (Below.refl _ _)
         · intro a w2 hw hf K hK
           have f0 := hf 45 rfl
           simp only [cF] at f0
           clear hf
           go_simp
           refine (putInt_any 1 w2 (by have := hk.out.s; have := hk.out.f; have := hk.out.t; omega) (by have := hk.out.s; have := hk.out.f; have := hk.out.t; omega)).mono ?_; rintro e w3 ⟨v, rfl, ho, hb⟩
           exact hK _ _ _ rfl (own_sl (w' := w3) ho) (hw.trans (hb.mono hw.size)) hb
         · intro a w2 hw hf K hK
           have f0 := hf 46 rfl
           simp only [cF] at f0
           clear hf
           obtain ⟨A, n, c9, f0, hA, -⟩ := f0
           go_simp
           exact hK _ _ _ rfl ⟨_, _, _, rfl, hA⟩ hw (Below.refl _ _)
         · intro a w2 hw hf K hK
           have f0 := hf 4 rfl
           simp only [cF] at f0
           clear hf
           replace f0 := Lib.hid f0
           go_simp
           exact hK _ _ _ rfl f0.out hw (Below.refl _ _)
         · intro a w2 hw hf K hK
           have f0 := hf 48 rfl
           simp only [cF] at f0
           clear hf
           obtain ⟨A, n, c9, f0, hA, -⟩ := f0
           go_simp
           exact hK _ _ _ rfl ⟨_, _, _, rfl, hA⟩ hw (Below.refl _ _)
         · intro a w2 hw hf K hK
           have f0 := hf 26 rfl
           have f1 := hf 30 rfl
           have f2 := hf 34 rfl
           have f3 := hf 39 rfl
           have f4 := hf 44 rfl
           have f5 := hf 47 rfl
           have f6 := hf 49 rfl
           simp only [cF] at f0 f1 f2 f3 f4 f5 f6
           clear hf
           obtain ⟨A0, n0, c0, f0, h0⟩ := f0
           obtain ⟨A1, n1, c1, f1, h1⟩ := f1
           obtain ⟨A2, n2, c2, f2, h2⟩ := f2
           obtain ⟨A3, n3, c3, f3, h3⟩ := f3
           obtain ⟨A4, n4, c4, f4, h4⟩ := f4
           obtain ⟨A5, n5, c5, f5, h5⟩ := f5
           obtain ⟨A6, n6, c6, f6, h6⟩ := f6
           replace h0 := Lib.hid h0
           replace h1 := Lib.hid h1
           replace h2 := Lib.hid h2
           replace h3 := Lib.hid h3
           replace h4 := Lib.hid h4
           replace h5 := Lib.hid h5
           replace h6 := Lib.hid h6
           go_simp
           refine hK _ _ _ rfl ?_ (hw.alloc hw.size _) ((Below.refl _ _).alloc (Nat.le_refl _) _)
           exact fl_seven hk.out 1 w2 h0.out h1.out h2.out h3.out h4.out h5.out h6.out
         · intro a w2 hw hf K hK
           have f0 := hf 50 rfl
           simp only [cF] at f0
           clear hf
           obtain ⟨A, q, n, c9, f0, h1, h2, h3, h4⟩ := f0
           replace h1 := Lib.hid h1
           replace h2 := Lib.hid h2
           replace h3 := Lib.hid h3
           replace h4 := Lib.hid h4
           go_simp
           refine (put_any A q n c9 w2 h1.out h2.out h3.out).mono ?_; rintro e w3 ⟨v, rfl, ho, hb⟩
           rw [h4.out] at ho
           exact hK _ _ _ rfl ⟨_, rfl, own_sl (w' := w3) ho⟩ (hw.trans (hb.mono hw.size)) hb
         · intro a w2 hw hf K hK
           have f0 := hf 51 rfl
           simp only [cF] at f0
           clear hf
           obtain ⟨u, f0, h1⟩ := f0
           replace h1 := Lib.hid h1
           go_simp
           exact hK _ _ _ rfl ⟨_, rfl, h1.out⟩ hw (Below.refl _ _)
         · intro a w2 hw hf K hK
           have f0 := hf 22 rfl
           simp only [cF] at f0
           clear hf
           obtain ⟨u, f0, h1⟩ := f0
           replace h1 := Lib.hid h1
           go_simp
           exact hK _ _ _ rfl h1.out hw (Below.refl _ _)
         · intro a w2 hw hf K hK
           have f0 := hf 22 rfl
           simp only [cF] at f0
           clear hf
           obtain ⟨u, f0, h1⟩ := f0
           replace h1 := Lib.hid h1
           go_simp
           exact hK _ _ _ rfl rfl hw (Below.refl _ _)
         · intro a w2 hw hf K hK
           have f0 := hf 52 rfl
           simp only [cF] at f0
           clear hf
           replace f0 := Lib.hid f0
           go_simp
           exact hK _ _ _ rfl f0.out hw (Below.refl _ _)
         · intro a w2 hw hf K hK
           have f0 := hf 53 rfl
           simp only [cF] at f0
           clear hf
           go_simp
           exact hK _ _ _ rfl rfl hw (Below.refl _ _)
       · intro a' w' hd hs hw hout hf
         have f0 := hf 6
         simp only [cF] at f0
         obtain ⟨tm, df⟩ := a'
         simp only at hd hs f0
         have e := lit_arr tm 55 hs
         rw [show (List.range 55).map (fun i => tm[i]?.getD undef) = [tm[0]?.getD undef, tm[1]?.getD undef, tm[2]?.getD undef, tm[3]?.getD undef, tm[4]?.getD undef, tm[5]?.getD undef, tm[6]?.getD undef, tm[7]?.getD undef, tm[8]?.getD undef, tm[9]?.getD undef, tm[10]?.getD undef, tm[11]?.getD undef, tm[12]?.getD undef, tm[13]?.getD undef, tm[14]?.getD undef, tm[15]?.getD undef, tm[16]?.getD undef, tm[17]?.getD undef, tm[18]?.getD undef, tm[19]?.getD undef, tm[20]?.getD undef, tm[21]?.getD undef, tm[22]?.getD undef, tm[23]?.getD undef, tm[24]?.getD undef, tm[25]?.getD undef, tm[26]?.getD undef, tm[27]?.getD undef, tm[28]?.getD undef, tm[29]?.getD undef, tm[30]?.getD undef, tm[31]?.getD undef, tm[32]?.getD undef, tm[33]?.getD undef, tm[34]?.getD undef, tm[35]?.getD undef, tm[36]?.getD undef, tm[37]?.getD undef, tm[38]?.getD undef, tm[39]?.getD undef, tm[40]?.getD undef, tm[41]?.getD undef, tm[42]?.getD undef, tm[43]?.getD undef, tm[44]?.getD undef, tm[45]?.getD undef, tm[46]?.getD undef, tm[47]?.getD undef, tm[48]?.getD undef, tm[49]?.getD undef, tm[50]?.getD undef, tm[51]?.getD undef, tm[52]?.getD undef, tm[53]?.getD undef, tm[54]?.getD undef] from rfl] at e
         clear hf hout hs
         rw [e, hd]
         clear e hd
         replace f0 := Lib.hid f0
         generalize tm[6]?.getD undef = x6 at f0
         generalize tm[0]?.getD undef = x0
         generalize tm[1]?.getD undef = x1
         generalize tm[2]?.getD undef = x2
         generalize tm[3]?.getD undef = x3
         generalize tm[4]?.getD undef = x4
         generalize tm[5]?.getD undef = x5
         generalize tm[7]?.getD undef = x7
         generalize tm[8]?.getD undef = x8
         generalize tm[9]?.getD undef = x9
         generalize tm[10]?.getD undef = x10
         generalize tm[11]?.getD undef = x11
         generalize tm[12]?.getD undef = x12
         generalize tm[13]?.getD undef = x13
         generalize tm[14]?.getD undef = x14
         generalize tm[15]?.getD undef = x15
         generalize tm[16]?.getD undef = x16
         generalize tm[17]?.getD undef = x17
         generalize tm[18]?.getD undef = x18
         generalize tm[19]?.getD undef = x19
         generalize tm[20]?.getD undef = x20
         generalize tm[21]?.getD undef = x21
         generalize tm[22]?.getD undef = x22
         generalize tm[23]?.getD undef = x23
         generalize tm[24]?.getD undef = x24
         generalize tm[25]?.getD undef = x25
         generalize tm[26]?.getD undef = x26
         generalize tm[27]?.getD undef = x27
         generalize tm[28]?.getD undef = x28
         generalize tm[29]?.getD undef = x29
         generalize tm[30]?.getD undef = x30
         generalize tm[31]?.getD undef = x31
         generalize tm[32]?.getD undef = x32
         generalize tm[33]?.getD undef = x33
         generalize tm[34]?.getD undef = x34
         generalize tm[35]?.getD undef = x35
         generalize tm[36]?.getD undef = x36
         generalize tm[37]?.getD undef = x37
         generalize tm[38]?.getD undef = x38
         generalize tm[39]?.getD undef = x39
         generalize tm[40]?.getD undef = x40
         generalize tm[41]?.getD undef = x41
         generalize tm[42]?.getD undef = x42
         generalize tm[43]?.getD undef = x43
         generalize tm[44]?.getD undef = x44
         generalize tm[45]?.getD undef = x45
         generalize tm[46]?.getD undef = x46
         generalize tm[47]?.getD undef = x47
         generalize tm[48]?.getD undef = x48
         generalize tm[49]?.getD undef = x49
         generalize tm[50]?.getD undef = x50
         generalize tm[51]?.getD undef = x51
         generalize tm[52]?.getD undef = x52
         generalize tm[53]?.getD undef = x53
         generalize tm[54]?.getD undef = x54
         have hbw : Hid (Below w.heap.size w w') := by
           show Below _ _ _
           have hw1 := hw1.out
           subst hw1
           exact below_a hw
         clear hw hw1
         go_wp2_with fail
         go_ret
         exact ⟨_, rfl, f0.out, hbw.out⟩

     · clear hA2
       match k, hk8, hk with
       | 0, _, _ =>
         have hv : c.key / 72057594037927936 = ((keyAt c.key 0).toNat : Int) := by unfold keyAt; simp; omega
         have hs8 := Lib.hid (keyL_snoc c.key 0)
         have hl8 := keyL_len c.key 0
         generalize keyAt c.key 0 = by_ at *
         generalize keyL c.key 0 = L at *
         generalize hL9 : keyL c.key (0 + 1) = L9 at *
         have hrd : Hid (Reads (wr.alloc (.cells #[.int .u8 (by_.toNat : Int)] 5)) (wr.heap.size + 1) 1 (some ⟨wr.heap.size, 0, none⟩) 1 (flat bC [by_])) := (lit_byte wr by_ _ rfl).2
         have hob : Hid (BOwn (wr.alloc (.cells #[.int .u8 (by_.toNat : Int)] 5)) w1.heap.size (.slice A2 L.length c2) L) := ho.out.alloc _
         have hsz := hb.out.size
         have hlL : Hid (L.length ≤ 8) := by show _ ≤ _; omega
         clear hl8
         go_wp2_with (at_builtin; refine wpList_append_any _ rfl (.tmp 14) (.tmp 20) _ rfl w1.heap.size 5 i0 _ 1 1 Try.underlying85 hi0 hz0 hz1 hz2 rfl (by omega) (.slice A2 L.length c2) L.length (flat bC L) rfl hob.out.2 (wr.heap.size + 1) (some ⟨wr.heap.size, 0, none⟩) 1 1 (flat bC [by_]) rfl hrd.out (bC_one _) (by have := hlL.out; simp only [maxLen]; omega) (by have := hlL.out; omega) (by simp; omega) ?_; intro v' w4 hown1 hg1 hat1)
         have hown2 : Hid (BOwn w4 w1.heap.size v' (L ++ [by_])) := ⟨bC_len, by rw [List.length_append, flat_append]; exact hown1⟩
         have hbw2 : Hid (Below w1.heap.size w1 w4) := (hb.out.alloc hb.out.size _).trans (below_own hob.out (by simp; omega) hg1)
         clear hown1 hg1 hat1
         go_wp2_with fail
         go_roundw
         case rel => exact ⟨0 + 1, by omega, by go_num, by rw [hL9, hs8.out]; exact hown2.out, hbw2.out⟩
         case measure => simp [intOf]
       | 1, _, _ =>
         have hv : c.key / 281474976710656 % 256 = ((keyAt c.key 1).toNat : Int) := by unfold keyAt; simp; omega
         have hs8 := Lib.hid (keyL_snoc c.key 1)
         have hl8 := keyL_len c.key 1
         generalize keyAt c.key 1 = by_ at *
         generalize keyL c.key 1 = L at *
         generalize hL9 : keyL c.key (1 + 1) = L9 at *
         have hrd : Hid (Reads (wr.alloc (.cells #[.int .u8 (by_.toNat : Int)] 5)) (wr.heap.size + 1) 1 (some ⟨wr.heap.size, 0, none⟩) 1 (flat bC [by_])) := (lit_byte wr by_ _ rfl).2
         have hob : Hid (BOwn (wr.alloc (.cells #[.int .u8 (by_.toNat : Int)] 5)) w1.heap.size (.slice A2 L.length c2) L) := ho.out.alloc _
         have hsz := hb.out.size
         have hlL : Hid (L.length ≤ 8) := by show _ ≤ _; omega
         clear hl8
         go_wp2_with (at_builtin; refine wpList_append_any _ rfl (.tmp 14) (.tmp 20) _ rfl w1.heap.size 5 i0 _ 1 1 Try.underlying85 hi0 hz0 hz1 hz2 rfl (by omega) (.slice A2 L.length c2) L.length (flat bC L) rfl hob.out.2 (wr.heap.size + 1) (some ⟨wr.heap.size, 0, none⟩) 1 1 (flat bC [by_]) rfl hrd.out (bC_one _) (by have := hlL.out; simp only [maxLen]; omega) (by have := hlL.out; omega) (by simp; omega) ?_; intro v' w4 hown1 hg1 hat1)
         have hown2 : Hid (BOwn w4 w1.heap.size v' (L ++ [by_])) := ⟨bC_len, by rw [List.length_append, flat_append]; exact hown1⟩
         have hbw2 : Hid (Below w1.heap.size w1 w4) := (hb.out.alloc hb.out.size _).trans (below_own hob.out (by simp; omega) hg1)
         clear hown1 hg1 hat1
         go_wp2_with fail
         go_roundw
         case rel => exact ⟨1 + 1, by omega, by go_num, by rw [hL9, hs8.out]; exact hown2.out, hbw2.out⟩
         case measure => simp [intOf]
       | 2, _, _ =>
         have hv : c.key / 1099511627776 % 256 = ((keyAt c.key 2).toNat : Int) := by unfold keyAt; simp; omega
         have hs8 := Lib.hid (keyL_snoc c.key 2)
         have hl8 := keyL_len c.key 2
         generalize keyAt c.key 2 = by_ at *
         generalize keyL c.key 2 = L at *
         generalize hL9 : keyL c.key (2 + 1) = L9 at *
         have hrd : Hid (Reads (wr.alloc (.cells #[.int .u8 (by_.toNat : Int)] 5)) (wr.heap.size + 1) 1 (some ⟨wr.heap.size, 0, none⟩) 1 (flat bC [by_])) := (lit_byte wr by_ _ rfl).2
         have hob : Hid (BOwn (wr.alloc (.cells #[.int .u8 (by_.toNat : Int)] 5)) w1.heap.size (.slice A2 L.length c2) L) := ho.out.alloc _
         have hsz := hb.out.size
         have hlL : Hid (L.length ≤ 8) := by show _ ≤ _; omega
         clear hl8
         go_wp2_with (at_builtin; refine wpList_append_any _ rfl (.tmp 14) (.tmp 20) _ rfl w1.heap.size 5 i0 _ 1 1 Try.underlying85 hi0 hz0 hz1 hz2 rfl (by omega) (.slice A2 L.length c2) L.length (flat bC L) rfl hob.out.2 (wr.heap.size + 1) (some ⟨wr.heap.size, 0, none⟩) 1 1 (flat bC [by_]) rfl hrd.out (bC_one _) (by have := hlL.out; simp only [maxLen]; omega) (by have := hlL.out; omega) (by simp; omega) ?_; intro v' w4 hown1 hg1 hat1)
         have hown2 : Hid (BOwn w4 w1.heap.size v' (L ++ [by_])) := ⟨bC_len, by rw [List.length_append, flat_append]; exact hown1⟩
         have hbw2 : Hid (Below w1.heap.size w1 w4) := (hb.out.alloc hb.out.size _).trans (below_own hob.out (by simp; omega) hg1)
         clear hown1 hg1 hat1
         go_wp2_with fail
         go_roundw
         case rel => exact ⟨2 + 1, by omega, by go_num, by rw [hL9, hs8.out]; exact hown2.out, hbw2.out⟩
         case measure => simp [intOf]
       | 3, _, _ =>
         have hv : c.key / 4294967296 % 256 = ((keyAt c.key 3).toNat : Int) := by unfold keyAt; simp; omega
         have hs8 := Lib.hid (keyL_snoc c.key 3)
         have hl8 := keyL_len c.key 3
         generalize keyAt c.key 3 = by_ at *
         generalize keyL c.key 3 = L at *
         generalize hL9 : keyL c.key (3 + 1) = L9 at *
         have hrd : Hid (Reads (wr.alloc (.cells #[.int .u8 (by_.toNat : Int)] 5)) (wr.heap.size + 1) 1 (some ⟨wr.heap.size, 0, none⟩) 1 (flat bC [by_])) := (lit_byte wr by_ _ rfl).2
         have hob : Hid (BOwn (wr.alloc (.cells #[.int .u8 (by_.toNat : Int)] 5)) w1.heap.size (.slice A2 L.length c2) L) := ho.out.alloc _
         have hsz := hb.out.size
         have hlL : Hid (L.length ≤ 8) := by show _ ≤ _; omega
         clear hl8
         go_wp2_with (at_builtin; refine wpList_append_any _ rfl (.tmp 14) (.tmp 20) _ rfl w1.heap.size 5 i0 _ 1 1 Try.underlying85 hi0 hz0 hz1 hz2 rfl (by omega) (.slice A2 L.length c2) L.length (flat bC L) rfl hob.out.2 (wr.heap.size + 1) (some ⟨wr.heap.size, 0, none⟩) 1 1 (flat bC [by_]) rfl hrd.out (bC_one _) (by have := hlL.out; simp only [maxLen]; omega) (by have := hlL.out; omega) (by simp; omega) ?_; intro v' w4 hown1 hg1 hat1)
         have hown2 : Hid (BOwn w4 w1.heap.size v' (L ++ [by_])) := ⟨bC_len, by rw [List.length_append, flat_append]; exact hown1⟩
         have hbw2 : Hid (Below w1.heap.size w1 w4) := (hb.out.alloc hb.out.size _).trans (below_own hob.out (by simp; omega) hg1)
         clear hown1 hg1 hat1
         go_wp2_with fail
         go_roundw
         case rel => exact ⟨3 + 1, by omega, by go_num, by rw [hL9, hs8.out]; exact hown2.out, hbw2.out⟩
         case measure => simp [intOf]
       | 4, _, _ =>
         have hv : c.key / 16777216 % 256 = ((keyAt c.key 4).toNat : Int) := by unfold keyAt; simp; omega
         have hs8 := Lib.hid (keyL_snoc c.key 4)
         have hl8 := keyL_len c.key 4
         generalize keyAt c.key 4 = by_ at *
         generalize keyL c.key 4 = L at *
         generalize hL9 : keyL c.key (4 + 1) = L9 at *
         have hrd : Hid (Reads (wr.alloc (.cells #[.int .u8 (by_.toNat : Int)] 5)) (wr.heap.size + 1) 1 (some ⟨wr.heap.size, 0, none⟩) 1 (flat bC [by_])) := (lit_byte wr by_ _ rfl).2
         have hob : Hid (BOwn (wr.alloc (.cells #[.int .u8 (by_.toNat : Int)] 5)) w1.heap.size (.slice A2 L.length c2) L) := ho.out.alloc _
         have hsz := hb.out.size
         have hlL : Hid (L.length ≤ 8) := by show _ ≤ _; omega
         clear hl8
         go_wp2_with (at_builtin; refine wpList_append_any _ rfl (.tmp 14) (.tmp 20) _ rfl w1.heap.size 5 i0 _ 1 1 Try.underlying85 hi0 hz0 hz1 hz2 rfl (by omega) (.slice A2 L.length c2) L.length (flat bC L) rfl hob.out.2 (wr.heap.size + 1) (some ⟨wr.heap.size, 0, none⟩) 1 1 (flat bC [by_]) rfl hrd.out (bC_one _) (by have := hlL.out; simp only [maxLen]; omega) (by have := hlL.out; omega) (by simp; omega) ?_; intro v' w4 hown1 hg1 hat1)
         have hown2 : Hid (BOwn w4 w1.heap.size v' (L ++ [by_])) := ⟨bC_len, by rw [List.length_append, flat_append]; exact hown1⟩
         have hbw2 : Hid (Below w1.heap.size w1 w4) := (hb.out.alloc hb.out.size _).trans (below_own hob.out (by simp; omega) hg1)
         clear hown1 hg1 hat1
         go_wp2_with fail
         go_roundw
         case rel => exact ⟨4 + 1, by omega, by go_num, by rw [hL9, hs8.out]; exact hown2.out, hbw2.out⟩
         case measure => simp [intOf]
       | 5, _, _ =>
         have hv : c.key / 65536 % 256 = ((keyAt c.key 5).toNat : Int) := by unfold keyAt; simp; omega
         have hs8 := Lib.hid (keyL_snoc c.key 5)
         have hl8 := keyL_len c.key 5
         generalize keyAt c.key 5 = by_ at *
         generalize keyL c.key 5 = L at *
         generalize hL9 : keyL c.key (5 + 1) = L9 at *
         have hrd : Hid (Reads (wr.alloc (.cells #[.int .u8 (by_.toNat : Int)] 5)) (wr.heap.size + 1) 1 (some ⟨wr.heap.size, 0, none⟩) 1 (flat bC [by_])) := (lit_byte wr by_ _ rfl).2
         have hob : Hid (BOwn (wr.alloc (.cells #[.int .u8 (by_.toNat : Int)] 5)) w1.heap.size (.slice A2 L.length c2) L) := ho.out.alloc _
         have hsz := hb.out.size
         have hlL : Hid (L.length ≤ 8) := by show _ ≤ _; omega
         clear hl8
         go_wp2_with (at_builtin; refine wpList_append_any _ rfl (.tmp 14) (.tmp 20) _ rfl w1.heap.size 5 i0 _ 1 1 Try.underlying85 hi0 hz0 hz1 hz2 rfl (by omega) (.slice A2 L.length c2) L.length (flat bC L) rfl hob.out.2 (wr.heap.size + 1) (some ⟨wr.heap.size, 0, none⟩) 1 1 (flat bC [by_]) rfl hrd.out (bC_one _) (by have := hlL.out; simp only [maxLen]; omega) (by have := hlL.out; omega) (by simp; omega) ?_; intro v' w4 hown1 hg1 hat1)
         have hown2 : Hid (BOwn w4 w1.heap.size v' (L ++ [by_])) := ⟨bC_len, by rw [List.length_append, flat_append]; exact hown1⟩
         have hbw2 : Hid (Below w1.heap.size w1 w4) := (hb.out.alloc hb.out.size _).trans (below_own hob.out (by simp; omega) hg1)
         clear hown1 hg1 hat1
         go_wp2_with fail
         go_roundw
         case rel => exact ⟨5 + 1, by omega, by go_num, by rw [hL9, hs8.out]; exact hown2.out, hbw2.out⟩
         case measure => simp [intOf]
       | 6, _, _ =>
         have hv : c.key / 256 % 256 = ((keyAt c.key 6).toNat : Int) := by unfold keyAt; simp; omega
         have hs8 := Lib.hid (keyL_snoc c.key 6)
         have hl8 := keyL_len c.key 6
         generalize keyAt c.key 6 = by_ at *
         generalize keyL c.key 6 = L at *
         generalize hL9 : keyL c.key (6 + 1) = L9 at *
         have hrd : Hid (Reads (wr.alloc (.cells #[.int .u8 (by_.toNat : Int)] 5)) (wr.heap.size + 1) 1 (some ⟨wr.heap.size, 0, none⟩) 1 (flat bC [by_])) := (lit_byte wr by_ _ rfl).2
         have hob : Hid (BOwn (wr.alloc (.cells #[.int .u8 (by_.toNat : Int)] 5)) w1.heap.size (.slice A2 L.length c2) L) := ho.out.alloc _
         have hsz := hb.out.size
         have hlL : Hid (L.length ≤ 8) := by show _ ≤ _; omega
         clear hl8
         go_wp2_with (at_builtin; refine wpList_append_any _ rfl (.tmp 14) (.tmp 20) _ rfl w1.heap.size 5 i0 _ 1 1 Try.underlying85 hi0 hz0 hz1 hz2 rfl (by omega) (.slice A2 L.length c2) L.length (flat bC L) rfl hob.out.2 (wr.heap.size + 1) (some ⟨wr.heap.size, 0, none⟩) 1 1 (flat bC [by_]) rfl hrd.out (bC_one _) (by have := hlL.out; simp only [maxLen]; omega) (by have := hlL.out; omega) (by simp; omega) ?_; intro v' w4 hown1 hg1 hat1)
         have hown2 : Hid (BOwn w4 w1.heap.size v' (L ++ [by_])) := ⟨bC_len, by rw [List.length_append, flat_append]; exact hown1⟩
         have hbw2 : Hid (Below w1.heap.size w1 w4) := (hb.out.alloc hb.out.size _).trans (below_own hob.out (by simp; omega) hg1)
         clear hown1 hg1 hat1
         go_wp2_with fail
         go_roundw
         case rel => exact ⟨6 + 1, by omega, by go_num, by rw [hL9, hs8.out]; exact hown2.out, hbw2.out⟩
         case measure => simp [intOf]
       | 7, _, _ =>
         have hv : c.key % 256 = ((keyAt c.key 7).toNat : Int) := by unfold keyAt; simp; omega
         have hs8 := Lib.hid (keyL_snoc c.key 7)
         have hl8 := keyL_len c.key 7
         generalize keyAt c.key 7 = by_ at *
         generalize keyL c.key 7 = L at *
         generalize hL9 : keyL c.key (7 + 1) = L9 at *
         have hrd : Hid (Reads (wr.alloc (.cells #[.int .u8 (by_.toNat : Int)] 5)) (wr.heap.size + 1) 1 (some ⟨wr.heap.size, 0, none⟩) 1 (flat bC [by_])) := (lit_byte wr by_ _ rfl).2
         have hob : Hid (BOwn (wr.alloc (.cells #[.int .u8 (by_.toNat : Int)] 5)) w1.heap.size (.slice A2 L.length c2) L) := ho.out.alloc _
         have hsz := hb.out.size
         have hlL : Hid (L.length ≤ 8) := by show _ ≤ _; omega
         clear hl8
         go_wp2_with (at_builtin; refine wpList_append_any _ rfl (.tmp 14) (.tmp 20) _ rfl w1.heap.size 5 i0 _ 1 1 Try.underlying85 hi0 hz0 hz1 hz2 rfl (by omega) (.slice A2 L.length c2) L.length (flat bC L) rfl hob.out.2 (wr.heap.size + 1) (some ⟨wr.heap.size, 0, none⟩) 1 1 (flat bC [by_]) rfl hrd.out (bC_one _) (by have := hlL.out; simp only [maxLen]; omega) (by have := hlL.out; omega) (by simp; omega) ?_; intro v' w4 hown1 hg1 hat1)
         have hown2 : Hid (BOwn w4 w1.heap.size v' (L ++ [by_])) := ⟨bC_len, by rw [List.length_append, flat_append]; exact hown1⟩
         have hbw2 : Hid (Below w1.heap.size w1 w4) := (hb.out.alloc hb.out.size _).trans (below_own hob.out (by simp; omega) hg1)
         clear hown1 hg1 hat1
         go_wp2_with fail
         go_roundw
         case rel => exact ⟨7 + 1, by omega, by go_num, by rw [hL9, hs8.out]; exact hown2.out, hbw2.out⟩
         case measure => simp [intOf]
       | n + 8, h8, h9 => exact absurd h8 (by omega)
  | false =>
    rw [hca] at hw1 kz
    obtain ⟨k0, k1, k2, k3, k4, k5, k6, k7⟩ := kz.out _ (Below.refl _ _)
    replace hw1 := Lib.hid hw1
    go_wp2_with fail
    go_loopw [4, 5] (fun b sh wr => ∃ k : Nat, k ≤ 8 ∧ sh = .int .i64 (56 - 8 * (k : Int)) ∧ Hid (BOwn wr w1.heap.size b (keyL c.key k)) ∧ Hid (Below w1.heap.size w1 wr)) (fun _ sh _ => (intOf sh + 8).toNat)
    case atStart => exact ⟨0, by omega, rfl, LOwn.nil bC_len _ _, by show Below _ _ _; rw [hw1.out]; exact Below.refl _ _⟩
    case round =>
     clear k0 k1 k2 k3 k4 k5 k6 k7
     obtain ⟨k, hk8, rfl, ho, hb⟩ := hrel
     obtain ⟨A2, c2, rfl, hc2, hmx2, -, hA2⟩ := ho.out.form
     replace hA2 := Lib.hid hA2
     obtain ⟨k0, k1, k2, k3, k4, k5, k6, k7⟩ := kz.out _ hb.out
     by_cases hk : k = 8
     · subst hk
       clear hmx2 ho k0 k1 k2 k3 k4 k5 k6 k7
       replace hc2 := Lib.hid hc2
       go_wp2_with fail
       refine RI.region (F := cF w.heap.size c 0) (W := hW w1) (R := R) rfl cF_more (by kernel_rfl) (by kernel_rfl) (by kernel_rfl) (by kernel_rfl) ?_ ?_ ?_ ?_
       · exact hb.out.drew
       · intro t ht
         unfold cF
         split <;> first | trivial | exact rfl | exact ⟨_, _, _, rfl, hA2.out, hc2.out⟩ | (exact absurd ht (by decide))
       · clear hb hA2 hc2
         simp only [List.forall_mem_cons, List.not_mem_nil, false_implies, implies_true, and_true]
         refine ⟨?_, ?_, ?_, ?_, ?_, ?_, ?_, ?_, ?_, ?_, ?_, ?_, ?_, ?_, ?_, ?_, ?_, ?_, ?_, ?_, ?_, ?_, ?_, ?_, ?_, ?_, ?_, ?_, ?_, ?_, ?_, ?_, ?_, ?_⟩
         · intro a w2 hw hf K hK
           have f0 := hf 1 rfl
           simp only [cF] at f0
           clear hf
           go_simp
           exact hK _ _ _ rfl rfl hw (Below.refl _ _)
         · intro a w2 hw hf K hK
           have f0 := hf 23 rfl
           simp only [cF] at f0
           clear hf
           obtain ⟨e0, e1, e2, e3, e4, e5, e6, e7⟩ := kz.out w2 hw
           go_simp
           exact hK _ _ _ rfl rfl hw (Below.refl _ _)
         · intro a w2 hw hf K hK
           have f0 := hf 24 rfl
           simp only [cF] at f0
           clear hf
           go_simp
           refine (putInt_any c.serial w2 (by have := hk.out.s; have := hk.out.f; have := hk.out.t; omega) (by have := hk.out.s; have := hk.out.f; have := hk.out.t; omega)).mono ?_; rintro e w3 ⟨v, rfl, ho, hb⟩
           exact hK _ _ _ rfl (own_sl (w' := w3) ho) (hw.trans (hb.mono hw.size)) hb
         · intro a w2 hw hf K hK
           have f0 := hf 25 rfl
           simp only [cF] at f0
           clear hf
           obtain ⟨A, n, c9, f0, hA, -⟩ := f0
           go_simp
           exact hK _ _ _ rfl ⟨_, _, _, rfl, hA⟩ hw (Below.refl _ _)
         · intro a w2 hw hf K hK
           have f0 := hf 1 rfl
           simp only [cF] at f0
           clear hf
           go_simp
           exact hK _ _ _ rfl rfl hw (Below.refl _ _)
         · intro a w2 hw hf K hK
           have f0 := hf 27 rfl
           simp only [cF] at f0
           clear hf
           obtain ⟨e0, e1, e2, e3, e4, e5, e6, e7⟩ := kz.out w2 hw
           go_simp
           exact hK _ _ _ rfl rfl hw (Below.refl _ _)
         · intro a w2 hw hf K hK
           have f0 := hf 28 rfl
           simp only [cF] at f0
           clear hf
           have hcv := run_bytes_of_string (P := Try.prog) w2 9 85 5 c.subj Try.underlying9 Try.underlying85 Try.underlying5
           have hcap := Lib.hid (grownCap_ge w2 c.subj.size 0 5)
           generalize grownCap w2 c.subj.size 0 5 = cap at hcv hcap
           go_simp
           exact hK _ _ _ rfl (sl_conv w2 c.subj cap (by have := hcap.out; omega) _ _) (below_conv hw hw.size _) (below_conv (Below.refl _ _) (Nat.le_refl _) _)
         · intro a w2 hw hf K hK
           have f0 := hf 29 rfl
           simp only [cF] at f0
           clear hf
           obtain ⟨A, n, c9, f0, hA, -⟩ := f0
           go_simp
           exact hK _ _ _ rfl ⟨_, _, _, rfl, hA⟩ hw (Below.refl _ _)
         · intro a w2 hw hf K hK
           have f0 := hf 1 rfl
           simp only [cF] at f0
           clear hf
           go_simp
           exact hK _ _ _ rfl rfl hw (Below.refl _ _)
         · intro a w2 hw hf K hK
           have f0 := hf 31 rfl
           simp only [cF] at f0
           clear hf
           obtain ⟨e0, e1, e2, e3, e4, e5, e6, e7⟩ := kz.out w2 hw
           go_simp
           exact hK _ _ _ rfl rfl hw (Below.refl _ _)
         · intro a w2 hw hf K hK
           have f0 := hf 32 rfl
           simp only [cF] at f0
           clear hf
           have hcv := run_bytes_of_string (P := Try.prog) w2 9 85 5 c.iss Try.underlying9 Try.underlying85 Try.underlying5
           have hcap := Lib.hid (grownCap_ge w2 c.iss.size 0 5)
           generalize grownCap w2 c.iss.size 0 5 = cap at hcv hcap
           go_simp
           exact hK _ _ _ rfl (sl_conv w2 c.iss cap (by have := hcap.out; omega) _ _) (below_conv hw hw.size _) (below_conv (Below.refl _ _) (Nat.le_refl _) _)
         · intro a w2 hw hf K hK
           have f0 := hf 33 rfl
           simp only [cF] at f0
           clear hf
           obtain ⟨A, n, c9, f0, hA, -⟩ := f0
           go_simp
           exact hK _ _ _ rfl ⟨_, _, _, rfl, hA⟩ hw (Below.refl _ _)
         · intro a w2 hw hf K hK
           have f0 := hf 1 rfl
           simp only [cF] at f0
           clear hf
           go_simp
           exact hK _ _ _ rfl rfl hw (Below.refl _ _)
         · intro a w2 hw hf K hK
           have f0 := hf 35 rfl
           simp only [cF] at f0
           clear hf
           go_simp
           exact hK _ _ _ rfl rfl hw (Below.refl _ _)
         · intro a w2 hw hf K hK
           have f0 := hf 36 rfl
           simp only [cF] at f0
           clear hf
           obtain ⟨e0, e1, e2, e3, e4, e5, e6, e7⟩ := kz.out w2 hw
           go_simp
           exact hK _ _ _ rfl rfl hw (Below.refl _ _)
         · intro a w2 hw hf K hK
           have f0 := hf 37 rfl
           simp only [cF] at f0
           clear hf
           go_simp
           refine (putInt_any c.from_ w2 (by have := hk.out.s; have := hk.out.f; have := hk.out.t; omega) (by have := hk.out.s; have := hk.out.f; have := hk.out.t; omega)).mono ?_; rintro e w3 ⟨v, rfl, ho, hb⟩
           exact hK _ _ _ rfl (own_sl (w' := w3) ho) (hw.trans (hb.mono hw.size)) hb
         · intro a w2 hw hf K hK
           have f0 := hf 38 rfl
           simp only [cF] at f0
           clear hf
           obtain ⟨A, n, c9, f0, hA, -⟩ := f0
           go_simp
           exact hK _ _ _ rfl ⟨_, _, _, rfl, hA⟩ hw (Below.refl _ _)
         · intro a w2 hw hf K hK
           have f0 := hf 1 rfl
           simp only [cF] at f0
           clear hf
           go_simp
           exact hK _ _ _ rfl rfl hw (Below.refl _ _)
         · intro a w2 hw hf K hK
           have f0 := hf 40 rfl
           simp only [cF] at f0
           clear hf
           go_simp
           exact hK _ _ _ rfl rfl hw (Below.refl _ _)
         · intro a w2 hw hf K hK
           have f0 := hf 41 rfl
           simp only [cF] at f0
           clear hf
           obtain ⟨e0, e1, e2, e3, e4, e5, e6, e7⟩ := kz.out w2 hw
           go_simp
           exact hK _ _ _ rfl rfl hw (Below.refl _ _)
         · intro a w2 hw hf K hK
           have f0 := hf 42 rfl
           simp only [cF] at f0
           clear hf
           go_simp
           refine (putInt_any c.to_ w2 (by have := hk.out.s; have := hk.out.f; have := hk.out.t; omega) (by have := hk.out.s; have := hk.out.f; have := hk.out.t; omega)).mono ?_; rintro e w3 ⟨v, rfl, ho, hb⟩
           exact hK _ _ _ rfl (own_sl (w' := w3) ho) (hw.trans (hb.mono hw.size)) hb
         · intro a w2 hw hf K hK
           have f0 := hf 43 rfl
           simp only [cF] at f0
           clear hf
           obtain ⟨A, n, c9, f0, hA, -⟩ := f0
           go_simp
           exact hK _ _ _ rfl ⟨_, _, _, rfl, hA⟩ hw (Below.refl _ _)
         · intro a w2 hw hf K hK
           have f0 := hf 3 rfl
           simp only [cF] at f0
           clear hf
           go_simp
           exact hK _ _ _ rfl rfl hw (Below.refl _ _)
         · intro a w2 hw hf K hK
           have f0 := hf 45 rfl
           simp only [cF] at f0
           clear hf
           go_simp
           refine (putInt_any 0 w2 (by have := hk.out.s; have := hk.out.f; have := hk.out.t; omega) (by have := hk.out.s; have := hk.out.f; have := hk.out.t; omega)).mono ?_; rintro e w3 ⟨v, rfl, ho, hb⟩
           exact hK _ _ _ rfl (own_sl (w' := w3) ho) (hw.trans (hb.mono hw.size)) hb
         · intro a w2 hw hf K hK
           have f0 := hf 46 rfl
           simp only [cF] at f0
           clear hf
           obtain ⟨A, n, c9, f0, hA, -⟩ := f0
           go_simp
           exact hK _ _ _ rfl ⟨_, _, _, rfl, hA⟩ hw (Below.refl _ _)
         · intro a w2 hw hf K hK
           have f0 := hf 4 rfl
           simp only [cF] at f0
           clear hf
           replace f0 := Lib.hid f0
           go_simp
           exact hK _ _ _ rfl f0.out hw (Below.refl _ _)
         · intro a w2 hw hf K hK
           have f0 := hf 48 rfl
           simp only [cF] at f0
           clear hf
           obtain ⟨A, n, c9, f0, hA, -⟩ := f0
           go_simp
           exact hK _ _ _ rfl ⟨_, _, _, rfl, hA⟩ hw (Below.refl _ _)
         · intro a w2 hw hf K hK
           have f0 := hf 26 rfl
           have f1 := hf 30 rfl
           have f2 := hf 34 rfl
           have f3 := hf 39 rfl
           have f4 := hf 44 rfl
           have f5 := hf 47 rfl
           have f6 := hf 49 rfl
           simp only [cF] at f0 f1 f2 f3 f4 f5 f6
           clear hf
           obtain ⟨A0, n0, c0, f0, h0⟩ := f0
           obtain ⟨A1, n1, c1, f1, h1⟩ := f1
           obtain ⟨A2, n2, c2, f2, h2⟩ := f2
           obtain ⟨A3, n3, c3, f3, h3⟩ := f3
           obtain ⟨A4, n4, c4, f4, h4⟩ := f4
           obtain ⟨A5, n5, c5, f5, h5⟩ := f5
           obtain ⟨A6, n6, c6, f6, h6⟩ := f6
           replace h0 := Lib.hid h0
           replace h1 := Lib.hid h1
           replace h2 := Lib.hid h2
           replace h3 := Lib.hid h3
           replace h4 := Lib.hid h4
           replace h5 := Lib.hid h5
           replace h6 := Lib.hid h6
           go_simp
           refine hK _ _ _ rfl ?_ (hw.alloc hw.size _) ((Below.refl _ _).alloc (Nat.le_refl _) _)
           exact fl_seven hk.out 0 w2 h0.out h1.out h2.out h3.out h4.out h5.out h6.out
         · intro a w2 hw hf K hK
           have f0 := hf 50 rfl
           simp only [cF] at f0
           clear hf
           obtain ⟨A, q, n, c9, f0, h1, h2, h3, h4⟩ := f0
           replace h1 := Lib.hid h1
           replace h2 := Lib.hid h2
           replace h3 := Lib.hid h3
           replace h4 := Lib.hid h4
           go_simp
           refine (put_any A q n c9 w2 h1.out h2.out h3.out).mono ?_; rintro e w3 ⟨v, rfl, ho, hb⟩
           rw [h4.out] at ho
           exact hK _ _ _ rfl ⟨_, rfl, own_sl (w' := w3) ho⟩ (hw.trans (hb.mono hw.size)) hb
         · intro a w2 hw hf K hK
           have f0 := hf 51 rfl
           simp only [cF] at f0
           clear hf
           obtain ⟨u, f0, h1⟩ := f0
           replace h1 := Lib.hid h1
           go_simp
           exact hK _ _ _ rfl ⟨_, rfl, h1.out⟩ hw (Below.refl _ _)
         · intro a w2 hw hf K hK
           have f0 := hf 22 rfl
           simp only [cF] at f0
           clear hf
           obtain ⟨u, f0, h1⟩ := f0
           replace h1 := Lib.hid h1
           go_simp
           exact hK _ _ _ rfl h1.out hw (Below.refl _ _)
         · intro a w2 hw hf K hK
           have f0 := hf 22 rfl
           simp only [cF] at f0
           clear hf
           obtain ⟨u, f0, h1⟩ := f0
           replace h1 := Lib.hid h1
           go_simp
           exact hK _ _ _ rfl rfl hw (Below.refl _ _)
         · intro a w2 hw hf K hK
           have f0 := hf 52 rfl
           simp only [cF] at f0
           clear hf
           replace f0 := Lib.hid f0
           go_simp
           exact hK _ _ _ rfl f0.out hw (Below.refl _ _)
         · intro a w2 hw hf K hK
           have f0 := hf 53 rfl
           simp only [cF] at f0
           clear hf
           go_simp
           exact hK _ _ _ rfl rfl hw (Below.refl _ _)
       · intro a' w' hd hs hw hout hf
         have f0 := hf 6
         simp only [cF] at f0
         obtain ⟨tm, df⟩ := a'
         simp only at hd hs f0
         have e := lit_arr tm 55 hs
         rw [show (List.range 55).map (fun i => tm[i]?.getD undef) = [tm[0]?.getD undef, tm[1]?.getD undef, tm[2]?.getD undef, tm[3]?.getD undef, tm[4]?.getD undef, tm[5]?.getD undef, tm[6]?.getD undef, tm[7]?.getD undef, tm[8]?.getD undef, tm[9]?.getD undef, tm[10]?.getD undef, tm[11]?.getD undef, tm[12]?.getD undef, tm[13]?.getD undef, tm[14]?.getD undef, tm[15]?.getD undef, tm[16]?.getD undef, tm[17]?.getD undef, tm[18]?.getD undef, tm[19]?.getD undef, tm[20]?.getD undef, tm[21]?.getD undef, tm[22]?.getD undef, tm[23]?.getD undef, tm[24]?.getD undef, tm[25]?.getD undef, tm[26]?.getD undef, tm[27]?.getD undef, tm[28]?.getD undef, tm[29]?.getD undef, tm[30]?.getD undef, tm[31]?.getD undef, tm[32]?.getD undef, tm[33]?.getD undef, tm[34]?.getD undef, tm[35]?.getD undef, tm[36]?.getD undef, tm[37]?.getD undef, tm[38]?.getD undef, tm[39]?.getD undef, tm[40]?.getD undef, tm[41]?.getD undef, tm[42]?.getD undef, tm[43]?.getD undef, tm[44]?.getD undef, tm[45]?.getD undef, tm[46]?.getD undef, tm[47]?.getD undef, tm[48]?.getD undef, tm[49]?.getD undef, tm[50]?.getD undef, tm[51]?.getD undef, tm[52]?.getD undef, tm[53]?.getD undef, tm[54]?.getD undef] from rfl] at e
         clear hf hout hs
         rw [e, hd]
         clear e hd
         replace f0 := Lib.hid f0
         generalize tm[6]?.getD undef = x6 at f0
         generalize tm[0]?.getD undef = x0
         generalize tm[1]?.getD undef = x1
         generalize tm[2]?.getD undef = x2
         generalize tm[3]?.getD undef = x3
         generalize tm[4]?.getD undef = x4
         generalize tm[5]?.getD undef = x5
         generalize tm[7]?.getD undef = x7
         generalize tm[8]?.getD undef = x8
         generalize tm[9]?.getD undef = x9
         generalize tm[10]?.getD undef = x10
         generalize tm[11]?.getD undef = x11
         generalize tm[12]?.getD undef = x12
         generalize tm[13]?.getD undef = x13
         generalize tm[14]?.getD undef = x14
         generalize tm[15]?.getD undef = x15
         generalize tm[16]?.getD undef = x16
         generalize tm[17]?.getD undef = x17
         generalize tm[18]?.getD undef = x18
         generalize tm[19]?.getD undef = x19
         generalize tm[20]?.getD undef = x20
         generalize tm[21]?.getD undef = x21
         generalize tm[22]?.getD undef = x22
         generalize tm[23]?.getD undef = x23
         generalize tm[24]?.getD undef = x24
         generalize tm[25]?.getD undef = x25
         generalize tm[26]?.getD undef = x26
         generalize tm[27]?.getD undef = x27
         generalize tm[28]?.getD undef = x28
         generalize tm[29]?.getD undef = x29
         generalize tm[30]?.getD undef = x30
         generalize tm[31]?.getD undef = x31
         generalize tm[32]?.getD undef = x32
         generalize tm[33]?.getD undef = x33
         generalize tm[34]?.getD undef = x34
         generalize tm[35]?.getD undef = x35
         generalize tm[36]?.getD undef = x36
         generalize tm[37]?.getD undef = x37
         generalize tm[38]?.getD undef = x38
         generalize tm[39]?.getD undef = x39
         generalize tm[40]?.getD undef = x40
         generalize tm[41]?.getD undef = x41
         generalize tm[42]?.getD undef = x42
         generalize tm[43]?.getD undef = x43
         generalize tm[44]?.getD undef = x44
         generalize tm[45]?.getD undef = x45
         generalize tm[46]?.getD undef = x46
         generalize tm[47]?.getD undef = x47
         generalize tm[48]?.getD undef = x48
         generalize tm[49]?.getD undef = x49
         generalize tm[50]?.getD undef = x50
         generalize tm[51]?.getD undef = x51
         generalize tm[52]?.getD undef = x52
         generalize tm[53]?.getD undef = x53
         generalize tm[54]?.getD undef = x54
         have hbw : Hid (Below w.heap.size w w') := by
           show Below _ _ _
           have hw1 := hw1.out
           subst hw1
           exact below_a hw
         clear hw hw1
         go_wp2_with fail
         go_ret
         exact ⟨_, rfl, f0.out, hbw.out⟩

     · clear hA2
       match k, hk8, hk with
       | 0, _, _ =>
         have hv : c.key / 72057594037927936 = ((keyAt c.key 0).toNat : Int) := by unfold keyAt; simp; omega
         have hs8 := Lib.hid (keyL_snoc c.key 0)
         have hl8 := keyL_len c.key 0
         generalize keyAt c.key 0 = by_ at *
         generalize keyL c.key 0 = L at *
         generalize hL9 : keyL c.key (0 + 1) = L9 at *
         have hrd : Hid (Reads (wr.alloc (.cells #[.int .u8 (by_.toNat : Int)] 5)) (wr.heap.size + 1) 1 (some ⟨wr.heap.size, 0, none⟩) 1 (flat bC [by_])) := (lit_byte wr by_ _ rfl).2
         have hob : Hid (BOwn (wr.alloc (.cells #[.int .u8 (by_.toNat : Int)] 5)) w1.heap.size (.slice A2 L.length c2) L) := ho.out.alloc _
         have hsz := hb.out.size
         have hlL : Hid (L.length ≤ 8) := by show _ ≤ _; omega
         clear hl8
         go_wp2_with (at_builtin; refine wpList_append_any _ rfl (.tmp 14) (.tmp 20) _ rfl w1.heap.size 5 i0 _ 1 1 Try.underlying85 hi0 hz0 hz1 hz2 rfl (by omega) (.slice A2 L.length c2) L.length (flat bC L) rfl hob.out.2 (wr.heap.size + 1) (some ⟨wr.heap.size, 0, none⟩) 1 1 (flat bC [by_]) rfl hrd.out (bC_one _) (by have := hlL.out; simp only [maxLen]; omega) (by have := hlL.out; omega) (by simp; omega) ?_; intro v' w4 hown1 hg1 hat1)
         have hown2 : Hid (BOwn w4 w1.heap.size v' (L ++ [by_])) := ⟨bC_len, by rw [List.length_append, flat_append]; exact hown1⟩
         have hbw2 : Hid (Below w1.heap.size w1 w4) := (hb.out.alloc hb.out.size _).trans (below_own hob.out (by simp; omega) hg1)
         clear hown1 hg1 hat1
         go_wp2_with fail
         go_roundw
         case rel => exact ⟨0 + 1, by omega, by go_num, by rw [hL9, hs8.out]; exact hown2.out, hbw2.out⟩
         case measure => simp [intOf]
       | 1, _, _ =>
         have hv : c.key / 281474976710656 % 256 = ((keyAt c.key 1).toNat : Int) := by unfold keyAt; simp; omega
         have hs8 := Lib.hid (keyL_snoc c.key 1)
         have hl8 := keyL_len c.key 1
         generalize keyAt c.key 1 = by_ at *
         generalize keyL c.key 1 = L at *
         generalize hL9 : keyL c.key (1 + 1) = L9 at *
         have hrd : Hid (Reads (wr.alloc (.cells #[.int .u8 (by_.toNat : Int)] 5)) (wr.heap.size + 1) 1 (some ⟨wr.heap.size, 0, none⟩) 1 (flat bC [by_])) := (lit_byte wr by_ _ rfl).2
         have hob : Hid (BOwn (wr.alloc (.cells #[.int .u8 (by_.toNat : Int)] 5)) w1.heap.size (.slice A2 L.length c2) L) := ho.out.alloc _
         have hsz := hb.out.size
         have hlL : Hid (L.length ≤ 8) := by show _ ≤ _; omega
         clear hl8
         go_wp2_with (at_builtin; refine wpList_append_any _ rfl (.tmp 14) (.tmp 20) _ rfl w1.heap.size 5 i0 _ 1 1 Try.underlying85 hi0 hz0 hz1 hz2 rfl (by omega) (.slice A2 L.length c2) L.length (flat bC L) rfl hob.out.2 (wr.heap.size + 1) (some ⟨wr.heap.size, 0, none⟩) 1 1 (flat bC [by_]) rfl hrd.out (bC_one _) (by have := hlL.out; simp only [maxLen]; omega) (by have := hlL.out; omega) (by simp; omega) ?_; intro v' w4 hown1 hg1 hat1)
         have hown2 : Hid (BOwn w4 w1.heap.size v' (L ++ [by_])) := ⟨bC_len, by rw [List.length_append, flat_append]; exact hown1⟩
         have hbw2 : Hid (Below w1.heap.size w1 w4) := (hb.out.alloc hb.out.size _).trans (below_own hob.out (by simp; omega) hg1)
         clear hown1 hg1 hat1
         go_wp2_with fail
         go_roundw
         case rel => exact ⟨1 + 1, by omega, by go_num, by rw [hL9, hs8.out]; exact hown2.out, hbw2.out⟩
         case measure => simp [intOf]
       | 2, _, _ =>
         have hv : c.key / 1099511627776 % 256 = ((keyAt c.key 2).toNat : Int) := by unfold keyAt; simp; omega
         have hs8 := Lib.hid (keyL_snoc c.key 2)
         have hl8 := keyL_len c.key 2
         generalize keyAt c.key 2 = by_ at *
         generalize keyL c.key 2 = L at *
         generalize hL9 : keyL c.key (2 + 1) = L9 at *
         have hrd : Hid (Reads (wr.alloc (.cells #[.int .u8 (by_.toNat : Int)] 5)) (wr.heap.size + 1) 1 (some ⟨wr.heap.size, 0, none⟩) 1 (flat bC [by_])) := (lit_byte wr by_ _ rfl).2
         have hob : Hid (BOwn (wr.alloc (.cells #[.int .u8 (by_.toNat : Int)] 5)) w1.heap.size (.slice A2 L.length c2) L) := ho.out.alloc _
         have hsz := hb.out.size
         have hlL : Hid (L.length ≤ 8) := by show _ ≤ _; omega
         clear hl8
         go_wp2_with (at_builtin; refine wpList_append_any _ rfl (.tmp 14) (.tmp 20) _ rfl w1.heap.size 5 i0 _ 1 1 Try.underlying85 hi0 hz0 hz1 hz2 rfl (by omega) (.slice A2 L.length c2) L.length (flat bC L) rfl hob.out.2 (wr.heap.size + 1) (some ⟨wr.heap.size, 0, none⟩) 1 1 (flat bC [by_]) rfl hrd.out (bC_one _) (by have := hlL.out; simp only [maxLen]; omega) (by have := hlL.out; omega) (by simp; omega) ?_; intro v' w4 hown1 hg1 hat1)
         have hown2 : Hid (BOwn w4 w1.heap.size v' (L ++ [by_])) := ⟨bC_len, by rw [List.length_append, flat_append]; exact hown1⟩
         have hbw2 : Hid (Below w1.heap.size w1 w4) := (hb.out.alloc hb.out.size _).trans (below_own hob.out (by simp; omega) hg1)
         clear hown1 hg1 hat1
         go_wp2_with fail
         go_roundw
         case rel => exact ⟨2 + 1, by omega, by go_num, by rw [hL9, hs8.out]; exact hown2.out, hbw2.out⟩
         case measure => simp [intOf]
       | 3, _, _ =>
         have hv : c.key / 4294967296 % 256 = ((keyAt c.key 3).toNat : Int) := by unfold keyAt; simp; omega
         have hs8 := Lib.hid (keyL_snoc c.key 3)
         have hl8 := keyL_len c.key 3
         generalize keyAt c.key 3 = by_ at *
         generalize keyL c.key 3 = L at *
         generalize hL9 : keyL c.key (3 + 1) = L9 at *
         have hrd : Hid (Reads (wr.alloc (.cells #[.int .u8 (by_.toNat : Int)] 5)) (wr.heap.size + 1) 1 (some ⟨wr.heap.size, 0, none⟩) 1 (flat bC [by_])) := (lit_byte wr by_ _ rfl).2
         have hob : Hid (BOwn (wr.alloc (.cells #[.int .u8 (by_.toNat : Int)] 5)) w1.heap.size (.slice A2 L.length c2) L) := ho.out.alloc _
         have hsz := hb.out.size
         have hlL : Hid (L.length ≤ 8) := by show _ ≤ _; omega
         clear hl8
         go_wp2_with (at_builtin; refine wpList_append_any _ rfl (.tmp 14) (.tmp 20) _ rfl w1.heap.size 5 i0 _ 1 1 Try.underlying85 hi0 hz0 hz1 hz2 rfl (by omega) (.slice A2 L.length c2) L.length (flat bC L) rfl hob.out.2 (wr.heap.size + 1) (some ⟨wr.heap.size, 0, none⟩) 1 1 (flat bC [by_]) rfl hrd.out (bC_one _) (by have := hlL.out; simp only [maxLen]; omega) (by have := hlL.out; omega) (by simp; omega) ?_; intro v' w4 hown1 hg1 hat1)
         have hown2 : Hid (BOwn w4 w1.heap.size v' (L ++ [by_])) := ⟨bC_len, by rw [List.length_append, flat_append]; exact hown1⟩
         have hbw2 : Hid (Below w1.heap.size w1 w4) := (hb.out.alloc hb.out.size _).trans (below_own hob.out (by simp; omega) hg1)
         clear hown1 hg1 hat1
         go_wp2_with fail
         go_roundw
         case rel => exact ⟨3 + 1, by omega, by go_num, by rw [hL9, hs8.out]; exact hown2.out, hbw2.out⟩
         case measure => simp [intOf]
       | 4, _, _ =>
         have hv : c.key / 16777216 % 256 = ((keyAt c.key 4).toNat : Int) := by unfold keyAt; simp; omega
         have hs8 := Lib.hid (keyL_snoc c.key 4)
         have hl8 := keyL_len c.key 4
         generalize keyAt c.key 4 = by_ at *
         generalize keyL c.key 4 = L at *
         generalize hL9 : keyL c.key (4 + 1) = L9 at *
         have hrd : Hid (Reads (wr.alloc (.cells #[.int .u8 (by_.toNat : Int)] 5)) (wr.heap.size + 1) 1 (some ⟨wr.heap.size, 0, none⟩) 1 (flat bC [by_])) := (lit_byte wr by_ _ rfl).2
         have hob : Hid (BOwn (wr.alloc (.cells #[.int .u8 (by_.toNat : Int)] 5)) w1.heap.size (.slice A2 L.length c2) L) := ho.out.alloc _
         have hsz := hb.out.size
         have hlL : Hid (L.length ≤ 8) := by show _ ≤ _; omega
         clear hl8
         go_wp2_with (at_builtin; refine wpList_append_any _ rfl (.tmp 14) (.tmp 20) _ rfl w1.heap.size 5 i0 _ 1 1 Try.underlying85 hi0 hz0 hz1 hz2 rfl (by omega) (.slice A2 L.length c2) L.length (flat bC L) rfl hob.out.2 (wr.heap.size + 1) (some ⟨wr.heap.size, 0, none⟩) 1 1 (flat bC [by_]) rfl hrd.out (bC_one _) (by have := hlL.out; simp only [maxLen]; omega) (by have := hlL.out; omega) (by simp; omega) ?_; intro v' w4 hown1 hg1 hat1)
         have hown2 : Hid (BOwn w4 w1.heap.size v' (L ++ [by_])) := ⟨bC_len, by rw [List.length_append, flat_append]; exact hown1⟩
         have hbw2 : Hid (Below w1.heap.size w1 w4) := (hb.out.alloc hb.out.size _).trans (below_own hob.out (by simp; omega) hg1)
         clear hown1 hg1 hat1
         go_wp2_with fail
         go_roundw
         case rel => exact ⟨4 + 1, by omega, by go_num, by rw [hL9, hs8.out]; exact hown2.out, hbw2.out⟩
         case measure => simp [intOf]
       | 5, _, _ =>
         have hv : c.key / 65536 % 256 = ((keyAt c.key 5).toNat : Int) := by unfold keyAt; simp; omega
         have hs8 := Lib.hid (keyL_snoc c.key 5)
         have hl8 := keyL_len c.key 5
         generalize keyAt c.key 5 = by_ at *
         generalize keyL c.key 5 = L at *
         generalize hL9 : keyL c.key (5 + 1) = L9 at *
         have hrd : Hid (Reads (wr.alloc (.cells #[.int .u8 (by_.toNat : Int)] 5)) (wr.heap.size + 1) 1 (some ⟨wr.heap.size, 0, none⟩) 1 (flat bC [by_])) := (lit_byte wr by_ _ rfl).2
         have hob : Hid (BOwn (wr.alloc (.cells #[.int .u8 (by_.toNat : Int)] 5)) w1.heap.size (.slice A2 L.length c2) L) := ho.out.alloc _
         have hsz := hb.out.size
         have hlL : Hid (L.length ≤ 8) := by show _ ≤ _; omega
         clear hl8
         go_wp2_with (at_builtin; refine wpList_append_any _ rfl (.tmp 14) (.tmp 20) _ rfl w1.heap.size 5 i0 _ 1 1 Try.underlying85 hi0 hz0 hz1 hz2 rfl (by omega) (.slice A2 L.length c2) L.length (flat bC L) rfl hob.out.2 (wr.heap.size + 1) (some ⟨wr.heap.size, 0, none⟩) 1 1 (flat bC [by_]) rfl hrd.out (bC_one _) (by have := hlL.out; simp only [maxLen]; omega) (by have := hlL.out; omega) (by simp; omega) ?_; intro v' w4 hown1 hg1 hat1)
         have hown2 : Hid (BOwn w4 w1.heap.size v' (L ++ [by_])) := ⟨bC_len, by rw [List.length_append, flat_append]; exact hown1⟩
         have hbw2 : Hid (Below w1.heap.size w1 w4) := (hb.out.alloc hb.out.size _).trans (below_own hob.out (by simp; omega) hg1)
         clear hown1 hg1 hat1
         go_wp2_with fail
         go_roundw
         case rel => exact ⟨5 + 1, by omega, by go_num, by rw [hL9, hs8.out]; exact hown2.out, hbw2.out⟩
         case measure => simp [intOf]
       | 6, _, _ =>
         have hv : c.key / 256 % 256 = ((keyAt c.key 6).toNat : Int) := by unfold keyAt; simp; omega
         have hs8 := Lib.hid (keyL_snoc c.key 6)
         have hl8 := keyL_len c.key 6
         generalize keyAt c.key 6 = by_ at *
         generalize keyL c.key 6 = L at *
         generalize hL9 : keyL c.key (6 + 1) = L9 at *
         have hrd : Hid (Reads (wr.alloc (.cells #[.int .u8 (by_.toNat : Int)] 5)) (wr.heap.size + 1) 1 (some ⟨wr.heap.size, 0, none⟩) 1 (flat bC [by_])) := (lit_byte wr by_ _ rfl).2
         have hob : Hid (BOwn (wr.alloc (.cells #[.int .u8 (by_.toNat : Int)] 5)) w1.heap.size (.slice A2 L.length c2) L) := ho.out.alloc _
         have hsz := hb.out.size
         have hlL : Hid (L.length ≤ 8) := by show _ ≤ _; omega
         clear hl8
         go_wp2_with (at_builtin; refine wpList_append_any _ rfl (.tmp 14) (.tmp 20) _ rfl w1.heap.size 5 i0 _ 1 1 Try.underlying85 hi0 hz0 hz1 hz2 rfl (by omega) (.slice A2 L.length c2) L.length (flat bC L) rfl hob.out.2 (wr.heap.size + 1) (some ⟨wr.heap.size, 0, none⟩) 1 1 (flat bC [by_]) rfl hrd.out (bC_one _) (by have := hlL.out; simp only [maxLen]; omega) (by have := hlL.out; omega) (by simp; omega) ?_; intro v' w4 hown1 hg1 hat1)
         have hown2 : Hid (BOwn w4 w1.heap.size v' (L ++ [by_])) := ⟨bC_len, by rw [List.length_append, flat_append]; exact hown1⟩
         have hbw2 : Hid (Below w1.heap.size w1 w4) := (hb.out.alloc hb.out.size _).trans (below_own hob.out (by simp; omega) hg1)
         clear hown1 hg1 hat1
         go_wp2_with fail
         go_roundw
         case rel => exact ⟨6 + 1, by omega, by go_num, by rw [hL9, hs8.out]; exact hown2.out, hbw2.out⟩
         case measure => simp [intOf]
       | 7, _, _ =>
         have hv : c.key % 256 = ((keyAt c.key 7).toNat : Int) := by unfold keyAt; simp; omega
         have hs8 := Lib.hid (keyL_snoc c.key 7)
         have hl8 := keyL_len c.key 7
         generalize keyAt c.key 7 = by_ at *
         generalize keyL c.key 7 = L at *
         generalize hL9 : keyL c.key (7 + 1) = L9 at *
         have hrd : Hid (Reads (wr.alloc (.cells #[.int .u8 (by_.toNat : Int)] 5)) (wr.heap.size + 1) 1 (some ⟨wr.heap.size, 0, none⟩) 1 (flat bC [by_])) := (lit_byte wr by_ _ rfl).2
         have hob : Hid (BOwn (wr.alloc (.cells #[.int .u8 (by_.toNat : Int)] 5)) w1.heap.size (.slice A2 L.length c2) L) := ho.out.alloc _
         have hsz := hb.out.size
         have hlL : Hid (L.length ≤ 8) := by show _ ≤ _; omega
         clear hl8
         go_wp2_with (at_builtin; refine wpList_append_any _ rfl (.tmp 14) (.tmp 20) _ rfl w1.heap.size 5 i0 _ 1 1 Try.underlying85 hi0 hz0 hz1 hz2 rfl (by omega) (.slice A2 L.length c2) L.length (flat bC L) rfl hob.out.2 (wr.heap.size + 1) (some ⟨wr.heap.size, 0, none⟩) 1 1 (flat bC [by_]) rfl hrd.out (bC_one _) (by have := hlL.out; simp only [maxLen]; omega) (by have := hlL.out; omega) (by simp; omega) ?_; intro v' w4 hown1 hg1 hat1)
         have hown2 : Hid (BOwn w4 w1.heap.size v' (L ++ [by_])) := ⟨bC_len, by rw [List.length_append, flat_append]; exact hown1⟩
         have hbw2 : Hid (Below w1.heap.size w1 w4) := (hb.out.alloc hb.out.size _).trans (below_own hob.out (by simp; omega) hg1)
         clear hown1 hg1 hat1
         go_wp2_with fail
         go_roundw
         case rel => exact ⟨7 + 1, by omega, by go_num, by rw [hL9, hs8.out]; exact hown2.out, hbw2.out⟩
         case measure => simp [intOf]
       | n + 8, h8, h9 => exact absurd h8 (by omega)
end Go.Proofs.Ytiggpgeldigknaa
