/- Certs: the reference's Content. -/
import Derived.Test.YtiggpgeldigknaaCB
set_option linter.unusedVariables false
set_option linter.unusedSimpArgs false
namespace Go.Proofs.Ytiggpgeldigknaa
open Go.RowKit
/-- bytes that read, in a block of bytes -/
def BT (w : World) (A : Option Addr) (n : Nat) (d : List UInt8) : Prop := BAt w w.heap.size A n d ∧ (0 < n → ∃ ad cs m, A = some ad ∧ w.heap[ad.block]? = some (.cells cs 5 m))
theorem BT.keep {w w' : World} {A : Option Addr} {n : Nat} {d : List UInt8} (h : BT w A n d) (hs : w.heap.size ≤ w'.heap.size) (hk : ∀ (k : Nat) cs m, w.heap[k]? = some (Obj.cells cs 5 m) → w'.heap[k]? = w.heap[k]?) : BT w' A n d := by
  obtain ⟨⟨h0, h1⟩, h2⟩ := h
  refine ⟨⟨h0, h1.1, fun hn => ?_⟩, fun hn => ?_⟩
  · obtain ⟨ad, e, hb, hc⟩ := h1.2 hn
    obtain ⟨ad', cs, m, e', hh⟩ := h2 hn
    rw [e] at e'; cases e'
    refine ⟨ad, e, by omega, fun j u hu => ?_⟩
    rw [World.cell?_of_block (w := w) (by rw [add_block]; exact hk _ _ _ hh)]
    exact hc j u hu
  · obtain ⟨ad, cs, m, e, hh⟩ := h2 hn
    exact ⟨ad, cs, m, e, (hk _ _ _ hh).trans hh⟩
theorem BT.below {w w' : World} {A : Option Addr} {n : Nat} {d : List UInt8} (h : BT w A n d) (hb : Below w.heap.size w w') : BT w' A n d := h.keep hb.size fun k cs m hh => hb.block k (lt_of_heap hh)
theorem BT.alloc {w : World} {A : Option Addr} {n : Nat} {d : List UInt8} (h : BT w A n d) (o : Obj) : BT (w.alloc o) A n d := h.below (a1 w o)
theorem BT.grown {w w' : World} {A : Option Addr} {n base k : Nat} {d : List UInt8} {v : Value} {xs : List Value} (h : BT w A n d) (ho : w.ownsRow base 117 2 v k xs) (hg : w.grownBy w' v.ownBlock) : BT w' A n d :=
  h.keep hg.size fun k cs m hh => hg.block k (lt_of_heap hh) (fun e => by
    rcases ho.2 with ⟨rfl, _⟩ | ⟨g', cap, cur, rfl, _, hg', _⟩
    · simp [Value.ownBlock] at e
    · have : k = g' := by simpa [Value.ownBlock] using e
      subst this
      rw [hh] at hg'
      injection hg' with hg'
      injection hg' with _ e5 _
      exact absurd e5 (by decide))
theorem bt_own {w : World} {base : Nat} {v : Value} {d : List UInt8} (h : BOwn w base v d) : ∃ A n c, v = .slice A n c ∧ BT w A n d ∧ n ≤ c := by
  have h2 := h.2.2
  obtain ⟨A, c, rfl, hc, -, -, hA⟩ := h.form
  refine ⟨A, _, c, rfl, ⟨hA, fun hn => ?_⟩, hc⟩
  rcases h2 with ⟨e, e0⟩ | ⟨g, cap, cur, e, _, hh, _⟩
  · omega
  · injection e with eA _ _
    exact ⟨_, cur, _, eA, hh⟩
theorem bt_conv (w : World) (s : ByteArray) (cap : Nat) (hc : s.size ≤ cap) (lo hi : Nat) : BT (w.alloc (.cells (bytesRow s cap) 5 (lo, hi))) (some ⟨w.heap.size, 0, none⟩) s.size s.data.toList := by
  obtain ⟨A, n, c, e, h, -⟩ := sl_conv w s cap hc lo hi
  injection e with eA en ec
  subst eA en ec
  exact ⟨h, fun _ => ⟨_, _, _, rfl, heap_alloc_new w _⟩⟩
structure LF (w : World) (base : Nat) (v : Value) (L : List Fd) : Prop where
  own : LOwn fdC 2 117 w base v L
  dat : ∀ f ∈ L, BT w f.A f.n f.d
theorem LF.below {w w' : World} {base : Nat} {v : Value} {L : List Fd} (h : LF w base v L) (hb : Below w.heap.size w w') : LF w' base v L := ⟨h.own.kept hb, fun f hf => (h.dat f hf).below hb⟩
theorem LF.alloc {w : World} {base : Nat} {v : Value} {L : List Fd} (h : LF w base v L) (o : Obj) : LF (w.alloc o) base v L := h.below (a1 w o)
theorem BT.drew {w : World} {A : Option Addr} {n : Nat} {d : List UInt8} (h : BT w A n d) : BT w.drew A n d := h
theorem LF.drew {w : World} {base : Nat} {v : Value} {L : List Fd} (h : LF w base v L) : LF w.drew base v L := ⟨h.own.drew, fun f hf => (h.dat f hf).drew⟩
theorem lf_app {w w' : World} {base : Nat} {v v' : Value} {L : List Fd} {f : Fd} (h : LF w base v L) (hf : BT w f.A f.n f.d) (ho : w'.ownsRow base 117 2 v' (L.length + 1) (flat fdC L ++ flat fdC [f])) (hg : w.grownBy w' v.ownBlock) : LF w' base v' (L ++ [f]) := by
  refine ⟨⟨fdC_len, by rw [List.length_append, flat_append]; exact ho⟩, fun x hx => ?_⟩
  rcases List.mem_append.1 hx with hx | hx
  · exact (h.dat x hx).grown h.own.2 hg
  · rw [List.mem_singleton] at hx
    subst hx
    exact hf.grown h.own.2 hg
theorem below_own2 {w w' : World} {base e size n : Nat} {v : Value} {xs : List Value} (h : w.ownsRow base e size v n xs) (hb : base ≤ w.heap.size) (hg : w.grownBy w' v.ownBlock) : Below base w w' :=
  (Below.refl base w).grown hg hb (fun g hg => (World.ownsRow.lt h g hg).1)
theorem fd_info : (Try.prog.info? 117).map (fun i => (i.zero, i.size, i.bytes)) = some (some (Value.agg #[.int .i64 0, .slice none 0 0]), 2, 32) := by kernel_rfl
theorem fd_one (f : Fd) : ∀ u ∈ flat fdC [f], u.oneCell' = true := by
  intro u hu
  rw [flat_one] at hu
  simp only [fdC, List.mem_cons, List.not_mem_nil, or_false] at hu
  rcases hu with rfl | rfl <;> rfl
theorem fd_lit (w : World) (t : Int) (A : Option Addr) (n c : Nat) (d : List UInt8) : Reads (w.alloc (.cells #[.int .i64 t, .slice A n c] 117)) (w.heap.size + 1) 2 (some ⟨w.heap.size, 0, none⟩) 1 (flat fdC [⟨t, A, n, c, d⟩]) := (lit_at fdC_len w [⟨t, A, n, c, d⟩] _ rfl).2
theorem seven_ok {c : Ct} (hk : CtOk c) (ci : Int) (A0 A1 A2 A3 A4 A5 A6 : Option Addr) (n0 n1 n2 n3 n4 n5 n6 c0 c1 c2 c3 c4 c5 c6 : Nat) :
    FdOk [⟨1, A0, n0, c0, enc (zig c.serial)⟩, ⟨2, A1, n1, c1, c.subj.data.toList⟩, ⟨3, A2, n2, c2, c.iss.data.toList⟩, ⟨4, A3, n3, c3, enc (zig c.from_)⟩, ⟨5, A4, n4, c4, enc (zig c.to_)⟩, ⟨6, A5, n5, c5, enc (zig ci)⟩, ⟨7, A6, n6, c6, keyL c.key 8⟩] ∧ putB [⟨1, A0, n0, c0, enc (zig c.serial)⟩, ⟨2, A1, n1, c1, c.subj.data.toList⟩, ⟨3, A2, n2, c2, c.iss.data.toList⟩, ⟨4, A3, n3, c3, enc (zig c.from_)⟩, ⟨5, A4, n4, c4, enc (zig c.to_)⟩, ⟨6, A5, n5, c5, enc (zig ci)⟩, ⟨7, A6, n6, c6, keyL c.key 8⟩] = ctB c ci := by
  have hB : putB [⟨1, A0, n0, c0, enc (zig c.serial)⟩, ⟨2, A1, n1, c1, c.subj.data.toList⟩, ⟨3, A2, n2, c2, c.iss.data.toList⟩, ⟨4, A3, n3, c3, enc (zig c.from_)⟩, ⟨5, A4, n4, c4, enc (zig c.to_)⟩, ⟨6, A5, n5, c5, enc (zig ci)⟩, ⟨7, A6, n6, c6, keyL c.key 8⟩] = ctB c ci := by
    simp only [putB, List.flatMap_cons, List.flatMap_nil, put1, ctB, fdB, List.append_nil, List.append_assoc]
  refine ⟨?_, hB⟩
  have hl := ctB_le hk ci
  refine ⟨by simp, ?_, ?_, by rw [hB]; omega⟩
  · intro i h
    match i, h with
    | 0, _ => simp
    | 1, _ => simp
    | 2, _ => simp
    | 3, _ => simp
    | 4, _ => simp
    | 5, _ => simp
    | 6, _ => simp
  · intro i h
    match i, h with
    | 0, _ => simp
    | 1, _ => simp
    | 2, _ => simp
    | 3, _ => simp
    | 4, _ => simp
    | 5, _ => simp
set_option maxRecDepth 100000 in
set_option maxHeartbeats 20000000 in
theorem rcontent_any (c : Ct) (w : World) (hk : CtOk c) :
    Calls Try.prog 55 #[.agg (ctC c).toArray] w fun e w' => ∃ v, e = .returned v ∧ Sl (ctB c (caI c.ca)) v w' ∧ Below w.heap.size w w' := by
  obtain ⟨i0, hi0, hz0, hz1, hz2⟩ := info_parts byte_info
  obtain ⟨i1, hi1, hz10, hz11, hz12⟩ := info_parts fd_info
  replace hi1 := Lib.hid hi1
  replace hz10 := Lib.hid hz10
  replace hz11 := Lib.hid hz11
  replace hz12 := Lib.hid hz12
  obtain ⟨hk0, hk1⟩ := hk.k
  replace hk := Lib.hid hk
  have kz : ∀ wz, Below (w.alloc (.cells #[Value.int .i64 c.serial, Value.string c.subj, Value.string c.iss, Value.int .i64 c.from_, Value.int .i64 c.to_, Value.bool c.ca, Value.int .u64 c.key, Value.int .u64 c.sl] 52)).heap.size (w.alloc (.cells #[Value.int .i64 c.serial, Value.string c.subj, Value.string c.iss, Value.int .i64 c.from_, Value.int .i64 c.to_, Value.bool c.ca, Value.int .u64 c.key, Value.int .u64 c.sl] 52)) wz → wz.cell? ⟨w.heap.size, 0, none⟩ = some (Value.int .i64 c.serial) ∧ wz.cell? ⟨w.heap.size, 1, none⟩ = some (Value.string c.subj) ∧ wz.cell? ⟨w.heap.size, 2, none⟩ = some (Value.string c.iss) ∧ wz.cell? ⟨w.heap.size, 3, none⟩ = some (Value.int .i64 c.from_) ∧ wz.cell? ⟨w.heap.size, 4, none⟩ = some (Value.int .i64 c.to_) ∧ wz.cell? ⟨w.heap.size, 5, none⟩ = some (Value.bool c.ca) ∧ wz.cell? ⟨w.heap.size, 6, none⟩ = some (Value.int .u64 c.key) ∧ wz.cell? ⟨w.heap.size, 7, none⟩ = some (Value.int .u64 c.sl) := fun wz h => by
    obtain ⟨k0, k1, k2, k3, k4, k5, k6, k7⟩ := ct_box w c wz h
    exact ⟨k0, k1, k2, k3, k4, k5, k6, k7⟩
  replace kz := Lib.hid kz
  go_enter Try.func55, Try.ntmps55
  unfold ctC
  generalize hw1 : w.alloc (.cells #[Value.int .i64 c.serial, Value.string c.subj, Value.string c.iss, Value.int .i64 c.from_, Value.int .i64 c.to_, Value.bool c.ca, Value.int .u64 c.key, Value.int .u64 c.sl] 52) = w1 at kz
  cases hca : c.ca with
  | true =>
    rw [hca] at hw1 kz
    obtain ⟨k0, k1, k2, k3, k4, k5, k6, k7⟩ := kz.out _ (Below.refl _ _)
    replace hw1 := Lib.hid hw1
    go_wp2_with fail
    go_loopw [4, 5] (fun b sh wr => ∃ k : Nat, k ≤ 8 ∧ sh = .int .i64 (7 - (k : Int)) ∧ Hid (BOwn wr w1.heap.size b (keyL c.key k)) ∧ Hid (Below w1.heap.size w1 wr)) (fun _ sh _ => (intOf sh + 8).toNat)
    case atStart => exact ⟨0, by omega, rfl, LOwn.nil bC_len _ _, by show Below _ _ _; rw [hw1.out]; exact Below.refl _ _⟩
    case round =>
     clear k0 k1 k2 k3 k4 k5 k6 k7
     obtain ⟨k, hk8, rfl, ho, hb⟩ := hrel
     by_cases hk9 : k = 8
     · subst hk9
       obtain ⟨Ak, nk, ck, rfl, hq, -⟩ := bt_own ho.out
       replace hq := Lib.hid hq
       clear ho
       have hL : Hid (LF wr w1.heap.size (.slice none 0 0) []) := ⟨LOwn.nil fdC_len _ _, fun f hf => by cases hf⟩
       obtain ⟨k0, k1, k2, k3, k4, k5, k6, k7⟩ := kz.out _ hb.out
       clear hi0 hz0 hz1 hz2
       go_wp2_with fail
       clear k0 k1 k2 k3 k4 k5 k6 k7
       refine (rputInt_any (c.serial) wr (by have := hk.out.s; have := hk.out.f; have := hk.out.t; omega) (by have := hk.out.s; have := hk.out.f; have := hk.out.t; omega)).mono ?_; rintro e u0 ⟨vd, rfl, ho, hbd⟩
       obtain ⟨A0, n0, c0, rfl, hd, -⟩ := bt_own ho
       clear ho
       replace hL := Lib.hid (hL.out.below hbd)
       replace hq := Lib.hid (hq.out.below hbd)
       replace hb := Lib.hid (hb.out.trans (hbd.mono hb.out.size))
       clear hbd
       obtain ⟨F0, hF0⟩ : ∃ f : Fd, f = ⟨1, A0, n0, c0, enc (zig c.serial)⟩ := ⟨_, rfl⟩
       replace hF0 := Lib.hid hF0
       obtain ⟨k0, k1, k2, k3, k4, k5, k6, k7⟩ := kz.out _ hb.out
       have hda : Hid (BT (u0.alloc (.cells #[.int .i64 1, .slice A0 n0 c0] 117)) F0.A F0.n F0.d) := by show BT _ _ _ _; rw [hF0.out]; exact hd.alloc _
       have hrd : Hid (Reads (u0.alloc (.cells #[.int .i64 1, .slice A0 n0 c0] 117)) (u0.heap.size + 1) 2 (some ⟨u0.heap.size, 0, none⟩) 1 (flat fdC [F0])) := by show Reads _ _ _ _ _ _; rw [hF0.out]; exact fd_lit _ _ _ _ _ _
       clear hd
       replace hL : Hid (LF (u0.alloc (.cells #[.int .i64 1, .slice A0 n0 c0] 117)) w1.heap.size (.slice none 0 0) []) := hL.out.alloc _
       replace hq : Hid (BT (u0.alloc (.cells #[.int .i64 1, .slice A0 n0 c0] 117)) Ak nk (keyL c.key 8)) := hq.out.alloc _
       replace hb : Hid (Below w1.heap.size w1 (u0.alloc (.cells #[.int .i64 1, .slice A0 n0 c0] 117))) := hb.out.alloc hb.out.size _
       have hsz := Lib.hid hb.out.size
       go_wp2_with (first
         | (at_builtin
            refine wpList_append_any _ rfl (.tmp 25) (.tmp 30) _ rfl w1.heap.size 117 i1 _ 2 32 Try.underlying118 hi1.out hz10.out hz11.out hz12.out rfl (by omega) (.slice none 0 0) 0 (flat fdC []) rfl hL.out.own.2 (u0.heap.size + 1) (some ⟨u0.heap.size, 0, none⟩) 1 1 (flat fdC [F0]) rfl hrd.out (fd_one _) (by decide) (by decide) hsz.out ?_
            intro v1 w10 hown1 hg1 hat1
            have hq2 := Lib.hid (hq.out.grown hL.out.own.2 hg1)
            have hb2 := Lib.hid (hb.out.trans (below_own2 hL.out.own.2 hsz.out hg1))
            have hL2 : Hid (LF w10 w1.heap.size v1 [F0]) := lf_app hL.out hda.out hown1 hg1
            clear hown1 hg1 hat1 hL hq hb hda hrd hsz k0 k1 k2 k3 k4 k5 k6 k7
            have hL := hL2
            have hq := hq2
            have hb := hb2
            clear hL2 hq2 hb2
            obtain ⟨k0, k1, k2, k3, k4, k5, k6, k7⟩ := kz.out _ hb.out
            have hcv1 := run_bytes_of_string (P := Try.prog) w10 9 85 5 c.subj Try.underlying9 Try.underlying85 Try.underlying5
            have hcap1 := Lib.hid (grownCap_ge w10 c.subj.size 0 5)
            generalize grownCap w10 c.subj.size 0 5 = cap1 at hcv1 hcap1
            obtain ⟨F1, hF1⟩ : ∃ f : Fd, f = ⟨2, some ⟨w10.heap.size, 0, none⟩, c.subj.size, cap1, c.subj.data.toList⟩ := ⟨_, rfl⟩
            replace hF1 := Lib.hid hF1
            have hda : Hid (BT (((w10.alloc (.cells (bytesRow c.subj cap1) 5 ((bytesRow c.subj cap1).size, (bytesRow c.subj cap1).size + 1))).alloc (.cells #[.int .i64 2, .slice (some ⟨w10.heap.size, 0, none⟩) c.subj.size cap1] 117)).drew) F1.A F1.n F1.d) := by show BT _ _ _ _; rw [hF1.out]; exact ((bt_conv w10 c.subj cap1 (by have := hcap1.out; omega) _ _).alloc _).drew
            have hrd : Hid (Reads (((w10.alloc (.cells (bytesRow c.subj cap1) 5 ((bytesRow c.subj cap1).size, (bytesRow c.subj cap1).size + 1))).alloc (.cells #[.int .i64 2, .slice (some ⟨w10.heap.size, 0, none⟩) c.subj.size cap1] 117)).drew) (w10.heap.size + 1 + 1) 2 (some ⟨w10.heap.size + 1, 0, none⟩) 1 (flat fdC [F1])) := by show Reads _ _ _ _ _ _; rw [hF1.out]; have := (fd_lit (w10.alloc (.cells (bytesRow c.subj cap1) 5 ((bytesRow c.subj cap1).size, (bytesRow c.subj cap1).size + 1))) 2 (some ⟨w10.heap.size, 0, none⟩) c.subj.size cap1 (c.subj.data.toList)).drew; simpa using this
            replace hL : Hid (LF (((w10.alloc (.cells (bytesRow c.subj cap1) 5 ((bytesRow c.subj cap1).size, (bytesRow c.subj cap1).size + 1))).alloc (.cells #[.int .i64 2, .slice (some ⟨w10.heap.size, 0, none⟩) c.subj.size cap1] 117)).drew) w1.heap.size v1 [F0]) := ((hL.out.alloc _).alloc _).drew
            replace hq : Hid (BT (((w10.alloc (.cells (bytesRow c.subj cap1) 5 ((bytesRow c.subj cap1).size, (bytesRow c.subj cap1).size + 1))).alloc (.cells #[.int .i64 2, .slice (some ⟨w10.heap.size, 0, none⟩) c.subj.size cap1] 117)).drew) Ak nk (keyL c.key 8)) := ((hq.out.alloc _).alloc _).drew
            replace hb : Hid (Below w1.heap.size w1 (((w10.alloc (.cells (bytesRow c.subj cap1) 5 ((bytesRow c.subj cap1).size, (bytesRow c.subj cap1).size + 1))).alloc (.cells #[.int .i64 2, .slice (some ⟨w10.heap.size, 0, none⟩) c.subj.size cap1] 117)).drew)) := ((hb.out.alloc hb.out.size _).alloc (by have := hb.out.size; simp; omega) _).drew
            have hsz := Lib.hid hb.out.size)
         | (at_builtin
            refine wpList_append_any _ rfl (.tmp 32) (.tmp 37) _ rfl w1.heap.size 117 i1 _ 2 32 Try.underlying118 hi1.out hz10.out hz11.out hz12.out rfl (by omega) v1 1 (flat fdC [F0]) rfl hL.out.own.2 (w10.heap.size + 1 + 1) (some ⟨w10.heap.size + 1, 0, none⟩) 1 1 (flat fdC [F1]) rfl hrd.out (fd_one _) (by decide) (by decide) hsz.out ?_
            intro v2 w11 hown1 hg1 hat1
            have hq2 := Lib.hid (hq.out.grown hL.out.own.2 hg1)
            have hb2 := Lib.hid (hb.out.trans (below_own2 hL.out.own.2 hsz.out hg1))
            have hL2 : Hid (LF w11 w1.heap.size v2 [F0, F1]) := lf_app hL.out hda.out hown1 hg1
            clear hcv1 hcap1
            clear hown1 hg1 hat1 hL hq hb hda hrd hsz k0 k1 k2 k3 k4 k5 k6 k7
            have hL := hL2
            have hq := hq2
            have hb := hb2
            clear hL2 hq2 hb2
            obtain ⟨k0, k1, k2, k3, k4, k5, k6, k7⟩ := kz.out _ hb.out
            have hcv2 := run_bytes_of_string (P := Try.prog) w11 9 85 5 c.iss Try.underlying9 Try.underlying85 Try.underlying5
            have hcap2 := Lib.hid (grownCap_ge w11 c.iss.size 0 5)
            generalize grownCap w11 c.iss.size 0 5 = cap2 at hcv2 hcap2
            obtain ⟨F2, hF2⟩ : ∃ f : Fd, f = ⟨3, some ⟨w11.heap.size, 0, none⟩, c.iss.size, cap2, c.iss.data.toList⟩ := ⟨_, rfl⟩
            replace hF2 := Lib.hid hF2
            have hda : Hid (BT (((w11.alloc (.cells (bytesRow c.iss cap2) 5 ((bytesRow c.iss cap2).size, (bytesRow c.iss cap2).size + 1))).alloc (.cells #[.int .i64 3, .slice (some ⟨w11.heap.size, 0, none⟩) c.iss.size cap2] 117)).drew) F2.A F2.n F2.d) := by show BT _ _ _ _; rw [hF2.out]; exact ((bt_conv w11 c.iss cap2 (by have := hcap2.out; omega) _ _).alloc _).drew
            have hrd : Hid (Reads (((w11.alloc (.cells (bytesRow c.iss cap2) 5 ((bytesRow c.iss cap2).size, (bytesRow c.iss cap2).size + 1))).alloc (.cells #[.int .i64 3, .slice (some ⟨w11.heap.size, 0, none⟩) c.iss.size cap2] 117)).drew) (w11.heap.size + 1 + 1) 2 (some ⟨w11.heap.size + 1, 0, none⟩) 1 (flat fdC [F2])) := by show Reads _ _ _ _ _ _; rw [hF2.out]; have := (fd_lit (w11.alloc (.cells (bytesRow c.iss cap2) 5 ((bytesRow c.iss cap2).size, (bytesRow c.iss cap2).size + 1))) 3 (some ⟨w11.heap.size, 0, none⟩) c.iss.size cap2 (c.iss.data.toList)).drew; simpa using this
            replace hL : Hid (LF (((w11.alloc (.cells (bytesRow c.iss cap2) 5 ((bytesRow c.iss cap2).size, (bytesRow c.iss cap2).size + 1))).alloc (.cells #[.int .i64 3, .slice (some ⟨w11.heap.size, 0, none⟩) c.iss.size cap2] 117)).drew) w1.heap.size v2 [F0, F1]) := ((hL.out.alloc _).alloc _).drew
            replace hq : Hid (BT (((w11.alloc (.cells (bytesRow c.iss cap2) 5 ((bytesRow c.iss cap2).size, (bytesRow c.iss cap2).size + 1))).alloc (.cells #[.int .i64 3, .slice (some ⟨w11.heap.size, 0, none⟩) c.iss.size cap2] 117)).drew) Ak nk (keyL c.key 8)) := ((hq.out.alloc _).alloc _).drew
            replace hb : Hid (Below w1.heap.size w1 (((w11.alloc (.cells (bytesRow c.iss cap2) 5 ((bytesRow c.iss cap2).size, (bytesRow c.iss cap2).size + 1))).alloc (.cells #[.int .i64 3, .slice (some ⟨w11.heap.size, 0, none⟩) c.iss.size cap2] 117)).drew)) := ((hb.out.alloc hb.out.size _).alloc (by have := hb.out.size; simp; omega) _).drew
            have hsz := Lib.hid hb.out.size)
         | (at_builtin
            refine wpList_append_any _ rfl (.tmp 39) (.tmp 44) _ rfl w1.heap.size 117 i1 _ 2 32 Try.underlying118 hi1.out hz10.out hz11.out hz12.out rfl (by omega) v2 2 (flat fdC [F0, F1]) rfl hL.out.own.2 (w11.heap.size + 1 + 1) (some ⟨w11.heap.size + 1, 0, none⟩) 1 1 (flat fdC [F2]) rfl hrd.out (fd_one _) (by decide) (by decide) hsz.out ?_
            intro v3 w12 hown1 hg1 hat1
            have hq2 := Lib.hid (hq.out.grown hL.out.own.2 hg1)
            have hb2 := Lib.hid (hb.out.trans (below_own2 hL.out.own.2 hsz.out hg1))
            have hL2 : Hid (LF w12 w1.heap.size v3 [F0, F1, F2]) := lf_app hL.out hda.out hown1 hg1
            clear hcv2 hcap2
            clear hown1 hg1 hat1 hL hq hb hda hrd hsz k0 k1 k2 k3 k4 k5 k6 k7
            have hL := hL2
            have hq := hq2
            have hb := hb2
            clear hL2 hq2 hb2
            obtain ⟨k0, k1, k2, k3, k4, k5, k6, k7⟩ := kz.out _ hb.out))
       clear k0 k1 k2 k3 k4 k5 k6 k7
       refine (rputInt_any (c.from_) w12 (by have := hk.out.s; have := hk.out.f; have := hk.out.t; omega) (by have := hk.out.s; have := hk.out.f; have := hk.out.t; omega)).mono ?_; rintro e u3 ⟨vd, rfl, ho, hbd⟩
       obtain ⟨A3, n3, c3, rfl, hd, -⟩ := bt_own ho
       clear ho
       replace hL := Lib.hid (hL.out.below hbd)
       replace hq := Lib.hid (hq.out.below hbd)
       replace hb := Lib.hid (hb.out.trans (hbd.mono hb.out.size))
       clear hbd
       obtain ⟨F3, hF3⟩ : ∃ f : Fd, f = ⟨4, A3, n3, c3, enc (zig c.from_)⟩ := ⟨_, rfl⟩
       replace hF3 := Lib.hid hF3
       obtain ⟨k0, k1, k2, k3, k4, k5, k6, k7⟩ := kz.out _ hb.out
       have hda : Hid (BT (u3.alloc (.cells #[.int .i64 4, .slice A3 n3 c3] 117)) F3.A F3.n F3.d) := by show BT _ _ _ _; rw [hF3.out]; exact hd.alloc _
       have hrd : Hid (Reads (u3.alloc (.cells #[.int .i64 4, .slice A3 n3 c3] 117)) (u3.heap.size + 1) 2 (some ⟨u3.heap.size, 0, none⟩) 1 (flat fdC [F3])) := by show Reads _ _ _ _ _ _; rw [hF3.out]; exact fd_lit _ _ _ _ _ _
       clear hd
       replace hL : Hid (LF (u3.alloc (.cells #[.int .i64 4, .slice A3 n3 c3] 117)) w1.heap.size v3 [F0, F1, F2]) := hL.out.alloc _
       replace hq : Hid (BT (u3.alloc (.cells #[.int .i64 4, .slice A3 n3 c3] 117)) Ak nk (keyL c.key 8)) := hq.out.alloc _
       replace hb : Hid (Below w1.heap.size w1 (u3.alloc (.cells #[.int .i64 4, .slice A3 n3 c3] 117))) := hb.out.alloc hb.out.size _
       have hsz := Lib.hid hb.out.size
       go_wp2_with (first
         | (at_builtin
            refine wpList_append_any _ rfl (.tmp 46) (.tmp 52) _ rfl w1.heap.size 117 i1 _ 2 32 Try.underlying118 hi1.out hz10.out hz11.out hz12.out rfl (by omega) v3 3 (flat fdC [F0, F1, F2]) rfl hL.out.own.2 (u3.heap.size + 1) (some ⟨u3.heap.size, 0, none⟩) 1 1 (flat fdC [F3]) rfl hrd.out (fd_one _) (by decide) (by decide) hsz.out ?_
            intro v4 w13 hown1 hg1 hat1
            have hq2 := Lib.hid (hq.out.grown hL.out.own.2 hg1)
            have hb2 := Lib.hid (hb.out.trans (below_own2 hL.out.own.2 hsz.out hg1))
            have hL2 : Hid (LF w13 w1.heap.size v4 [F0, F1, F2, F3]) := lf_app hL.out hda.out hown1 hg1
            clear hown1 hg1 hat1 hL hq hb hda hrd hsz k0 k1 k2 k3 k4 k5 k6 k7
            have hL := hL2
            have hq := hq2
            have hb := hb2
            clear hL2 hq2 hb2
            obtain ⟨k0, k1, k2, k3, k4, k5, k6, k7⟩ := kz.out _ hb.out))
       clear k0 k1 k2 k3 k4 k5 k6 k7
       refine (rputInt_any (c.to_) w13 (by have := hk.out.s; have := hk.out.f; have := hk.out.t; omega) (by have := hk.out.s; have := hk.out.f; have := hk.out.t; omega)).mono ?_; rintro e u4 ⟨vd, rfl, ho, hbd⟩
       obtain ⟨A4, n4, c4, rfl, hd, -⟩ := bt_own ho
       clear ho
       replace hL := Lib.hid (hL.out.below hbd)
       replace hq := Lib.hid (hq.out.below hbd)
       replace hb := Lib.hid (hb.out.trans (hbd.mono hb.out.size))
       clear hbd
       obtain ⟨F4, hF4⟩ : ∃ f : Fd, f = ⟨5, A4, n4, c4, enc (zig c.to_)⟩ := ⟨_, rfl⟩
       replace hF4 := Lib.hid hF4
       obtain ⟨k0, k1, k2, k3, k4, k5, k6, k7⟩ := kz.out _ hb.out
       have hda : Hid (BT (u4.alloc (.cells #[.int .i64 5, .slice A4 n4 c4] 117)) F4.A F4.n F4.d) := by show BT _ _ _ _; rw [hF4.out]; exact hd.alloc _
       have hrd : Hid (Reads (u4.alloc (.cells #[.int .i64 5, .slice A4 n4 c4] 117)) (u4.heap.size + 1) 2 (some ⟨u4.heap.size, 0, none⟩) 1 (flat fdC [F4])) := by show Reads _ _ _ _ _ _; rw [hF4.out]; exact fd_lit _ _ _ _ _ _
       clear hd
       replace hL : Hid (LF (u4.alloc (.cells #[.int .i64 5, .slice A4 n4 c4] 117)) w1.heap.size v4 [F0, F1, F2, F3]) := hL.out.alloc _
       replace hq : Hid (BT (u4.alloc (.cells #[.int .i64 5, .slice A4 n4 c4] 117)) Ak nk (keyL c.key 8)) := hq.out.alloc _
       replace hb : Hid (Below w1.heap.size w1 (u4.alloc (.cells #[.int .i64 5, .slice A4 n4 c4] 117))) := hb.out.alloc hb.out.size _
       have hsz := Lib.hid hb.out.size
       go_wp2_with (first
         | (at_builtin
            refine wpList_append_any _ rfl (.tmp 54) (.tmp 60) _ rfl w1.heap.size 117 i1 _ 2 32 Try.underlying118 hi1.out hz10.out hz11.out hz12.out rfl (by omega) v4 4 (flat fdC [F0, F1, F2, F3]) rfl hL.out.own.2 (u4.heap.size + 1) (some ⟨u4.heap.size, 0, none⟩) 1 1 (flat fdC [F4]) rfl hrd.out (fd_one _) (by decide) (by decide) hsz.out ?_
            intro v5 w14 hown1 hg1 hat1
            have hq2 := Lib.hid (hq.out.grown hL.out.own.2 hg1)
            have hb2 := Lib.hid (hb.out.trans (below_own2 hL.out.own.2 hsz.out hg1))
            have hL2 : Hid (LF w14 w1.heap.size v5 [F0, F1, F2, F3, F4]) := lf_app hL.out hda.out hown1 hg1
            clear hown1 hg1 hat1 hL hq hb hda hrd hsz k0 k1 k2 k3 k4 k5 k6 k7
            have hL := hL2
            have hq := hq2
            have hb := hb2
            clear hL2 hq2 hb2
            obtain ⟨k0, k1, k2, k3, k4, k5, k6, k7⟩ := kz.out _ hb.out))
       clear k0 k1 k2 k3 k4 k5 k6 k7
       refine (rputInt_any (1) w14 (by have := hk.out.s; have := hk.out.f; have := hk.out.t; omega) (by have := hk.out.s; have := hk.out.f; have := hk.out.t; omega)).mono ?_; rintro e u5 ⟨vd, rfl, ho, hbd⟩
       obtain ⟨A5, n5, c5, rfl, hd, -⟩ := bt_own ho
       clear ho
       replace hL := Lib.hid (hL.out.below hbd)
       replace hq := Lib.hid (hq.out.below hbd)
       replace hb := Lib.hid (hb.out.trans (hbd.mono hb.out.size))
       clear hbd
       obtain ⟨F5, hF5⟩ : ∃ f : Fd, f = ⟨6, A5, n5, c5, enc (zig 1)⟩ := ⟨_, rfl⟩
       replace hF5 := Lib.hid hF5
       obtain ⟨k0, k1, k2, k3, k4, k5, k6, k7⟩ := kz.out _ hb.out
       have hda : Hid (BT (u5.alloc (.cells #[.int .i64 6, .slice A5 n5 c5] 117)) F5.A F5.n F5.d) := by show BT _ _ _ _; rw [hF5.out]; exact hd.alloc _
       have hrd : Hid (Reads (u5.alloc (.cells #[.int .i64 6, .slice A5 n5 c5] 117)) (u5.heap.size + 1) 2 (some ⟨u5.heap.size, 0, none⟩) 1 (flat fdC [F5])) := by show Reads _ _ _ _ _ _; rw [hF5.out]; exact fd_lit _ _ _ _ _ _
       clear hd
       replace hL : Hid (LF (u5.alloc (.cells #[.int .i64 6, .slice A5 n5 c5] 117)) w1.heap.size v5 [F0, F1, F2, F3, F4]) := hL.out.alloc _
       replace hq : Hid (BT (u5.alloc (.cells #[.int .i64 6, .slice A5 n5 c5] 117)) Ak nk (keyL c.key 8)) := hq.out.alloc _
       replace hb : Hid (Below w1.heap.size w1 (u5.alloc (.cells #[.int .i64 6, .slice A5 n5 c5] 117))) := hb.out.alloc hb.out.size _
       have hsz := Lib.hid hb.out.size
       go_wp2_with (first
         | (at_builtin
            refine wpList_append_any _ rfl (.tmp 62) (.tmp 66) _ rfl w1.heap.size 117 i1 _ 2 32 Try.underlying118 hi1.out hz10.out hz11.out hz12.out rfl (by omega) v5 5 (flat fdC [F0, F1, F2, F3, F4]) rfl hL.out.own.2 (u5.heap.size + 1) (some ⟨u5.heap.size, 0, none⟩) 1 1 (flat fdC [F5]) rfl hrd.out (fd_one _) (by decide) (by decide) hsz.out ?_
            intro v6 w15 hown1 hg1 hat1
            have hq2 := Lib.hid (hq.out.grown hL.out.own.2 hg1)
            have hb2 := Lib.hid (hb.out.trans (below_own2 hL.out.own.2 hsz.out hg1))
            have hL2 : Hid (LF w15 w1.heap.size v6 [F0, F1, F2, F3, F4, F5]) := lf_app hL.out hda.out hown1 hg1
            clear hown1 hg1 hat1 hL hq hb hda hrd hsz k0 k1 k2 k3 k4 k5 k6 k7
            have hL := hL2
            have hq := hq2
            have hb := hb2
            clear hL2 hq2 hb2
            obtain ⟨k0, k1, k2, k3, k4, k5, k6, k7⟩ := kz.out _ hb.out
            obtain ⟨F6, hF6⟩ : ∃ f : Fd, f = ⟨7, Ak, nk, ck, keyL c.key 8⟩ := ⟨_, rfl⟩
            replace hF6 := Lib.hid hF6
            have hda : Hid (BT (w15.alloc (.cells #[.int .i64 7, .slice Ak nk ck] 117)) F6.A F6.n F6.d) := by show BT _ _ _ _; rw [hF6.out]; exact hq.out.alloc _
            have hrd : Hid (Reads (w15.alloc (.cells #[.int .i64 7, .slice Ak nk ck] 117)) (w15.heap.size + 1) 2 (some ⟨w15.heap.size, 0, none⟩) 1 (flat fdC [F6])) := by show Reads _ _ _ _ _ _; rw [hF6.out]; exact fd_lit _ _ _ _ _ _
            replace hL : Hid (LF (w15.alloc (.cells #[.int .i64 7, .slice Ak nk ck] 117)) w1.heap.size v6 [F0, F1, F2, F3, F4, F5]) := hL.out.alloc _
            replace hq : Hid (BT (w15.alloc (.cells #[.int .i64 7, .slice Ak nk ck] 117)) Ak nk (keyL c.key 8)) := hq.out.alloc _
            replace hb : Hid (Below w1.heap.size w1 (w15.alloc (.cells #[.int .i64 7, .slice Ak nk ck] 117))) := hb.out.alloc hb.out.size _
            have hsz := Lib.hid hb.out.size)
         | (at_builtin
            refine wpList_append_any _ rfl (.tmp 68) (.tmp 71) _ rfl w1.heap.size 117 i1 _ 2 32 Try.underlying118 hi1.out hz10.out hz11.out hz12.out rfl (by omega) v6 6 (flat fdC [F0, F1, F2, F3, F4, F5]) rfl hL.out.own.2 (w15.heap.size + 1) (some ⟨w15.heap.size, 0, none⟩) 1 1 (flat fdC [F6]) rfl hrd.out (fd_one _) (by decide) (by decide) hsz.out ?_
            intro v7 w16 hown1 hg1 hat1
            have hq2 := Lib.hid (hq.out.grown hL.out.own.2 hg1)
            have hb2 := Lib.hid (hb.out.trans (below_own2 hL.out.own.2 hsz.out hg1))
            have hL2 : Hid (LF w16 w1.heap.size v7 [F0, F1, F2, F3, F4, F5, F6]) := lf_app hL.out hda.out hown1 hg1
            clear hown1 hg1 hat1 hL hq hb hda hrd hsz k0 k1 k2 k3 k4 k5 k6 k7
            have hL := hL2
            have hq := hq2
            have hb := hb2
            clear hL2 hq2 hb2
            obtain ⟨k0, k1, k2, k3, k4, k5, k6, k7⟩ := kz.out _ hb.out))
       clear k0 k1 k2 k3 k4 k5 k6 k7
       have h7 : FdOk [F0, F1, F2, F3, F4, F5, F6] ∧ putB [F0, F1, F2, F3, F4, F5, F6] = ctB c 1 := by
         rw [hF0.out, hF1.out, hF2.out, hF3.out, hF4.out, hF5.out, hF6.out]
         exact seven_ok hk.out 1 _ _ _ _ _ _ _ _ _ _ _ _ _ _ _ _ _ _ _ _ _
       obtain ⟨A9, c9, rfl, -, -, -, hA9⟩ := hL.out.own.form
       refine (rput_any A9 _ _ c9 w16 hA9 (fun f hf => (hL.out.dat f hf).1) h7.1).mono ?_; rintro e w17 ⟨v, rfl, ho, hb9⟩
       rw [h7.2] at ho
       have hs := Lib.hid (own_sl (w' := w17) ho)
       have hbw : Hid (Below w.heap.size w w17) := by
         show Below _ _ _
         have h1 := hb.out.trans (hb9.mono hb.out.size)
         have hw1 := hw1.out
         subst hw1
         exact below_a h1
       clear ho hb9 h7 hA9
       go_wp2_with fail
       go_ret
       exact ⟨_, rfl, hs.out, hbw.out⟩
     · obtain ⟨A2, c2, rfl, hc2, hmx2, -, -⟩ := ho.out.form
       obtain ⟨k0, k1, k2, k3, k4, k5, k6, k7⟩ := kz.out _ hb.out
       match k, hk8, hk9 with
       | 0, _, _ =>
         have hv : c.key / 72057594037927936 = ((keyAt c.key 0).toNat : Int) := by unfold keyAt; simp; omega
         have hs8 := Lib.hid (keyL_snoc c.key 0)
         have hl8 := keyL_len c.key 0
         generalize keyAt c.key 0 = by_ at *
         generalize keyL c.key 0 = L at *
         generalize hL9 : keyL c.key (0 + 1) = L9 at *
         have hrd : Hid (Reads (wr.alloc (.cells #[.int .u8 (by_.toNat : Int)] 5)) (wr.heap.size + 1) 1 (some ⟨wr.heap.size, 0, none⟩) 1 (flat bC [by_])) := (lit_byte wr by_ _ rfl).2
         have hob : Hid (BOwn (wr.alloc (.cells #[.int .u8 (by_.toNat : Int)] 5)) w1.heap.size (.slice A2 L.length c2) L) := ho.out.alloc _
         have hsz := hb.out.size
         have hlL : Hid (L.length ≤ 8) := by show _ ≤ _; omega
         clear hl8
         go_wp2_with (at_builtin; refine wpList_append_any _ rfl (.tmp 15) (.tmp 23) _ rfl w1.heap.size 5 i0 _ 1 1 Try.underlying85 hi0 hz0 hz1 hz2 rfl (by omega) (.slice A2 L.length c2) L.length (flat bC L) rfl hob.out.2 (wr.heap.size + 1) (some ⟨wr.heap.size, 0, none⟩) 1 1 (flat bC [by_]) rfl hrd.out (bC_one _) (by have := hlL.out; simp only [maxLen]; omega) (by have := hlL.out; omega) (by simp; omega) ?_; intro v' w4 hown1 hg1 hat1)
         have hown2 : Hid (BOwn w4 w1.heap.size v' (L ++ [by_])) := ⟨bC_len, by rw [List.length_append, flat_append]; exact hown1⟩
         have hbw2 : Hid (Below w1.heap.size w1 w4) := (hb.out.alloc hb.out.size _).trans (below_own hob.out (by simp; omega) hg1)
         clear hown1 hg1 hat1
         go_wp2_with fail
         go_roundw
         case rel => exact ⟨0 + 1, by omega, by go_num, by rw [hL9, hs8.out]; exact hown2.out, hbw2.out⟩
         case measure => simp [intOf]
       | 1, _, _ =>
         have hv : c.key / 281474976710656 % 256 = ((keyAt c.key 1).toNat : Int) := by unfold keyAt; simp; omega
         have hs8 := Lib.hid (keyL_snoc c.key 1)
         have hl8 := keyL_len c.key 1
         generalize keyAt c.key 1 = by_ at *
         generalize keyL c.key 1 = L at *
         generalize hL9 : keyL c.key (1 + 1) = L9 at *
         have hrd : Hid (Reads (wr.alloc (.cells #[.int .u8 (by_.toNat : Int)] 5)) (wr.heap.size + 1) 1 (some ⟨wr.heap.size, 0, none⟩) 1 (flat bC [by_])) := (lit_byte wr by_ _ rfl).2
         have hob : Hid (BOwn (wr.alloc (.cells #[.int .u8 (by_.toNat : Int)] 5)) w1.heap.size (.slice A2 L.length c2) L) := ho.out.alloc _
         have hsz := hb.out.size
         have hlL : Hid (L.length ≤ 8) := by show _ ≤ _; omega
         clear hl8
         go_wp2_with (at_builtin; refine wpList_append_any _ rfl (.tmp 15) (.tmp 23) _ rfl w1.heap.size 5 i0 _ 1 1 Try.underlying85 hi0 hz0 hz1 hz2 rfl (by omega) (.slice A2 L.length c2) L.length (flat bC L) rfl hob.out.2 (wr.heap.size + 1) (some ⟨wr.heap.size, 0, none⟩) 1 1 (flat bC [by_]) rfl hrd.out (bC_one _) (by have := hlL.out; simp only [maxLen]; omega) (by have := hlL.out; omega) (by simp; omega) ?_; intro v' w4 hown1 hg1 hat1)
         have hown2 : Hid (BOwn w4 w1.heap.size v' (L ++ [by_])) := ⟨bC_len, by rw [List.length_append, flat_append]; exact hown1⟩
         have hbw2 : Hid (Below w1.heap.size w1 w4) := (hb.out.alloc hb.out.size _).trans (below_own hob.out (by simp; omega) hg1)
         clear hown1 hg1 hat1
         go_wp2_with fail
         go_roundw
         case rel => exact ⟨1 + 1, by omega, by go_num, by rw [hL9, hs8.out]; exact hown2.out, hbw2.out⟩
         case measure => simp [intOf]
       | 2, _, _ =>
         have hv : c.key / 1099511627776 % 256 = ((keyAt c.key 2).toNat : Int) := by unfold keyAt; simp; omega
         have hs8 := Lib.hid (keyL_snoc c.key 2)
         have hl8 := keyL_len c.key 2
         generalize keyAt c.key 2 = by_ at *
         generalize keyL c.key 2 = L at *
         generalize hL9 : keyL c.key (2 + 1) = L9 at *
         have hrd : Hid (Reads (wr.alloc (.cells #[.int .u8 (by_.toNat : Int)] 5)) (wr.heap.size + 1) 1 (some ⟨wr.heap.size, 0, none⟩) 1 (flat bC [by_])) := (lit_byte wr by_ _ rfl).2
         have hob : Hid (BOwn (wr.alloc (.cells #[.int .u8 (by_.toNat : Int)] 5)) w1.heap.size (.slice A2 L.length c2) L) := ho.out.alloc _
         have hsz := hb.out.size
         have hlL : Hid (L.length ≤ 8) := by show _ ≤ _; omega
         clear hl8
         go_wp2_with (at_builtin; refine wpList_append_any _ rfl (.tmp 15) (.tmp 23) _ rfl w1.heap.size 5 i0 _ 1 1 Try.underlying85 hi0 hz0 hz1 hz2 rfl (by omega) (.slice A2 L.length c2) L.length (flat bC L) rfl hob.out.2 (wr.heap.size + 1) (some ⟨wr.heap.size, 0, none⟩) 1 1 (flat bC [by_]) rfl hrd.out (bC_one _) (by have := hlL.out; simp only [maxLen]; omega) (by have := hlL.out; omega) (by simp; omega) ?_; intro v' w4 hown1 hg1 hat1)
         have hown2 : Hid (BOwn w4 w1.heap.size v' (L ++ [by_])) := ⟨bC_len, by rw [List.length_append, flat_append]; exact hown1⟩
         have hbw2 : Hid (Below w1.heap.size w1 w4) := (hb.out.alloc hb.out.size _).trans (below_own hob.out (by simp; omega) hg1)
         clear hown1 hg1 hat1
         go_wp2_with fail
         go_roundw
         case rel => exact ⟨2 + 1, by omega, by go_num, by rw [hL9, hs8.out]; exact hown2.out, hbw2.out⟩
         case measure => simp [intOf]
       | 3, _, _ =>
         have hv : c.key / 4294967296 % 256 = ((keyAt c.key 3).toNat : Int) := by unfold keyAt; simp; omega
         have hs8 := Lib.hid (keyL_snoc c.key 3)
         have hl8 := keyL_len c.key 3
         generalize keyAt c.key 3 = by_ at *
         generalize keyL c.key 3 = L at *
         generalize hL9 : keyL c.key (3 + 1) = L9 at *
         have hrd : Hid (Reads (wr.alloc (.cells #[.int .u8 (by_.toNat : Int)] 5)) (wr.heap.size + 1) 1 (some ⟨wr.heap.size, 0, none⟩) 1 (flat bC [by_])) := (lit_byte wr by_ _ rfl).2
         have hob : Hid (BOwn (wr.alloc (.cells #[.int .u8 (by_.toNat : Int)] 5)) w1.heap.size (.slice A2 L.length c2) L) := ho.out.alloc _
         have hsz := hb.out.size
         have hlL : Hid (L.length ≤ 8) := by show _ ≤ _; omega
         clear hl8
         go_wp2_with (at_builtin; refine wpList_append_any _ rfl (.tmp 15) (.tmp 23) _ rfl w1.heap.size 5 i0 _ 1 1 Try.underlying85 hi0 hz0 hz1 hz2 rfl (by omega) (.slice A2 L.length c2) L.length (flat bC L) rfl hob.out.2 (wr.heap.size + 1) (some ⟨wr.heap.size, 0, none⟩) 1 1 (flat bC [by_]) rfl hrd.out (bC_one _) (by have := hlL.out; simp only [maxLen]; omega) (by have := hlL.out; omega) (by simp; omega) ?_; intro v' w4 hown1 hg1 hat1)
         have hown2 : Hid (BOwn w4 w1.heap.size v' (L ++ [by_])) := ⟨bC_len, by rw [List.length_append, flat_append]; exact hown1⟩
         have hbw2 : Hid (Below w1.heap.size w1 w4) := (hb.out.alloc hb.out.size _).trans (below_own hob.out (by simp; omega) hg1)
         clear hown1 hg1 hat1
         go_wp2_with fail
         go_roundw
         case rel => exact ⟨3 + 1, by omega, by go_num, by rw [hL9, hs8.out]; exact hown2.out, hbw2.out⟩
         case measure => simp [intOf]
       | 4, _, _ =>
         have hv : c.key / 16777216 % 256 = ((keyAt c.key 4).toNat : Int) := by unfold keyAt; simp; omega
         have hs8 := Lib.hid (keyL_snoc c.key 4)
         have hl8 := keyL_len c.key 4
         generalize keyAt c.key 4 = by_ at *
         generalize keyL c.key 4 = L at *
         generalize hL9 : keyL c.key (4 + 1) = L9 at *
         have hrd : Hid (Reads (wr.alloc (.cells #[.int .u8 (by_.toNat : Int)] 5)) (wr.heap.size + 1) 1 (some ⟨wr.heap.size, 0, none⟩) 1 (flat bC [by_])) := (lit_byte wr by_ _ rfl).2
         have hob : Hid (BOwn (wr.alloc (.cells #[.int .u8 (by_.toNat : Int)] 5)) w1.heap.size (.slice A2 L.length c2) L) := ho.out.alloc _
         have hsz := hb.out.size
         have hlL : Hid (L.length ≤ 8) := by show _ ≤ _; omega
         clear hl8
         go_wp2_with (at_builtin; refine wpList_append_any _ rfl (.tmp 15) (.tmp 23) _ rfl w1.heap.size 5 i0 _ 1 1 Try.underlying85 hi0 hz0 hz1 hz2 rfl (by omega) (.slice A2 L.length c2) L.length (flat bC L) rfl hob.out.2 (wr.heap.size + 1) (some ⟨wr.heap.size, 0, none⟩) 1 1 (flat bC [by_]) rfl hrd.out (bC_one _) (by have := hlL.out; simp only [maxLen]; omega) (by have := hlL.out; omega) (by simp; omega) ?_; intro v' w4 hown1 hg1 hat1)
         have hown2 : Hid (BOwn w4 w1.heap.size v' (L ++ [by_])) := ⟨bC_len, by rw [List.length_append, flat_append]; exact hown1⟩
         have hbw2 : Hid (Below w1.heap.size w1 w4) := (hb.out.alloc hb.out.size _).trans (below_own hob.out (by simp; omega) hg1)
         clear hown1 hg1 hat1
         go_wp2_with fail
         go_roundw
         case rel => exact ⟨4 + 1, by omega, by go_num, by rw [hL9, hs8.out]; exact hown2.out, hbw2.out⟩
         case measure => simp [intOf]
       | 5, _, _ =>
         have hv : c.key / 65536 % 256 = ((keyAt c.key 5).toNat : Int) := by unfold keyAt; simp; omega
         have hs8 := Lib.hid (keyL_snoc c.key 5)
         have hl8 := keyL_len c.key 5
         generalize keyAt c.key 5 = by_ at *
         generalize keyL c.key 5 = L at *
         generalize hL9 : keyL c.key (5 + 1) = L9 at *
         have hrd : Hid (Reads (wr.alloc (.cells #[.int .u8 (by_.toNat : Int)] 5)) (wr.heap.size + 1) 1 (some ⟨wr.heap.size, 0, none⟩) 1 (flat bC [by_])) := (lit_byte wr by_ _ rfl).2
         have hob : Hid (BOwn (wr.alloc (.cells #[.int .u8 (by_.toNat : Int)] 5)) w1.heap.size (.slice A2 L.length c2) L) := ho.out.alloc _
         have hsz := hb.out.size
         have hlL : Hid (L.length ≤ 8) := by show _ ≤ _; omega
         clear hl8
         go_wp2_with (at_builtin; refine wpList_append_any _ rfl (.tmp 15) (.tmp 23) _ rfl w1.heap.size 5 i0 _ 1 1 Try.underlying85 hi0 hz0 hz1 hz2 rfl (by omega) (.slice A2 L.length c2) L.length (flat bC L) rfl hob.out.2 (wr.heap.size + 1) (some ⟨wr.heap.size, 0, none⟩) 1 1 (flat bC [by_]) rfl hrd.out (bC_one _) (by have := hlL.out; simp only [maxLen]; omega) (by have := hlL.out; omega) (by simp; omega) ?_; intro v' w4 hown1 hg1 hat1)
         have hown2 : Hid (BOwn w4 w1.heap.size v' (L ++ [by_])) := ⟨bC_len, by rw [List.length_append, flat_append]; exact hown1⟩
         have hbw2 : Hid (Below w1.heap.size w1 w4) := (hb.out.alloc hb.out.size _).trans (below_own hob.out (by simp; omega) hg1)
         clear hown1 hg1 hat1
         go_wp2_with fail
         go_roundw
         case rel => exact ⟨5 + 1, by omega, by go_num, by rw [hL9, hs8.out]; exact hown2.out, hbw2.out⟩
         case measure => simp [intOf]
       | 6, _, _ =>
         have hv : c.key / 256 % 256 = ((keyAt c.key 6).toNat : Int) := by unfold keyAt; simp; omega
         have hs8 := Lib.hid (keyL_snoc c.key 6)
         have hl8 := keyL_len c.key 6
         generalize keyAt c.key 6 = by_ at *
         generalize keyL c.key 6 = L at *
         generalize hL9 : keyL c.key (6 + 1) = L9 at *
         have hrd : Hid (Reads (wr.alloc (.cells #[.int .u8 (by_.toNat : Int)] 5)) (wr.heap.size + 1) 1 (some ⟨wr.heap.size, 0, none⟩) 1 (flat bC [by_])) := (lit_byte wr by_ _ rfl).2
         have hob : Hid (BOwn (wr.alloc (.cells #[.int .u8 (by_.toNat : Int)] 5)) w1.heap.size (.slice A2 L.length c2) L) := ho.out.alloc _
         have hsz := hb.out.size
         have hlL : Hid (L.length ≤ 8) := by show _ ≤ _; omega
         clear hl8
         go_wp2_with (at_builtin; refine wpList_append_any _ rfl (.tmp 15) (.tmp 23) _ rfl w1.heap.size 5 i0 _ 1 1 Try.underlying85 hi0 hz0 hz1 hz2 rfl (by omega) (.slice A2 L.length c2) L.length (flat bC L) rfl hob.out.2 (wr.heap.size + 1) (some ⟨wr.heap.size, 0, none⟩) 1 1 (flat bC [by_]) rfl hrd.out (bC_one _) (by have := hlL.out; simp only [maxLen]; omega) (by have := hlL.out; omega) (by simp; omega) ?_; intro v' w4 hown1 hg1 hat1)
         have hown2 : Hid (BOwn w4 w1.heap.size v' (L ++ [by_])) := ⟨bC_len, by rw [List.length_append, flat_append]; exact hown1⟩
         have hbw2 : Hid (Below w1.heap.size w1 w4) := (hb.out.alloc hb.out.size _).trans (below_own hob.out (by simp; omega) hg1)
         clear hown1 hg1 hat1
         go_wp2_with fail
         go_roundw
         case rel => exact ⟨6 + 1, by omega, by go_num, by rw [hL9, hs8.out]; exact hown2.out, hbw2.out⟩
         case measure => simp [intOf]
       | 7, _, _ =>
         have hv : c.key % 256 = ((keyAt c.key 7).toNat : Int) := by unfold keyAt; simp; omega
         have hs8 := Lib.hid (keyL_snoc c.key 7)
         have hl8 := keyL_len c.key 7
         generalize keyAt c.key 7 = by_ at *
         generalize keyL c.key 7 = L at *
         generalize hL9 : keyL c.key (7 + 1) = L9 at *
         have hrd : Hid (Reads (wr.alloc (.cells #[.int .u8 (by_.toNat : Int)] 5)) (wr.heap.size + 1) 1 (some ⟨wr.heap.size, 0, none⟩) 1 (flat bC [by_])) := (lit_byte wr by_ _ rfl).2
         have hob : Hid (BOwn (wr.alloc (.cells #[.int .u8 (by_.toNat : Int)] 5)) w1.heap.size (.slice A2 L.length c2) L) := ho.out.alloc _
         have hsz := hb.out.size
         have hlL : Hid (L.length ≤ 8) := by show _ ≤ _; omega
         clear hl8
         go_wp2_with (at_builtin; refine wpList_append_any _ rfl (.tmp 15) (.tmp 23) _ rfl w1.heap.size 5 i0 _ 1 1 Try.underlying85 hi0 hz0 hz1 hz2 rfl (by omega) (.slice A2 L.length c2) L.length (flat bC L) rfl hob.out.2 (wr.heap.size + 1) (some ⟨wr.heap.size, 0, none⟩) 1 1 (flat bC [by_]) rfl hrd.out (bC_one _) (by have := hlL.out; simp only [maxLen]; omega) (by have := hlL.out; omega) (by simp; omega) ?_; intro v' w4 hown1 hg1 hat1)
         have hown2 : Hid (BOwn w4 w1.heap.size v' (L ++ [by_])) := ⟨bC_len, by rw [List.length_append, flat_append]; exact hown1⟩
         have hbw2 : Hid (Below w1.heap.size w1 w4) := (hb.out.alloc hb.out.size _).trans (below_own hob.out (by simp; omega) hg1)
         clear hown1 hg1 hat1
         go_wp2_with fail
         go_roundw
         case rel => exact ⟨7 + 1, by omega, by go_num, by rw [hL9, hs8.out]; exact hown2.out, hbw2.out⟩
         case measure => simp [intOf]
       | n + 8, h8, h9 => exact absurd h8 (by omega)
  | false =>
    rw [hca] at hw1 kz
    obtain ⟨k0, k1, k2, k3, k4, k5, k6, k7⟩ := kz.out _ (Below.refl _ _)
    replace hw1 := Lib.hid hw1
    go_wp2_with fail
    go_loopw [4, 5] (fun b sh wr => ∃ k : Nat, k ≤ 8 ∧ sh = .int .i64 (7 - (k : Int)) ∧ Hid (BOwn wr w1.heap.size b (keyL c.key k)) ∧ Hid (Below w1.heap.size w1 wr)) (fun _ sh _ => (intOf sh + 8).toNat)
    case atStart => exact ⟨0, by omega, rfl, LOwn.nil bC_len _ _, by show Below _ _ _; rw [hw1.out]; exact Below.refl _ _⟩
    case round =>
     clear k0 k1 k2 k3 k4 k5 k6 k7
     obtain ⟨k, hk8, rfl, ho, hb⟩ := hrel
     by_cases hk9 : k = 8
     · subst hk9
       obtain ⟨Ak, nk, ck, rfl, hq, -⟩ := bt_own ho.out
       replace hq := Lib.hid hq
       clear ho
       have hL : Hid (LF wr w1.heap.size (.slice none 0 0) []) := ⟨LOwn.nil fdC_len _ _, fun f hf => by cases hf⟩
       obtain ⟨k0, k1, k2, k3, k4, k5, k6, k7⟩ := kz.out _ hb.out
       clear hi0 hz0 hz1 hz2
       go_wp2_with fail
       clear k0 k1 k2 k3 k4 k5 k6 k7
       refine (rputInt_any (c.serial) wr (by have := hk.out.s; have := hk.out.f; have := hk.out.t; omega) (by have := hk.out.s; have := hk.out.f; have := hk.out.t; omega)).mono ?_; rintro e u0 ⟨vd, rfl, ho, hbd⟩
       obtain ⟨A0, n0, c0, rfl, hd, -⟩ := bt_own ho
       clear ho
       replace hL := Lib.hid (hL.out.below hbd)
       replace hq := Lib.hid (hq.out.below hbd)
       replace hb := Lib.hid (hb.out.trans (hbd.mono hb.out.size))
       clear hbd
       obtain ⟨F0, hF0⟩ : ∃ f : Fd, f = ⟨1, A0, n0, c0, enc (zig c.serial)⟩ := ⟨_, rfl⟩
       replace hF0 := Lib.hid hF0
       obtain ⟨k0, k1, k2, k3, k4, k5, k6, k7⟩ := kz.out _ hb.out
       have hda : Hid (BT (u0.alloc (.cells #[.int .i64 1, .slice A0 n0 c0] 117)) F0.A F0.n F0.d) := by show BT _ _ _ _; rw [hF0.out]; exact hd.alloc _
       have hrd : Hid (Reads (u0.alloc (.cells #[.int .i64 1, .slice A0 n0 c0] 117)) (u0.heap.size + 1) 2 (some ⟨u0.heap.size, 0, none⟩) 1 (flat fdC [F0])) := by show Reads _ _ _ _ _ _; rw [hF0.out]; exact fd_lit _ _ _ _ _ _
       clear hd
       replace hL : Hid (LF (u0.alloc (.cells #[.int .i64 1, .slice A0 n0 c0] 117)) w1.heap.size (.slice none 0 0) []) := hL.out.alloc _
       replace hq : Hid (BT (u0.alloc (.cells #[.int .i64 1, .slice A0 n0 c0] 117)) Ak nk (keyL c.key 8)) := hq.out.alloc _
       replace hb : Hid (Below w1.heap.size w1 (u0.alloc (.cells #[.int .i64 1, .slice A0 n0 c0] 117))) := hb.out.alloc hb.out.size _
       have hsz := Lib.hid hb.out.size
       go_wp2_with (first
         | (at_builtin
            refine wpList_append_any _ rfl (.tmp 25) (.tmp 30) _ rfl w1.heap.size 117 i1 _ 2 32 Try.underlying118 hi1.out hz10.out hz11.out hz12.out rfl (by omega) (.slice none 0 0) 0 (flat fdC []) rfl hL.out.own.2 (u0.heap.size + 1) (some ⟨u0.heap.size, 0, none⟩) 1 1 (flat fdC [F0]) rfl hrd.out (fd_one _) (by decide) (by decide) hsz.out ?_
            intro v1 w10 hown1 hg1 hat1
            have hq2 := Lib.hid (hq.out.grown hL.out.own.2 hg1)
            have hb2 := Lib.hid (hb.out.trans (below_own2 hL.out.own.2 hsz.out hg1))
            have hL2 : Hid (LF w10 w1.heap.size v1 [F0]) := lf_app hL.out hda.out hown1 hg1
            clear hown1 hg1 hat1 hL hq hb hda hrd hsz k0 k1 k2 k3 k4 k5 k6 k7
            have hL := hL2
            have hq := hq2
            have hb := hb2
            clear hL2 hq2 hb2
            obtain ⟨k0, k1, k2, k3, k4, k5, k6, k7⟩ := kz.out _ hb.out
            have hcv1 := run_bytes_of_string (P := Try.prog) w10 9 85 5 c.subj Try.underlying9 Try.underlying85 Try.underlying5
            have hcap1 := Lib.hid (grownCap_ge w10 c.subj.size 0 5)
            generalize grownCap w10 c.subj.size 0 5 = cap1 at hcv1 hcap1
            obtain ⟨F1, hF1⟩ : ∃ f : Fd, f = ⟨2, some ⟨w10.heap.size, 0, none⟩, c.subj.size, cap1, c.subj.data.toList⟩ := ⟨_, rfl⟩
            replace hF1 := Lib.hid hF1
            have hda : Hid (BT (((w10.alloc (.cells (bytesRow c.subj cap1) 5 ((bytesRow c.subj cap1).size, (bytesRow c.subj cap1).size + 1))).alloc (.cells #[.int .i64 2, .slice (some ⟨w10.heap.size, 0, none⟩) c.subj.size cap1] 117)).drew) F1.A F1.n F1.d) := by show BT _ _ _ _; rw [hF1.out]; exact ((bt_conv w10 c.subj cap1 (by have := hcap1.out; omega) _ _).alloc _).drew
            have hrd : Hid (Reads (((w10.alloc (.cells (bytesRow c.subj cap1) 5 ((bytesRow c.subj cap1).size, (bytesRow c.subj cap1).size + 1))).alloc (.cells #[.int .i64 2, .slice (some ⟨w10.heap.size, 0, none⟩) c.subj.size cap1] 117)).drew) (w10.heap.size + 1 + 1) 2 (some ⟨w10.heap.size + 1, 0, none⟩) 1 (flat fdC [F1])) := by show Reads _ _ _ _ _ _; rw [hF1.out]; have := (fd_lit (w10.alloc (.cells (bytesRow c.subj cap1) 5 ((bytesRow c.subj cap1).size, (bytesRow c.subj cap1).size + 1))) 2 (some ⟨w10.heap.size, 0, none⟩) c.subj.size cap1 (c.subj.data.toList)).drew; simpa using this
            replace hL : Hid (LF (((w10.alloc (.cells (bytesRow c.subj cap1) 5 ((bytesRow c.subj cap1).size, (bytesRow c.subj cap1).size + 1))).alloc (.cells #[.int .i64 2, .slice (some ⟨w10.heap.size, 0, none⟩) c.subj.size cap1] 117)).drew) w1.heap.size v1 [F0]) := ((hL.out.alloc _).alloc _).drew
            replace hq : Hid (BT (((w10.alloc (.cells (bytesRow c.subj cap1) 5 ((bytesRow c.subj cap1).size, (bytesRow c.subj cap1).size + 1))).alloc (.cells #[.int .i64 2, .slice (some ⟨w10.heap.size, 0, none⟩) c.subj.size cap1] 117)).drew) Ak nk (keyL c.key 8)) := ((hq.out.alloc _).alloc _).drew
            replace hb : Hid (Below w1.heap.size w1 (((w10.alloc (.cells (bytesRow c.subj cap1) 5 ((bytesRow c.subj cap1).size, (bytesRow c.subj cap1).size + 1))).alloc (.cells #[.int .i64 2, .slice (some ⟨w10.heap.size, 0, none⟩) c.subj.size cap1] 117)).drew)) := ((hb.out.alloc hb.out.size _).alloc (by have := hb.out.size; simp; omega) _).drew
            have hsz := Lib.hid hb.out.size)
         | (at_builtin
            refine wpList_append_any _ rfl (.tmp 32) (.tmp 37) _ rfl w1.heap.size 117 i1 _ 2 32 Try.underlying118 hi1.out hz10.out hz11.out hz12.out rfl (by omega) v1 1 (flat fdC [F0]) rfl hL.out.own.2 (w10.heap.size + 1 + 1) (some ⟨w10.heap.size + 1, 0, none⟩) 1 1 (flat fdC [F1]) rfl hrd.out (fd_one _) (by decide) (by decide) hsz.out ?_
            intro v2 w11 hown1 hg1 hat1
            have hq2 := Lib.hid (hq.out.grown hL.out.own.2 hg1)
            have hb2 := Lib.hid (hb.out.trans (below_own2 hL.out.own.2 hsz.out hg1))
            have hL2 : Hid (LF w11 w1.heap.size v2 [F0, F1]) := lf_app hL.out hda.out hown1 hg1
            clear hcv1 hcap1
            clear hown1 hg1 hat1 hL hq hb hda hrd hsz k0 k1 k2 k3 k4 k5 k6 k7
            have hL := hL2
            have hq := hq2
            have hb := hb2
            clear hL2 hq2 hb2
            obtain ⟨k0, k1, k2, k3, k4, k5, k6, k7⟩ := kz.out _ hb.out
            have hcv2 := run_bytes_of_string (P := Try.prog) w11 9 85 5 c.iss Try.underlying9 Try.underlying85 Try.underlying5
            have hcap2 := Lib.hid (grownCap_ge w11 c.iss.size 0 5)
            generalize grownCap w11 c.iss.size 0 5 = cap2 at hcv2 hcap2
            obtain ⟨F2, hF2⟩ : ∃ f : Fd, f = ⟨3, some ⟨w11.heap.size, 0, none⟩, c.iss.size, cap2, c.iss.data.toList⟩ := ⟨_, rfl⟩
            replace hF2 := Lib.hid hF2
            have hda : Hid (BT (((w11.alloc (.cells (bytesRow c.iss cap2) 5 ((bytesRow c.iss cap2).size, (bytesRow c.iss cap2).size + 1))).alloc (.cells #[.int .i64 3, .slice (some ⟨w11.heap.size, 0, none⟩) c.iss.size cap2] 117)).drew) F2.A F2.n F2.d) := by show BT _ _ _ _; rw [hF2.out]; exact ((bt_conv w11 c.iss cap2 (by have := hcap2.out; omega) _ _).alloc _).drew
            have hrd : Hid (Reads (((w11.alloc (.cells (bytesRow c.iss cap2) 5 ((bytesRow c.iss cap2).size, (bytesRow c.iss cap2).size + 1))).alloc (.cells #[.int .i64 3, .slice (some ⟨w11.heap.size, 0, none⟩) c.iss.size cap2] 117)).drew) (w11.heap.size + 1 + 1) 2 (some ⟨w11.heap.size + 1, 0, none⟩) 1 (flat fdC [F2])) := by show Reads _ _ _ _ _ _; rw [hF2.out]; have := (fd_lit (w11.alloc (.cells (bytesRow c.iss cap2) 5 ((bytesRow c.iss cap2).size, (bytesRow c.iss cap2).size + 1))) 3 (some ⟨w11.heap.size, 0, none⟩) c.iss.size cap2 (c.iss.data.toList)).drew; simpa using this
            replace hL : Hid (LF (((w11.alloc (.cells (bytesRow c.iss cap2) 5 ((bytesRow c.iss cap2).size, (bytesRow c.iss cap2).size + 1))).alloc (.cells #[.int .i64 3, .slice (some ⟨w11.heap.size, 0, none⟩) c.iss.size cap2] 117)).drew) w1.heap.size v2 [F0, F1]) := ((hL.out.alloc _).alloc _).drew
            replace hq : Hid (BT (((w11.alloc (.cells (bytesRow c.iss cap2) 5 ((bytesRow c.iss cap2).size, (bytesRow c.iss cap2).size + 1))).alloc (.cells #[.int .i64 3, .slice (some ⟨w11.heap.size, 0, none⟩) c.iss.size cap2] 117)).drew) Ak nk (keyL c.key 8)) := ((hq.out.alloc _).alloc _).drew
            replace hb : Hid (Below w1.heap.size w1 (((w11.alloc (.cells (bytesRow c.iss cap2) 5 ((bytesRow c.iss cap2).size, (bytesRow c.iss cap2).size + 1))).alloc (.cells #[.int .i64 3, .slice (some ⟨w11.heap.size, 0, none⟩) c.iss.size cap2] 117)).drew)) := ((hb.out.alloc hb.out.size _).alloc (by have := hb.out.size; simp; omega) _).drew
            have hsz := Lib.hid hb.out.size)
         | (at_builtin
            refine wpList_append_any _ rfl (.tmp 39) (.tmp 44) _ rfl w1.heap.size 117 i1 _ 2 32 Try.underlying118 hi1.out hz10.out hz11.out hz12.out rfl (by omega) v2 2 (flat fdC [F0, F1]) rfl hL.out.own.2 (w11.heap.size + 1 + 1) (some ⟨w11.heap.size + 1, 0, none⟩) 1 1 (flat fdC [F2]) rfl hrd.out (fd_one _) (by decide) (by decide) hsz.out ?_
            intro v3 w12 hown1 hg1 hat1
            have hq2 := Lib.hid (hq.out.grown hL.out.own.2 hg1)
            have hb2 := Lib.hid (hb.out.trans (below_own2 hL.out.own.2 hsz.out hg1))
            have hL2 : Hid (LF w12 w1.heap.size v3 [F0, F1, F2]) := lf_app hL.out hda.out hown1 hg1
            clear hcv2 hcap2
            clear hown1 hg1 hat1 hL hq hb hda hrd hsz k0 k1 k2 k3 k4 k5 k6 k7
            have hL := hL2
            have hq := hq2
            have hb := hb2
            clear hL2 hq2 hb2
            obtain ⟨k0, k1, k2, k3, k4, k5, k6, k7⟩ := kz.out _ hb.out))
       clear k0 k1 k2 k3 k4 k5 k6 k7
       refine (rputInt_any (c.from_) w12 (by have := hk.out.s; have := hk.out.f; have := hk.out.t; omega) (by have := hk.out.s; have := hk.out.f; have := hk.out.t; omega)).mono ?_; rintro e u3 ⟨vd, rfl, ho, hbd⟩
       obtain ⟨A3, n3, c3, rfl, hd, -⟩ := bt_own ho
       clear ho
       replace hL := Lib.hid (hL.out.below hbd)
       replace hq := Lib.hid (hq.out.below hbd)
       replace hb := Lib.hid (hb.out.trans (hbd.mono hb.out.size))
       clear hbd
       obtain ⟨F3, hF3⟩ : ∃ f : Fd, f = ⟨4, A3, n3, c3, enc (zig c.from_)⟩ := ⟨_, rfl⟩
       replace hF3 := Lib.hid hF3
       obtain ⟨k0, k1, k2, k3, k4, k5, k6, k7⟩ := kz.out _ hb.out
       have hda : Hid (BT (u3.alloc (.cells #[.int .i64 4, .slice A3 n3 c3] 117)) F3.A F3.n F3.d) := by show BT _ _ _ _; rw [hF3.out]; exact hd.alloc _
       have hrd : Hid (Reads (u3.alloc (.cells #[.int .i64 4, .slice A3 n3 c3] 117)) (u3.heap.size + 1) 2 (some ⟨u3.heap.size, 0, none⟩) 1 (flat fdC [F3])) := by show Reads _ _ _ _ _ _; rw [hF3.out]; exact fd_lit _ _ _ _ _ _
       clear hd
       replace hL : Hid (LF (u3.alloc (.cells #[.int .i64 4, .slice A3 n3 c3] 117)) w1.heap.size v3 [F0, F1, F2]) := hL.out.alloc _
       replace hq : Hid (BT (u3.alloc (.cells #[.int .i64 4, .slice A3 n3 c3] 117)) Ak nk (keyL c.key 8)) := hq.out.alloc _
       replace hb : Hid (Below w1.heap.size w1 (u3.alloc (.cells #[.int .i64 4, .slice A3 n3 c3] 117))) := hb.out.alloc hb.out.size _
       have hsz := Lib.hid hb.out.size
       go_wp2_with (first
         | (at_builtin
            refine wpList_append_any _ rfl (.tmp 46) (.tmp 52) _ rfl w1.heap.size 117 i1 _ 2 32 Try.underlying118 hi1.out hz10.out hz11.out hz12.out rfl (by omega) v3 3 (flat fdC [F0, F1, F2]) rfl hL.out.own.2 (u3.heap.size + 1) (some ⟨u3.heap.size, 0, none⟩) 1 1 (flat fdC [F3]) rfl hrd.out (fd_one _) (by decide) (by decide) hsz.out ?_
            intro v4 w13 hown1 hg1 hat1
            have hq2 := Lib.hid (hq.out.grown hL.out.own.2 hg1)
            have hb2 := Lib.hid (hb.out.trans (below_own2 hL.out.own.2 hsz.out hg1))
            have hL2 : Hid (LF w13 w1.heap.size v4 [F0, F1, F2, F3]) := lf_app hL.out hda.out hown1 hg1
            clear hown1 hg1 hat1 hL hq hb hda hrd hsz k0 k1 k2 k3 k4 k5 k6 k7
            have hL := hL2
            have hq := hq2
            have hb := hb2
            clear hL2 hq2 hb2
            obtain ⟨k0, k1, k2, k3, k4, k5, k6, k7⟩ := kz.out _ hb.out))
       clear k0 k1 k2 k3 k4 k5 k6 k7
       refine (rputInt_any (c.to_) w13 (by have := hk.out.s; have := hk.out.f; have := hk.out.t; omega) (by have := hk.out.s; have := hk.out.f; have := hk.out.t; omega)).mono ?_; rintro e u4 ⟨vd, rfl, ho, hbd⟩
       obtain ⟨A4, n4, c4, rfl, hd, -⟩ := bt_own ho
       clear ho
       replace hL := Lib.hid (hL.out.below hbd)
       replace hq := Lib.hid (hq.out.below hbd)
       replace hb := Lib.hid (hb.out.trans (hbd.mono hb.out.size))
       clear hbd
       obtain ⟨F4, hF4⟩ : ∃ f : Fd, f = ⟨5, A4, n4, c4, enc (zig c.to_)⟩ := ⟨_, rfl⟩
       replace hF4 := Lib.hid hF4
       obtain ⟨k0, k1, k2, k3, k4, k5, k6, k7⟩ := kz.out _ hb.out
       have hda : Hid (BT (u4.alloc (.cells #[.int .i64 5, .slice A4 n4 c4] 117)) F4.A F4.n F4.d) := by show BT _ _ _ _; rw [hF4.out]; exact hd.alloc _
       have hrd : Hid (Reads (u4.alloc (.cells #[.int .i64 5, .slice A4 n4 c4] 117)) (u4.heap.size + 1) 2 (some ⟨u4.heap.size, 0, none⟩) 1 (flat fdC [F4])) := by show Reads _ _ _ _ _ _; rw [hF4.out]; exact fd_lit _ _ _ _ _ _
       clear hd
       replace hL : Hid (LF (u4.alloc (.cells #[.int .i64 5, .slice A4 n4 c4] 117)) w1.heap.size v4 [F0, F1, F2, F3]) := hL.out.alloc _
       replace hq : Hid (BT (u4.alloc (.cells #[.int .i64 5, .slice A4 n4 c4] 117)) Ak nk (keyL c.key 8)) := hq.out.alloc _
       replace hb : Hid (Below w1.heap.size w1 (u4.alloc (.cells #[.int .i64 5, .slice A4 n4 c4] 117))) := hb.out.alloc hb.out.size _
       have hsz := Lib.hid hb.out.size
       go_wp2_with (first
         | (at_builtin
            refine wpList_append_any _ rfl (.tmp 54) (.tmp 60) _ rfl w1.heap.size 117 i1 _ 2 32 Try.underlying118 hi1.out hz10.out hz11.out hz12.out rfl (by omega) v4 4 (flat fdC [F0, F1, F2, F3]) rfl hL.out.own.2 (u4.heap.size + 1) (some ⟨u4.heap.size, 0, none⟩) 1 1 (flat fdC [F4]) rfl hrd.out (fd_one _) (by decide) (by decide) hsz.out ?_
            intro v5 w14 hown1 hg1 hat1
            have hq2 := Lib.hid (hq.out.grown hL.out.own.2 hg1)
            have hb2 := Lib.hid (hb.out.trans (below_own2 hL.out.own.2 hsz.out hg1))
            have hL2 : Hid (LF w14 w1.heap.size v5 [F0, F1, F2, F3, F4]) := lf_app hL.out hda.out hown1 hg1
            clear hown1 hg1 hat1 hL hq hb hda hrd hsz k0 k1 k2 k3 k4 k5 k6 k7
            have hL := hL2
            have hq := hq2
            have hb := hb2
            clear hL2 hq2 hb2
            obtain ⟨k0, k1, k2, k3, k4, k5, k6, k7⟩ := kz.out _ hb.out))
       clear k0 k1 k2 k3 k4 k5 k6 k7
       refine (rputInt_any (0) w14 (by have := hk.out.s; have := hk.out.f; have := hk.out.t; omega) (by have := hk.out.s; have := hk.out.f; have := hk.out.t; omega)).mono ?_; rintro e u5 ⟨vd, rfl, ho, hbd⟩
       obtain ⟨A5, n5, c5, rfl, hd, -⟩ := bt_own ho
       clear ho
       replace hL := Lib.hid (hL.out.below hbd)
       replace hq := Lib.hid (hq.out.below hbd)
       replace hb := Lib.hid (hb.out.trans (hbd.mono hb.out.size))
       clear hbd
       obtain ⟨F5, hF5⟩ : ∃ f : Fd, f = ⟨6, A5, n5, c5, enc (zig 0)⟩ := ⟨_, rfl⟩
       replace hF5 := Lib.hid hF5
       obtain ⟨k0, k1, k2, k3, k4, k5, k6, k7⟩ := kz.out _ hb.out
       have hda : Hid (BT (u5.alloc (.cells #[.int .i64 6, .slice A5 n5 c5] 117)) F5.A F5.n F5.d) := by show BT _ _ _ _; rw [hF5.out]; exact hd.alloc _
       have hrd : Hid (Reads (u5.alloc (.cells #[.int .i64 6, .slice A5 n5 c5] 117)) (u5.heap.size + 1) 2 (some ⟨u5.heap.size, 0, none⟩) 1 (flat fdC [F5])) := by show Reads _ _ _ _ _ _; rw [hF5.out]; exact fd_lit _ _ _ _ _ _
       clear hd
       replace hL : Hid (LF (u5.alloc (.cells #[.int .i64 6, .slice A5 n5 c5] 117)) w1.heap.size v5 [F0, F1, F2, F3, F4]) := hL.out.alloc _
       replace hq : Hid (BT (u5.alloc (.cells #[.int .i64 6, .slice A5 n5 c5] 117)) Ak nk (keyL c.key 8)) := hq.out.alloc _
       replace hb : Hid (Below w1.heap.size w1 (u5.alloc (.cells #[.int .i64 6, .slice A5 n5 c5] 117))) := hb.out.alloc hb.out.size _
       have hsz := Lib.hid hb.out.size
       go_wp2_with (first
         | (at_builtin
            refine wpList_append_any _ rfl (.tmp 62) (.tmp 66) _ rfl w1.heap.size 117 i1 _ 2 32 Try.underlying118 hi1.out hz10.out hz11.out hz12.out rfl (by omega) v5 5 (flat fdC [F0, F1, F2, F3, F4]) rfl hL.out.own.2 (u5.heap.size + 1) (some ⟨u5.heap.size, 0, none⟩) 1 1 (flat fdC [F5]) rfl hrd.out (fd_one _) (by decide) (by decide) hsz.out ?_
            intro v6 w15 hown1 hg1 hat1
            have hq2 := Lib.hid (hq.out.grown hL.out.own.2 hg1)
            have hb2 := Lib.hid (hb.out.trans (below_own2 hL.out.own.2 hsz.out hg1))
            have hL2 : Hid (LF w15 w1.heap.size v6 [F0, F1, F2, F3, F4, F5]) := lf_app hL.out hda.out hown1 hg1
            clear hown1 hg1 hat1 hL hq hb hda hrd hsz k0 k1 k2 k3 k4 k5 k6 k7
            have hL := hL2
            have hq := hq2
            have hb := hb2
            clear hL2 hq2 hb2
            obtain ⟨k0, k1, k2, k3, k4, k5, k6, k7⟩ := kz.out _ hb.out
            obtain ⟨F6, hF6⟩ : ∃ f : Fd, f = ⟨7, Ak, nk, ck, keyL c.key 8⟩ := ⟨_, rfl⟩
            replace hF6 := Lib.hid hF6
            have hda : Hid (BT (w15.alloc (.cells #[.int .i64 7, .slice Ak nk ck] 117)) F6.A F6.n F6.d) := by show BT _ _ _ _; rw [hF6.out]; exact hq.out.alloc _
            have hrd : Hid (Reads (w15.alloc (.cells #[.int .i64 7, .slice Ak nk ck] 117)) (w15.heap.size + 1) 2 (some ⟨w15.heap.size, 0, none⟩) 1 (flat fdC [F6])) := by show Reads _ _ _ _ _ _; rw [hF6.out]; exact fd_lit _ _ _ _ _ _
            replace hL : Hid (LF (w15.alloc (.cells #[.int .i64 7, .slice Ak nk ck] 117)) w1.heap.size v6 [F0, F1, F2, F3, F4, F5]) := hL.out.alloc _
            replace hq : Hid (BT (w15.alloc (.cells #[.int .i64 7, .slice Ak nk ck] 117)) Ak nk (keyL c.key 8)) := hq.out.alloc _
            replace hb : Hid (Below w1.heap.size w1 (w15.alloc (.cells #[.int .i64 7, .slice Ak nk ck] 117))) := hb.out.alloc hb.out.size _
            have hsz := Lib.hid hb.out.size)
         | (at_builtin
            refine wpList_append_any _ rfl (.tmp 68) (.tmp 71) _ rfl w1.heap.size 117 i1 _ 2 32 Try.underlying118 hi1.out hz10.out hz11.out hz12.out rfl (by omega) v6 6 (flat fdC [F0, F1, F2, F3, F4, F5]) rfl hL.out.own.2 (w15.heap.size + 1) (some ⟨w15.heap.size, 0, none⟩) 1 1 (flat fdC [F6]) rfl hrd.out (fd_one _) (by decide) (by decide) hsz.out ?_
            intro v7 w16 hown1 hg1 hat1
            have hq2 := Lib.hid (hq.out.grown hL.out.own.2 hg1)
            have hb2 := Lib.hid (hb.out.trans (below_own2 hL.out.own.2 hsz.out hg1))
            have hL2 : Hid (LF w16 w1.heap.size v7 [F0, F1, F2, F3, F4, F5, F6]) := lf_app hL.out hda.out hown1 hg1
            clear hown1 hg1 hat1 hL hq hb hda hrd hsz k0 k1 k2 k3 k4 k5 k6 k7
            have hL := hL2
            have hq := hq2
            have hb := hb2
            clear hL2 hq2 hb2
            obtain ⟨k0, k1, k2, k3, k4, k5, k6, k7⟩ := kz.out _ hb.out))
       clear k0 k1 k2 k3 k4 k5 k6 k7
       have h7 : FdOk [F0, F1, F2, F3, F4, F5, F6] ∧ putB [F0, F1, F2, F3, F4, F5, F6] = ctB c 0 := by
         rw [hF0.out, hF1.out, hF2.out, hF3.out, hF4.out, hF5.out, hF6.out]
         exact seven_ok hk.out 0 _ _ _ _ _ _ _ _ _ _ _ _ _ _ _ _ _ _ _ _ _
       obtain ⟨A9, c9, rfl, -, -, -, hA9⟩ := hL.out.own.form
       refine (rput_any A9 _ _ c9 w16 hA9 (fun f hf => (hL.out.dat f hf).1) h7.1).mono ?_; rintro e w17 ⟨v, rfl, ho, hb9⟩
       rw [h7.2] at ho
       have hs := Lib.hid (own_sl (w' := w17) ho)
       have hbw : Hid (Below w.heap.size w w17) := by
         show Below _ _ _
         have h1 := hb.out.trans (hb9.mono hb.out.size)
         have hw1 := hw1.out
         subst hw1
         exact below_a h1
       clear ho hb9 h7 hA9
       go_wp2_with fail
       go_ret
       exact ⟨_, rfl, hs.out, hbw.out⟩
     · obtain ⟨A2, c2, rfl, hc2, hmx2, -, -⟩ := ho.out.form
       obtain ⟨k0, k1, k2, k3, k4, k5, k6, k7⟩ := kz.out _ hb.out
       match k, hk8, hk9 with
       | 0, _, _ =>
         have hv : c.key / 72057594037927936 = ((keyAt c.key 0).toNat : Int) := by unfold keyAt; simp; omega
         have hs8 := Lib.hid (keyL_snoc c.key 0)
         have hl8 := keyL_len c.key 0
         generalize keyAt c.key 0 = by_ at *
         generalize keyL c.key 0 = L at *
         generalize hL9 : keyL c.key (0 + 1) = L9 at *
         have hrd : Hid (Reads (wr.alloc (.cells #[.int .u8 (by_.toNat : Int)] 5)) (wr.heap.size + 1) 1 (some ⟨wr.heap.size, 0, none⟩) 1 (flat bC [by_])) := (lit_byte wr by_ _ rfl).2
         have hob : Hid (BOwn (wr.alloc (.cells #[.int .u8 (by_.toNat : Int)] 5)) w1.heap.size (.slice A2 L.length c2) L) := ho.out.alloc _
         have hsz := hb.out.size
         have hlL : Hid (L.length ≤ 8) := by show _ ≤ _; omega
         clear hl8
         go_wp2_with (at_builtin; refine wpList_append_any _ rfl (.tmp 15) (.tmp 23) _ rfl w1.heap.size 5 i0 _ 1 1 Try.underlying85 hi0 hz0 hz1 hz2 rfl (by omega) (.slice A2 L.length c2) L.length (flat bC L) rfl hob.out.2 (wr.heap.size + 1) (some ⟨wr.heap.size, 0, none⟩) 1 1 (flat bC [by_]) rfl hrd.out (bC_one _) (by have := hlL.out; simp only [maxLen]; omega) (by have := hlL.out; omega) (by simp; omega) ?_; intro v' w4 hown1 hg1 hat1)
         have hown2 : Hid (BOwn w4 w1.heap.size v' (L ++ [by_])) := ⟨bC_len, by rw [List.length_append, flat_append]; exact hown1⟩
         have hbw2 : Hid (Below w1.heap.size w1 w4) := (hb.out.alloc hb.out.size _).trans (below_own hob.out (by simp; omega) hg1)
         clear hown1 hg1 hat1
         go_wp2_with fail
         go_roundw
         case rel => exact ⟨0 + 1, by omega, by go_num, by rw [hL9, hs8.out]; exact hown2.out, hbw2.out⟩
         case measure => simp [intOf]
       | 1, _, _ =>
         have hv : c.key / 281474976710656 % 256 = ((keyAt c.key 1).toNat : Int) := by unfold keyAt; simp; omega
         have hs8 := Lib.hid (keyL_snoc c.key 1)
         have hl8 := keyL_len c.key 1
         generalize keyAt c.key 1 = by_ at *
         generalize keyL c.key 1 = L at *
         generalize hL9 : keyL c.key (1 + 1) = L9 at *
         have hrd : Hid (Reads (wr.alloc (.cells #[.int .u8 (by_.toNat : Int)] 5)) (wr.heap.size + 1) 1 (some ⟨wr.heap.size, 0, none⟩) 1 (flat bC [by_])) := (lit_byte wr by_ _ rfl).2
         have hob : Hid (BOwn (wr.alloc (.cells #[.int .u8 (by_.toNat : Int)] 5)) w1.heap.size (.slice A2 L.length c2) L) := ho.out.alloc _
         have hsz := hb.out.size
         have hlL : Hid (L.length ≤ 8) := by show _ ≤ _; omega
         clear hl8
         go_wp2_with (at_builtin; refine wpList_append_any _ rfl (.tmp 15) (.tmp 23) _ rfl w1.heap.size 5 i0 _ 1 1 Try.underlying85 hi0 hz0 hz1 hz2 rfl (by omega) (.slice A2 L.length c2) L.length (flat bC L) rfl hob.out.2 (wr.heap.size + 1) (some ⟨wr.heap.size, 0, none⟩) 1 1 (flat bC [by_]) rfl hrd.out (bC_one _) (by have := hlL.out; simp only [maxLen]; omega) (by have := hlL.out; omega) (by simp; omega) ?_; intro v' w4 hown1 hg1 hat1)
         have hown2 : Hid (BOwn w4 w1.heap.size v' (L ++ [by_])) := ⟨bC_len, by rw [List.length_append, flat_append]; exact hown1⟩
         have hbw2 : Hid (Below w1.heap.size w1 w4) := (hb.out.alloc hb.out.size _).trans (below_own hob.out (by simp; omega) hg1)
         clear hown1 hg1 hat1
         go_wp2_with fail
         go_roundw
         case rel => exact ⟨1 + 1, by omega, by go_num, by rw [hL9, hs8.out]; exact hown2.out, hbw2.out⟩
         case measure => simp [intOf]
       | 2, _, _ =>
         have hv : c.key / 1099511627776 % 256 = ((keyAt c.key 2).toNat : Int) := by unfold keyAt; simp; omega
         have hs8 := Lib.hid (keyL_snoc c.key 2)
         have hl8 := keyL_len c.key 2
         generalize keyAt c.key 2 = by_ at *
         generalize keyL c.key 2 = L at *
         generalize hL9 : keyL c.key (2 + 1) = L9 at *
         have hrd : Hid (Reads (wr.alloc (.cells #[.int .u8 (by_.toNat : Int)] 5)) (wr.heap.size + 1) 1 (some ⟨wr.heap.size, 0, none⟩) 1 (flat bC [by_])) := (lit_byte wr by_ _ rfl).2
         have hob : Hid (BOwn (wr.alloc (.cells #[.int .u8 (by_.toNat : Int)] 5)) w1.heap.size (.slice A2 L.length c2) L) := ho.out.alloc _
         have hsz := hb.out.size
         have hlL : Hid (L.length ≤ 8) := by show _ ≤ _; omega
         clear hl8
         go_wp2_with (at_builtin; refine wpList_append_any _ rfl (.tmp 15) (.tmp 23) _ rfl w1.heap.size 5 i0 _ 1 1 Try.underlying85 hi0 hz0 hz1 hz2 rfl (by omega) (.slice A2 L.length c2) L.length (flat bC L) rfl hob.out.2 (wr.heap.size + 1) (some ⟨wr.heap.size, 0, none⟩) 1 1 (flat bC [by_]) rfl hrd.out (bC_one _) (by have := hlL.out; simp only [maxLen]; omega) (by have := hlL.out; omega) (by simp; omega) ?_; intro v' w4 hown1 hg1 hat1)
         have hown2 : Hid (BOwn w4 w1.heap.size v' (L ++ [by_])) := ⟨bC_len, by rw [List.length_append, flat_append]; exact hown1⟩
         have hbw2 : Hid (Below w1.heap.size w1 w4) := (hb.out.alloc hb.out.size _).trans (below_own hob.out (by simp; omega) hg1)
         clear hown1 hg1 hat1
         go_wp2_with fail
         go_roundw
         case rel => exact ⟨2 + 1, by omega, by go_num, by rw [hL9, hs8.out]; exact hown2.out, hbw2.out⟩
         case measure => simp [intOf]
       | 3, _, _ =>
         have hv : c.key / 4294967296 % 256 = ((keyAt c.key 3).toNat : Int) := by unfold keyAt; simp; omega
         have hs8 := Lib.hid (keyL_snoc c.key 3)
         have hl8 := keyL_len c.key 3
         generalize keyAt c.key 3 = by_ at *
         generalize keyL c.key 3 = L at *
         generalize hL9 : keyL c.key (3 + 1) = L9 at *
         have hrd : Hid (Reads (wr.alloc (.cells #[.int .u8 (by_.toNat : Int)] 5)) (wr.heap.size + 1) 1 (some ⟨wr.heap.size, 0, none⟩) 1 (flat bC [by_])) := (lit_byte wr by_ _ rfl).2
         have hob : Hid (BOwn (wr.alloc (.cells #[.int .u8 (by_.toNat : Int)] 5)) w1.heap.size (.slice A2 L.length c2) L) := ho.out.alloc _
         have hsz := hb.out.size
         have hlL : Hid (L.length ≤ 8) := by show _ ≤ _; omega
         clear hl8
         go_wp2_with (at_builtin; refine wpList_append_any _ rfl (.tmp 15) (.tmp 23) _ rfl w1.heap.size 5 i0 _ 1 1 Try.underlying85 hi0 hz0 hz1 hz2 rfl (by omega) (.slice A2 L.length c2) L.length (flat bC L) rfl hob.out.2 (wr.heap.size + 1) (some ⟨wr.heap.size, 0, none⟩) 1 1 (flat bC [by_]) rfl hrd.out (bC_one _) (by have := hlL.out; simp only [maxLen]; omega) (by have := hlL.out; omega) (by simp; omega) ?_; intro v' w4 hown1 hg1 hat1)
         have hown2 : Hid (BOwn w4 w1.heap.size v' (L ++ [by_])) := ⟨bC_len, by rw [List.length_append, flat_append]; exact hown1⟩
         have hbw2 : Hid (Below w1.heap.size w1 w4) := (hb.out.alloc hb.out.size _).trans (below_own hob.out (by simp; omega) hg1)
         clear hown1 hg1 hat1
         go_wp2_with fail
         go_roundw
         case rel => exact ⟨3 + 1, by omega, by go_num, by rw [hL9, hs8.out]; exact hown2.out, hbw2.out⟩
         case measure => simp [intOf]
       | 4, _, _ =>
         have hv : c.key / 16777216 % 256 = ((keyAt c.key 4).toNat : Int) := by unfold keyAt; simp; omega
         have hs8 := Lib.hid (keyL_snoc c.key 4)
         have hl8 := keyL_len c.key 4
         generalize keyAt c.key 4 = by_ at *
         generalize keyL c.key 4 = L at *
         generalize hL9 : keyL c.key (4 + 1) = L9 at *
         have hrd : Hid (Reads (wr.alloc (.cells #[.int .u8 (by_.toNat : Int)] 5)) (wr.heap.size + 1) 1 (some ⟨wr.heap.size, 0, none⟩) 1 (flat bC [by_])) := (lit_byte wr by_ _ rfl).2
         have hob : Hid (BOwn (wr.alloc (.cells #[.int .u8 (by_.toNat : Int)] 5)) w1.heap.size (.slice A2 L.length c2) L) := ho.out.alloc _
         have hsz := hb.out.size
         have hlL : Hid (L.length ≤ 8) := by show _ ≤ _; omega
         clear hl8
         go_wp2_with (at_builtin; refine wpList_append_any _ rfl (.tmp 15) (.tmp 23) _ rfl w1.heap.size 5 i0 _ 1 1 Try.underlying85 hi0 hz0 hz1 hz2 rfl (by omega) (.slice A2 L.length c2) L.length (flat bC L) rfl hob.out.2 (wr.heap.size + 1) (some ⟨wr.heap.size, 0, none⟩) 1 1 (flat bC [by_]) rfl hrd.out (bC_one _) (by have := hlL.out; simp only [maxLen]; omega) (by have := hlL.out; omega) (by simp; omega) ?_; intro v' w4 hown1 hg1 hat1)
         have hown2 : Hid (BOwn w4 w1.heap.size v' (L ++ [by_])) := ⟨bC_len, by rw [List.length_append, flat_append]; exact hown1⟩
         have hbw2 : Hid (Below w1.heap.size w1 w4) := (hb.out.alloc hb.out.size _).trans (below_own hob.out (by simp; omega) hg1)
         clear hown1 hg1 hat1
         go_wp2_with fail
         go_roundw
         case rel => exact ⟨4 + 1, by omega, by go_num, by rw [hL9, hs8.out]; exact hown2.out, hbw2.out⟩
         case measure => simp [intOf]
       | 5, _, _ =>
         have hv : c.key / 65536 % 256 = ((keyAt c.key 5).toNat : Int) := by unfold keyAt; simp; omega
         have hs8 := Lib.hid (keyL_snoc c.key 5)
         have hl8 := keyL_len c.key 5
         generalize keyAt c.key 5 = by_ at *
         generalize keyL c.key 5 = L at *
         generalize hL9 : keyL c.key (5 + 1) = L9 at *
         have hrd : Hid (Reads (wr.alloc (.cells #[.int .u8 (by_.toNat : Int)] 5)) (wr.heap.size + 1) 1 (some ⟨wr.heap.size, 0, none⟩) 1 (flat bC [by_])) := (lit_byte wr by_ _ rfl).2
         have hob : Hid (BOwn (wr.alloc (.cells #[.int .u8 (by_.toNat : Int)] 5)) w1.heap.size (.slice A2 L.length c2) L) := ho.out.alloc _
         have hsz := hb.out.size
         have hlL : Hid (L.length ≤ 8) := by show _ ≤ _; omega
         clear hl8
         go_wp2_with (at_builtin; refine wpList_append_any _ rfl (.tmp 15) (.tmp 23) _ rfl w1.heap.size 5 i0 _ 1 1 Try.underlying85 hi0 hz0 hz1 hz2 rfl (by omega) (.slice A2 L.length c2) L.length (flat bC L) rfl hob.out.2 (wr.heap.size + 1) (some ⟨wr.heap.size, 0, none⟩) 1 1 (flat bC [by_]) rfl hrd.out (bC_one _) (by have := hlL.out; simp only [maxLen]; omega) (by have := hlL.out; omega) (by simp; omega) ?_; intro v' w4 hown1 hg1 hat1)
         have hown2 : Hid (BOwn w4 w1.heap.size v' (L ++ [by_])) := ⟨bC_len, by rw [List.length_append, flat_append]; exact hown1⟩
         have hbw2 : Hid (Below w1.heap.size w1 w4) := (hb.out.alloc hb.out.size _).trans (below_own hob.out (by simp; omega) hg1)
         clear hown1 hg1 hat1
         go_wp2_with fail
         go_roundw
         case rel => exact ⟨5 + 1, by omega, by go_num, by rw [hL9, hs8.out]; exact hown2.out, hbw2.out⟩
         case measure => simp [intOf]
       | 6, _, _ =>
         have hv : c.key / 256 % 256 = ((keyAt c.key 6).toNat : Int) := by unfold keyAt; simp; omega
         have hs8 := Lib.hid (keyL_snoc c.key 6)
         have hl8 := keyL_len c.key 6
         generalize keyAt c.key 6 = by_ at *
         generalize keyL c.key 6 = L at *
         generalize hL9 : keyL c.key (6 + 1) = L9 at *
         have hrd : Hid (Reads (wr.alloc (.cells #[.int .u8 (by_.toNat : Int)] 5)) (wr.heap.size + 1) 1 (some ⟨wr.heap.size, 0, none⟩) 1 (flat bC [by_])) := (lit_byte wr by_ _ rfl).2
         have hob : Hid (BOwn (wr.alloc (.cells #[.int .u8 (by_.toNat : Int)] 5)) w1.heap.size (.slice A2 L.length c2) L) := ho.out.alloc _
         have hsz := hb.out.size
         have hlL : Hid (L.length ≤ 8) := by show _ ≤ _; omega
         clear hl8
         go_wp2_with (at_builtin; refine wpList_append_any _ rfl (.tmp 15) (.tmp 23) _ rfl w1.heap.size 5 i0 _ 1 1 Try.underlying85 hi0 hz0 hz1 hz2 rfl (by omega) (.slice A2 L.length c2) L.length (flat bC L) rfl hob.out.2 (wr.heap.size + 1) (some ⟨wr.heap.size, 0, none⟩) 1 1 (flat bC [by_]) rfl hrd.out (bC_one _) (by have := hlL.out; simp only [maxLen]; omega) (by have := hlL.out; omega) (by simp; omega) ?_; intro v' w4 hown1 hg1 hat1)
         have hown2 : Hid (BOwn w4 w1.heap.size v' (L ++ [by_])) := ⟨bC_len, by rw [List.length_append, flat_append]; exact hown1⟩
         have hbw2 : Hid (Below w1.heap.size w1 w4) := (hb.out.alloc hb.out.size _).trans (below_own hob.out (by simp; omega) hg1)
         clear hown1 hg1 hat1
         go_wp2_with fail
         go_roundw
         case rel => exact ⟨6 + 1, by omega, by go_num, by rw [hL9, hs8.out]; exact hown2.out, hbw2.out⟩
         case measure => simp [intOf]
       | 7, _, _ =>
         have hv : c.key % 256 = ((keyAt c.key 7).toNat : Int) := by unfold keyAt; simp; omega
         have hs8 := Lib.hid (keyL_snoc c.key 7)
         have hl8 := keyL_len c.key 7
         generalize keyAt c.key 7 = by_ at *
         generalize keyL c.key 7 = L at *
         generalize hL9 : keyL c.key (7 + 1) = L9 at *
         have hrd : Hid (Reads (wr.alloc (.cells #[.int .u8 (by_.toNat : Int)] 5)) (wr.heap.size + 1) 1 (some ⟨wr.heap.size, 0, none⟩) 1 (flat bC [by_])) := (lit_byte wr by_ _ rfl).2
         have hob : Hid (BOwn (wr.alloc (.cells #[.int .u8 (by_.toNat : Int)] 5)) w1.heap.size (.slice A2 L.length c2) L) := ho.out.alloc _
         have hsz := hb.out.size
         have hlL : Hid (L.length ≤ 8) := by show _ ≤ _; omega
         clear hl8
         go_wp2_with (at_builtin; refine wpList_append_any _ rfl (.tmp 15) (.tmp 23) _ rfl w1.heap.size 5 i0 _ 1 1 Try.underlying85 hi0 hz0 hz1 hz2 rfl (by omega) (.slice A2 L.length c2) L.length (flat bC L) rfl hob.out.2 (wr.heap.size + 1) (some ⟨wr.heap.size, 0, none⟩) 1 1 (flat bC [by_]) rfl hrd.out (bC_one _) (by have := hlL.out; simp only [maxLen]; omega) (by have := hlL.out; omega) (by simp; omega) ?_; intro v' w4 hown1 hg1 hat1)
         have hown2 : Hid (BOwn w4 w1.heap.size v' (L ++ [by_])) := ⟨bC_len, by rw [List.length_append, flat_append]; exact hown1⟩
         have hbw2 : Hid (Below w1.heap.size w1 w4) := (hb.out.alloc hb.out.size _).trans (below_own hob.out (by simp; omega) hg1)
         clear hown1 hg1 hat1
         go_wp2_with fail
         go_roundw
         case rel => exact ⟨7 + 1, by omega, by go_num, by rw [hL9, hs8.out]; exact hown2.out, hbw2.out⟩
         case measure => simp [intOf]
       | n + 8, h8, h9 => exact absurd h8 (by omega)
end Go.Proofs.Ytiggpgeldigknaa
