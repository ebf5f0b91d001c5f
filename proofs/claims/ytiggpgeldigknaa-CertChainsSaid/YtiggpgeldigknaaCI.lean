/- Certs: the trusted root for a name, of both. -/
import Derived.Test.YtiggpgeldigknaaCH
import Derived.Test.YtiggpgeldigknaaCG
set_option linter.unusedVariables false
set_option linter.unusedSimpArgs false
namespace Go.Proofs.Ytiggpgeldigknaa
open Go.RowKit
theorem ct_cells {w : World} {B : Nat} {A : Option Addr} {n : Nat} {l : List Ct} (h : LAt ctC 8 w B A n l) {k : Nat} (hk : k < n) : ∃ ad, A = some ad ∧ ad.block < B ∧
    w.cell? (ad.add (k * 8)) = some (Value.int .i64 (l[k]'(by rw [h.len]; exact hk)).serial) ∧
    w.cell? ⟨(ad.add (k * 8)).block, (ad.add (k * 8)).off + 1, none⟩ = some (Value.string (l[k]'(by rw [h.len]; exact hk)).subj) ∧
    w.cell? ⟨(ad.add (k * 8)).block, (ad.add (k * 8)).off + 2, none⟩ = some (Value.string (l[k]'(by rw [h.len]; exact hk)).iss) ∧
    w.cell? ⟨(ad.add (k * 8)).block, (ad.add (k * 8)).off + 3, none⟩ = some (Value.int .i64 (l[k]'(by rw [h.len]; exact hk)).from_) ∧
    w.cell? ⟨(ad.add (k * 8)).block, (ad.add (k * 8)).off + 4, none⟩ = some (Value.int .i64 (l[k]'(by rw [h.len]; exact hk)).to_) ∧
    w.cell? ⟨(ad.add (k * 8)).block, (ad.add (k * 8)).off + 5, none⟩ = some (Value.bool (l[k]'(by rw [h.len]; exact hk)).ca) ∧
    w.cell? ⟨(ad.add (k * 8)).block, (ad.add (k * 8)).off + 6, none⟩ = some (Value.int .u64 (l[k]'(by rw [h.len]; exact hk)).key) ∧
    w.cell? ⟨(ad.add (k * 8)).block, (ad.add (k * 8)).off + 7, none⟩ = some (Value.int .u64 (l[k]'(by rw [h.len]; exact hk)).sl) := by
  obtain ⟨ad, hA, hb, hc⟩ := h.at_ hk
  refine ⟨ad, hA, hb, hc 0 _ rfl, ?_, ?_, ?_, ?_, ?_, ?_, ?_⟩
  · rw [← add_next ad (k * 8) 0]; exact hc 1 _ rfl
  · rw [← add_next ad (k * 8) 1]; exact hc 2 _ rfl
  · rw [← add_next ad (k * 8) 2]; exact hc 3 _ rfl
  · rw [← add_next ad (k * 8) 3]; exact hc 4 _ rfl
  · rw [← add_next ad (k * 8) 4]; exact hc 5 _ rfl
  · rw [← add_next ad (k * 8) 5]; exact hc 6 _ rfl
  · rw [← add_next ad (k * 8) 6]; exact hc 7 _ rfl
theorem str_ne {a b : ByteArray} (h : ¬ a = b) : ¬ a.toList = b.toList := by
  intro e
  rw [ByteArray.toList_eq, ByteArray.toList_eq] at e
  exact h (Go.WideShapes.bytes_inj e)
def trustOk (rv : List Int) (nm : ByteArray) (now : Int) (r : Ct) : Bool := decide (r.subj = nm) && (r.ca && (decide (validE r = 0) && (spanH r.from_ r.to_ now && !hasI rv r.serial)))
def rootF (rv : List Int) (nm : ByteArray) (now : Int) (R : List Ct) : Option Ct := R.find? (trustOk rv nm now)
def resC : Option Ct → Value
  | none => .tuple #[.agg (ctC noCt).toArray, .bool false]
  | some r => .tuple #[.agg (ctC r).toArray, .bool true]
theorem rootF_step (rv : List Int) (nm : ByteArray) (now : Int) (R : List Ct) (k : Nat) (h : k < R.length) : rootF rv nm now (R.drop k) = if trustOk rv nm now R[k] = true then some R[k] else rootF rv nm now (R.drop (k + 1)) := by
  rw [List.drop_eq_getElem_cons h]
  unfold rootF
  rw [List.find?_cons]
  cases trustOk rv nm now R[k] <;> rfl
set_option maxRecDepth 100000 in
set_option maxHeartbeats 4000000 in
theorem croot_any (A A2 : Option Addr) (n n2 cp cp2 : Nat) (R : List Ct) (rv : List Int) (nm : ByteArray) (now : Int) (w : World) (h : LAt ctC 8 w w.heap.size A n R) (hV : LAt iC 1 w w.heap.size A2 n2 rv) (hn1 : n ≤ 1000) (hn2 : n2 ≤ 1000) :
    Calls Try.prog 104 #[.agg #[Value.slice A n cp, Value.slice A2 n2 cp2], .string nm, .int .i64 now] w fun e w' => e = .returned (resC (rootF rv nm now R)) ∧ Below w.heap.size w w' := by
  have hn := Lib.hid h.len
  go_enter Try.func104, Try.ntmps104
  have p0 := ((Blk.new w 59 #[Value.slice A n cp, Value.slice A2 n2 cp2]).alloc (.cells #[Value.int .i64 0, Value.string ⟨#[]⟩, Value.string ⟨#[]⟩, Value.int .i64 0, Value.int .i64 0, Value.bool false, Value.int .u64 0, Value.int .u64 0] 52))
  have p1 := (Blk.new (w.alloc (.cells #[Value.slice A n cp, Value.slice A2 n2 cp2] 59)) 52 #[Value.int .i64 0, Value.string ⟨#[]⟩, Value.string ⟨#[]⟩, Value.int .i64 0, Value.int .i64 0, Value.bool false, Value.int .u64 0, Value.int .u64 0])
  have hbw : Hid (Below w.heap.size w ((w.alloc (.cells #[Value.slice A n cp, Value.slice A2 n2 cp2] 59)).alloc (.cells #[Value.int .i64 0, Value.string ⟨#[]⟩, Value.string ⟨#[]⟩, Value.int .i64 0, Value.int .i64 0, Value.bool false, Value.int .u64 0, Value.int .u64 0] 52))) := (((Below.refl _ w).alloc (Nat.le_refl _) _).alloc (by simp) _)
  rw [show (w.alloc (.cells #[Value.slice A n cp, Value.slice A2 n2 cp2] 59)).heap.size = w.heap.size + 1 by simp] at p1
  have h2 := h.more hbw.out
  have hV2 := hV.more hbw.out
  go_wp2_with fail
  generalize (w.alloc (.cells #[Value.slice A n cp, Value.slice A2 n2 cp2] 59)).alloc (.cells #[Value.int .i64 0, Value.string ⟨#[]⟩, Value.string ⟨#[]⟩, Value.int .i64 0, Value.int .i64 0, Value.bool false, Value.int .u64 0, Value.int .u64 0] 52) = w2 at *
  clear h hV
  replace h2 := Lib.hid h2
  replace hV2 := Lib.hid hV2
  replace p0 := Lib.hid p0
  replace p1 := Lib.hid p1
  obtain ⟨t0, t1⟩ := (show w2.cell? ⟨w.heap.size, 0, none⟩ = some (Value.slice A n cp) ∧ w2.cell? ⟨w.heap.size, 1, none⟩ = some (Value.slice A2 n2 cp2) from ⟨p0.out.cell 0, p0.out.cell 1⟩)
  go_wp2_with fail
  clear t0 t1
  go_loopw [13] (fun i wr => ∃ k : Nat, k ≤ n ∧ i = .int .i64 k ∧ Hid (Below w2.heap.size w2 wr) ∧ Hid (rootF rv nm now R = rootF rv nm now (R.drop k))) (fun i _ => n - (intOf i).toNat)
  case atStart => exact ⟨0, Nat.zero_le _, rfl, Below.refl _ _, rfl⟩
  case round =>
    obtain ⟨k, hkn, rfl, hb, hx⟩ := hrel
    obtain ⟨t0, t1⟩ := (show wr.cell? ⟨w.heap.size, 0, none⟩ = some (Value.slice A n cp) ∧ wr.cell? ⟨w.heap.size, 1, none⟩ = some (Value.slice A2 n2 cp2) from by
      have q := p0.out.below hb.out p0.out.lt
      exact ⟨q.cell 0, q.cell 1⟩)
    by_cases hlt : k < n
    · have hk0 : (0 : Int) ≤ k := by omega
      have hk1 : (k : Int) < n := by omega
      have hkl : k < R.length := by have := hn.out; omega
      have hst := Lib.hid (rootF_step rv nm now R k hkl)
      obtain ⟨ad, hA, hadb, e0, e1, e2, e3, e4, e5, e6, e7⟩ := ct_cells (h2.out.below hb.out (Nat.le_refl _)) hlt
      subst hA
      generalize R[k] = y at *
      obtain ⟨s, sb, is_, f, t, ca, ky, sl⟩ := y
      by_cases h1 : nm = sb
      · subst h1
        cases ca with
        | true =>
          go_wp2_with fail
          clear t0 t1
          have py := Lib.hid (Blk.new wr 52 #[Value.int .i64 s, Value.string nm, Value.string is_, Value.int .i64 f, Value.int .i64 t, Value.bool true, Value.int .u64 ky, Value.int .u64 sl])
          have pz := Lib.hid ((p1.out.below hb.out p1.out.lt).alloc (.cells #[Value.int .i64 s, Value.string nm, Value.string is_, Value.int .i64 f, Value.int .i64 t, Value.bool true, Value.int .u64 ky, Value.int .u64 sl] 52))
          have pt := Lib.hid ((p0.out.below hb.out p0.out.lt).alloc (.cells #[Value.int .i64 s, Value.string nm, Value.string is_, Value.int .i64 f, Value.int .i64 t, Value.bool true, Value.int .u64 ky, Value.int .u64 sl] 52))
          have hb := Lib.hid (below_new hb.out (.cells #[Value.int .i64 s, Value.string nm, Value.string is_, Value.int .i64 f, Value.int .i64 t, Value.bool true, Value.int .u64 ky, Value.int .u64 sl] 52))
          generalize wr.alloc (.cells #[Value.int .i64 s, Value.string nm, Value.string is_, Value.int .i64 f, Value.int .i64 t, Value.bool true, Value.int .u64 ky, Value.int .u64 sl] 52) = w3 at *
          refine (valid_any ⟨s, nm, is_, f, t, true, ky, sl⟩ _).mono ?_; rintro e w4 ⟨rfl, hq⟩
          have py := Lib.hid (py.out.below hq py.out.lt)
          have pz := Lib.hid (pz.out.below hq pz.out.lt)
          have pt := Lib.hid (pt.out.below hq pt.out.lt)
          have hb := Lib.hid (hb.out.trans (hq.mono hb.out.size))
          clear hq
          by_cases hE : validE ⟨s, nm, is_, f, t, true, ky, sl⟩ = 0
          · generalize hv0 : validE ⟨s, nm, is_, f, t, true, ky, sl⟩ = v0 at *
            subst hE
            have hE := hv0
            replace hv0 := Lib.hid hv0
            generalize hsp : spanH f t now = sp
            obtain ⟨t0, t1, k0, k1, k2, k3, k4, k5, k6, k7⟩ := (show w4.cell? ⟨w.heap.size, 0, none⟩ = some (Value.slice _ n cp) ∧ w4.cell? ⟨w.heap.size, 1, none⟩ = some (Value.slice A2 n2 cp2) ∧ w4.cell? ⟨wr.heap.size, 0, none⟩ = some (Value.int .i64 s) ∧ w4.cell? ⟨wr.heap.size, 1, none⟩ = some (Value.string nm) ∧ w4.cell? ⟨wr.heap.size, 2, none⟩ = some (Value.string is_) ∧ w4.cell? ⟨wr.heap.size, 3, none⟩ = some (Value.int .i64 f) ∧ w4.cell? ⟨wr.heap.size, 4, none⟩ = some (Value.int .i64 t) ∧ w4.cell? ⟨wr.heap.size, 5, none⟩ = some (Value.bool true) ∧ w4.cell? ⟨wr.heap.size, 6, none⟩ = some (Value.int .u64 ky) ∧ w4.cell? ⟨wr.heap.size, 7, none⟩ = some (Value.int .u64 sl) from ⟨pt.out.cell 0, pt.out.cell 1, py.out.cell 0, py.out.cell 1, py.out.cell 2, py.out.cell 3, py.out.cell 4, py.out.cell 5, py.out.cell 6, py.out.cell 7⟩)
            go_wp2_with fail
            clear t0 t1 k0 k1 k2 k3 k4 k5 k6 k7
            refine (contains_any f t now _).mono ?_; rintro e w5 ⟨rfl, hq⟩
            have py := Lib.hid (py.out.below hq py.out.lt)
            have pz := Lib.hid (pz.out.below hq pz.out.lt)
            have pt := Lib.hid (pt.out.below hq pt.out.lt)
            have hb := Lib.hid (hb.out.trans (hq.mono hb.out.size))
            clear hq
            rw [hsp]
            cases sp with
            | true =>
              obtain ⟨t0, t1, k0, k1, k2, k3, k4, k5, k6, k7⟩ := (show w5.cell? ⟨w.heap.size, 0, none⟩ = some (Value.slice _ n cp) ∧ w5.cell? ⟨w.heap.size, 1, none⟩ = some (Value.slice A2 n2 cp2) ∧ w5.cell? ⟨wr.heap.size, 0, none⟩ = some (Value.int .i64 s) ∧ w5.cell? ⟨wr.heap.size, 1, none⟩ = some (Value.string nm) ∧ w5.cell? ⟨wr.heap.size, 2, none⟩ = some (Value.string is_) ∧ w5.cell? ⟨wr.heap.size, 3, none⟩ = some (Value.int .i64 f) ∧ w5.cell? ⟨wr.heap.size, 4, none⟩ = some (Value.int .i64 t) ∧ w5.cell? ⟨wr.heap.size, 5, none⟩ = some (Value.bool true) ∧ w5.cell? ⟨wr.heap.size, 6, none⟩ = some (Value.int .u64 ky) ∧ w5.cell? ⟨wr.heap.size, 7, none⟩ = some (Value.int .u64 sl) from ⟨pt.out.cell 0, pt.out.cell 1, py.out.cell 0, py.out.cell 1, py.out.cell 2, py.out.cell 3, py.out.cell 4, py.out.cell 5, py.out.cell 6, py.out.cell 7⟩)
              generalize hhs : hasI rv s = hh
              have hq0 := has_any A2 rv n2 cp2 s w5 (hV2.out.more hb.out) hn2
              rw [hhs] at hq0
              replace hq0 := Lib.hid hq0
              go_wp2_with fail
              clear t0 t1 k0 k1 k2 k3 k4 k5 k6 k7
              refine (hq0.out).mono ?_; rintro e w6 ⟨rfl, hq⟩
              have py := Lib.hid (py.out.below hq py.out.lt)
              have pz := Lib.hid (pz.out.below hq pz.out.lt)
              have pt := Lib.hid (pt.out.below hq pt.out.lt)
              have hb := Lib.hid (hb.out.trans (hq.mono hb.out.size))
              clear hq
              cases hh with
              | false =>
                have hS : Hid (rootF rv nm now R = some ⟨s, nm, is_, f, t, true, ky, sl⟩) := by show _ = _; rw [hx.out, hst.out, if_pos (by simp [trustOk, hE, hsp, hhs])]
                have hb := Lib.hid (hbw.out.trans (hb.out.mono hbw.out.size))
                obtain ⟨k0, k1, k2, k3, k4, k5, k6, k7, z0, z1, z2, z3, z4, z5, z6, z7, g0, g1, g2, g3, g4, g5, g6, g7⟩ := (show w6.cell? ⟨wr.heap.size, 0, none⟩ = some (Value.int .i64 s) ∧ w6.cell? ⟨wr.heap.size, 1, none⟩ = some (Value.string nm) ∧ w6.cell? ⟨wr.heap.size, 2, none⟩ = some (Value.string is_) ∧ w6.cell? ⟨wr.heap.size, 3, none⟩ = some (Value.int .i64 f) ∧ w6.cell? ⟨wr.heap.size, 4, none⟩ = some (Value.int .i64 t) ∧ w6.cell? ⟨wr.heap.size, 5, none⟩ = some (Value.bool true) ∧ w6.cell? ⟨wr.heap.size, 6, none⟩ = some (Value.int .u64 ky) ∧ w6.cell? ⟨wr.heap.size, 7, none⟩ = some (Value.int .u64 sl) ∧ w6.cell? ⟨w.heap.size + 1, 0, none⟩ = some (Value.int .i64 0) ∧ w6.cell? ⟨w.heap.size + 1, 1, none⟩ = some (Value.string ⟨#[]⟩) ∧ w6.cell? ⟨w.heap.size + 1, 2, none⟩ = some (Value.string ⟨#[]⟩) ∧ w6.cell? ⟨w.heap.size + 1, 3, none⟩ = some (Value.int .i64 0) ∧ w6.cell? ⟨w.heap.size + 1, 4, none⟩ = some (Value.int .i64 0) ∧ w6.cell? ⟨w.heap.size + 1, 5, none⟩ = some (Value.bool false) ∧ w6.cell? ⟨w.heap.size + 1, 6, none⟩ = some (Value.int .u64 0) ∧ w6.cell? ⟨w.heap.size + 1, 7, none⟩ = some (Value.int .u64 0) ∧ w6.frozen? ⟨w.heap.size + 1, 0, none⟩ = false ∧ w6.frozen? ⟨w.heap.size + 1, 1, none⟩ = false ∧ w6.frozen? ⟨w.heap.size + 1, 2, none⟩ = false ∧ w6.frozen? ⟨w.heap.size + 1, 3, none⟩ = false ∧ w6.frozen? ⟨w.heap.size + 1, 4, none⟩ = false ∧ w6.frozen? ⟨w.heap.size + 1, 5, none⟩ = false ∧ w6.frozen? ⟨w.heap.size + 1, 6, none⟩ = false ∧ w6.frozen? ⟨w.heap.size + 1, 7, none⟩ = false from ⟨py.out.cell 0, py.out.cell 1, py.out.cell 2, py.out.cell 3, py.out.cell 4, py.out.cell 5, py.out.cell 6, py.out.cell 7, pz.out.cell 0, pz.out.cell 1, pz.out.cell 2, pz.out.cell 3, pz.out.cell 4, pz.out.cell 5, pz.out.cell 6, pz.out.cell 7, pz.out.frozen 0, pz.out.frozen 1, pz.out.frozen 2, pz.out.frozen 3, pz.out.frozen 4, pz.out.frozen 5, pz.out.frozen 6, pz.out.frozen 7⟩)
                go_wp2_with fail
                (try simp only [Exit.inBlock, Exit.then])
                have hB := ct_set8 (pz.out) (Value.int .i64 s) (Value.string nm) (Value.string is_) (Value.int .i64 f) (Value.int .i64 t) (Value.bool true) (Value.int .u64 ky) (Value.int .u64 sl)
                refine bodyPost_ret (v := .tuple #[.agg #[Value.int .i64 s, Value.string nm, Value.string is_, Value.int .i64 f, Value.int .i64 t, Value.bool true, Value.int .u64 ky, Value.int .u64 sl], .bool true]) ?_ rfl ?_
                · refine (res2 (fn := Try.f104) (p := 6) (u := 7) (ty := 52) rfl _ _ (w.heap.size + 1) 52 _ (0, 0) _ ?_ hB Try.underlying52 rfl (by kernel_rfl)).trans ?_
                  · rfl
                  · rfl
                · refine ⟨by rw [hS.out]; rfl, ?_⟩
                  clear hB
                  repeat (first | (with_reducible refine below_set ?_ (by omega) _ _) | (with_reducible refine below_new ?_ _) | (with_reducible refine below_drewN ?_ _) | (with_reducible refine below_dr ?_))
                  exact hb.out
              | true =>
                have hN : Hid (rootF rv nm now R = rootF rv nm now (R.drop (k + 1))) := by show _ = _; rw [hx.out, hst.out, if_neg (by simp [trustOk, hE, hsp, hhs])]
                go_wp2_with fail
                go_roundw
                case rel => exact ⟨k + 1, by omega, by go_num, by first | exact hb.out | (refine below_new ?_ _; exact hb.out), hN.out⟩
                case measure => simp [intOf]; omega
            | false =>
              have hN : Hid (rootF rv nm now R = rootF rv nm now (R.drop (k + 1))) := by show _ = _; rw [hx.out, hst.out, if_neg (by simp [trustOk, hE, hsp])]
              go_wp2_with fail
              go_roundw
              case rel => exact ⟨k + 1, by omega, by go_num, by first | exact hb.out | (refine below_new ?_ _; exact hb.out), hN.out⟩
              case measure => simp [intOf]; omega
          · have hN : Hid (rootF rv nm now R = rootF rv nm now (R.drop (k + 1))) := by show _ = _; rw [hx.out, hst.out, if_neg (by simp [trustOk, hE])]
            go_wp2_with fail
            go_roundw
            case rel => exact ⟨k + 1, by omega, by go_num, by first | exact hb.out | (refine below_new ?_ _; exact hb.out), hN.out⟩
            case measure => simp [intOf]; omega
        | false =>
          have hN : Hid (rootF rv nm now R = rootF rv nm now (R.drop (k + 1))) := by show _ = _; rw [hx.out, hst.out, if_neg (by simp [trustOk])]
          go_wp2_with fail
          go_roundw
          case rel => exact ⟨k + 1, by omega, by go_num, by first | exact hb.out | (refine below_new ?_ _; exact hb.out), hN.out⟩
          case measure => simp [intOf]; omega
      · have h1 : ¬ sb = nm := fun e => h1 e.symm
        have h1t := str_ne h1
        have hN : Hid (rootF rv nm now R = rootF rv nm now (R.drop (k + 1))) := by show _ = _; rw [hx.out, hst.out, if_neg (by simp [trustOk, h1])]
        go_wp2_with fail
        go_roundw
        case rel => exact ⟨k + 1, by omega, by go_num, by first | exact hb.out | (refine below_new ?_ _; exact hb.out), hN.out⟩
        case measure => simp [intOf]; omega
    · have hS : Hid (rootF rv nm now R = none) := by show _ = _; rw [hx.out, List.drop_eq_nil_of_le (by have := hn.out; omega)]; rfl
      have pz := Lib.hid (p1.out.below hb.out p1.out.lt)
      obtain ⟨z0, z1, z2, z3, z4, z5, z6, z7, g0, g1, g2, g3, g4, g5, g6, g7⟩ := (show wr.cell? ⟨w.heap.size + 1, 0, none⟩ = some (Value.int .i64 0) ∧ wr.cell? ⟨w.heap.size + 1, 1, none⟩ = some (Value.string ⟨#[]⟩) ∧ wr.cell? ⟨w.heap.size + 1, 2, none⟩ = some (Value.string ⟨#[]⟩) ∧ wr.cell? ⟨w.heap.size + 1, 3, none⟩ = some (Value.int .i64 0) ∧ wr.cell? ⟨w.heap.size + 1, 4, none⟩ = some (Value.int .i64 0) ∧ wr.cell? ⟨w.heap.size + 1, 5, none⟩ = some (Value.bool false) ∧ wr.cell? ⟨w.heap.size + 1, 6, none⟩ = some (Value.int .u64 0) ∧ wr.cell? ⟨w.heap.size + 1, 7, none⟩ = some (Value.int .u64 0) ∧ wr.frozen? ⟨w.heap.size + 1, 0, none⟩ = false ∧ wr.frozen? ⟨w.heap.size + 1, 1, none⟩ = false ∧ wr.frozen? ⟨w.heap.size + 1, 2, none⟩ = false ∧ wr.frozen? ⟨w.heap.size + 1, 3, none⟩ = false ∧ wr.frozen? ⟨w.heap.size + 1, 4, none⟩ = false ∧ wr.frozen? ⟨w.heap.size + 1, 5, none⟩ = false ∧ wr.frozen? ⟨w.heap.size + 1, 6, none⟩ = false ∧ wr.frozen? ⟨w.heap.size + 1, 7, none⟩ = false from ⟨pz.out.cell 0, pz.out.cell 1, pz.out.cell 2, pz.out.cell 3, pz.out.cell 4, pz.out.cell 5, pz.out.cell 6, pz.out.cell 7, pz.out.frozen 0, pz.out.frozen 1, pz.out.frozen 2, pz.out.frozen 3, pz.out.frozen 4, pz.out.frozen 5, pz.out.frozen 6, pz.out.frozen 7⟩)
      have hb := Lib.hid (hbw.out.trans (hb.out.mono hbw.out.size))
      go_wp2_with fail
      (try simp only [Exit.inBlock, Exit.then])
      have hB := ct_set8 (pz.out) (Value.int .i64 0) (Value.string ⟨#[]⟩) (Value.string ⟨#[]⟩) (Value.int .i64 0) (Value.int .i64 0) (Value.bool false) (Value.int .u64 0) (Value.int .u64 0)
      refine bodyPost_ret (v := .tuple #[.agg #[Value.int .i64 0, Value.string ⟨#[]⟩, Value.string ⟨#[]⟩, Value.int .i64 0, Value.int .i64 0, Value.bool false, Value.int .u64 0, Value.int .u64 0], .bool false]) ?_ rfl ?_
      · refine (res2 (fn := Try.f104) (p := 6) (u := 7) (ty := 52) rfl _ _ (w.heap.size + 1) 52 _ (0, 0) _ ?_ hB Try.underlying52 rfl (by kernel_rfl)).trans ?_
        · rfl
        · rfl
      · refine ⟨by rw [hS.out]; rfl, ?_⟩
        clear hB
        repeat (first | (with_reducible refine below_set ?_ (by omega) _ _) | (with_reducible refine below_new ?_ _) | (with_reducible refine below_drewN ?_ _) | (with_reducible refine below_dr ?_))
        exact hb.out

set_option maxRecDepth 100000 in
set_option maxHeartbeats 4000000 in
theorem trusted_any (A A2 : Option Addr) (n n2 cp cp2 : Nat) (R : List Ct) (rv : List Int) (nm : ByteArray) (now : Int) (w : World) (h : LAt ctC 8 w w.heap.size A n R) (hV : LAt iC 1 w w.heap.size A2 n2 rv) (hn1 : n ≤ 1000) (hn2 : n2 ≤ 1000) :
    Calls Try.prog 91 #[.agg #[Value.slice A n cp, Value.slice A2 n2 cp2], .string nm, .int .i64 now] w fun e w' => e = .returned (resC (rootF rv nm now R)) ∧ Below w.heap.size w w' := by
  have hn := Lib.hid h.len
  go_enter Try.func91, Try.ntmps91
  have p0 := ((Blk.new w 59 #[Value.slice A n cp, Value.slice A2 n2 cp2]).alloc (.cells #[Value.int .i64 0, Value.string ⟨#[]⟩, Value.string ⟨#[]⟩, Value.int .i64 0, Value.int .i64 0, Value.bool false, Value.int .u64 0, Value.int .u64 0] 52))
  have p1 := (Blk.new (w.alloc (.cells #[Value.slice A n cp, Value.slice A2 n2 cp2] 59)) 52 #[Value.int .i64 0, Value.string ⟨#[]⟩, Value.string ⟨#[]⟩, Value.int .i64 0, Value.int .i64 0, Value.bool false, Value.int .u64 0, Value.int .u64 0])
  have hbw : Hid (Below w.heap.size w ((w.alloc (.cells #[Value.slice A n cp, Value.slice A2 n2 cp2] 59)).alloc (.cells #[Value.int .i64 0, Value.string ⟨#[]⟩, Value.string ⟨#[]⟩, Value.int .i64 0, Value.int .i64 0, Value.bool false, Value.int .u64 0, Value.int .u64 0] 52))) := (((Below.refl _ w).alloc (Nat.le_refl _) _).alloc (by simp) _)
  rw [show (w.alloc (.cells #[Value.slice A n cp, Value.slice A2 n2 cp2] 59)).heap.size = w.heap.size + 1 by simp] at p1
  have h2 := h.more hbw.out
  have hV2 := hV.more hbw.out
  go_wp2_with fail
  generalize (w.alloc (.cells #[Value.slice A n cp, Value.slice A2 n2 cp2] 59)).alloc (.cells #[Value.int .i64 0, Value.string ⟨#[]⟩, Value.string ⟨#[]⟩, Value.int .i64 0, Value.int .i64 0, Value.bool false, Value.int .u64 0, Value.int .u64 0] 52) = w2 at *
  clear h hV
  replace h2 := Lib.hid h2
  replace hV2 := Lib.hid hV2
  replace p0 := Lib.hid p0
  replace p1 := Lib.hid p1
  obtain ⟨t0, t1⟩ := (show w2.cell? ⟨w.heap.size, 0, none⟩ = some (Value.slice A n cp) ∧ w2.cell? ⟨w.heap.size, 1, none⟩ = some (Value.slice A2 n2 cp2) from ⟨p0.out.cell 0, p0.out.cell 1⟩)
  go_wp2_with fail
  clear t0 t1
  go_loopw [8] (fun i wr => ∃ k : Nat, k ≤ n ∧ i = .int .i64 k ∧ Hid (Below w2.heap.size w2 wr) ∧ Hid (rootF rv nm now R = rootF rv nm now (R.drop k))) (fun i _ => n - (intOf i).toNat)
  case atStart => exact ⟨0, Nat.zero_le _, rfl, Below.refl _ _, rfl⟩
  case round =>
    obtain ⟨k, hkn, rfl, hb, hx⟩ := hrel
    obtain ⟨t0, t1⟩ := (show wr.cell? ⟨w.heap.size, 0, none⟩ = some (Value.slice A n cp) ∧ wr.cell? ⟨w.heap.size, 1, none⟩ = some (Value.slice A2 n2 cp2) from by
      have q := p0.out.below hb.out p0.out.lt
      exact ⟨q.cell 0, q.cell 1⟩)
    by_cases hlt : k < n
    · have hk0 : (0 : Int) ≤ k := by omega
      have hk1 : (k : Int) < n := by omega
      have hkl : k < R.length := by have := hn.out; omega
      have hst := Lib.hid (rootF_step rv nm now R k hkl)
      obtain ⟨ad, hA, hadb, e0, e1, e2, e3, e4, e5, e6, e7⟩ := ct_cells (h2.out.below hb.out (Nat.le_refl _)) hlt
      subst hA
      generalize R[k] = y at *
      obtain ⟨s, sb, is_, f, t, ca, ky, sl⟩ := y
      go_wp2_with fail
      clear t0 t1
      have py := Lib.hid (Blk.new wr 52 #[Value.int .i64 s, Value.string sb, Value.string is_, Value.int .i64 f, Value.int .i64 t, Value.bool ca, Value.int .u64 ky, Value.int .u64 sl])
      have pz := Lib.hid ((p1.out.below hb.out p1.out.lt).alloc (.cells #[Value.int .i64 s, Value.string sb, Value.string is_, Value.int .i64 f, Value.int .i64 t, Value.bool ca, Value.int .u64 ky, Value.int .u64 sl] 52))
      have pt := Lib.hid ((p0.out.below hb.out p0.out.lt).alloc (.cells #[Value.int .i64 s, Value.string sb, Value.string is_, Value.int .i64 f, Value.int .i64 t, Value.bool ca, Value.int .u64 ky, Value.int .u64 sl] 52))
      have hb := Lib.hid (below_new hb.out (.cells #[Value.int .i64 s, Value.string sb, Value.string is_, Value.int .i64 f, Value.int .i64 t, Value.bool ca, Value.int .u64 ky, Value.int .u64 sl] 52))
      generalize wr.alloc (.cells #[Value.int .i64 s, Value.string sb, Value.string is_, Value.int .i64 f, Value.int .i64 t, Value.bool ca, Value.int .u64 ky, Value.int .u64 sl] 52) = w3 at *
      refine (rvalid_any ⟨s, sb, is_, f, t, ca, ky, sl⟩ _).mono ?_; rintro e w4 ⟨rfl, hq⟩
      have py := Lib.hid (py.out.below hq py.out.lt)
      have pz := Lib.hid (pz.out.below hq pz.out.lt)
      have pt := Lib.hid (pt.out.below hq pt.out.lt)
      have hb := Lib.hid (hb.out.trans (hq.mono hb.out.size))
      clear hq
      by_cases hE : validE ⟨s, sb, is_, f, t, ca, ky, sl⟩ = 0
      · generalize hv0 : validE ⟨s, sb, is_, f, t, ca, ky, sl⟩ = v0 at *
        subst hE
        have hE := hv0
        replace hv0 := Lib.hid hv0
        obtain ⟨t0, t1, k0, k1, k2, k3, k4, k5, k6, k7⟩ := (show w4.cell? ⟨w.heap.size, 0, none⟩ = some (Value.slice _ n cp) ∧ w4.cell? ⟨w.heap.size, 1, none⟩ = some (Value.slice A2 n2 cp2) ∧ w4.cell? ⟨wr.heap.size, 0, none⟩ = some (Value.int .i64 s) ∧ w4.cell? ⟨wr.heap.size, 1, none⟩ = some (Value.string sb) ∧ w4.cell? ⟨wr.heap.size, 2, none⟩ = some (Value.string is_) ∧ w4.cell? ⟨wr.heap.size, 3, none⟩ = some (Value.int .i64 f) ∧ w4.cell? ⟨wr.heap.size, 4, none⟩ = some (Value.int .i64 t) ∧ w4.cell? ⟨wr.heap.size, 5, none⟩ = some (Value.bool ca) ∧ w4.cell? ⟨wr.heap.size, 6, none⟩ = some (Value.int .u64 ky) ∧ w4.cell? ⟨wr.heap.size, 7, none⟩ = some (Value.int .u64 sl) from ⟨pt.out.cell 0, pt.out.cell 1, py.out.cell 0, py.out.cell 1, py.out.cell 2, py.out.cell 3, py.out.cell 4, py.out.cell 5, py.out.cell 6, py.out.cell 7⟩)
        cases ca with
        | false =>
          have hN : Hid (rootF rv nm now R = rootF rv nm now (R.drop (k + 1))) := by show _ = _; rw [hx.out, hst.out, if_neg (by simp [trustOk])]
          go_wp2_with fail
          go_roundw
          case rel => exact ⟨k + 1, by omega, by go_num, by first | exact hb.out | (refine below_new ?_ _; exact hb.out), hN.out⟩
          case measure => simp [intOf]; omega
        | true =>
          by_cases h1 : nm = sb
          · subst h1
            generalize hsp : spanH f t now = sp
            go_wp2_with fail
            clear t0 t1 k0 k1 k2 k3 k4 k5 k6 k7
            refine (holds_any f t now _).mono ?_; rintro e w5 ⟨rfl, hq⟩
            have py := Lib.hid (py.out.below hq py.out.lt)
            have pz := Lib.hid (pz.out.below hq pz.out.lt)
            have pt := Lib.hid (pt.out.below hq pt.out.lt)
            have hb := Lib.hid (hb.out.trans (hq.mono hb.out.size))
            clear hq
            rw [hsp]
            cases sp with
            | true =>
              obtain ⟨t0, t1, k0, k1, k2, k3, k4, k5, k6, k7⟩ := (show w5.cell? ⟨w.heap.size, 0, none⟩ = some (Value.slice _ n cp) ∧ w5.cell? ⟨w.heap.size, 1, none⟩ = some (Value.slice A2 n2 cp2) ∧ w5.cell? ⟨wr.heap.size, 0, none⟩ = some (Value.int .i64 s) ∧ w5.cell? ⟨wr.heap.size, 1, none⟩ = some (Value.string nm) ∧ w5.cell? ⟨wr.heap.size, 2, none⟩ = some (Value.string is_) ∧ w5.cell? ⟨wr.heap.size, 3, none⟩ = some (Value.int .i64 f) ∧ w5.cell? ⟨wr.heap.size, 4, none⟩ = some (Value.int .i64 t) ∧ w5.cell? ⟨wr.heap.size, 5, none⟩ = some (Value.bool true) ∧ w5.cell? ⟨wr.heap.size, 6, none⟩ = some (Value.int .u64 ky) ∧ w5.cell? ⟨wr.heap.size, 7, none⟩ = some (Value.int .u64 sl) from ⟨pt.out.cell 0, pt.out.cell 1, py.out.cell 0, py.out.cell 1, py.out.cell 2, py.out.cell 3, py.out.cell 4, py.out.cell 5, py.out.cell 6, py.out.cell 7⟩)
              generalize hhs : hasI rv s = hh
              have hq0 := rhas_any A2 rv n2 cp2 s w5 (hV2.out.more hb.out) hn2
              rw [hhs] at hq0
              replace hq0 := Lib.hid hq0
              go_wp2_with fail
              clear t0 t1 k0 k1 k2 k3 k4 k5 k6 k7
              refine (hq0.out).mono ?_; rintro e w6 ⟨rfl, hq⟩
              have py := Lib.hid (py.out.below hq py.out.lt)
              have pz := Lib.hid (pz.out.below hq pz.out.lt)
              have pt := Lib.hid (pt.out.below hq pt.out.lt)
              have hb := Lib.hid (hb.out.trans (hq.mono hb.out.size))
              clear hq
              cases hh with
              | false =>
                have hS : Hid (rootF rv nm now R = some ⟨s, nm, is_, f, t, true, ky, sl⟩) := by show _ = _; rw [hx.out, hst.out, if_pos (by simp [trustOk, hE, hsp, hhs])]
                have hb := Lib.hid (hbw.out.trans (hb.out.mono hbw.out.size))
                obtain ⟨k0, k1, k2, k3, k4, k5, k6, k7, z0, z1, z2, z3, z4, z5, z6, z7, g0, g1, g2, g3, g4, g5, g6, g7⟩ := (show w6.cell? ⟨wr.heap.size, 0, none⟩ = some (Value.int .i64 s) ∧ w6.cell? ⟨wr.heap.size, 1, none⟩ = some (Value.string nm) ∧ w6.cell? ⟨wr.heap.size, 2, none⟩ = some (Value.string is_) ∧ w6.cell? ⟨wr.heap.size, 3, none⟩ = some (Value.int .i64 f) ∧ w6.cell? ⟨wr.heap.size, 4, none⟩ = some (Value.int .i64 t) ∧ w6.cell? ⟨wr.heap.size, 5, none⟩ = some (Value.bool true) ∧ w6.cell? ⟨wr.heap.size, 6, none⟩ = some (Value.int .u64 ky) ∧ w6.cell? ⟨wr.heap.size, 7, none⟩ = some (Value.int .u64 sl) ∧ w6.cell? ⟨w.heap.size + 1, 0, none⟩ = some (Value.int .i64 0) ∧ w6.cell? ⟨w.heap.size + 1, 1, none⟩ = some (Value.string ⟨#[]⟩) ∧ w6.cell? ⟨w.heap.size + 1, 2, none⟩ = some (Value.string ⟨#[]⟩) ∧ w6.cell? ⟨w.heap.size + 1, 3, none⟩ = some (Value.int .i64 0) ∧ w6.cell? ⟨w.heap.size + 1, 4, none⟩ = some (Value.int .i64 0) ∧ w6.cell? ⟨w.heap.size + 1, 5, none⟩ = some (Value.bool false) ∧ w6.cell? ⟨w.heap.size + 1, 6, none⟩ = some (Value.int .u64 0) ∧ w6.cell? ⟨w.heap.size + 1, 7, none⟩ = some (Value.int .u64 0) ∧ w6.frozen? ⟨w.heap.size + 1, 0, none⟩ = false ∧ w6.frozen? ⟨w.heap.size + 1, 1, none⟩ = false ∧ w6.frozen? ⟨w.heap.size + 1, 2, none⟩ = false ∧ w6.frozen? ⟨w.heap.size + 1, 3, none⟩ = false ∧ w6.frozen? ⟨w.heap.size + 1, 4, none⟩ = false ∧ w6.frozen? ⟨w.heap.size + 1, 5, none⟩ = false ∧ w6.frozen? ⟨w.heap.size + 1, 6, none⟩ = false ∧ w6.frozen? ⟨w.heap.size + 1, 7, none⟩ = false from ⟨py.out.cell 0, py.out.cell 1, py.out.cell 2, py.out.cell 3, py.out.cell 4, py.out.cell 5, py.out.cell 6, py.out.cell 7, pz.out.cell 0, pz.out.cell 1, pz.out.cell 2, pz.out.cell 3, pz.out.cell 4, pz.out.cell 5, pz.out.cell 6, pz.out.cell 7, pz.out.frozen 0, pz.out.frozen 1, pz.out.frozen 2, pz.out.frozen 3, pz.out.frozen 4, pz.out.frozen 5, pz.out.frozen 6, pz.out.frozen 7⟩)
                go_wp2_with fail
                (try simp only [Exit.inBlock, Exit.then])
                have hB := ct_set8 (pz.out) (Value.int .i64 s) (Value.string nm) (Value.string is_) (Value.int .i64 f) (Value.int .i64 t) (Value.bool true) (Value.int .u64 ky) (Value.int .u64 sl)
                refine bodyPost_ret (v := .tuple #[.agg #[Value.int .i64 s, Value.string nm, Value.string is_, Value.int .i64 f, Value.int .i64 t, Value.bool true, Value.int .u64 ky, Value.int .u64 sl], .bool true]) ?_ rfl ?_
                · refine (res2 (fn := Try.f91) (p := 6) (u := 7) (ty := 52) rfl _ _ (w.heap.size + 1) 52 _ (0, 0) _ ?_ hB Try.underlying52 rfl (by kernel_rfl)).trans ?_
                  · rfl
                  · rfl
                · refine ⟨by rw [hS.out]; rfl, ?_⟩
                  clear hB
                  repeat (first | (with_reducible refine below_set ?_ (by omega) _ _) | (with_reducible refine below_new ?_ _) | (with_reducible refine below_drewN ?_ _) | (with_reducible refine below_dr ?_))
                  exact hb.out
              | true =>
                have hN : Hid (rootF rv nm now R = rootF rv nm now (R.drop (k + 1))) := by show _ = _; rw [hx.out, hst.out, if_neg (by simp [trustOk, hE, hsp, hhs])]
                go_wp2_with fail
                go_roundw
                case rel => exact ⟨k + 1, by omega, by go_num, by first | exact hb.out | (refine below_new ?_ _; exact hb.out), hN.out⟩
                case measure => simp [intOf]; omega
            | false =>
              have hN : Hid (rootF rv nm now R = rootF rv nm now (R.drop (k + 1))) := by show _ = _; rw [hx.out, hst.out, if_neg (by simp [trustOk, hE, hsp])]
              go_wp2_with fail
              go_roundw
              case rel => exact ⟨k + 1, by omega, by go_num, by first | exact hb.out | (refine below_new ?_ _; exact hb.out), hN.out⟩
              case measure => simp [intOf]; omega
          · have h1 : ¬ sb = nm := fun e => h1 e.symm
            have h1t := str_ne h1
            have hN : Hid (rootF rv nm now R = rootF rv nm now (R.drop (k + 1))) := by show _ = _; rw [hx.out, hst.out, if_neg (by simp [trustOk, h1])]
            go_wp2_with fail
            go_roundw
            case rel => exact ⟨k + 1, by omega, by go_num, by first | exact hb.out | (refine below_new ?_ _; exact hb.out), hN.out⟩
            case measure => simp [intOf]; omega
      · have hN : Hid (rootF rv nm now R = rootF rv nm now (R.drop (k + 1))) := by show _ = _; rw [hx.out, hst.out, if_neg (by simp [trustOk, hE])]
        go_wp2_with fail
        go_roundw
        case rel => exact ⟨k + 1, by omega, by go_num, by first | exact hb.out | (refine below_new ?_ _; exact hb.out), hN.out⟩
        case measure => simp [intOf]; omega
    · have hS : Hid (rootF rv nm now R = none) := by show _ = _; rw [hx.out, List.drop_eq_nil_of_le (by have := hn.out; omega)]; rfl
      have pz := Lib.hid (p1.out.below hb.out p1.out.lt)
      obtain ⟨z0, z1, z2, z3, z4, z5, z6, z7, g0, g1, g2, g3, g4, g5, g6, g7⟩ := (show wr.cell? ⟨w.heap.size + 1, 0, none⟩ = some (Value.int .i64 0) ∧ wr.cell? ⟨w.heap.size + 1, 1, none⟩ = some (Value.string ⟨#[]⟩) ∧ wr.cell? ⟨w.heap.size + 1, 2, none⟩ = some (Value.string ⟨#[]⟩) ∧ wr.cell? ⟨w.heap.size + 1, 3, none⟩ = some (Value.int .i64 0) ∧ wr.cell? ⟨w.heap.size + 1, 4, none⟩ = some (Value.int .i64 0) ∧ wr.cell? ⟨w.heap.size + 1, 5, none⟩ = some (Value.bool false) ∧ wr.cell? ⟨w.heap.size + 1, 6, none⟩ = some (Value.int .u64 0) ∧ wr.cell? ⟨w.heap.size + 1, 7, none⟩ = some (Value.int .u64 0) ∧ wr.frozen? ⟨w.heap.size + 1, 0, none⟩ = false ∧ wr.frozen? ⟨w.heap.size + 1, 1, none⟩ = false ∧ wr.frozen? ⟨w.heap.size + 1, 2, none⟩ = false ∧ wr.frozen? ⟨w.heap.size + 1, 3, none⟩ = false ∧ wr.frozen? ⟨w.heap.size + 1, 4, none⟩ = false ∧ wr.frozen? ⟨w.heap.size + 1, 5, none⟩ = false ∧ wr.frozen? ⟨w.heap.size + 1, 6, none⟩ = false ∧ wr.frozen? ⟨w.heap.size + 1, 7, none⟩ = false from ⟨pz.out.cell 0, pz.out.cell 1, pz.out.cell 2, pz.out.cell 3, pz.out.cell 4, pz.out.cell 5, pz.out.cell 6, pz.out.cell 7, pz.out.frozen 0, pz.out.frozen 1, pz.out.frozen 2, pz.out.frozen 3, pz.out.frozen 4, pz.out.frozen 5, pz.out.frozen 6, pz.out.frozen 7⟩)
      have hb := Lib.hid (hbw.out.trans (hb.out.mono hbw.out.size))
      go_wp2_with fail
      (try simp only [Exit.inBlock, Exit.then])
      have hB := ct_set8 (pz.out) (Value.int .i64 0) (Value.string ⟨#[]⟩) (Value.string ⟨#[]⟩) (Value.int .i64 0) (Value.int .i64 0) (Value.bool false) (Value.int .u64 0) (Value.int .u64 0)
      refine bodyPost_ret (v := .tuple #[.agg #[Value.int .i64 0, Value.string ⟨#[]⟩, Value.string ⟨#[]⟩, Value.int .i64 0, Value.int .i64 0, Value.bool false, Value.int .u64 0, Value.int .u64 0], .bool false]) ?_ rfl ?_
      · refine (res2 (fn := Try.f91) (p := 6) (u := 7) (ty := 52) rfl _ _ (w.heap.size + 1) 52 _ (0, 0) _ ?_ hB Try.underlying52 rfl (by kernel_rfl)).trans ?_
        · rfl
        · rfl
      · refine ⟨by rw [hS.out]; rfl, ?_⟩
        clear hB
        repeat (first | (with_reducible refine below_set ?_ (by omega) _ _) | (with_reducible refine below_new ?_ _) | (with_reducible refine below_drewN ?_ _) | (with_reducible refine below_dr ?_))
        exact hb.out

end Go.Proofs.Ytiggpgeldigknaa
