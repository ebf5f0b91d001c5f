/- Authorization: a question's checks, walked. -/
import Derived.Test.YtiggpgeldigknaaTok
import Derived.Deep.RegionHeld3
set_option linter.unusedVariables false
set_option linter.unusedSimpArgs false
namespace Go.Proofs.Ytiggpgeldigknaa
open Go.RowKit
abbrev Dec := Int × Int × ByteArray
def decV (d : Dec) : Value := .agg #[.int .i64 d.1, .int .i64 d.2.1, .string d.2.2]
def dec0 : Dec := (0, 0, ⟨#[]⟩)
def resD (o : Option Dec) : Value := .tuple #[decV (o.getD dec0), .bool o.isSome]
/-- the decision by the first token with the identifier -/
def inT (l : List Tk) (id : ByteArray) (now src : Int) : Option Dec := (findT l id).map fun t => (statT t now, src, t.group)
set_option maxRecDepth 100000 in
set_option maxHeartbeats 1000000 in
theorem in_any (B0 B1 B2 B3 : Option Addr) (m0 m1 m2 m3 k0 k1 k2 k3 : Nat) (id : ByteArray) (now src : Int) (A : Option Addr) (l : List Tk) (n cap : Nat) (w : World) (h : TAt w w.heap.size A n l) (hm : n ≤ maxLen) (hid : id.size ≤ maxLen) (hl : ∀ t ∈ l, TkOk t) :
    Calls Try.prog 93 #[.agg #[.slice B0 m0 k0, .slice B1 m1 k1, .slice B2 m2 k2, .slice B3 m3 k3, .string id, .int .i64 now], .slice A n cap, .int .i64 src] w fun e w' => e = .returned (resD (inT l id now src)) ∧ Below w.heap.size w w' := by
  replace h := Lib.hid h
  replace hl := Lib.hid hl
  cases hfd : findT l id with
  | none =>
    have hR : Hid (resT (findT l id) = .tuple #[.agg #[.string ⟨#[]⟩, .string ⟨#[]⟩, .string ⟨#[]⟩, .int .i64 0, .int .i64 0, .int .i64 0], .bool false]) := by show _ = _; rw [hfd]; rfl
    have hF : Hid (resD (inT l id now src) = .tuple #[decV dec0, .bool false]) := by show _ = _; rw [inT, hfd]; rfl
    replace hfd := Lib.hid hfd
    go_enter Try.func93, Try.ntmps93
    go_wp2_with fail
    refine (find_any A l n cap id _ ((h.out.more (a1 _ _)).more (a1 _ _)) hm hid hl.out).mono ?_; rintro e w1 ⟨rfl, hb⟩
    rw [hR.out]
    obtain ⟨hc, hf⟩ := bcell hb
    have hz : w.heap.size + 1 < w1.heap.size := by have := hb.size; simp at this; omega
    replace hb := Lib.hid (below_a (below_a hb))
    go_wp2_with fail
    refine bodyPost_ret (v := .tuple #[decV dec0, .bool false]) (by simp [results, Try.results93, go_sem, hc, hz, decV, dec0]) rfl ⟨by rw [hF.out], ?_⟩
    repeat (first | (with_reducible refine below_set ?_ (by omega) _ _) | (with_reducible refine below_new ?_ _) | (with_reducible refine below_drewN ?_ _) | (with_reducible refine below_dr ?_))
    exact hb.out
  | some t =>
    obtain ⟨t0, t1, t2, t3, t4, t5⟩ := t
    have hR : Hid (resT (findT l id) = .tuple #[.agg #[.string t0, .string t1, .string t2, .int .i64 t3, .int .i64 t4, .int .i64 t5], .bool true]) := by show _ = _; rw [hfd]; rfl
    generalize hst : statT ⟨t0, t1, t2, t3, t4, t5⟩ now = st
    have hF : Hid (resD (inT l id now src) = .tuple #[.agg #[.int .i64 st, .int .i64 src, .string t1], .bool true]) := by show _ = _; rw [inT, hfd, ← hst]; rfl
    replace hfd := Lib.hid hfd
    replace hst := Lib.hid hst
    go_enter Try.func93, Try.ntmps93
    go_wp2_with fail
    refine (find_any A l n cap id _ ((h.out.more (a1 _ _)).more (a1 _ _)) hm hid hl.out).mono ?_; rintro e w1 ⟨rfl, hb⟩
    rw [hR.out]
    have hQ := Lib.hid ((((Blk.new w 98 #[.slice B0 m0 k0, .slice B1 m1 k1, .slice B2 m2 k2, .slice B3 m3 k3, .string id, .int .i64 now]).alloc (.cells #[.int .i64 0, .int .i64 0, .string ⟨#[]⟩] 29)).below hb (by simp; omega)).alloc (.cells #[.string t0, .string t1, .string t2, .int .i64 t3, .int .i64 t4, .int .i64 t5] 33))
    have hZ := Lib.hid (((Blk.new (w.alloc (.cells #[.slice B0 m0 k0, .slice B1 m1 k1, .slice B2 m2 k2, .slice B3 m3 k3, .string id, .int .i64 now] 98)) 29 #[.int .i64 0, .int .i64 0, .string ⟨#[]⟩]).below hb (by simp)).alloc (.cells #[.string t0, .string t1, .string t2, .int .i64 t3, .int .i64 t4, .int .i64 t5] 33))
    have hT := Lib.hid (Blk.new w1 33 #[.string t0, .string t1, .string t2, .int .i64 t3, .int .i64 t4, .int .i64 t5])
    obtain ⟨hc, hf⟩ := bcell hb
    have hz : w.heap.size + 1 < w1.heap.size := by have := hb.size; simp at this; omega
    replace hb := Lib.hid (below_a (below_a hb))
    have hzs : Hid ((w.alloc (.cells #[.slice B0 m0 k0, .slice B1 m1 k1, .slice B2 m2 k2, .slice B3 m3 k3, .string id, .int .i64 now] 98)).heap.size = w.heap.size + 1) := by show _ = _; simp
    rw [hzs.out] at hZ
    have kz : Hid (∀ wz, (w1.alloc (.cells #[.string t0, .string t1, .string t2, .int .i64 t3, .int .i64 t4, .int .i64 t5] 33)).grownBy wz (some (w.heap.size + 1)) → wz.cell? ⟨w.heap.size, 5, none⟩ = some (.int .i64 now) ∧ wz.cell? ⟨w1.heap.size, 0, none⟩ = some (.string t0) ∧ wz.cell? ⟨w1.heap.size, 1, none⟩ = some (.string t1) ∧ wz.cell? ⟨w1.heap.size, 2, none⟩ = some (.string t2) ∧ wz.cell? ⟨w1.heap.size, 3, none⟩ = some (.int .i64 t3) ∧ wz.cell? ⟨w1.heap.size, 4, none⟩ = some (.int .i64 t4) ∧ wz.cell? ⟨w1.heap.size, 5, none⟩ = some (.int .i64 t5)) := fun wz h => by
      have q0 := hQ.out.grown h (by intro e; injection e; omega)
      have q1 := hT.out.grown h (by intro e; injection e; omega)
      exact ⟨q0.cell 5, q1.cell 0, q1.cell 1, q1.cell 2, q1.cell 3, q1.cell 4, q1.cell 5⟩
    have kx : Hid (∀ wz, Below (w1.alloc (.cells #[.string t0, .string t1, .string t2, .int .i64 t3, .int .i64 t4, .int .i64 t5] 33)).heap.size (w1.alloc (.cells #[.string t0, .string t1, .string t2, .int .i64 t3, .int .i64 t4, .int .i64 t5] 33)) wz → wz.cell? ⟨w.heap.size + 1, 0, none⟩ = some (.int .i64 0) ∧ wz.cell? ⟨w.heap.size + 1, 1, none⟩ = some (.int .i64 0) ∧ wz.cell? ⟨w.heap.size + 1, 2, none⟩ = some (.string ⟨#[]⟩) ∧ wz.frozen? ⟨w.heap.size + 1, 0, none⟩ = false ∧ wz.frozen? ⟨w.heap.size + 1, 1, none⟩ = false ∧ wz.frozen? ⟨w.heap.size + 1, 2, none⟩ = false) := fun wz h => by
      have r0 := hZ.out.below h (lt_of_heap hZ.out)
      exact ⟨r0.cell 0, r0.cell 1, r0.cell 2, r0.frozen 0, r0.frozen 1, r0.frozen 2⟩
    go_wp2_with fail
    go_region_held3 (fun wz => wz.cell? ⟨w.heap.size, 5, none⟩ = some (.int .i64 now) ∧ wz.cell? ⟨w1.heap.size, 0, none⟩ = some (.string t0) ∧ wz.cell? ⟨w1.heap.size, 1, none⟩ = some (.string t1) ∧ wz.cell? ⟨w1.heap.size, 2, none⟩ = some (.string t2) ∧ wz.cell? ⟨w1.heap.size, 3, none⟩ = some (.int .i64 t3) ∧ wz.cell? ⟨w1.heap.size, 4, none⟩ = some (.int .i64 t4) ∧ wz.cell? ⟨w1.heap.size, 5, none⟩ = some (.int .i64 t5))
      (first | (exact kz.out _ (only_of_below (below_dr (Below.refl _ _)) _)) | (exact kz.out _ (only_of_below hb2.out _)) | (exact kz.out _ (only_set (only_set (only_set (only_of_below hb2.out _) _ _) _ _) _ _)))
      (first
        | (go_at_call 107; refine (status_any ⟨t0, t1, t2, t3, t4, t5⟩ now _).mono ?_; rintro e w2 ⟨rfl, hb2⟩; replace hb2 := Lib.hid ((below_dr (Below.refl _ _)).trans hb2); rw [hst.out]; obtain ⟨z0, z1, z2, f0, f1, f2⟩ := kx.out _ hb2.out))
    go_wp2_with fail
    refine bodyPost_ret (v := .tuple #[.agg #[.int .i64 st, .int .i64 src, .string t1], .bool true]) (by simp [results, Try.results93, go_sem, *]) rfl ⟨by rw [hF.out], ?_⟩
    repeat (first | (with_reducible refine below_set ?_ (by omega) _ _) | (with_reducible refine below_new ?_ _) | (with_reducible refine below_drewN ?_ _) | (with_reducible refine below_dr ?_))
    exact hb.out.trans ((below_a hb2.out).mono hb.out.size)
def strC (s : ByteArray) : List Value := [.string s]
abbrev GAt (w : World) (B : Nat) (A : Option Addr) (n : Nat) (l : List ByteArray) : Prop := LAt strC 1 w B A n l
def SOk (l : List ByteArray) : Prop := ∀ s ∈ l, s.size ≤ maxLen
theorem GAt.cell {w : World} {B : Nat} {A : Option Addr} {n : Nat} {l : List ByteArray} (h : GAt w B A n l) {k : Nat} (hk : k < n) : ∃ ad, A = some ad ∧ ad.block < B ∧
    w.cell? (ad.add k) = some (.string (l[k]'(by rw [h.len]; exact hk))) := by
  obtain ⟨ad, hA, hb, hc⟩ := h.at_ hk
  refine ⟨ad, hA, hb, ?_⟩
  have := hc 0 _ rfl
  simpa using this
theorem busyFn_any (a id : ByteArray) (g : Nat) (w : World) (hc : w.cell? ⟨g, 4, none⟩ = some (.string id)) (h1 : a.size ≤ maxLen) (h2 : id.size ≤ maxLen) :
    Calls Try.prog 109 #[.string a, .pointer (some ⟨g, 0, none⟩)] w fun e w' => e = .returned (.bool (same a id)) ∧ ∃ m, w' = w.drewN m := by
  go_enter Try.func109, Try.ntmps109
  go_wp2_with (go_at_call 67; refine (same_any _ _ _ h1 h2).mono ?_; rintro e w1 ⟨rfl, m1, rfl⟩)
  go_ret
  exact ⟨rfl, _, rfl⟩
def idxS (id : ByteArray) : Nat → List ByteArray → Int
  | _, [] => -1
  | k, s :: r => if same s id = true then k else idxS id (k + 1) r
theorem idxS_any (id : ByteArray) : ∀ (l : List ByteArray) (k : Nat), (decide (0 ≤ idxS id k l)) = l.any fun s => same s id := by
  intro l
  induction l with
  | nil => intro k; rfl
  | cons s r ih =>
    intro k
    cases hs : same s id with
    | true => simp [idxS, hs]
    | false => simp only [idxS, hs, List.any_cons]; simpa using ih (k + 1)
theorem idxS_step (l : List ByteArray) (id : ByteArray) (k : Nat) (h : k < l.length) : idxS id k (l.drop k) = if same l[k] id = true then (k : Int) else idxS id (k + 1) (l.drop (k + 1)) := by
  rw [List.drop_eq_getElem_cons h]
  rfl
set_option maxRecDepth 100000 in
set_option maxHeartbeats 1000000 in
theorem indexFn_any (A : Option Addr) (l : List ByteArray) (n cap g : Nat) (id : ByteArray) (w : World) (h : GAt w w.heap.size A n l) (hm : n ≤ maxLen) (hc : w.cell? ⟨g, 4, none⟩ = some (.string id)) (hid : id.size ≤ maxLen) (hl : SOk l) :
    Calls Try.prog 116 #[.slice A n cap, .func (.func 109) #[] #[.pointer (some ⟨g, 0, none⟩)]] w fun e w' => e = .returned (.int .i64 (idxS id 0 l)) ∧ ∃ m, w' = w.drewN m := by
  unfold maxLen at hm
  have hn := Lib.hid h.len
  replace h := Lib.hid h
  replace hl := Lib.hid hl
  go_enter Try.func116, Try.ntmps116
  go_wp2_with fail
  go_loopw [8] (fun i wr => ∃ k m : Nat, k ≤ n ∧ i = .int .i64 k ∧ wr = w.drewN m ∧ Hid (idxS id 0 l = idxS id k (l.drop k))) (fun i _ => n - (intOf i).toNat)
  case atStart => exact ⟨0, 0, Nat.zero_le _, rfl, rfl, rfl⟩
  case round =>
    obtain ⟨k, m, hk, rfl, rfl, hx⟩ := hrel
    by_cases hlt : k < n
    · have hkl : k < l.length := by rw [hn.out]; exact hlt
      have hst := Lib.hid (idxS_step l id k hkl)
      obtain ⟨ad, hA, hbl, c0⟩ := GAt.cell (h.out) hlt
      subst hA
      have ho := hl.out _ (List.getElem_mem hkl)
      generalize l[k] = a at *
      cases hs : same a id with
      | true =>
        have hF : Hid (idxS id 0 l = k) := by show _ = _; rw [hx.out, hst.out, hs]; rfl
        replace hs := Lib.hid hs
        go_wp2_with fail
        refine (busyFn_any a id g _ (by simpa using hc) ho hid).mono ?_; rintro e w1 ⟨rfl, m1, rfl⟩
        rw [hs.out]
        go_wp2_with fail
        go_ret
        exact ⟨ret_int hF.out.symm, _, by first | rfl | rw [World.drewN_drewN]⟩
      | false =>
        have hF : Hid (idxS id 0 l = idxS id (k + 1) (l.drop (k + 1))) := by show _ = _; rw [hx.out, hst.out, hs]; rfl
        replace hs := Lib.hid hs
        go_wp2_with fail
        refine (busyFn_any a id g _ (by simpa using hc) ho hid).mono ?_; rintro e w1 ⟨rfl, m1, rfl⟩
        rw [hs.out]
        go_wp2_with fail
        go_roundw
        case rel => exact ⟨k + 1, _, by omega, by go_num, by first | rfl | rw [World.drewN_drewN], hF⟩
        case measure => simp [intOf]; omega
    · have hF : Hid (idxS id 0 l = -1) := by show _ = _; rw [hx.out, List.drop_of_length_le (by rw [hn.out]; omega)]; rfl
      go_wp2_with fail
      go_ret
      exact ⟨ret_int hF.out.symm, _, rfl⟩
theorem containsFn_any (A : Option Addr) (l : List ByteArray) (n cap g : Nat) (id : ByteArray) (w : World) (h : GAt w w.heap.size A n l) (hm : n ≤ maxLen) (hc : w.cell? ⟨g, 4, none⟩ = some (.string id)) (hid : id.size ≤ maxLen) (hl : SOk l) :
    Calls Try.prog 108 #[.slice A n cap, .func (.func 109) #[] #[.pointer (some ⟨g, 0, none⟩)]] w fun e w' => e = .returned (.bool (l.any fun s => same s id)) ∧ ∃ m, w' = w.drewN m := by
  have hF := Lib.hid (idxS_any id l 0)
  replace h := Lib.hid h
  go_enter Try.func108, Try.ntmps108
  go_wp2_with fail
  refine (indexFn_any A l n cap g id _ h.out hm hc hid hl).mono ?_; rintro e w1 ⟨rfl, m1, rfl⟩
  generalize idxS id 0 l = x at *
  go_wp2_with fail
  go_ret
  exact ⟨ret_bool hF.out, _, rfl⟩
/-- a transaction with the identifier is under way -/
def busyB (act : List ByteArray) (id : ByteArray) : Bool := act.any fun s => same s id
theorem busy_any (B0 B1 B2 B3 : Option Addr) (m0 m1 m2 m3 k0 k1 k2 k3 : Nat) (id : ByteArray) (now : Int) (l : List ByteArray) (w : World) (h : GAt w w.heap.size B3 m3 l) (hm : m3 ≤ maxLen) (hid : id.size ≤ maxLen) (hl : SOk l) :
    Calls Try.prog 94 #[.agg #[.slice B0 m0 k0, .slice B1 m1 k1, .slice B2 m2 k2, .slice B3 m3 k3, .string id, .int .i64 now]] w fun e w' => e = .returned (.bool (busyB l id)) ∧ Below w.heap.size w w' := by
  have hmf : ∀ (fn : Fn) (first cap : Array Value) (w : World), (Instr.makeFunc fn first cap).run Try.prog w = .ok (.func fn first cap) w := fun _ _ _ _ => rfl
  replace h := Lib.hid h
  go_enter Try.func94, Try.ntmps94
  go_wp2_with fail
  refine (containsFn_any B3 l m3 k3 _ id _ (h.out.more (a1 _ _)) hm (by simp [World.cell?_alloc_new]) hid hl).mono ?_; rintro e w1 ⟨rfl, mm, rfl⟩
  go_wp2_with fail
  go_ret
  exact ⟨rfl, below_drewN (a1 _ _) _⟩
end Go.Proofs.Ytiggpgeldigknaa
