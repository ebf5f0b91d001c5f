/- Authorization: known, decide, Central, Local, walked. -/
import Derived.Test.YtiggpgeldigknaaAu
set_option linter.unusedVariables false
set_option linter.unusedSimpArgs false
namespace Go.Proofs.Ytiggpgeldigknaa
open Go.RowKit
/-- the decision of the central system's tokens -/
def busyD (d : Dec) (act : List ByteArray) (id : ByteArray) : Dec := if d.1 = 1 ∧ busyB act id = true then (5, d.2.1, d.2.2) else d
def knownT (l : List Tk) (id : ByteArray) (now : Int) (act : List ByteArray) : Option Dec := (inT l id now 3).map fun d => busyD d act id
set_option maxRecDepth 100000 in
set_option maxHeartbeats 1000000 in
theorem known_any (B0 B1 B2 B3 : Option Addr) (m0 m1 m2 m3 k0 k1 k2 k3 : Nat) (id : ByteArray) (now : Int) (l : List Tk) (act : List ByteArray) (w : World) (h : TAt w w.heap.size B2 m2 l) (hm : m2 ≤ maxLen) (hid : id.size ≤ maxLen) (hl : ∀ t ∈ l, TkOk t)
    (ha : GAt w w.heap.size B3 m3 act) (hma : m3 ≤ maxLen) (hla : SOk act) :
    Calls Try.prog 64 #[.agg #[.slice B0 m0 k0, .slice B1 m1 k1, .slice B2 m2 k2, .slice B3 m3 k3, .string id, .int .i64 now]] w fun e w' => e = .returned (resD (knownT l id now act)) ∧ Below w.heap.size w w' := by
  replace h := Lib.hid h
  replace hl := Lib.hid hl
  replace ha := Lib.hid ha
  replace hla := Lib.hid hla
  cases hfd : inT l id now 3 with
  | none =>
    have hR : Hid (resD (inT l id now 3) = .tuple #[.agg #[.int .i64 0, .int .i64 0, .string ⟨#[]⟩], .bool false]) := by show _ = _; rw [hfd]; rfl
    have hF : Hid (resD (knownT l id now act) = .tuple #[.agg #[.int .i64 0, .int .i64 0, .string ⟨#[]⟩], .bool false]) := by show _ = _; rw [knownT, hfd]; rfl
    replace hfd := Lib.hid hfd
    go_enter Try.func64, Try.ntmps64
    go_wp2_with fail
    refine (in_any B0 B1 B2 B3 m0 m1 m2 m3 k0 k1 k2 k3 id now 3 B2 l m2 k2 _ ((h.out.more (a1 _ _)).more (a1 _ _)) hm hid hl.out).mono ?_; rintro e w1 ⟨rfl, hb⟩
    rw [hR.out]
    obtain ⟨hc, hf⟩ := bcell hb
    have hz : w.heap.size + 1 < w1.heap.size := by have := hb.size; simp at this; omega
    have hz0 : w.heap.size < w1.heap.size := by omega
    replace hb := Lib.hid (below_a (below_a hb))
    go_wp2_with fail
    refine bodyPost_ret (v := .tuple #[.agg #[.int .i64 0, .int .i64 0, .string ⟨#[]⟩], .bool false]) (by simp [results, Try.results64, go_sem, hc, hz]) rfl ⟨by rw [hF.out], ?_⟩
    repeat (first | (with_reducible refine below_set ?_ (by omega) _ _) | (with_reducible refine below_new ?_ _) | (with_reducible refine below_drewN ?_ _) | (with_reducible refine below_dr ?_))
    exact hb.out
  | some d =>
    obtain ⟨d1, d2, d3⟩ := d
    have hR : Hid (resD (inT l id now 3) = .tuple #[.agg #[.int .i64 d1, .int .i64 d2, .string d3], .bool true]) := by show _ = _; rw [hfd]; rfl
    by_cases hd1 : d1 = 1
    · subst hd1
      cases hbz : busyB act id with
      | true =>
        have hF : Hid (resD (knownT l id now act) = .tuple #[.agg #[.int .i64 5, .int .i64 d2, .string d3], .bool true]) := by show _ = _; rw [knownT, hfd]; simp [busyD, hbz]; rfl
        replace hfd := Lib.hid hfd
        replace hbz := Lib.hid hbz
        go_enter Try.func64, Try.ntmps64
        go_wp2_with fail
        refine (in_any B0 B1 B2 B3 m0 m1 m2 m3 k0 k1 k2 k3 id now 3 B2 l m2 k2 _ ((h.out.more (a1 _ _)).more (a1 _ _)) hm hid hl.out).mono ?_; rintro e w1 ⟨rfl, hb⟩
        rw [hR.out]
        have hQ := Lib.hid ((((Blk.new w 98 #[.slice B0 m0 k0, .slice B1 m1 k1, .slice B2 m2 k2, .slice B3 m3 k3, .string id, .int .i64 now]).alloc (.cells #[.int .i64 0, .int .i64 0, .string ⟨#[]⟩] 29)).below hb (by simp; omega)).alloc (.cells #[.int .i64 1, .int .i64 d2, .string d3] 29))
        have hZ := Lib.hid (((Blk.new (w.alloc (.cells #[.slice B0 m0 k0, .slice B1 m1 k1, .slice B2 m2 k2, .slice B3 m3 k3, .string id, .int .i64 now] 98)) 29 #[.int .i64 0, .int .i64 0, .string ⟨#[]⟩]).below hb (by simp)).alloc (.cells #[.int .i64 1, .int .i64 d2, .string d3] 29))
        have hD := Lib.hid (Blk.new w1 29 #[.int .i64 1, .int .i64 d2, .string d3])
        obtain ⟨hc, hf⟩ := bcell hb
        have hz : w.heap.size + 1 < w1.heap.size := by have := hb.size; simp at this; omega
        have hz0 : w.heap.size < w1.heap.size := by omega
        replace hb := Lib.hid (below_a (below_a hb))
        have hzs : Hid ((w.alloc (.cells #[.slice B0 m0 k0, .slice B1 m1 k1, .slice B2 m2 k2, .slice B3 m3 k3, .string id, .int .i64 now] 98)).heap.size = w.heap.size + 1) := by show _ = _; simp
        rw [hzs.out] at hZ
        have kx : Hid (∀ wz, Below (w1.alloc (.cells #[.int .i64 1, .int .i64 d2, .string d3] 29)).heap.size (w1.alloc (.cells #[.int .i64 1, .int .i64 d2, .string d3] 29)) wz → wz.cell? ⟨w.heap.size + 1, 0, none⟩ = some (.int .i64 0) ∧ wz.cell? ⟨w.heap.size + 1, 1, none⟩ = some (.int .i64 0) ∧ wz.cell? ⟨w.heap.size + 1, 2, none⟩ = some (.string ⟨#[]⟩) ∧ wz.frozen? ⟨w.heap.size + 1, 0, none⟩ = false ∧ wz.frozen? ⟨w.heap.size + 1, 1, none⟩ = false ∧ wz.frozen? ⟨w.heap.size + 1, 2, none⟩ = false ∧ wz.cell? ⟨w1.heap.size, 0, none⟩ = some (.int .i64 1) ∧ wz.cell? ⟨w1.heap.size, 1, none⟩ = some (.int .i64 d2) ∧ wz.cell? ⟨w1.heap.size, 2, none⟩ = some (.string d3) ∧ wz.frozen? ⟨w1.heap.size, 0, none⟩ = false ∧ wz.frozen? ⟨w1.heap.size, 1, none⟩ = false ∧ wz.frozen? ⟨w1.heap.size, 2, none⟩ = false) := fun wz h => by
          have r0 := hZ.out.below h (lt_of_heap hZ.out)
          have r1 := hD.out.below h (lt_of_heap hD.out)
          exact ⟨r0.cell 0, r0.cell 1, r0.cell 2, r0.frozen 0, r0.frozen 1, r0.frozen 2, r1.cell 0, r1.cell 1, r1.cell 2, r1.frozen 0, r1.frozen 1, r1.frozen 2⟩
        go_wp2_with fail
        refine (busy_any B0 B1 B2 B3 m0 m1 m2 m3 k0 k1 k2 k3 id now act _ ((ha.out.more hb.out).more (a1 _ _)) hma hid hla.out).mono ?_; rintro e w2 ⟨rfl, hb2⟩
        rw [hbz.out]
        obtain ⟨z0, z1, z2, g0, g1, g2, y0, y1, y2, f0, f1, f2⟩ := kx.out _ hb2
        have hz2 : w1.heap.size < w2.heap.size := by have := hb2.size; simp at this; omega
        replace hb2 := Lib.hid (below_a hb2)
        go_wp2_with fail
        refine bodyPost_ret (v := .tuple #[.agg #[.int .i64 5, .int .i64 d2, .string d3], .bool true]) (by simp [results, Try.results64, go_sem, *]) rfl ⟨by rw [hF.out], ?_⟩
        repeat (first | (with_reducible refine below_set ?_ (by omega) _ _) | (with_reducible refine below_new ?_ _) | (with_reducible refine below_drewN ?_ _) | (with_reducible refine below_dr ?_))
        exact hb.out.trans (hb2.out.mono hb.out.size)
      | false =>
        have hF : Hid (resD (knownT l id now act) = .tuple #[.agg #[.int .i64 1, .int .i64 d2, .string d3], .bool true]) := by show _ = _; rw [knownT, hfd]; simp [busyD, hbz]; rfl
        replace hfd := Lib.hid hfd
        replace hbz := Lib.hid hbz
        go_enter Try.func64, Try.ntmps64
        go_wp2_with fail
        refine (in_any B0 B1 B2 B3 m0 m1 m2 m3 k0 k1 k2 k3 id now 3 B2 l m2 k2 _ ((h.out.more (a1 _ _)).more (a1 _ _)) hm hid hl.out).mono ?_; rintro e w1 ⟨rfl, hb⟩
        rw [hR.out]
        have hQ := Lib.hid ((((Blk.new w 98 #[.slice B0 m0 k0, .slice B1 m1 k1, .slice B2 m2 k2, .slice B3 m3 k3, .string id, .int .i64 now]).alloc (.cells #[.int .i64 0, .int .i64 0, .string ⟨#[]⟩] 29)).below hb (by simp; omega)).alloc (.cells #[.int .i64 1, .int .i64 d2, .string d3] 29))
        have hZ := Lib.hid (((Blk.new (w.alloc (.cells #[.slice B0 m0 k0, .slice B1 m1 k1, .slice B2 m2 k2, .slice B3 m3 k3, .string id, .int .i64 now] 98)) 29 #[.int .i64 0, .int .i64 0, .string ⟨#[]⟩]).below hb (by simp)).alloc (.cells #[.int .i64 1, .int .i64 d2, .string d3] 29))
        have hD := Lib.hid (Blk.new w1 29 #[.int .i64 1, .int .i64 d2, .string d3])
        obtain ⟨hc, hf⟩ := bcell hb
        have hz : w.heap.size + 1 < w1.heap.size := by have := hb.size; simp at this; omega
        have hz0 : w.heap.size < w1.heap.size := by omega
        replace hb := Lib.hid (below_a (below_a hb))
        have hzs : Hid ((w.alloc (.cells #[.slice B0 m0 k0, .slice B1 m1 k1, .slice B2 m2 k2, .slice B3 m3 k3, .string id, .int .i64 now] 98)).heap.size = w.heap.size + 1) := by show _ = _; simp
        rw [hzs.out] at hZ
        have kx : Hid (∀ wz, Below (w1.alloc (.cells #[.int .i64 1, .int .i64 d2, .string d3] 29)).heap.size (w1.alloc (.cells #[.int .i64 1, .int .i64 d2, .string d3] 29)) wz → wz.cell? ⟨w.heap.size + 1, 0, none⟩ = some (.int .i64 0) ∧ wz.cell? ⟨w.heap.size + 1, 1, none⟩ = some (.int .i64 0) ∧ wz.cell? ⟨w.heap.size + 1, 2, none⟩ = some (.string ⟨#[]⟩) ∧ wz.frozen? ⟨w.heap.size + 1, 0, none⟩ = false ∧ wz.frozen? ⟨w.heap.size + 1, 1, none⟩ = false ∧ wz.frozen? ⟨w.heap.size + 1, 2, none⟩ = false ∧ wz.cell? ⟨w1.heap.size, 0, none⟩ = some (.int .i64 1) ∧ wz.cell? ⟨w1.heap.size, 1, none⟩ = some (.int .i64 d2) ∧ wz.cell? ⟨w1.heap.size, 2, none⟩ = some (.string d3) ∧ wz.frozen? ⟨w1.heap.size, 0, none⟩ = false ∧ wz.frozen? ⟨w1.heap.size, 1, none⟩ = false ∧ wz.frozen? ⟨w1.heap.size, 2, none⟩ = false) := fun wz h => by
          have r0 := hZ.out.below h (lt_of_heap hZ.out)
          have r1 := hD.out.below h (lt_of_heap hD.out)
          exact ⟨r0.cell 0, r0.cell 1, r0.cell 2, r0.frozen 0, r0.frozen 1, r0.frozen 2, r1.cell 0, r1.cell 1, r1.cell 2, r1.frozen 0, r1.frozen 1, r1.frozen 2⟩
        go_wp2_with fail
        refine (busy_any B0 B1 B2 B3 m0 m1 m2 m3 k0 k1 k2 k3 id now act _ ((ha.out.more hb.out).more (a1 _ _)) hma hid hla.out).mono ?_; rintro e w2 ⟨rfl, hb2⟩
        rw [hbz.out]
        obtain ⟨z0, z1, z2, g0, g1, g2, y0, y1, y2, f0, f1, f2⟩ := kx.out _ hb2
        have hz2 : w1.heap.size < w2.heap.size := by have := hb2.size; simp at this; omega
        replace hb2 := Lib.hid (below_a hb2)
        go_wp2_with fail
        refine bodyPost_ret (v := .tuple #[.agg #[.int .i64 1, .int .i64 d2, .string d3], .bool true]) (by simp [results, Try.results64, go_sem, *]) rfl ⟨by rw [hF.out], ?_⟩
        repeat (first | (with_reducible refine below_set ?_ (by omega) _ _) | (with_reducible refine below_new ?_ _) | (with_reducible refine below_drewN ?_ _) | (with_reducible refine below_dr ?_))
        exact hb.out.trans (hb2.out.mono hb.out.size)
    · have hF : Hid (resD (knownT l id now act) = .tuple #[.agg #[.int .i64 d1, .int .i64 d2, .string d3], .bool true]) := by show _ = _; rw [knownT, hfd]; simp [busyD, hd1]; rfl
      have hdd : (d1 == 1) = false := by simpa using hd1
      replace hd1 := Lib.hid hd1
      replace hfd := Lib.hid hfd
      go_enter Try.func64, Try.ntmps64
      go_wp2_with fail
      refine (in_any B0 B1 B2 B3 m0 m1 m2 m3 k0 k1 k2 k3 id now 3 B2 l m2 k2 _ ((h.out.more (a1 _ _)).more (a1 _ _)) hm hid hl.out).mono ?_; rintro e w1 ⟨rfl, hb⟩
      rw [hR.out]
      have hQ := Lib.hid ((((Blk.new w 98 #[.slice B0 m0 k0, .slice B1 m1 k1, .slice B2 m2 k2, .slice B3 m3 k3, .string id, .int .i64 now]).alloc (.cells #[.int .i64 0, .int .i64 0, .string ⟨#[]⟩] 29)).below hb (by simp; omega)).alloc (.cells #[.int .i64 d1, .int .i64 d2, .string d3] 29))
      have hZ := Lib.hid (((Blk.new (w.alloc (.cells #[.slice B0 m0 k0, .slice B1 m1 k1, .slice B2 m2 k2, .slice B3 m3 k3, .string id, .int .i64 now] 98)) 29 #[.int .i64 0, .int .i64 0, .string ⟨#[]⟩]).below hb (by simp)).alloc (.cells #[.int .i64 d1, .int .i64 d2, .string d3] 29))
      have hD := Lib.hid (Blk.new w1 29 #[.int .i64 d1, .int .i64 d2, .string d3])
      obtain ⟨hc, hf⟩ := bcell hb
      have hz : w.heap.size + 1 < w1.heap.size := by have := hb.size; simp at this; omega
      have hz0 : w.heap.size < w1.heap.size := by omega
      replace hb := Lib.hid (below_a (below_a hb))
      have hzs : Hid ((w.alloc (.cells #[.slice B0 m0 k0, .slice B1 m1 k1, .slice B2 m2 k2, .slice B3 m3 k3, .string id, .int .i64 now] 98)).heap.size = w.heap.size + 1) := by show _ = _; simp
      rw [hzs.out] at hZ
      have kx : Hid (∀ wz, Below (w1.alloc (.cells #[.int .i64 d1, .int .i64 d2, .string d3] 29)).heap.size (w1.alloc (.cells #[.int .i64 d1, .int .i64 d2, .string d3] 29)) wz → wz.cell? ⟨w.heap.size + 1, 0, none⟩ = some (.int .i64 0) ∧ wz.cell? ⟨w.heap.size + 1, 1, none⟩ = some (.int .i64 0) ∧ wz.cell? ⟨w.heap.size + 1, 2, none⟩ = some (.string ⟨#[]⟩) ∧ wz.frozen? ⟨w.heap.size + 1, 0, none⟩ = false ∧ wz.frozen? ⟨w.heap.size + 1, 1, none⟩ = false ∧ wz.frozen? ⟨w.heap.size + 1, 2, none⟩ = false ∧ wz.cell? ⟨w1.heap.size, 0, none⟩ = some (.int .i64 d1) ∧ wz.cell? ⟨w1.heap.size, 1, none⟩ = some (.int .i64 d2) ∧ wz.cell? ⟨w1.heap.size, 2, none⟩ = some (.string d3) ∧ wz.frozen? ⟨w1.heap.size, 0, none⟩ = false ∧ wz.frozen? ⟨w1.heap.size, 1, none⟩ = false ∧ wz.frozen? ⟨w1.heap.size, 2, none⟩ = false) := fun wz h => by
        have r0 := hZ.out.below h (lt_of_heap hZ.out)
        have r1 := hD.out.below h (lt_of_heap hD.out)
        exact ⟨r0.cell 0, r0.cell 1, r0.cell 2, r0.frozen 0, r0.frozen 1, r0.frozen 2, r1.cell 0, r1.cell 1, r1.cell 2, r1.frozen 0, r1.frozen 1, r1.frozen 2⟩
      obtain ⟨z0, z1, z2, g0, g1, g2, y0, y1, y2, f0, f1, f2⟩ := kx.out _ (Below.refl _ _)
      go_wp2_with fail
      refine bodyPost_ret (v := .tuple #[.agg #[.int .i64 d1, .int .i64 d2, .string d3], .bool true]) (by simp [results, Try.results64, go_sem, *]) rfl ⟨by rw [hF.out], ?_⟩
      repeat (first | (with_reducible refine below_set ?_ (by omega) _ _) | (with_reducible refine below_new ?_ _) | (with_reducible refine below_drewN ?_ _) | (with_reducible refine below_dr ?_))
      exact hb.out
theorem unknown_any (B0 B1 B2 B3 : Option Addr) (m0 m1 m2 m3 k0 k1 k2 k3 : Nat) (id : ByteArray) (now : Int) (w : World) :
    Calls Try.prog 65 #[.agg #[.slice B0 m0 k0, .slice B1 m1 k1, .slice B2 m2 k2, .slice B3 m3 k3, .string id, .int .i64 now]] w fun e w' => e = .returned (resD (some (4, 3, ⟨#[]⟩))) ∧ Below w.heap.size w w' := by
  go_enter Try.func65, Try.ntmps65
  go_wp2_with fail
  refine bodyPost_ret (v := .tuple #[.agg #[.int .i64 4, .int .i64 3, .string ⟨#[]⟩], .bool true]) (by simp [results, Try.results65, go_sem]) rfl ⟨rfl, ?_⟩
  repeat (first | (with_reducible refine below_set ?_ (by omega) _ _) | (with_reducible refine below_new ?_ _) | (with_reducible refine below_drewN ?_ _) | (with_reducible refine below_dr ?_))
  exact Below.refl _ _
theorem offline_any (B0 B1 B2 B3 : Option Addr) (m0 m1 m2 m3 k0 k1 k2 k3 : Nat) (id : ByteArray) (now : Int) (w : World) :
    Calls Try.prog 70 #[.agg #[.slice B0 m0 k0, .slice B1 m1 k1, .slice B2 m2 k2, .slice B3 m3 k3, .string id, .int .i64 now]] w fun e w' => e = .returned (resD (some (4, 4, ⟨#[]⟩))) ∧ Below w.heap.size w w' := by
  go_enter Try.func70, Try.ntmps70
  go_wp2_with fail
  refine bodyPost_ret (v := .tuple #[.agg #[.int .i64 4, .int .i64 4, .string ⟨#[]⟩], .bool true]) (by simp [results, Try.results70, go_sem]) rfl ⟨rfl, ?_⟩
  repeat (first | (with_reducible refine below_set ?_ (by omega) _ _) | (with_reducible refine below_new ?_ _) | (with_reducible refine below_drewN ?_ _) | (with_reducible refine below_dr ?_))
  exact Below.refl _ _
set_option maxRecDepth 100000 in
theorem listed_any (B0 B1 B2 B3 : Option Addr) (m0 m1 m2 m3 k0 k1 k2 k3 : Nat) (id : ByteArray) (now : Int) (l : List Tk) (w : World) (h : TAt w w.heap.size B0 m0 l) (hm : m0 ≤ maxLen) (hid : id.size ≤ maxLen) (hl : ∀ t ∈ l, TkOk t) :
    Calls Try.prog 68 #[.agg #[.slice B0 m0 k0, .slice B1 m1 k1, .slice B2 m2 k2, .slice B3 m3 k3, .string id, .int .i64 now]] w fun e w' => e = .returned (resD (inT l id now 1)) ∧ Below w.heap.size w w' := by
  replace h := Lib.hid h
  go_enter Try.func68, Try.ntmps68
  go_wp2_with fail
  refine (in_any B0 B1 B2 B3 m0 m1 m2 m3 k0 k1 k2 k3 id now 1 B0 l m0 k0 _ ((h.out.more (a1 _ _)).more (a1 _ _)) hm hid hl).mono ?_; rintro e w1 ⟨rfl, hb⟩
  have hZ := Lib.hid ((Blk.new (w.alloc (.cells #[.slice B0 m0 k0, .slice B1 m1 k1, .slice B2 m2 k2, .slice B3 m3 k3, .string id, .int .i64 now] 98)) 29 #[.int .i64 0, .int .i64 0, .string ⟨#[]⟩]).below hb (by simp))
  have hz : w.heap.size + 1 < w1.heap.size := by have := hb.size; simp at this; omega
  have hzs : Hid ((w.alloc (.cells #[.slice B0 m0 k0, .slice B1 m1 k1, .slice B2 m2 k2, .slice B3 m3 k3, .string id, .int .i64 now] 98)).heap.size = w.heap.size + 1) := by show _ = _; simp
  rw [hzs.out] at hZ
  replace hb := Lib.hid (below_a (below_a hb))
  obtain ⟨d, o, hdo⟩ : ∃ (d : Dec) (o : Bool), resD (inT l id now 1) = .tuple #[.agg #[.int .i64 d.1, .int .i64 d.2.1, .string d.2.2], .bool o] := ⟨_, _, rfl⟩
  rw [hdo]
  replace hdo := Lib.hid hdo
  obtain ⟨d1, d2, d3⟩ := d
  have kx : Hid (∀ wz, Below (w1).heap.size (w1) wz → wz.cell? ⟨w.heap.size + 1, 0, none⟩ = some (.int .i64 0) ∧ wz.cell? ⟨w.heap.size + 1, 1, none⟩ = some (.int .i64 0) ∧ wz.cell? ⟨w.heap.size + 1, 2, none⟩ = some (.string ⟨#[]⟩) ∧ wz.frozen? ⟨w.heap.size + 1, 0, none⟩ = false ∧ wz.frozen? ⟨w.heap.size + 1, 1, none⟩ = false ∧ wz.frozen? ⟨w.heap.size + 1, 2, none⟩ = false) := fun wz h => by
    have r0 := hZ.out.below h (lt_of_heap hZ.out)
    exact ⟨r0.cell 0, r0.cell 1, r0.cell 2, r0.frozen 0, r0.frozen 1, r0.frozen 2⟩
  obtain ⟨z0, z1, z2, g0, g1, g2⟩ := kx.out _ (Below.refl _ _)
  go_wp2_with fail
  refine bodyPost_ret (v := .tuple #[.agg #[.int .i64 d1, .int .i64 d2, .string d3], .bool o]) (by simp [results, Try.results68, go_sem, *]) rfl ⟨by rw [hdo.out], ?_⟩
  repeat (first | (with_reducible refine below_set ?_ (by omega) _ _) | (with_reducible refine below_new ?_ _) | (with_reducible refine below_drewN ?_ _) | (with_reducible refine below_dr ?_))
  exact hb.out
set_option maxRecDepth 100000 in
theorem cached_any (B0 B1 B2 B3 : Option Addr) (m0 m1 m2 m3 k0 k1 k2 k3 : Nat) (id : ByteArray) (now : Int) (l : List Tk) (w : World) (h : TAt w w.heap.size B1 m1 l) (hm : m1 ≤ maxLen) (hid : id.size ≤ maxLen) (hl : ∀ t ∈ l, TkOk t) :
    Calls Try.prog 69 #[.agg #[.slice B0 m0 k0, .slice B1 m1 k1, .slice B2 m2 k2, .slice B3 m3 k3, .string id, .int .i64 now]] w fun e w' => e = .returned (resD (inT l id now 2)) ∧ Below w.heap.size w w' := by
  replace h := Lib.hid h
  go_enter Try.func69, Try.ntmps69
  go_wp2_with fail
  refine (in_any B0 B1 B2 B3 m0 m1 m2 m3 k0 k1 k2 k3 id now 2 B1 l m1 k1 _ ((h.out.more (a1 _ _)).more (a1 _ _)) hm hid hl).mono ?_; rintro e w1 ⟨rfl, hb⟩
  have hZ := Lib.hid ((Blk.new (w.alloc (.cells #[.slice B0 m0 k0, .slice B1 m1 k1, .slice B2 m2 k2, .slice B3 m3 k3, .string id, .int .i64 now] 98)) 29 #[.int .i64 0, .int .i64 0, .string ⟨#[]⟩]).below hb (by simp))
  have hz : w.heap.size + 1 < w1.heap.size := by have := hb.size; simp at this; omega
  have hzs : Hid ((w.alloc (.cells #[.slice B0 m0 k0, .slice B1 m1 k1, .slice B2 m2 k2, .slice B3 m3 k3, .string id, .int .i64 now] 98)).heap.size = w.heap.size + 1) := by show _ = _; simp
  rw [hzs.out] at hZ
  replace hb := Lib.hid (below_a (below_a hb))
  obtain ⟨d, o, hdo⟩ : ∃ (d : Dec) (o : Bool), resD (inT l id now 2) = .tuple #[.agg #[.int .i64 d.1, .int .i64 d.2.1, .string d.2.2], .bool o] := ⟨_, _, rfl⟩
  rw [hdo]
  replace hdo := Lib.hid hdo
  obtain ⟨d1, d2, d3⟩ := d
  have kx : Hid (∀ wz, Below (w1).heap.size (w1) wz → wz.cell? ⟨w.heap.size + 1, 0, none⟩ = some (.int .i64 0) ∧ wz.cell? ⟨w.heap.size + 1, 1, none⟩ = some (.int .i64 0) ∧ wz.cell? ⟨w.heap.size + 1, 2, none⟩ = some (.string ⟨#[]⟩) ∧ wz.frozen? ⟨w.heap.size + 1, 0, none⟩ = false ∧ wz.frozen? ⟨w.heap.size + 1, 1, none⟩ = false ∧ wz.frozen? ⟨w.heap.size + 1, 2, none⟩ = false) := fun wz h => by
    have r0 := hZ.out.below h (lt_of_heap hZ.out)
    exact ⟨r0.cell 0, r0.cell 1, r0.cell 2, r0.frozen 0, r0.frozen 1, r0.frozen 2⟩
  obtain ⟨z0, z1, z2, g0, g1, g2⟩ := kx.out _ (Below.refl _ _)
  go_wp2_with fail
  refine bodyPost_ret (v := .tuple #[.agg #[.int .i64 d1, .int .i64 d2, .string d3], .bool o]) (by simp [results, Try.results69, go_sem, *]) rfl ⟨by rw [hdo.out], ?_⟩
  repeat (first | (with_reducible refine below_set ?_ (by omega) _ _) | (with_reducible refine below_new ?_ _) | (with_reducible refine below_drewN ?_ _) | (with_reducible refine below_dr ?_))
  exact hb.out
/-- the decision of the central system -/
def centralT (l : List Tk) (id : ByteArray) (act : List ByteArray) (now : Int) : Dec := (knownT l id now act).getD (4, 3, ⟨#[]⟩)
/-- the decision of a station without a connection -/
def localT (l c : List Tk) (id : ByteArray) (now : Int) : Dec := (inT l id now 1).getD ((inT c id now 2).getD (4, 4, ⟨#[]⟩))
set_option maxRecDepth 100000 in
set_option maxHeartbeats 1000000 in
theorem decideC (B0 B1 B2 B3 : Option Addr) (m0 m1 m2 m3 k0 k1 k2 k3 : Nat) (id : ByteArray) (now : Int) (l : List Tk) (act : List ByteArray) (g : Nat) (w : World) (hg : Blk w g 100 #[.func (.func 64) #[.agg #[.slice B0 m0 k0, .slice B1 m1 k1, .slice B2 m2 k2, .slice B3 m3 k3, .string id, .int .i64 now]] #[], .func (.func 65) #[.agg #[.slice B0 m0 k0, .slice B1 m1 k1, .slice B2 m2 k2, .slice B3 m3 k3, .string id, .int .i64 now]] #[]]) (hid : id.size ≤ maxLen) (h : TAt w w.heap.size B2 m2 l) (hm : m2 ≤ maxLen) (hl : ∀ t ∈ l, TkOk t) (ha : GAt w w.heap.size B3 m3 act) (hma : m3 ≤ maxLen) (hla : SOk act) :
    Calls Try.prog 63 #[.slice (some ⟨g, 0, none⟩) 2 2] w fun e w' => e = .returned (decV (centralT l id act now)) ∧ Below w.heap.size w w' := by
  replace h := Lib.hid h
  replace hl := Lib.hid hl
  replace ha := Lib.hid ha
  replace hla := Lib.hid hla
  have hgl := lt_of_heap hg
  have hg2 := Lib.hid (hg.alloc (.cells #[.int .i64 0, .int .i64 0, .string ⟨#[]⟩] 29))
  have hZ := Lib.hid (Blk.new w 29 #[.int .i64 0, .int .i64 0, .string ⟨#[]⟩])
  replace hg := Lib.hid hg
  have kx : Hid (∀ wz, Below (w.alloc (.cells #[.int .i64 0, .int .i64 0, .string ⟨#[]⟩] 29)).heap.size (w.alloc (.cells #[.int .i64 0, .int .i64 0, .string ⟨#[]⟩] 29)) wz → wz.cell? ⟨g, 0, none⟩ = some (.func (.func 64) #[.agg #[.slice B0 m0 k0, .slice B1 m1 k1, .slice B2 m2 k2, .slice B3 m3 k3, .string id, .int .i64 now]] #[]) ∧ wz.cell? ⟨g, 1, none⟩ = some (.func (.func 65) #[.agg #[.slice B0 m0 k0, .slice B1 m1 k1, .slice B2 m2 k2, .slice B3 m3 k3, .string id, .int .i64 now]] #[]) ∧ wz.cell? ⟨w.heap.size, 0, none⟩ = some (.int .i64 0) ∧ wz.cell? ⟨w.heap.size, 1, none⟩ = some (.int .i64 0) ∧ wz.cell? ⟨w.heap.size, 2, none⟩ = some (.string ⟨#[]⟩) ∧ wz.frozen? ⟨w.heap.size, 0, none⟩ = false ∧ wz.frozen? ⟨w.heap.size, 1, none⟩ = false ∧ wz.frozen? ⟨w.heap.size, 2, none⟩ = false) := fun wz h => by
    have q0 := hg2.out.below h (lt_of_heap hg2.out)
    have r0 := hZ.out.below h (lt_of_heap hZ.out)
    exact ⟨q0.cell 0, q0.cell 1, r0.cell 0, r0.cell 1, r0.cell 2, r0.frozen 0, r0.frozen 1, r0.frozen 2⟩
  go_enter Try.func63, Try.ntmps63
  go_wp2_with fail
  go_loopw [9] (fun i wr => Hid (Below (w.alloc (.cells #[.int .i64 0, .int .i64 0, .string ⟨#[]⟩] 29)).heap.size (w.alloc (.cells #[.int .i64 0, .int .i64 0, .string ⟨#[]⟩] 29)) wr) ∧ ((i = .int .i64 0) ∨ (i = .int .i64 1 ∧ Hid (knownT l id now act = none)))) (fun i _ => 2 - (intOf i).toNat)
  case atStart => exact ⟨Below.refl _ _, .inl rfl⟩
  case round =>
    obtain ⟨hb, hrel⟩ := hrel
    have hw := Lib.hid (below_a hb.out)
    rcases hrel with rfl | ⟨rfl, n0⟩
    · cases hk : knownT l id now act with
      | none =>
        have hR : Hid (resD (knownT l id now act) = .tuple #[.agg #[.int .i64 0, .int .i64 0, .string ⟨#[]⟩], .bool false]) := by show _ = _; rw [hk]; rfl
        replace hk := Lib.hid hk
        obtain ⟨v0, v1, z0, z1, z2, f0, f1, f2⟩ := kx.out _ hb.out
        go_wp2_with fail
        refine (known_any B0 B1 B2 B3 m0 m1 m2 m3 k0 k1 k2 k3 id now l act _ (h.out.more hw.out) hm hid hl.out (ha.out.more hw.out) hma hla.out).mono ?_; rintro e w1 ⟨rfl, hb1⟩
        rw [hR.out]
        replace hb1 := Lib.hid (hb.out.trans (hb1.mono hb.out.size))
        clear v0 v1 z0 z1 z2 f0 f1 f2
        obtain ⟨v0, v1, z0, z1, z2, f0, f1, f2⟩ := kx.out _ hb1.out
        have hz1 : w.heap.size < w1.heap.size := by have := hb1.out.size; simp at this; omega
        go_wp2_with fail
        go_roundw
        case rel => exact ⟨below_new hb1.out _, .inr ⟨rfl, by first | exact hk | exact trivial⟩⟩
        case measure => simp [intOf]
      | some d =>
        obtain ⟨d1, d2, d3⟩ := d
        have hR : Hid (resD (knownT l id now act) = .tuple #[.agg #[.int .i64 d1, .int .i64 d2, .string d3], .bool true]) := by show _ = _; rw [hk]; rfl
        have hF : Hid (centralT l id act now = (d1, d2, d3)) := by show _ = _; rw [centralT, hk]; rfl
        replace hk := Lib.hid hk
        obtain ⟨v0, v1, z0, z1, z2, f0, f1, f2⟩ := kx.out _ hb.out
        go_wp2_with fail
        refine (known_any B0 B1 B2 B3 m0 m1 m2 m3 k0 k1 k2 k3 id now l act _ (h.out.more hw.out) hm hid hl.out (ha.out.more hw.out) hma hla.out).mono ?_; rintro e w1 ⟨rfl, hb1⟩
        rw [hR.out]
        replace hb1 := Lib.hid (hb.out.trans (hb1.mono hb.out.size))
        clear v0 v1 z0 z1 z2 f0 f1 f2
        obtain ⟨v0, v1, z0, z1, z2, f0, f1, f2⟩ := kx.out _ hb1.out
        have hz1 : w.heap.size < w1.heap.size := by have := hb1.out.size; simp at this; omega
        go_wp2_with fail
        refine bodyPost_ret (v := .agg #[.int .i64 d1, .int .i64 d2, .string d3]) (by simp [results, Try.results63, go_sem, *]) rfl ⟨by rw [hF.out]; rfl, ?_⟩
        repeat (first | (with_reducible refine below_set ?_ (by omega) _ _) | (with_reducible refine below_new ?_ _) | (with_reducible refine below_drewN ?_ _) | (with_reducible refine below_dr ?_))
        exact below_a hb1.out
    · have hR : Hid (resD (some (4, 3, ⟨#[]⟩)) = .tuple #[.agg #[.int .i64 4, .int .i64 3, .string ⟨#[]⟩], .bool true]) := rfl
      have hF : Hid (centralT l id act now = (4, 3, ⟨#[]⟩)) := by show _ = _; rw [centralT, n0.out]; rfl
      obtain ⟨v0, v1, z0, z1, z2, f0, f1, f2⟩ := kx.out _ hb.out
      go_wp2_with fail
      refine (unknown_any B0 B1 B2 B3 m0 m1 m2 m3 k0 k1 k2 k3 id now _).mono ?_; rintro e w1 ⟨rfl, hb1⟩
      rw [hR.out]
      replace hb1 := Lib.hid (hb.out.trans (hb1.mono hb.out.size))
      clear v0 v1 z0 z1 z2 f0 f1 f2
      obtain ⟨v0, v1, z0, z1, z2, f0, f1, f2⟩ := kx.out _ hb1.out
      have hz1 : w.heap.size < w1.heap.size := by have := hb1.out.size; simp at this; omega
      go_wp2_with fail
      refine bodyPost_ret (v := .agg #[.int .i64 4, .int .i64 3, .string ⟨#[]⟩]) (by simp [results, Try.results63, go_sem, *]) rfl ⟨by rw [hF.out]; rfl, ?_⟩
      repeat (first | (with_reducible refine below_set ?_ (by omega) _ _) | (with_reducible refine below_new ?_ _) | (with_reducible refine below_drewN ?_ _) | (with_reducible refine below_dr ?_))
      exact below_a hb1.out
set_option maxRecDepth 100000 in
set_option maxHeartbeats 1000000 in
theorem decideL (B0 B1 B2 B3 : Option Addr) (m0 m1 m2 m3 k0 k1 k2 k3 : Nat) (id : ByteArray) (now : Int) (l c : List Tk) (g : Nat) (w : World) (hg : Blk w g 100 #[.func (.func 68) #[.agg #[.slice B0 m0 k0, .slice B1 m1 k1, .slice B2 m2 k2, .slice B3 m3 k3, .string id, .int .i64 now]] #[], .func (.func 69) #[.agg #[.slice B0 m0 k0, .slice B1 m1 k1, .slice B2 m2 k2, .slice B3 m3 k3, .string id, .int .i64 now]] #[], .func (.func 70) #[.agg #[.slice B0 m0 k0, .slice B1 m1 k1, .slice B2 m2 k2, .slice B3 m3 k3, .string id, .int .i64 now]] #[]]) (hid : id.size ≤ maxLen) (h : TAt w w.heap.size B0 m0 l) (hm : m0 ≤ maxLen) (hl : ∀ t ∈ l, TkOk t) (h2 : TAt w w.heap.size B1 m1 c) (hm2 : m1 ≤ maxLen) (hl2 : ∀ t ∈ c, TkOk t) :
    Calls Try.prog 63 #[.slice (some ⟨g, 0, none⟩) 3 3] w fun e w' => e = .returned (decV (localT l c id now)) ∧ Below w.heap.size w w' := by
  replace h := Lib.hid h
  replace hl := Lib.hid hl
  replace h2 := Lib.hid h2
  replace hl2 := Lib.hid hl2
  have hgl := lt_of_heap hg
  have hg2 := Lib.hid (hg.alloc (.cells #[.int .i64 0, .int .i64 0, .string ⟨#[]⟩] 29))
  have hZ := Lib.hid (Blk.new w 29 #[.int .i64 0, .int .i64 0, .string ⟨#[]⟩])
  replace hg := Lib.hid hg
  have kx : Hid (∀ wz, Below (w.alloc (.cells #[.int .i64 0, .int .i64 0, .string ⟨#[]⟩] 29)).heap.size (w.alloc (.cells #[.int .i64 0, .int .i64 0, .string ⟨#[]⟩] 29)) wz → wz.cell? ⟨g, 0, none⟩ = some (.func (.func 68) #[.agg #[.slice B0 m0 k0, .slice B1 m1 k1, .slice B2 m2 k2, .slice B3 m3 k3, .string id, .int .i64 now]] #[]) ∧ wz.cell? ⟨g, 1, none⟩ = some (.func (.func 69) #[.agg #[.slice B0 m0 k0, .slice B1 m1 k1, .slice B2 m2 k2, .slice B3 m3 k3, .string id, .int .i64 now]] #[]) ∧ wz.cell? ⟨g, 2, none⟩ = some (.func (.func 70) #[.agg #[.slice B0 m0 k0, .slice B1 m1 k1, .slice B2 m2 k2, .slice B3 m3 k3, .string id, .int .i64 now]] #[]) ∧ wz.cell? ⟨w.heap.size, 0, none⟩ = some (.int .i64 0) ∧ wz.cell? ⟨w.heap.size, 1, none⟩ = some (.int .i64 0) ∧ wz.cell? ⟨w.heap.size, 2, none⟩ = some (.string ⟨#[]⟩) ∧ wz.frozen? ⟨w.heap.size, 0, none⟩ = false ∧ wz.frozen? ⟨w.heap.size, 1, none⟩ = false ∧ wz.frozen? ⟨w.heap.size, 2, none⟩ = false) := fun wz h => by
    have q0 := hg2.out.below h (lt_of_heap hg2.out)
    have r0 := hZ.out.below h (lt_of_heap hZ.out)
    exact ⟨q0.cell 0, q0.cell 1, q0.cell 2, r0.cell 0, r0.cell 1, r0.cell 2, r0.frozen 0, r0.frozen 1, r0.frozen 2⟩
  go_enter Try.func63, Try.ntmps63
  go_wp2_with fail
  go_loopw [9] (fun i wr => Hid (Below (w.alloc (.cells #[.int .i64 0, .int .i64 0, .string ⟨#[]⟩] 29)).heap.size (w.alloc (.cells #[.int .i64 0, .int .i64 0, .string ⟨#[]⟩] 29)) wr) ∧ ((i = .int .i64 0) ∨ (i = .int .i64 1 ∧ Hid (inT l id now 1 = none)) ∨ (i = .int .i64 2 ∧ Hid (inT l id now 1 = none) ∧ Hid (inT c id now 2 = none)))) (fun i _ => 3 - (intOf i).toNat)
  case atStart => exact ⟨Below.refl _ _, .inl rfl⟩
  case round =>
    obtain ⟨hb, hrel⟩ := hrel
    have hw := Lib.hid (below_a hb.out)
    rcases hrel with rfl | ⟨rfl, n0⟩ | ⟨rfl, n0, n1⟩
    · cases hk : inT l id now 1 with
      | none =>
        have hR : Hid (resD (inT l id now 1) = .tuple #[.agg #[.int .i64 0, .int .i64 0, .string ⟨#[]⟩], .bool false]) := by show _ = _; rw [hk]; rfl
        replace hk := Lib.hid hk
        obtain ⟨v0, v1, v2, z0, z1, z2, f0, f1, f2⟩ := kx.out _ hb.out
        go_wp2_with fail
        refine (listed_any B0 B1 B2 B3 m0 m1 m2 m3 k0 k1 k2 k3 id now l _ (h.out.more hw.out) hm hid hl.out).mono ?_; rintro e w1 ⟨rfl, hb1⟩
        rw [hR.out]
        replace hb1 := Lib.hid (hb.out.trans (hb1.mono hb.out.size))
        clear v0 v1 v2 z0 z1 z2 f0 f1 f2
        obtain ⟨v0, v1, v2, z0, z1, z2, f0, f1, f2⟩ := kx.out _ hb1.out
        have hz1 : w.heap.size < w1.heap.size := by have := hb1.out.size; simp at this; omega
        go_wp2_with fail
        go_roundw
        case rel => exact ⟨below_new hb1.out _, .inr (.inl ⟨rfl, by first | exact hk | exact trivial⟩)⟩
        case measure => simp [intOf]
      | some d =>
        obtain ⟨d1, d2, d3⟩ := d
        have hR : Hid (resD (inT l id now 1) = .tuple #[.agg #[.int .i64 d1, .int .i64 d2, .string d3], .bool true]) := by show _ = _; rw [hk]; rfl
        have hF : Hid (localT l c id now = (d1, d2, d3)) := by show _ = _; rw [localT, hk]; rfl
        replace hk := Lib.hid hk
        obtain ⟨v0, v1, v2, z0, z1, z2, f0, f1, f2⟩ := kx.out _ hb.out
        go_wp2_with fail
        refine (listed_any B0 B1 B2 B3 m0 m1 m2 m3 k0 k1 k2 k3 id now l _ (h.out.more hw.out) hm hid hl.out).mono ?_; rintro e w1 ⟨rfl, hb1⟩
        rw [hR.out]
        replace hb1 := Lib.hid (hb.out.trans (hb1.mono hb.out.size))
        clear v0 v1 v2 z0 z1 z2 f0 f1 f2
        obtain ⟨v0, v1, v2, z0, z1, z2, f0, f1, f2⟩ := kx.out _ hb1.out
        have hz1 : w.heap.size < w1.heap.size := by have := hb1.out.size; simp at this; omega
        go_wp2_with fail
        refine bodyPost_ret (v := .agg #[.int .i64 d1, .int .i64 d2, .string d3]) (by simp [results, Try.results63, go_sem, *]) rfl ⟨by rw [hF.out]; rfl, ?_⟩
        repeat (first | (with_reducible refine below_set ?_ (by omega) _ _) | (with_reducible refine below_new ?_ _) | (with_reducible refine below_drewN ?_ _) | (with_reducible refine below_dr ?_))
        exact below_a hb1.out
    · cases hk : inT c id now 2 with
      | none =>
        have hR : Hid (resD (inT c id now 2) = .tuple #[.agg #[.int .i64 0, .int .i64 0, .string ⟨#[]⟩], .bool false]) := by show _ = _; rw [hk]; rfl
        replace hk := Lib.hid hk
        obtain ⟨v0, v1, v2, z0, z1, z2, f0, f1, f2⟩ := kx.out _ hb.out
        go_wp2_with fail
        refine (cached_any B0 B1 B2 B3 m0 m1 m2 m3 k0 k1 k2 k3 id now c _ (h2.out.more hw.out) hm2 hid hl2.out).mono ?_; rintro e w1 ⟨rfl, hb1⟩
        rw [hR.out]
        replace hb1 := Lib.hid (hb.out.trans (hb1.mono hb.out.size))
        clear v0 v1 v2 z0 z1 z2 f0 f1 f2
        obtain ⟨v0, v1, v2, z0, z1, z2, f0, f1, f2⟩ := kx.out _ hb1.out
        have hz1 : w.heap.size < w1.heap.size := by have := hb1.out.size; simp at this; omega
        go_wp2_with fail
        go_roundw
        case rel => exact ⟨below_new hb1.out _, .inr (.inr ⟨rfl, by first | exact n0 | exact trivial, by first | exact hk | exact trivial⟩)⟩
        case measure => simp [intOf]
      | some d =>
        obtain ⟨d1, d2, d3⟩ := d
        have hR : Hid (resD (inT c id now 2) = .tuple #[.agg #[.int .i64 d1, .int .i64 d2, .string d3], .bool true]) := by show _ = _; rw [hk]; rfl
        have hF : Hid (localT l c id now = (d1, d2, d3)) := by show _ = _; rw [localT, n0.out, hk]; rfl
        replace hk := Lib.hid hk
        obtain ⟨v0, v1, v2, z0, z1, z2, f0, f1, f2⟩ := kx.out _ hb.out
        go_wp2_with fail
        refine (cached_any B0 B1 B2 B3 m0 m1 m2 m3 k0 k1 k2 k3 id now c _ (h2.out.more hw.out) hm2 hid hl2.out).mono ?_; rintro e w1 ⟨rfl, hb1⟩
        rw [hR.out]
        replace hb1 := Lib.hid (hb.out.trans (hb1.mono hb.out.size))
        clear v0 v1 v2 z0 z1 z2 f0 f1 f2
        obtain ⟨v0, v1, v2, z0, z1, z2, f0, f1, f2⟩ := kx.out _ hb1.out
        have hz1 : w.heap.size < w1.heap.size := by have := hb1.out.size; simp at this; omega
        go_wp2_with fail
        refine bodyPost_ret (v := .agg #[.int .i64 d1, .int .i64 d2, .string d3]) (by simp [results, Try.results63, go_sem, *]) rfl ⟨by rw [hF.out]; rfl, ?_⟩
        repeat (first | (with_reducible refine below_set ?_ (by omega) _ _) | (with_reducible refine below_new ?_ _) | (with_reducible refine below_drewN ?_ _) | (with_reducible refine below_dr ?_))
        exact below_a hb1.out
    · have hR : Hid (resD (some (4, 4, ⟨#[]⟩)) = .tuple #[.agg #[.int .i64 4, .int .i64 4, .string ⟨#[]⟩], .bool true]) := rfl
      have hF : Hid (localT l c id now = (4, 4, ⟨#[]⟩)) := by show _ = _; rw [localT, n0.out, n1.out]; rfl
      obtain ⟨v0, v1, v2, z0, z1, z2, f0, f1, f2⟩ := kx.out _ hb.out
      go_wp2_with fail
      refine (offline_any B0 B1 B2 B3 m0 m1 m2 m3 k0 k1 k2 k3 id now _).mono ?_; rintro e w1 ⟨rfl, hb1⟩
      rw [hR.out]
      replace hb1 := Lib.hid (hb.out.trans (hb1.mono hb.out.size))
      clear v0 v1 v2 z0 z1 z2 f0 f1 f2
      obtain ⟨v0, v1, v2, z0, z1, z2, f0, f1, f2⟩ := kx.out _ hb1.out
      have hz1 : w.heap.size < w1.heap.size := by have := hb1.out.size; simp at this; omega
      go_wp2_with fail
      refine bodyPost_ret (v := .agg #[.int .i64 4, .int .i64 4, .string ⟨#[]⟩]) (by simp [results, Try.results63, go_sem, *]) rfl ⟨by rw [hF.out]; rfl, ?_⟩
      repeat (first | (with_reducible refine below_set ?_ (by omega) _ _) | (with_reducible refine below_new ?_ _) | (with_reducible refine below_drewN ?_ _) | (with_reducible refine below_dr ?_))
      exact below_a hb1.out
end Go.Proofs.Ytiggpgeldigknaa
