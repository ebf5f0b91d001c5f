/- Authorization: Central and Local, walked. -/
import Derived.Test.YtiggpgeldigknaaAv
set_option linter.unusedVariables false
set_option linter.unusedSimpArgs false
namespace Go.Proofs.Ytiggpgeldigknaa
open Go.RowKit
theorem tnil (w : World) (B : Nat) : TAt w B none 0 [] := LAt.nil tkC_len w B
theorem gnil (w : World) (B : Nat) : GAt w B none 0 [] := LAt.nil (f := strC) (fun _ => rfl) w B
set_option maxRecDepth 100000 in
set_option maxHeartbeats 1000000 in
theorem central_any (A : Option Addr) (l : List Tk) (n cap : Nat) (id : ByteArray) (G : Option Addr) (act : List ByteArray) (m k : Nat) (now : Int) (w : World) (h : TAt w w.heap.size A n l) (hm : n ≤ maxLen) (hid : id.size ≤ maxLen) (hl : ∀ t ∈ l, TkOk t) (h2 : GAt w w.heap.size G m act) (hm2 : m ≤ maxLen) (hl2 : SOk act) :
    Calls Try.prog 22 #[.slice A n cap, .string id, .slice G m k, .int .i64 now] w fun e w' => e = .returned (decV (centralT l id act now)) ∧ Below w.heap.size w w' := by
  have hmf : ∀ (fn : Fn) (first cap : Array Value) (w : World), (Instr.makeFunc fn first cap).run Try.prog w = .ok (.func fn first cap) w := fun _ _ _ _ => rfl
  have hbw : Hid (Below w.heap.size w (((w.alloc (.cells #[.int .i64 0, .int .i64 0, .string ⟨#[]⟩] 29)).alloc (.cells #[.slice none 0 0, .slice none 0 0, .slice A n cap, .slice G m k, .string id, .int .i64 now] 98)).alloc (.cells #[.func (.func 64) #[.agg #[.slice none 0 0, .slice none 0 0, .slice A n cap, .slice G m k, .string id, .int .i64 now]] #[], .func (.func 65) #[.agg #[.slice none 0 0, .slice none 0 0, .slice A n cap, .slice G m k, .string id, .int .i64 now]] #[]] 100))) := below_new (below_new (below_new (Below.refl _ _) _) _) _
  have hZ := Lib.hid (((Blk.new w 29 #[.int .i64 0, .int .i64 0, .string ⟨#[]⟩]).alloc (.cells #[.slice none 0 0, .slice none 0 0, .slice A n cap, .slice G m k, .string id, .int .i64 now] 98)).alloc (.cells #[.func (.func 64) #[.agg #[.slice none 0 0, .slice none 0 0, .slice A n cap, .slice G m k, .string id, .int .i64 now]] #[], .func (.func 65) #[.agg #[.slice none 0 0, .slice none 0 0, .slice A n cap, .slice G m k, .string id, .int .i64 now]] #[]] 100))
  have hG := Lib.hid (Blk.new ((w.alloc (.cells #[.int .i64 0, .int .i64 0, .string ⟨#[]⟩] 29)).alloc (.cells #[.slice none 0 0, .slice none 0 0, .slice A n cap, .slice G m k, .string id, .int .i64 now] 98)) 100 #[.func (.func 64) #[.agg #[.slice none 0 0, .slice none 0 0, .slice A n cap, .slice G m k, .string id, .int .i64 now]] #[], .func (.func 65) #[.agg #[.slice none 0 0, .slice none 0 0, .slice A n cap, .slice G m k, .string id, .int .i64 now]] #[]])

  have hz1 : Hid (((w.alloc (.cells #[.int .i64 0, .int .i64 0, .string ⟨#[]⟩] 29)).alloc (.cells #[.slice none 0 0, .slice none 0 0, .slice A n cap, .slice G m k, .string id, .int .i64 now] 98)).heap.size = w.heap.size + 1 + 1) := by show _ = _; simp
  rw [hz1.out] at hG
  
  obtain ⟨⟨d1, d2, d3⟩, hd⟩ : ∃ d : Dec, centralT l id act now = d := ⟨_, rfl⟩
  have kx : Hid (∀ wz, Below ((((w.alloc (.cells #[.int .i64 0, .int .i64 0, .string ⟨#[]⟩] 29)).alloc (.cells #[.slice none 0 0, .slice none 0 0, .slice A n cap, .slice G m k, .string id, .int .i64 now] 98)).alloc (.cells #[.func (.func 64) #[.agg #[.slice none 0 0, .slice none 0 0, .slice A n cap, .slice G m k, .string id, .int .i64 now]] #[], .func (.func 65) #[.agg #[.slice none 0 0, .slice none 0 0, .slice A n cap, .slice G m k, .string id, .int .i64 now]] #[]] 100))).heap.size ((((w.alloc (.cells #[.int .i64 0, .int .i64 0, .string ⟨#[]⟩] 29)).alloc (.cells #[.slice none 0 0, .slice none 0 0, .slice A n cap, .slice G m k, .string id, .int .i64 now] 98)).alloc (.cells #[.func (.func 64) #[.agg #[.slice none 0 0, .slice none 0 0, .slice A n cap, .slice G m k, .string id, .int .i64 now]] #[], .func (.func 65) #[.agg #[.slice none 0 0, .slice none 0 0, .slice A n cap, .slice G m k, .string id, .int .i64 now]] #[]] 100))) wz → wz.cell? ⟨w.heap.size, 0, none⟩ = some (.int .i64 0) ∧ wz.cell? ⟨w.heap.size, 1, none⟩ = some (.int .i64 0) ∧ wz.cell? ⟨w.heap.size, 2, none⟩ = some (.string ⟨#[]⟩) ∧ wz.frozen? ⟨w.heap.size, 0, none⟩ = false ∧ wz.frozen? ⟨w.heap.size, 1, none⟩ = false ∧ wz.frozen? ⟨w.heap.size, 2, none⟩ = false) := fun wz h => by
    have r0 := hZ.out.below h (lt_of_heap hZ.out)
    exact ⟨r0.cell 0, r0.cell 1, r0.cell 2, r0.frozen 0, r0.frozen 1, r0.frozen 2⟩
  replace h := Lib.hid h
  replace h2 := Lib.hid h2
  replace hl := Lib.hid hl
  replace hl2 := Lib.hid hl2
  go_enter Try.func22, Try.ntmps22
  go_wp2_with fail
  refine (decideC none none A G 0 0 n m 0 0 cap k id now l act _ _ hG.out hid (h.out.more hbw.out) hm hl.out (h2.out.more hbw.out) hm2 hl2.out).mono ?_; rintro e w1 ⟨rfl, hb⟩
  obtain ⟨z0, z1, z2, f0, f1, f2⟩ := kx.out _ hb
  replace hb := Lib.hid (hbw.out.trans (hb.mono hbw.out.size))
  rw [hd]
  have hV : Hid (decV (d1, d2, d3) = .agg #[.int .i64 d1, .int .i64 d2, .string d3]) := rfl
  rw [hV.out]
  go_wp2_with fail
  refine bodyPost_ret (v := .agg #[.int .i64 d1, .int .i64 d2, .string d3]) (by simp [results, Try.results22, go_sem, *]) rfl ⟨by rw [hd]; rfl, ?_⟩
  repeat (first | (with_reducible refine below_set ?_ (by omega) _ _) | (with_reducible refine below_new ?_ _) | (with_reducible refine below_drewN ?_ _) | (with_reducible refine below_dr ?_))
  exact hb.out
set_option maxRecDepth 100000 in
set_option maxHeartbeats 1000000 in
theorem local_any (A : Option Addr) (l : List Tk) (n cap : Nat) (id : ByteArray) (C : Option Addr) (c : List Tk) (m k : Nat) (ver now : Int) (w : World) (h : TAt w w.heap.size A n l) (hm : n ≤ maxLen) (hid : id.size ≤ maxLen) (hl : ∀ t ∈ l, TkOk t) (h2 : TAt w w.heap.size C m c) (hm2 : m ≤ maxLen) (hl2 : ∀ t ∈ c, TkOk t) :
    Calls Try.prog 26 #[.agg #[.int .i64 ver, .slice A n cap], .slice C m k, .string id, .int .i64 now] w fun e w' => e = .returned (decV (localT l c id now)) ∧ Below w.heap.size w w' := by
  have hmf : ∀ (fn : Fn) (first cap : Array Value) (w : World), (Instr.makeFunc fn first cap).run Try.prog w = .ok (.func fn first cap) w := fun _ _ _ _ => rfl
  have hbw : Hid (Below w.heap.size w ((((w.alloc (.cells #[.int .i64 ver, .slice A n cap] 36)).alloc (.cells #[.int .i64 0, .int .i64 0, .string ⟨#[]⟩] 29)).alloc (.cells #[.slice A n cap, .slice C m k, .slice none 0 0, .slice none 0 0, .string id, .int .i64 now] 98)).alloc (.cells #[.func (.func 68) #[.agg #[.slice A n cap, .slice C m k, .slice none 0 0, .slice none 0 0, .string id, .int .i64 now]] #[], .func (.func 69) #[.agg #[.slice A n cap, .slice C m k, .slice none 0 0, .slice none 0 0, .string id, .int .i64 now]] #[], .func (.func 70) #[.agg #[.slice A n cap, .slice C m k, .slice none 0 0, .slice none 0 0, .string id, .int .i64 now]] #[]] 100))) := below_new (below_new (below_new (below_new (Below.refl _ _) _) _) _) _
  have hZ := Lib.hid (((Blk.new (w.alloc (.cells #[.int .i64 ver, .slice A n cap] 36)) 29 #[.int .i64 0, .int .i64 0, .string ⟨#[]⟩]).alloc (.cells #[.slice A n cap, .slice C m k, .slice none 0 0, .slice none 0 0, .string id, .int .i64 now] 98)).alloc (.cells #[.func (.func 68) #[.agg #[.slice A n cap, .slice C m k, .slice none 0 0, .slice none 0 0, .string id, .int .i64 now]] #[], .func (.func 69) #[.agg #[.slice A n cap, .slice C m k, .slice none 0 0, .slice none 0 0, .string id, .int .i64 now]] #[], .func (.func 70) #[.agg #[.slice A n cap, .slice C m k, .slice none 0 0, .slice none 0 0, .string id, .int .i64 now]] #[]] 100))
  have hG := Lib.hid (Blk.new (((w.alloc (.cells #[.int .i64 ver, .slice A n cap] 36)).alloc (.cells #[.int .i64 0, .int .i64 0, .string ⟨#[]⟩] 29)).alloc (.cells #[.slice A n cap, .slice C m k, .slice none 0 0, .slice none 0 0, .string id, .int .i64 now] 98)) 100 #[.func (.func 68) #[.agg #[.slice A n cap, .slice C m k, .slice none 0 0, .slice none 0 0, .string id, .int .i64 now]] #[], .func (.func 69) #[.agg #[.slice A n cap, .slice C m k, .slice none 0 0, .slice none 0 0, .string id, .int .i64 now]] #[], .func (.func 70) #[.agg #[.slice A n cap, .slice C m k, .slice none 0 0, .slice none 0 0, .string id, .int .i64 now]] #[]])
  have hz0 : Hid ((w.alloc (.cells #[.int .i64 ver, .slice A n cap] 36)).heap.size = w.heap.size + 1) := by show _ = _; simp
  have hz1 : Hid ((((w.alloc (.cells #[.int .i64 ver, .slice A n cap] 36)).alloc (.cells #[.int .i64 0, .int .i64 0, .string ⟨#[]⟩] 29)).alloc (.cells #[.slice A n cap, .slice C m k, .slice none 0 0, .slice none 0 0, .string id, .int .i64 now] 98)).heap.size = w.heap.size + 1 + 1 + 1) := by show _ = _; simp
  rw [hz1.out] at hG
  rw [hz0.out] at hZ
  obtain ⟨⟨d1, d2, d3⟩, hd⟩ : ∃ d : Dec, localT l c id now = d := ⟨_, rfl⟩
  have kx : Hid (∀ wz, Below (((((w.alloc (.cells #[.int .i64 ver, .slice A n cap] 36)).alloc (.cells #[.int .i64 0, .int .i64 0, .string ⟨#[]⟩] 29)).alloc (.cells #[.slice A n cap, .slice C m k, .slice none 0 0, .slice none 0 0, .string id, .int .i64 now] 98)).alloc (.cells #[.func (.func 68) #[.agg #[.slice A n cap, .slice C m k, .slice none 0 0, .slice none 0 0, .string id, .int .i64 now]] #[], .func (.func 69) #[.agg #[.slice A n cap, .slice C m k, .slice none 0 0, .slice none 0 0, .string id, .int .i64 now]] #[], .func (.func 70) #[.agg #[.slice A n cap, .slice C m k, .slice none 0 0, .slice none 0 0, .string id, .int .i64 now]] #[]] 100))).heap.size (((((w.alloc (.cells #[.int .i64 ver, .slice A n cap] 36)).alloc (.cells #[.int .i64 0, .int .i64 0, .string ⟨#[]⟩] 29)).alloc (.cells #[.slice A n cap, .slice C m k, .slice none 0 0, .slice none 0 0, .string id, .int .i64 now] 98)).alloc (.cells #[.func (.func 68) #[.agg #[.slice A n cap, .slice C m k, .slice none 0 0, .slice none 0 0, .string id, .int .i64 now]] #[], .func (.func 69) #[.agg #[.slice A n cap, .slice C m k, .slice none 0 0, .slice none 0 0, .string id, .int .i64 now]] #[], .func (.func 70) #[.agg #[.slice A n cap, .slice C m k, .slice none 0 0, .slice none 0 0, .string id, .int .i64 now]] #[]] 100))) wz → wz.cell? ⟨w.heap.size + 1, 0, none⟩ = some (.int .i64 0) ∧ wz.cell? ⟨w.heap.size + 1, 1, none⟩ = some (.int .i64 0) ∧ wz.cell? ⟨w.heap.size + 1, 2, none⟩ = some (.string ⟨#[]⟩) ∧ wz.frozen? ⟨w.heap.size + 1, 0, none⟩ = false ∧ wz.frozen? ⟨w.heap.size + 1, 1, none⟩ = false ∧ wz.frozen? ⟨w.heap.size + 1, 2, none⟩ = false) := fun wz h => by
    have r0 := hZ.out.below h (lt_of_heap hZ.out)
    exact ⟨r0.cell 0, r0.cell 1, r0.cell 2, r0.frozen 0, r0.frozen 1, r0.frozen 2⟩
  replace h := Lib.hid h
  replace h2 := Lib.hid h2
  replace hl := Lib.hid hl
  replace hl2 := Lib.hid hl2
  go_enter Try.func26, Try.ntmps26
  go_wp2_with fail
  refine (decideL A C none none n m 0 0 cap k 0 0 id now l c _ _ hG.out hid (h.out.more hbw.out) hm hl.out (h2.out.more hbw.out) hm2 hl2.out).mono ?_; rintro e w1 ⟨rfl, hb⟩
  obtain ⟨z0, z1, z2, f0, f1, f2⟩ := kx.out _ hb
  replace hb := Lib.hid (hbw.out.trans (hb.mono hbw.out.size))
  rw [hd]
  have hV : Hid (decV (d1, d2, d3) = .agg #[.int .i64 d1, .int .i64 d2, .string d3]) := rfl
  rw [hV.out]
  go_wp2_with fail
  refine bodyPost_ret (v := .agg #[.int .i64 d1, .int .i64 d2, .string d3]) (by simp [results, Try.results26, go_sem, *]) rfl ⟨by rw [hd]; rfl, ?_⟩
  repeat (first | (with_reducible refine below_set ?_ (by omega) _ _) | (with_reducible refine below_new ?_ _) | (with_reducible refine below_drewN ?_ _) | (with_reducible refine below_dr ?_))
  exact hb.out
set_option maxRecDepth 100000 in
set_option maxHeartbeats 2000000 in
theorem rlocal_any (A : Option Addr) (l : List Tk) (n cap : Nat) (id : ByteArray) (C : Option Addr) (c : List Tk) (m k : Nat) (ver now : Int) (w : World) (h : TAt w w.heap.size A n l) (hm : n ≤ maxLen) (hid : id.size ≤ maxLen) (hl : ∀ t ∈ l, TkOk t) (h2 : TAt w w.heap.size C m c) (hm2 : m ≤ maxLen) (hl2 : ∀ t ∈ c, TkOk t) :
    Calls Try.prog 27 #[.agg #[.int .i64 ver, .slice A n cap], .slice C m k, .string id, .int .i64 now] w fun e w' => e = .returned (decV (localT l c id now)) ∧ Below w.heap.size w w' := by
  have hbw : Hid (Below w.heap.size w ((w.alloc (.cells #[.int .i64 ver, .slice A n cap] 36)).alloc (.cells #[.int .i64 0, .int .i64 0, .string ⟨#[]⟩] 29))) := below_new (below_new (Below.refl _ _) _) _
  have hZ := Lib.hid (Blk.new (w.alloc (.cells #[.int .i64 ver, .slice A n cap] 36)) 29 #[.int .i64 0, .int .i64 0, .string ⟨#[]⟩])
  have hz0 : Hid ((w.alloc (.cells #[.int .i64 ver, .slice A n cap] 36)).heap.size = w.heap.size + 1) := by show _ = _; simp
  rw [hz0.out] at hZ
  replace h := Lib.hid h
  replace h2 := Lib.hid h2
  replace hl := Lib.hid hl
  replace hl2 := Lib.hid hl2
  cases hfd : findT l id with
  | some t =>
    obtain ⟨t0, t1, t2, t3, t4, t5⟩ := t
    have hR : Hid (resT (findT l id) = .tuple #[.agg #[.string t0, .string t1, .string t2, .int .i64 t3, .int .i64 t4, .int .i64 t5], .bool true]) := by show _ = _; rw [hfd]; rfl
    generalize hst : statT ⟨t0, t1, t2, t3, t4, t5⟩ now = st
    have hF : Hid (localT l c id now = (st, 1, t1)) := by show _ = _; rw [localT, inT, hfd, ← hst]; rfl
    replace hfd := Lib.hid hfd
    replace hst := Lib.hid hst
    go_enter Try.func27, Try.ntmps27
    go_wp2_with fail
    refine (rfind_any A l n cap id _ (h.out.more hbw.out) hm hid hl.out).mono ?_; rintro e w1 ⟨rfl, hb⟩
    rw [hR.out]
    have hZ1 := Lib.hid ((hZ.out.below hb (lt_of_heap hZ.out)).alloc (.cells #[.string t0, .string t1, .string t2, .int .i64 t3, .int .i64 t4, .int .i64 t5] 33))
    have hT := Lib.hid (Blk.new w1 33 #[.string t0, .string t1, .string t2, .int .i64 t3, .int .i64 t4, .int .i64 t5])
    have hz : w.heap.size + 1 < w1.heap.size := by have := hb.size; simp at this; omega
    replace hb := Lib.hid (hbw.out.trans (hb.mono hbw.out.size))
    have kz : Hid (∀ wz, (w1.alloc (.cells #[.string t0, .string t1, .string t2, .int .i64 t3, .int .i64 t4, .int .i64 t5] 33)).grownBy wz (some (w.heap.size + 1)) → wz.cell? ⟨w1.heap.size, 0, none⟩ = some (.string t0) ∧ wz.cell? ⟨w1.heap.size, 1, none⟩ = some (.string t1) ∧ wz.cell? ⟨w1.heap.size, 2, none⟩ = some (.string t2) ∧ wz.cell? ⟨w1.heap.size, 3, none⟩ = some (.int .i64 t3) ∧ wz.cell? ⟨w1.heap.size, 4, none⟩ = some (.int .i64 t4) ∧ wz.cell? ⟨w1.heap.size, 5, none⟩ = some (.int .i64 t5)) := fun wz h => by
      have q0 := hT.out.grown h (by intro e; injection e; omega)
      exact ⟨q0.cell 0, q0.cell 1, q0.cell 2, q0.cell 3, q0.cell 4, q0.cell 5⟩
    have kx : Hid (∀ wz, Below (w1.alloc (.cells #[.string t0, .string t1, .string t2, .int .i64 t3, .int .i64 t4, .int .i64 t5] 33)).heap.size (w1.alloc (.cells #[.string t0, .string t1, .string t2, .int .i64 t3, .int .i64 t4, .int .i64 t5] 33)) wz → wz.cell? ⟨w.heap.size + 1, 0, none⟩ = some (.int .i64 0) ∧ wz.cell? ⟨w.heap.size + 1, 1, none⟩ = some (.int .i64 0) ∧ wz.cell? ⟨w.heap.size + 1, 2, none⟩ = some (.string ⟨#[]⟩) ∧ wz.frozen? ⟨w.heap.size + 1, 0, none⟩ = false ∧ wz.frozen? ⟨w.heap.size + 1, 1, none⟩ = false ∧ wz.frozen? ⟨w.heap.size + 1, 2, none⟩ = false) := fun wz h => by
      have r0 := hZ1.out.below h (lt_of_heap hZ1.out)
      exact ⟨r0.cell 0, r0.cell 1, r0.cell 2, r0.frozen 0, r0.frozen 1, r0.frozen 2⟩
    go_wp2_with fail
    go_region_held3 (fun wz => wz.cell? ⟨w1.heap.size, 0, none⟩ = some (.string t0) ∧ wz.cell? ⟨w1.heap.size, 1, none⟩ = some (.string t1) ∧ wz.cell? ⟨w1.heap.size, 2, none⟩ = some (.string t2) ∧ wz.cell? ⟨w1.heap.size, 3, none⟩ = some (.int .i64 t3) ∧ wz.cell? ⟨w1.heap.size, 4, none⟩ = some (.int .i64 t4) ∧ wz.cell? ⟨w1.heap.size, 5, none⟩ = some (.int .i64 t5))
      (first | (exact kz.out _ (only_of_below (below_dr (Below.refl _ _)) _)) | (exact kz.out _ (only_of_below hb2.out _)) | (exact kz.out _ (only_set (only_set (only_set (only_of_below hb2.out _) _ _) _ _) _ _)))
      (first
        | (go_at_call 29; refine (rstatus_any ⟨t0, t1, t2, t3, t4, t5⟩ now _).mono ?_; rintro e w2 ⟨rfl, hb2⟩; replace hb2 := Lib.hid ((below_dr (Below.refl _ _)).trans hb2); rw [hst.out]; obtain ⟨z0, z1, z2, f0, f1, f2⟩ := kx.out _ hb2.out))
    go_wp2_with fail
    refine bodyPost_ret (v := .agg #[.int .i64 st, .int .i64 1, .string t1]) (by simp [results, Try.results27, go_sem, *]) rfl ⟨by rw [hF.out]; rfl, ?_⟩
    repeat (first | (with_reducible refine below_set ?_ (by omega) _ _) | (with_reducible refine below_new ?_ _) | (with_reducible refine below_drewN ?_ _) | (with_reducible refine below_dr ?_))
    exact hb.out.trans ((below_a hb2.out).mono hb.out.size)
  | none =>
    have hR : Hid (resT (findT l id) = .tuple #[.agg #[.string ⟨#[]⟩, .string ⟨#[]⟩, .string ⟨#[]⟩, .int .i64 0, .int .i64 0, .int .i64 0], .bool false]) := by show _ = _; rw [hfd]; rfl
    cases hfc : findT c id with
    | some t =>
      obtain ⟨t0, t1, t2, t3, t4, t5⟩ := t
      have hR2 : Hid (resT (findT c id) = .tuple #[.agg #[.string t0, .string t1, .string t2, .int .i64 t3, .int .i64 t4, .int .i64 t5], .bool true]) := by show _ = _; rw [hfc]; rfl
      generalize hst : statT ⟨t0, t1, t2, t3, t4, t5⟩ now = st
      have hF : Hid (localT l c id now = (st, 2, t1)) := by show _ = _; rw [localT, inT, inT, hfd, hfc, ← hst]; rfl
      replace hfd := Lib.hid hfd
      replace hfc := Lib.hid hfc
      replace hst := Lib.hid hst
      go_enter Try.func27, Try.ntmps27
      go_wp2_with fail
      refine (rfind_any A l n cap id _ (h.out.more hbw.out) hm hid hl.out).mono ?_; rintro e w0 ⟨rfl, hb⟩
      rw [hR.out]
      have hZ0 := Lib.hid ((hZ.out.below hb (lt_of_heap hZ.out)).alloc (.cells #[.string ⟨#[]⟩, .string ⟨#[]⟩, .string ⟨#[]⟩, .int .i64 0, .int .i64 0, .int .i64 0] 33))
      have hb0 : Hid (Below w.heap.size w (w0.alloc (.cells #[.string ⟨#[]⟩, .string ⟨#[]⟩, .string ⟨#[]⟩, .int .i64 0, .int .i64 0, .int .i64 0] 33))) := below_new (hbw.out.trans (hb.mono hbw.out.size)) _
      have hz : w.heap.size + 1 < w0.heap.size := by have := hb.size; simp at this; omega
      clear hb
      go_wp2_with fail
      refine (rfind_any C c m k id _ (h2.out.more hb0.out) hm2 hid hl2.out).mono ?_; rintro e w1 ⟨rfl, hb⟩
      rw [hR2.out]
      have hZ1 := Lib.hid ((hZ0.out.below hb (lt_of_heap hZ0.out)).alloc (.cells #[.string t0, .string t1, .string t2, .int .i64 t3, .int .i64 t4, .int .i64 t5] 33))
      have hT := Lib.hid (Blk.new w1 33 #[.string t0, .string t1, .string t2, .int .i64 t3, .int .i64 t4, .int .i64 t5])
      have hzb : w.heap.size + 1 < w1.heap.size := by have := hb.size; simp at this; omega
      replace hb := Lib.hid (hb0.out.trans (hb.mono hb0.out.size))
      have kz : Hid (∀ wz, (w1.alloc (.cells #[.string t0, .string t1, .string t2, .int .i64 t3, .int .i64 t4, .int .i64 t5] 33)).grownBy wz (some (w.heap.size + 1)) → wz.cell? ⟨w1.heap.size, 0, none⟩ = some (.string t0) ∧ wz.cell? ⟨w1.heap.size, 1, none⟩ = some (.string t1) ∧ wz.cell? ⟨w1.heap.size, 2, none⟩ = some (.string t2) ∧ wz.cell? ⟨w1.heap.size, 3, none⟩ = some (.int .i64 t3) ∧ wz.cell? ⟨w1.heap.size, 4, none⟩ = some (.int .i64 t4) ∧ wz.cell? ⟨w1.heap.size, 5, none⟩ = some (.int .i64 t5)) := fun wz h => by
        have q0 := hT.out.grown h (by intro e; injection e; omega)
        exact ⟨q0.cell 0, q0.cell 1, q0.cell 2, q0.cell 3, q0.cell 4, q0.cell 5⟩
      have kx : Hid (∀ wz, Below (w1.alloc (.cells #[.string t0, .string t1, .string t2, .int .i64 t3, .int .i64 t4, .int .i64 t5] 33)).heap.size (w1.alloc (.cells #[.string t0, .string t1, .string t2, .int .i64 t3, .int .i64 t4, .int .i64 t5] 33)) wz → wz.cell? ⟨w.heap.size + 1, 0, none⟩ = some (.int .i64 0) ∧ wz.cell? ⟨w.heap.size + 1, 1, none⟩ = some (.int .i64 0) ∧ wz.cell? ⟨w.heap.size + 1, 2, none⟩ = some (.string ⟨#[]⟩) ∧ wz.frozen? ⟨w.heap.size + 1, 0, none⟩ = false ∧ wz.frozen? ⟨w.heap.size + 1, 1, none⟩ = false ∧ wz.frozen? ⟨w.heap.size + 1, 2, none⟩ = false) := fun wz h => by
        have r0 := hZ1.out.below h (lt_of_heap hZ1.out)
        exact ⟨r0.cell 0, r0.cell 1, r0.cell 2, r0.frozen 0, r0.frozen 1, r0.frozen 2⟩
      go_wp2_with fail
      go_region_held3 (fun wz => wz.cell? ⟨w1.heap.size, 0, none⟩ = some (.string t0) ∧ wz.cell? ⟨w1.heap.size, 1, none⟩ = some (.string t1) ∧ wz.cell? ⟨w1.heap.size, 2, none⟩ = some (.string t2) ∧ wz.cell? ⟨w1.heap.size, 3, none⟩ = some (.int .i64 t3) ∧ wz.cell? ⟨w1.heap.size, 4, none⟩ = some (.int .i64 t4) ∧ wz.cell? ⟨w1.heap.size, 5, none⟩ = some (.int .i64 t5))
        (first | (exact kz.out _ (only_of_below (below_dr (Below.refl _ _)) _)) | (exact kz.out _ (only_of_below hb2.out _)) | (exact kz.out _ (only_set (only_set (only_set (only_of_below hb2.out _) _ _) _ _) _ _)))
        (first
          | (go_at_call 29; refine (rstatus_any ⟨t0, t1, t2, t3, t4, t5⟩ now _).mono ?_; rintro e w2 ⟨rfl, hb2⟩; replace hb2 := Lib.hid ((below_dr (Below.refl _ _)).trans hb2); rw [hst.out]; obtain ⟨z0, z1, z2, f0, f1, f2⟩ := kx.out _ hb2.out))
      go_wp2_with fail
      refine bodyPost_ret (v := .agg #[.int .i64 st, .int .i64 2, .string t1]) (by simp [results, Try.results27, go_sem, *]) rfl ⟨by rw [hF.out]; rfl, ?_⟩
      repeat (first | (with_reducible refine below_set ?_ (by omega) _ _) | (with_reducible refine below_new ?_ _) | (with_reducible refine below_drewN ?_ _) | (with_reducible refine below_dr ?_))
      exact hb.out.trans ((below_a hb2.out).mono hb.out.size)
    | none =>
      have hR2 : Hid (resT (findT c id) = .tuple #[.agg #[.string ⟨#[]⟩, .string ⟨#[]⟩, .string ⟨#[]⟩, .int .i64 0, .int .i64 0, .int .i64 0], .bool false]) := by show _ = _; rw [hfc]; rfl
      have hF : Hid (localT l c id now = (4, 4, ⟨#[]⟩)) := by show _ = _; rw [localT, inT, inT, hfd, hfc]; rfl
      replace hfd := Lib.hid hfd
      replace hfc := Lib.hid hfc
      go_enter Try.func27, Try.ntmps27
      go_wp2_with fail
      refine (rfind_any A l n cap id _ (h.out.more hbw.out) hm hid hl.out).mono ?_; rintro e w0 ⟨rfl, hb⟩
      rw [hR.out]
      have hZ0 := Lib.hid ((hZ.out.below hb (lt_of_heap hZ.out)).alloc (.cells #[.string ⟨#[]⟩, .string ⟨#[]⟩, .string ⟨#[]⟩, .int .i64 0, .int .i64 0, .int .i64 0] 33))
      have hb0 : Hid (Below w.heap.size w (w0.alloc (.cells #[.string ⟨#[]⟩, .string ⟨#[]⟩, .string ⟨#[]⟩, .int .i64 0, .int .i64 0, .int .i64 0] 33))) := below_new (hbw.out.trans (hb.mono hbw.out.size)) _
      have hz : w.heap.size + 1 < w0.heap.size := by have := hb.size; simp at this; omega
      clear hb
      go_wp2_with fail
      refine (rfind_any C c m k id _ (h2.out.more hb0.out) hm2 hid hl2.out).mono ?_; rintro e w1 ⟨rfl, hb⟩
      rw [hR2.out]
      have kx : Hid (∀ wz, Below (w0.alloc (.cells #[.string ⟨#[]⟩, .string ⟨#[]⟩, .string ⟨#[]⟩, .int .i64 0, .int .i64 0, .int .i64 0] 33)).heap.size (w0.alloc (.cells #[.string ⟨#[]⟩, .string ⟨#[]⟩, .string ⟨#[]⟩, .int .i64 0, .int .i64 0, .int .i64 0] 33)) wz → wz.cell? ⟨w.heap.size + 1, 0, none⟩ = some (.int .i64 0) ∧ wz.cell? ⟨w.heap.size + 1, 1, none⟩ = some (.int .i64 0) ∧ wz.cell? ⟨w.heap.size + 1, 2, none⟩ = some (.string ⟨#[]⟩) ∧ wz.frozen? ⟨w.heap.size + 1, 0, none⟩ = false ∧ wz.frozen? ⟨w.heap.size + 1, 1, none⟩ = false ∧ wz.frozen? ⟨w.heap.size + 1, 2, none⟩ = false) := fun wz h => by
        have r0 := hZ0.out.below h (lt_of_heap hZ0.out)
        exact ⟨r0.cell 0, r0.cell 1, r0.cell 2, r0.frozen 0, r0.frozen 1, r0.frozen 2⟩
      obtain ⟨z0, z1, z2, f0, f1, f2⟩ := kx.out _ hb
      have hzb : w.heap.size + 1 < w1.heap.size := by have := hb.size; simp at this; omega
      replace hb := Lib.hid (hb0.out.trans (hb.mono hb0.out.size))
      go_wp2_with fail
      refine bodyPost_ret (v := .agg #[.int .i64 4, .int .i64 4, .string ⟨#[]⟩]) (by simp [results, Try.results27, go_sem, *]) rfl ⟨by rw [hF.out]; rfl, ?_⟩
      repeat (first | (with_reducible refine below_set ?_ (by omega) _ _) | (with_reducible refine below_new ?_ _) | (with_reducible refine below_drewN ?_ _) | (with_reducible refine below_dr ?_))
      exact hb.out
end Go.Proofs.Ytiggpgeldigknaa
