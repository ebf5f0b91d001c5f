/- Orders: a call, of the program's and of the reference's, walked. -/
import Derived.Test.YtpejfnfhbpckiaaOP
import Derived.Test.YtpejfnfhbpckiaaOM
import Derived.Test.YtpejfnfhbpckiaaOS
import Derived.Test.YtpejfnfhbpckiaaOL
import Derived.Test.YtpejfnfhbpckiaaOW
set_option linter.unusedVariables false
set_option linter.unusedSimpArgs false
namespace Go.Proofs.Ytpejfnfhbpckiaa
open Go.RowKit Go.Proofs.Ytpejfnfhbpckiaa.Ord
def callF (l : List O) (x : Opn) : List O × Int × Int :=
  if x.kind = 1 then openF nameB l x.st x.conn else if x.kind = 2 then ((planF l x.id x.fr x.tt).1, 0, (planF l x.id x.fr x.tt).2) else if x.kind = 3 then (stepF l x.now, 0, 0)
  else if x.kind = 4 then ((closeF l x.id x.done).1, 0, (closeF l x.id x.done).2) else (l, 0, 0)
theorem callF_vld {l : List O} (v : Vld nameB l) (x : Opn) : Vld nameB (callF l x).1 := by
  unfold callF
  split
  · exact v.open_ x.st x.conn
  split
  · exact v.plan_ x.id x.fr x.tt
  split
  · exact v.step_ x.now
  split
  · exact v.close_ x.id x.done
  · exact v
theorem lastId_bd {l : List O} (v : Vld nameB l) : 0 ≤ lastId l ∧ lastId l ≤ 2147483647 := by
  rcases Nat.eq_zero_or_pos l.length with h | h
  · have : l = [] := List.eq_nil_of_length_eq_zero h
    subst this
    simp [lastId]
  · rw [lastId_at l (l.length - 1) (by omega) (by omega)]
    have k := v.ok (l.length - 1) (by omega)
    have := k.id1
    exact ⟨by omega, k.id2⟩
set_option maxRecDepth 100000 in
set_option maxHeartbeats 4000000 in
theorem call_any (A : Option Addr) (l : List O) (n cap : Nat) (x : Opn) (w : World) (h : OAt w w.heap.size A n l) (hc : n ≤ cap) (hm : cap ≤ maxLen) (v : Vld nameB l) :
    Calls Try.prog 14 #[.slice A n cap, opV x] w fun e w' => ∃ v, e = .returned (.tuple #[v, .int .i64 (callF l x).2.1, .int .i64 (callF l x).2.2]) ∧ OutV w w' (callF l x).1 v := by
  have hn := Lib.hid h.len
  have hn1 : n ≤ 1000 := by have := v.len; have := hn.out; omega
  obtain ⟨hl1, hl2⟩ := lastId_bd v
  have hno : Hid (∀ o ∈ l, 0 ≤ o.notes) := fun o ho => (hno_of v o ho).1
  have hcF : Hid (callF l x = if x.kind = 1 then openF nameB l x.st x.conn else if x.kind = 2 then ((planF l x.id x.fr x.tt).1, 0, (planF l x.id x.fr x.tt).2) else if x.kind = 3 then (stepF l x.now, 0, 0)
    else if x.kind = 4 then ((closeF l x.id x.done).1, 0, (closeF l x.id x.done).2) else (l, 0, 0)) := rfl
  have hbw := Lib.hid (a1 w (.cells #[.int .i64 x.kind, .string x.st, .int .i64 x.conn, .int .i64 x.id, .int .i64 x.fr, .int .i64 x.tt, .int .i64 x.now, .bool x.done] 35))
  have h' := Lib.hid (h.more hbw.out)
  replace v := Lib.hid v
  replace h := Lib.hid h
  have hxV : Hid (opV x = .agg #[.int .i64 x.kind, .string x.st, .int .i64 x.conn, .int .i64 x.id, .int .i64 x.fr, .int .i64 x.tt, .int .i64 x.now, .bool x.done]) := rfl
  rw [hxV.out]
  obtain ⟨p0, p1, p2, p3, p4, p5, p6, p7⟩ := x
  simp only at hcF hbw h'
  clear hxV
  by_cases hk : p0 = 1
  · have hv : Hid (callF l ⟨p0, p1, p2, p3, p4, p5, p6, p7⟩ = openF nameB l p1 p2) := by show _ = _; rw [hcF.out, if_pos hk]
    have k1 : ((p0 : Int) == 1) = true := by simpa using hk
    replace hk := Lib.hid hk
    go_enter Try.func14, Try.ntmps14
    go_wp2_with fail
    refine (open_any A l n cap p1 p2 _ h'.out hc hm hl1 hl2).mono ?_; rintro e w1 ⟨u, rfl, o1⟩
    replace o1 := o1.from_ hbw.out

    replace o1 := Lib.hid o1
    go_wp2_with fail
    go_ret3
    exact ⟨_, by rw [hv.out]; rfl, by rw [hv.out]; exact o1.out⟩
  have hk1 : p0 ≠ 1 := hk
  clear hk
  by_cases hk : p0 = 2
  · have hv : Hid (callF l ⟨p0, p1, p2, p3, p4, p5, p6, p7⟩ = ((planF l p3 p4 p5).1, 0, (planF l p3 p4 p5).2)) := by show _ = _; rw [hcF.out, if_neg (by omega), if_pos hk]
    have k1 : ((p0 : Int) == 1) = false := by simp; omega
    have k2 : ((p0 : Int) == 2) = true := by simpa using hk
    replace hk := Lib.hid hk
    go_enter Try.func14, Try.ntmps14
    go_wp2_with fail
    refine (plan_any A l n cap p3 p4 p5 _ h'.out hc hm hn1 hno.out).mono ?_; rintro e w1 ⟨u, rfl, o1⟩
    replace o1 := o1.from_ hbw.out

    replace o1 := Lib.hid o1
    go_wp2_with fail
    go_ret3
    exact ⟨_, by rw [hv.out]; rfl, by rw [hv.out]; exact o1.out⟩
  have hk2 : p0 ≠ 2 := hk
  clear hk
  by_cases hk : p0 = 3
  · have hv : Hid (callF l ⟨p0, p1, p2, p3, p4, p5, p6, p7⟩ = (stepF l p6, 0, 0)) := by show _ = _; rw [hcF.out, if_neg (by omega), if_neg (by omega), if_pos hk]
    have k1 : ((p0 : Int) == 1) = false := by simp; omega
    have k2 : ((p0 : Int) == 2) = false := by simp; omega
    have k3 : ((p0 : Int) == 3) = true := by simpa using hk
    replace hk := Lib.hid hk
    go_enter Try.func14, Try.ntmps14
    go_wp2_with fail
    refine (step_any A l n cap p6 _ h'.out hn1 hno.out).mono ?_; rintro e w1 ⟨u, rfl, o1⟩
    replace o1 := o1.from_ hbw.out

    replace o1 := Lib.hid o1
    go_wp2_with fail
    go_ret3
    exact ⟨_, by rw [hv.out]; rfl, by rw [hv.out]; exact o1.out⟩
  have hk3 : p0 ≠ 3 := hk
  clear hk
  by_cases hk : p0 = 4
  · have hv : Hid (callF l ⟨p0, p1, p2, p3, p4, p5, p6, p7⟩ = ((closeF l p3 p7).1, 0, (closeF l p3 p7).2)) := by show _ = _; rw [hcF.out, if_neg (by omega), if_neg (by omega), if_neg (by omega), if_pos hk]
    have k1 : ((p0 : Int) == 1) = false := by simp; omega
    have k2 : ((p0 : Int) == 2) = false := by simp; omega
    have k3 : ((p0 : Int) == 3) = false := by simp; omega
    have k4 : ((p0 : Int) == 4) = true := by simpa using hk
    replace hk := Lib.hid hk
    go_enter Try.func14, Try.ntmps14
    go_wp2_with fail
    refine (close_any A l n cap p3 p7 _ h'.out hc hm hn1 hno.out).mono ?_; rintro e w1 ⟨u, rfl, o1⟩
    replace o1 := o1.from_ hbw.out

    replace o1 := Lib.hid o1
    go_wp2_with fail
    go_ret3
    exact ⟨_, by rw [hv.out]; rfl, by rw [hv.out]; exact o1.out⟩
  have hk4 : p0 ≠ 4 := hk
  clear hk
  have hv : Hid (callF l ⟨p0, p1, p2, p3, p4, p5, p6, p7⟩ = (l, 0, 0)) := by show _ = _; rw [hcF.out, if_neg hk1, if_neg hk2, if_neg hk3, if_neg hk4]
  have k1 : ((p0 : Int) == 1) = false := by simpa using hk1
  have k2 : ((p0 : Int) == 2) = false := by simpa using hk2
  have k3 : ((p0 : Int) == 3) = false := by simpa using hk3
  have k4 : ((p0 : Int) == 4) = false := by simpa using hk4
  replace hk1 := Lib.hid hk1
  replace hk2 := Lib.hid hk2
  replace hk3 := Lib.hid hk3
  replace hk4 := Lib.hid hk4
  go_enter Try.func14, Try.ntmps14
  go_wp2_with fail
  go_ret3
  exact ⟨_, by rw [hv.out]; rfl, by rw [hv.out]; exact OutV.same h.out hc hm hbw.out⟩
set_option maxRecDepth 100000 in
set_option maxHeartbeats 4000000 in
theorem want_any (A : Option Addr) (l : List O) (n cap : Nat) (x : Opn) (w : World) (h : OAt w w.heap.size A n l) (hc : n ≤ cap) (hm : cap ≤ maxLen) (v : Vld nameB l) :
    Calls Try.prog 15 #[.slice A n cap, opV x] w fun e w' => ∃ v, e = .returned (.tuple #[v, .int .i64 (callF l x).2.1, .int .i64 (callF l x).2.2]) ∧ OutV w w' (callF l x).1 v := by
  have hn := Lib.hid h.len
  have hn1 : n ≤ 1000 := by have := v.len; have := hn.out; omega
  obtain ⟨hl1, hl2⟩ := lastId_bd v
  have hno : Hid (∀ o ∈ l, 0 ≤ o.notes) := fun o ho => (hno_of v o ho).1
  have hcF : Hid (callF l x = if x.kind = 1 then openF nameB l x.st x.conn else if x.kind = 2 then ((planF l x.id x.fr x.tt).1, 0, (planF l x.id x.fr x.tt).2) else if x.kind = 3 then (stepF l x.now, 0, 0)
    else if x.kind = 4 then ((closeF l x.id x.done).1, 0, (closeF l x.id x.done).2) else (l, 0, 0)) := rfl
  have hbw := Lib.hid (a1 w (.cells #[.int .i64 x.kind, .string x.st, .int .i64 x.conn, .int .i64 x.id, .int .i64 x.fr, .int .i64 x.tt, .int .i64 x.now, .bool x.done] 35))
  have h' := Lib.hid (h.more hbw.out)
  replace v := Lib.hid v
  replace h := Lib.hid h
  have hxV : Hid (opV x = .agg #[.int .i64 x.kind, .string x.st, .int .i64 x.conn, .int .i64 x.id, .int .i64 x.fr, .int .i64 x.tt, .int .i64 x.now, .bool x.done]) := rfl
  rw [hxV.out]
  obtain ⟨p0, p1, p2, p3, p4, p5, p6, p7⟩ := x
  simp only at hcF hbw h'
  clear hxV
  by_cases hk : p0 = 1
  · have hv : Hid (callF l ⟨p0, p1, p2, p3, p4, p5, p6, p7⟩ = openF nameB l p1 p2) := by show _ = _; rw [hcF.out, if_pos hk]
    have k1 : ((p0 : Int) == 1) = true := by simpa using hk
    replace hk := Lib.hid hk
    go_enter Try.func15, Try.ntmps15
    go_wp2_with fail
    refine (ropen_any A l n cap p1 p2 _ h'.out hc hm hl1 hl2).mono ?_; rintro e w1 ⟨u, rfl, o1⟩
    replace o1 := o1.from_ hbw.out

    replace o1 := Lib.hid o1
    go_wp2_with fail
    go_ret3
    exact ⟨_, by rw [hv.out]; rfl, by rw [hv.out]; exact o1.out⟩
  have hk1 : p0 ≠ 1 := hk
  clear hk
  by_cases hk : p0 = 2
  · have hv : Hid (callF l ⟨p0, p1, p2, p3, p4, p5, p6, p7⟩ = ((planF l p3 p4 p5).1, 0, (planF l p3 p4 p5).2)) := by show _ = _; rw [hcF.out, if_neg (by omega), if_pos hk]
    have k1 : ((p0 : Int) == 1) = false := by simp; omega
    have k2 : ((p0 : Int) == 2) = true := by simpa using hk
    replace hk := Lib.hid hk
    go_enter Try.func15, Try.ntmps15
    go_wp2_with fail
    refine (rplan_any A l n cap p3 p4 p5 _ h'.out hc hm v.out).mono ?_; rintro e w1 ⟨u, rfl, o1⟩
    replace o1 := o1.from_ hbw.out

    replace o1 := Lib.hid o1
    go_wp2_with fail
    go_ret3
    exact ⟨_, by rw [hv.out]; rfl, by rw [hv.out]; exact o1.out⟩
  have hk2 : p0 ≠ 2 := hk
  clear hk
  by_cases hk : p0 = 3
  · have hv : Hid (callF l ⟨p0, p1, p2, p3, p4, p5, p6, p7⟩ = (stepF l p6, 0, 0)) := by show _ = _; rw [hcF.out, if_neg (by omega), if_neg (by omega), if_pos hk]
    have k1 : ((p0 : Int) == 1) = false := by simp; omega
    have k2 : ((p0 : Int) == 2) = false := by simp; omega
    have k3 : ((p0 : Int) == 3) = true := by simpa using hk
    replace hk := Lib.hid hk
    go_enter Try.func15, Try.ntmps15
    go_wp2_with fail
    refine (rstep_any A l n cap p6 _ h'.out hc hm v.out).mono ?_; rintro e w1 ⟨u, rfl, o1⟩
    replace o1 := o1.from_ hbw.out

    replace o1 := Lib.hid o1
    go_wp2_with fail
    go_ret3
    exact ⟨_, by rw [hv.out]; rfl, by rw [hv.out]; exact o1.out⟩
  have hk3 : p0 ≠ 3 := hk
  clear hk
  by_cases hk : p0 = 4
  · have hv : Hid (callF l ⟨p0, p1, p2, p3, p4, p5, p6, p7⟩ = ((closeF l p3 p7).1, 0, (closeF l p3 p7).2)) := by show _ = _; rw [hcF.out, if_neg (by omega), if_neg (by omega), if_neg (by omega), if_pos hk]
    have k1 : ((p0 : Int) == 1) = false := by simp; omega
    have k2 : ((p0 : Int) == 2) = false := by simp; omega
    have k3 : ((p0 : Int) == 3) = false := by simp; omega
    have k4 : ((p0 : Int) == 4) = true := by simpa using hk
    replace hk := Lib.hid hk
    go_enter Try.func15, Try.ntmps15
    go_wp2_with fail
    refine (rclose_any A l n cap p3 p7 _ h'.out hc hm v.out).mono ?_; rintro e w1 ⟨u, rfl, o1⟩
    replace o1 := o1.from_ hbw.out

    replace o1 := Lib.hid o1
    go_wp2_with fail
    go_ret3
    exact ⟨_, by rw [hv.out]; rfl, by rw [hv.out]; exact o1.out⟩
  have hk4 : p0 ≠ 4 := hk
  clear hk
  have hv : Hid (callF l ⟨p0, p1, p2, p3, p4, p5, p6, p7⟩ = (l, 0, 0)) := by show _ = _; rw [hcF.out, if_neg hk1, if_neg hk2, if_neg hk3, if_neg hk4]
  have k1 : ((p0 : Int) == 1) = false := by simpa using hk1
  have k2 : ((p0 : Int) == 2) = false := by simpa using hk2
  have k3 : ((p0 : Int) == 3) = false := by simpa using hk3
  have k4 : ((p0 : Int) == 4) = false := by simpa using hk4
  replace hk1 := Lib.hid hk1
  replace hk2 := Lib.hid hk2
  replace hk3 := Lib.hid hk3
  replace hk4 := Lib.hid hk4
  go_enter Try.func15, Try.ntmps15
  go_wp2_with fail
  go_ret3
  exact ⟨_, by rw [hv.out]; rfl, by rw [hv.out]; exact OutV.same h.out hc hm hbw.out⟩
end Go.Proofs.Ytpejfnfhbpckiaa
