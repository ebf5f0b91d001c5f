/- Invoices: Issue of both, walked. -/
import Derived.Test.YtbngclibfnnejaaDoorIH
import Derived.Test.YtbngclibfnnejaaDoorRU
set_option linter.unusedVariables false
set_option linter.unusedSimpArgs false
namespace Go.Proofs.YtbngclibfnnejaaDoor
open Go.RowKit
theorem LAt_grownO {α : Type} {f : α → List Value} {s n : Nat} {w w' : World} {A : Option Addr} {l : List α} {o : Option Nat} (h : LAt f s w w.heap.size A n l) (hne : 0 < n → ∀ ad, A = some ad → some ad.block ≠ o) (hg : w.grownBy w' o) : LAt f s w' w'.heap.size A n l := by
  refine ⟨h.1, h.2.1, fun hn => ?_⟩
  obtain ⟨ad, rfl, hb, hc⟩ := h.2.2 hn
  refine ⟨ad, rfl, Nat.lt_of_lt_of_le hb hg.size, fun j u hu => ?_⟩
  have hbl : (ad.add j).block = ad.block := add_block ad j
  have e := hc j u hu
  unfold World.cell? at e ⊢
  rw [hbl] at e ⊢
  rw [hg.block ad.block hb (hne hn ad rfl)]
  exact e
/-- a store into a block of one slice does not touch a row whose structs begin with a number -/
theorem LAt.stB {α : Type} {f : α → List Value} {s n : Nat} {w w' : World} {A : Option Addr} {l : List α} {g : Nat} {ty : TypeId} {B : Option Addr} {m c : Nat} (h : LAt f s w w.heap.size A n l) (hR : Blk w g ty #[.slice B m c]) (hg : w.grownBy w' (some g)) (hf : ∀ a : α, ∃ k x r, f a = .int k x :: r) : LAt f s w' w'.heap.size A n l := by
  refine LAt_grownO h (fun hn ad hA e => ?_) hg
  injection e with e
  obtain ⟨ad', hA', -, hc⟩ := h.at_ hn
  rw [hA] at hA'
  injection hA' with hA'
  subst hA'
  obtain ⟨k, x, r, hk⟩ := hf (l[0]'(by rw [h.len]; exact hn))
  have h1 := hc 0 (.int k x) (by rw [hk]; rfl)
  rw [Nat.zero_mul, Nat.zero_add] at h1
  have h2 : ad.add 0 = ad := by unfold Addr.add; simp
  rw [h2] at h1
  unfold Blk at hR
  unfold World.cell? at h1
  rw [e, hR] at h1
  cases ho : ad.off with
  | zero => rw [ho] at h1; simp at h1
  | succ o => rw [ho] at h1; simp at h1
theorem iv_head : ∀ a : Im, ∃ k x r, ivC a = .int k x :: r := fun a => ⟨_, _, _, rfl⟩
theorem it_head : ∀ a : It, ∃ k x r, itC a = .int k x :: r := fun a => ⟨_, _, _, rfl⟩
theorem BkAt.stB {w w' : World} {A : Option Addr} {n c : Nat} {L : List Im} {g : Nat} {ty : TypeId} {B : Option Addr} {m k : Nat} (h : BkAt w A n c L) (hR : Blk w g ty #[.slice B m k]) (hg : w.grownBy w' (some g)) : BkAt w' A n c L :=
  ⟨h.row.stB hR hg iv_head, h.cap, fun x hx => ⟨(h.its x hx).1.stB hR hg it_head, (h.its x hx).2⟩⟩
theorem str_ne {a b : ByteArray} (h : ¬ a = b) : ¬ a.toList = b.toList := fun e => h ((str_iff a b).1 (by unfold strEq; exact decide_eq_true e))
theorem strEq_ne {a b : ByteArray} (h : ¬ a = b) : strEq a b = false := by
  cases hh : strEq a b with
  | false => rfl
  | true => exact absurd ((str_iff a b).1 hh) h
theorem dueT_yes {cust cur : ByteArray} {v : Iv} (h1 : v.cust = cust) (h2 : v.cur = cur) : dueT cust cur v = v.gross := by
  unfold dueT
  rw [(str_iff _ _).2 h1, (str_iff _ _).2 h2]
  rfl
theorem dueT_no1 {cust cur : ByteArray} {v : Iv} (h1 : ¬ v.cust = cust) : dueT cust cur v = 0 := by
  unfold dueT
  rw [strEq_ne h1, Bool.false_and]
  rfl
theorem dueT_no2 {cust cur : ByteArray} {v : Iv} (h1 : ¬ v.cur = cur) : dueT cust cur v = 0 := by
  unfold dueT
  rw [strEq_ne h1, Bool.and_false]
  rfl
theorem issue_ok {b : List Iv} {cust cur : ByteArray} {t : Int} {l : List It} (hv : validB b = 0) (hn : b.length ≤ 255) :
    (nameB cust = false → issueB b cust cur t l = (b, 4)) ∧ (nameB cust = true → curB cur = false → issueB b cust cur t l = (b, 21)) ∧ (nameB cust = true → curB cur = true → lateB b t = true → issueB b cust cur t l = (b, 2)) ∧ (nameB cust = true → curB cur = true → lateB b t = false → (l.length < 1 ∨ 64 < l.length) → issueB b cust cur t l = (b, 1)) ∧ (nameB cust = true → curB cur = true → lateB b t = false → (1 ≤ l.length ∧ l.length ≤ 64) → smallI l = false → issueB b cust cur t l = (b, 2)) ∧ (nameB cust = true → curB cur = true → lateB b t = false → (1 ≤ l.length ∧ l.length ≤ 64) → smallI l = true → issueB b cust cur t l = (b ++ [mkIv b cust cur t l 0], 0)) := by
  have e1 : (1 ≤ l.length ∧ l.length ≤ 64) → linesB l = false := (lines_iff l).2
  have e2 : (l.length < 1 ∨ 64 < l.length) → linesB l = true := fun h => by
    cases hh : linesB l with
    | true => rfl
    | false => have := (lines_iff l).1 hh; omega
  unfold issueB
  rw [if_neg (fun e => e hv), if_neg (by omega)]
  refine ⟨fun a => ?_, fun a b => ?_, fun a b c => ?_, fun a b c d => ?_, fun a b c d f => ?_, fun a b c d f => ?_⟩
  · rw [if_pos a]
  · rw [if_neg (by rw [a]; decide), if_pos b]
  · rw [if_neg (by rw [a]; decide), if_neg (by rw [b]; decide), if_pos c]
  · rw [if_neg (by rw [a]; decide), if_neg (by rw [b]; decide), if_neg (by rw [c]; decide), if_pos (e2 d)]
  · rw [if_neg (by rw [a]; decide), if_neg (by rw [b]; decide), if_neg (by rw [c]; decide), if_neg (by rw [e1 d]; decide), if_pos f]
  · rw [if_neg (by rw [a]; decide), if_neg (by rw [b]; decide), if_neg (by rw [c]; decide), if_neg (by rw [e1 d]; decide), if_neg (by rw [f]; decide)]
set_option maxRecDepth 100000 in
set_option maxHeartbeats 8000000 in
theorem issue_any (A : Option Addr) (n c : Nat) (L : List Im) (cust cur : ByteArray) (t : Int) (iA : Option Addr) (iN iC2 : Nat) (its : List It) (w : World) (h : GoodM w A n c L) (hi : ItAt w iA iN its ∧ iN ≤ iC2 ∧ iC2 ≤ maxLen) (hi70 : iN ≤ 100000) (hn : n ≤ 255) : Calls Tryd.prog 12 #[.agg #[Value.slice A n c], .string cust, .string cur, .int .i64 t, .slice iA iN iC2] w fun e w' => ResB w w' (issueB (L.map Im.val) cust cur t its).1 (issueB (L.map Im.val) cust cur t its).2 e ∧ Below w.heap.size w w' := by
  have hlL := h.at_.len
  have hil : its.length = iN := hi.1.len
  have hF0 := issue_ok (cust := cust) (cur := cur) (t := t) (l := its) h.ok (by rw [List.length_map]; omega)
  obtain ⟨R, hR9⟩ : ∃ R, R = issueB (L.map Im.val) cust cur t its := ⟨_, rfl⟩
  rw [← hR9] at hF0 ⊢
  clear hR9
  have hcn := Lib.hid (fun wz => name_any cust wz)
  have hcc := Lib.hid (fun wz => cur_any cur wz)
  have hct := Lib.hid (fun wz (hz : Below w.heap.size w wz) => inTime_any A n c L t wz (h.more hz).at_.row (by omega))
  have hcs := Lib.hid (fun wz (hz : Below w.heap.size w wz) => small_any iA iN iC2 its wz (hi.1.more hz) hi70)
  have hadd := fun (q1 : smallI its = true) (q2 : its.length ≤ 64) wz (hz : Below w.heap.size w wz) => add_any A n c L cust cur t iA iN iC2 its 0 wz (h.more hz) ⟨hi.1.more hz, hi.2⟩ q1 q2 hn
  replace hi := Lib.hid hi
  have hG := Lib.hid h
  have hv := Lib.hid (fun wz (hz : Below w.heap.size w wz) => valid_any A n c L wz (h.more hz))
  have hn256 : decide ((256 : Int) ≤ (n : Int)) = false := by apply decide_eq_false; omega
  have hB := Lib.hid ((Blk.new w 57 #[Value.slice A n c]).alloc (.cells #[Value.slice none 0 0] 57))
  have hR := Blk.new (w.alloc (.cells #[Value.slice A n c] 57)) 57 #[Value.slice none 0 0]
  rw [show (w.alloc (.cells #[Value.slice A n c] 57)).heap.size = w.heap.size + 1 by simp] at hR
  replace hR := Lib.hid hR
  have hb : Hid (Below w.heap.size w ((w.alloc (.cells #[Value.slice A n c] 57)).alloc (.cells #[Value.slice none 0 0] 57))) := (a1 w _).alloc (by simp) _
  have b0 : (((w.alloc (.cells #[Value.slice A n c] 57)).alloc (.cells #[Value.slice none 0 0] 57))).cell? ⟨w.heap.size, 0, none⟩ = some (Value.slice A n c) := (hB.out).cell 0
  clear h
  go_enter Tryd.func12, Tryd.ntmps12
  go_wp2_with fail
  refine (hv.out _ hb.out).mono ?_; rintro e w1 ⟨rfl, hq⟩
  clear b0 hv
  have hB := Lib.hid (hB.out.below hq hB.out.lt)
  have hR := Lib.hid (hR.out.below hq hR.out.lt)
  have hb := Lib.hid (hb.out.trans (hq.mono hb.out.size))
  clear hq
  have b0 : w1.cell? ⟨w.heap.size, 0, none⟩ = some (Value.slice A n c) := hB.out.cell 0
  have hD := Lib.hid (Blk.new w1 95 #[Value.slice A n c])
  have hB := Lib.hid (hB.out.alloc (.cells #[Value.slice A n c] 95))
  have hR := Lib.hid (hR.out.alloc (.cells #[Value.slice A n c] 95))
  have hb := Lib.hid (hb.out.alloc hb.out.size (.cells #[Value.slice A n c] 95))
  have dd : (w1.alloc (.cells #[Value.slice A n c] 95)).cell? ⟨w1.heap.size, 0, none⟩ = some (Value.slice A n c) := hD.out.cell 0
  go_wp2_with fail
  clear b0 dd
  generalize (w1.alloc (.cells #[Value.slice A n c] 95)) = w1b at *
  obtain ⟨gd, hgd⟩ : ∃ gd, gd = w1.heap.size := ⟨_, rfl⟩
  rw [← hgd] at hD ⊢
  replace hgd := Lib.hid hgd
  have hsz0 := hb.out.size
  refine (hcn.out _).mono ?_; rintro e w2 ⟨rfl, hq⟩
  have hB := Lib.hid (hB.out.below hq hB.out.lt)
  have hR := Lib.hid (hR.out.below hq hR.out.lt)
  have hb := Lib.hid (hb.out.trans (hq.mono hb.out.size))
  have hD := Lib.hid (hD.out.below hq hD.out.lt)
  clear hq
  cases q1 : nameB cust with
  | false =>
    have hF : Hid (R = (L.map Im.val, 4)) := hF0.1 q1
    rw [q1] at *
    have b0 : (w2).cell? ⟨w.heap.size, 0, none⟩ = some (Value.slice A n c) := (hB.out).cell 0
    have r0 : (w2).cell? ⟨(w.heap.size + 1), 0, none⟩ = some (Value.slice none 0 0) := (hR.out).cell 0; have rz0 : (w2).frozen? ⟨(w.heap.size + 1), 0, none⟩ = false := (hR.out).frozen 0
    have d0 : (w2).cell? ⟨gd, 0, none⟩ = some (Value.slice A n c) := (hD.out).cell 0
    go_wp2_with fail
    (try simp only [Exit.inBlock, Exit.then])
    have hRf : Blk (w2.setCell ⟨(w.heap.size + 1), 0, none⟩ (Value.slice A n c)) (w.heap.size + 1) 57 #[Value.slice A n c] := hR.out.set_ 0 _
    have hgs : w2.grownBy (w2.setCell ⟨(w.heap.size + 1), 0, none⟩ (Value.slice A n c)) (some (w.heap.size + 1)) := only_set (World.grownBy.refl _ _) 0 _
    have hbF : Below w.heap.size w (w2.setCell ⟨(w.heap.size + 1), 0, none⟩ (Value.slice A n c)) := hb.out.grown hgs hb.out.size (fun g8 e8 => by injection e8 with e8; omega)
    refine bodyPost_ret (v := .tuple #[.agg #[Value.slice A n c], .int .i64 4]) ?_ rfl ?_
    · refine (res2 (fn := Tryd.f12) (p := 10) (u := 11) (ty := 57) rfl _ _ (w.heap.size + 1) 57 _ (0, 0) _ ?_ hRf Tryd.underlying57 rfl (by kernel_rfl)).trans ?_
      · rfl
      · rfl
    · exact ⟨⟨A, n, c, L, by rw [hF.out], (hG.out.more hbF).at_, by rw [hF.out]⟩, hbF⟩
  | true =>
    have b0 : (w2).cell? ⟨w.heap.size, 0, none⟩ = some (Value.slice A n c) := (hB.out).cell 0
    have r0 : (w2).cell? ⟨(w.heap.size + 1), 0, none⟩ = some (Value.slice none 0 0) := (hR.out).cell 0; have rz0 : (w2).frozen? ⟨(w.heap.size + 1), 0, none⟩ = false := (hR.out).frozen 0
    have d0 : (w2).cell? ⟨gd, 0, none⟩ = some (Value.slice A n c) := (hD.out).cell 0
    go_wp2_with fail
    clear b0 r0 rz0 d0
    refine (hcc.out _).mono ?_; rintro e w3 ⟨rfl, hq⟩
    have hB := Lib.hid (hB.out.below hq hB.out.lt)
    have hR := Lib.hid (hR.out.below hq hR.out.lt)
    have hb := Lib.hid (hb.out.trans (hq.mono hb.out.size))
    have hD := Lib.hid (hD.out.below hq hD.out.lt)
    clear hq
    cases q2 : curB cur with
    | false =>
      have hF : Hid (R = (L.map Im.val, 21)) := hF0.2.1 q1 q2
      have b0 : (w3).cell? ⟨w.heap.size, 0, none⟩ = some (Value.slice A n c) := (hB.out).cell 0
      have r0 : (w3).cell? ⟨(w.heap.size + 1), 0, none⟩ = some (Value.slice none 0 0) := (hR.out).cell 0; have rz0 : (w3).frozen? ⟨(w.heap.size + 1), 0, none⟩ = false := (hR.out).frozen 0
      have d0 : (w3).cell? ⟨gd, 0, none⟩ = some (Value.slice A n c) := (hD.out).cell 0
      go_wp2_with fail
      (try simp only [Exit.inBlock, Exit.then])
      have hRf : Blk (w3.setCell ⟨(w.heap.size + 1), 0, none⟩ (Value.slice A n c)) (w.heap.size + 1) 57 #[Value.slice A n c] := hR.out.set_ 0 _
      have hgs : w3.grownBy (w3.setCell ⟨(w.heap.size + 1), 0, none⟩ (Value.slice A n c)) (some (w.heap.size + 1)) := only_set (World.grownBy.refl _ _) 0 _
      have hbF : Below w.heap.size w (w3.setCell ⟨(w.heap.size + 1), 0, none⟩ (Value.slice A n c)) := hb.out.grown hgs hb.out.size (fun g8 e8 => by injection e8 with e8; omega)
      refine bodyPost_ret (v := .tuple #[.agg #[Value.slice A n c], .int .i64 21]) ?_ rfl ?_
      · refine (res2 (fn := Tryd.f12) (p := 10) (u := 11) (ty := 57) rfl _ _ (w.heap.size + 1) 57 _ (0, 0) _ ?_ hRf Tryd.underlying57 rfl (by kernel_rfl)).trans ?_
        · rfl
        · rfl
      · exact ⟨⟨A, n, c, L, by rw [hF.out], (hG.out.more hbF).at_, by rw [hF.out]⟩, hbF⟩
    | true =>
      have b0 : (w3).cell? ⟨w.heap.size, 0, none⟩ = some (Value.slice A n c) := (hB.out).cell 0
      have r0 : (w3).cell? ⟨(w.heap.size + 1), 0, none⟩ = some (Value.slice none 0 0) := (hR.out).cell 0; have rz0 : (w3).frozen? ⟨(w.heap.size + 1), 0, none⟩ = false := (hR.out).frozen 0
      have d0 : (w3).cell? ⟨gd, 0, none⟩ = some (Value.slice A n c) := (hD.out).cell 0
      go_wp2_with fail
      clear b0 r0 rz0 d0
      refine (hct.out _ hb.out).mono ?_; rintro e w4 ⟨rfl, hq⟩
      have hB := Lib.hid (hB.out.below hq hB.out.lt)
      have hR := Lib.hid (hR.out.below hq hR.out.lt)
      have hb := Lib.hid (hb.out.trans (hq.mono hb.out.size))
      have hD := Lib.hid (hD.out.below hq hD.out.lt)
      clear hq
      cases q3 : lateB (L.map Im.val) t with
      | true =>
        have hF : Hid (R = (L.map Im.val, 2)) := hF0.2.2.1 q1 q2 q3
        have b0 : (w4).cell? ⟨w.heap.size, 0, none⟩ = some (Value.slice A n c) := (hB.out).cell 0
        have r0 : (w4).cell? ⟨(w.heap.size + 1), 0, none⟩ = some (Value.slice none 0 0) := (hR.out).cell 0; have rz0 : (w4).frozen? ⟨(w.heap.size + 1), 0, none⟩ = false := (hR.out).frozen 0
        have d0 : (w4).cell? ⟨gd, 0, none⟩ = some (Value.slice A n c) := (hD.out).cell 0
        go_wp2_with fail
        (try simp only [Exit.inBlock, Exit.then])
        have hRf : Blk (w4.setCell ⟨(w.heap.size + 1), 0, none⟩ (Value.slice A n c)) (w.heap.size + 1) 57 #[Value.slice A n c] := hR.out.set_ 0 _
        have hgs : w4.grownBy (w4.setCell ⟨(w.heap.size + 1), 0, none⟩ (Value.slice A n c)) (some (w.heap.size + 1)) := only_set (World.grownBy.refl _ _) 0 _
        have hbF : Below w.heap.size w (w4.setCell ⟨(w.heap.size + 1), 0, none⟩ (Value.slice A n c)) := hb.out.grown hgs hb.out.size (fun g8 e8 => by injection e8 with e8; omega)
        refine bodyPost_ret (v := .tuple #[.agg #[Value.slice A n c], .int .i64 2]) ?_ rfl ?_
        · refine (res2 (fn := Tryd.f12) (p := 10) (u := 11) (ty := 57) rfl _ _ (w.heap.size + 1) 57 _ (0, 0) _ ?_ hRf Tryd.underlying57 rfl (by kernel_rfl)).trans ?_
          · rfl
          · rfl
        · exact ⟨⟨A, n, c, L, by rw [hF.out], (hG.out.more hbF).at_, by rw [hF.out]⟩, hbF⟩
      | false =>
        by_cases q4 : iN < 1
        · have hF : Hid (R = (L.map Im.val, 1)) := hF0.2.2.2.1 q1 q2 q3 (by omega)
          have dq : decide ((iN : Int) < 1) = true := by apply decide_eq_true; omega
          have b0 : (w4).cell? ⟨w.heap.size, 0, none⟩ = some (Value.slice A n c) := (hB.out).cell 0
          have r0 : (w4).cell? ⟨(w.heap.size + 1), 0, none⟩ = some (Value.slice none 0 0) := (hR.out).cell 0; have rz0 : (w4).frozen? ⟨(w.heap.size + 1), 0, none⟩ = false := (hR.out).frozen 0
          have d0 : (w4).cell? ⟨gd, 0, none⟩ = some (Value.slice A n c) := (hD.out).cell 0
          go_wp2_with fail
          (try simp only [Exit.inBlock, Exit.then])
          have hRf : Blk (w4.setCell ⟨(w.heap.size + 1), 0, none⟩ (Value.slice A n c)) (w.heap.size + 1) 57 #[Value.slice A n c] := hR.out.set_ 0 _
          have hgs : w4.grownBy (w4.setCell ⟨(w.heap.size + 1), 0, none⟩ (Value.slice A n c)) (some (w.heap.size + 1)) := only_set (World.grownBy.refl _ _) 0 _
          have hbF : Below w.heap.size w (w4.setCell ⟨(w.heap.size + 1), 0, none⟩ (Value.slice A n c)) := hb.out.grown hgs hb.out.size (fun g8 e8 => by injection e8 with e8; omega)
          refine bodyPost_ret (v := .tuple #[.agg #[Value.slice A n c], .int .i64 1]) ?_ rfl ?_
          · refine (res2 (fn := Tryd.f12) (p := 10) (u := 11) (ty := 57) rfl _ _ (w.heap.size + 1) 57 _ (0, 0) _ ?_ hRf Tryd.underlying57 rfl (by kernel_rfl)).trans ?_
            · rfl
            · rfl
          · exact ⟨⟨A, n, c, L, by rw [hF.out], (hG.out.more hbF).at_, by rw [hF.out]⟩, hbF⟩
        have dq4 : decide ((iN : Int) < 1) = false := by apply decide_eq_false; omega
        by_cases q5 : 64 < iN
        · have hF : Hid (R = (L.map Im.val, 1)) := hF0.2.2.2.1 q1 q2 q3 (by omega)
          have dq : decide ((64 : Int) < (iN : Int)) = true := by apply decide_eq_true; omega
          have b0 : (w4).cell? ⟨w.heap.size, 0, none⟩ = some (Value.slice A n c) := (hB.out).cell 0
          have r0 : (w4).cell? ⟨(w.heap.size + 1), 0, none⟩ = some (Value.slice none 0 0) := (hR.out).cell 0; have rz0 : (w4).frozen? ⟨(w.heap.size + 1), 0, none⟩ = false := (hR.out).frozen 0
          have d0 : (w4).cell? ⟨gd, 0, none⟩ = some (Value.slice A n c) := (hD.out).cell 0
          go_wp2_with fail
          (try simp only [Exit.inBlock, Exit.then])
          have hRf : Blk (w4.setCell ⟨(w.heap.size + 1), 0, none⟩ (Value.slice A n c)) (w.heap.size + 1) 57 #[Value.slice A n c] := hR.out.set_ 0 _
          have hgs : w4.grownBy (w4.setCell ⟨(w.heap.size + 1), 0, none⟩ (Value.slice A n c)) (some (w.heap.size + 1)) := only_set (World.grownBy.refl _ _) 0 _
          have hbF : Below w.heap.size w (w4.setCell ⟨(w.heap.size + 1), 0, none⟩ (Value.slice A n c)) := hb.out.grown hgs hb.out.size (fun g8 e8 => by injection e8 with e8; omega)
          refine bodyPost_ret (v := .tuple #[.agg #[Value.slice A n c], .int .i64 1]) ?_ rfl ?_
          · refine (res2 (fn := Tryd.f12) (p := 10) (u := 11) (ty := 57) rfl _ _ (w.heap.size + 1) 57 _ (0, 0) _ ?_ hRf Tryd.underlying57 rfl (by kernel_rfl)).trans ?_
            · rfl
            · rfl
          · exact ⟨⟨A, n, c, L, by rw [hF.out], (hG.out.more hbF).at_, by rw [hF.out]⟩, hbF⟩
        have dq5 : decide ((64 : Int) < (iN : Int)) = false := by apply decide_eq_false; omega
        have b0 : (w4).cell? ⟨w.heap.size, 0, none⟩ = some (Value.slice A n c) := (hB.out).cell 0
        have r0 : (w4).cell? ⟨(w.heap.size + 1), 0, none⟩ = some (Value.slice none 0 0) := (hR.out).cell 0; have rz0 : (w4).frozen? ⟨(w.heap.size + 1), 0, none⟩ = false := (hR.out).frozen 0
        have d0 : (w4).cell? ⟨gd, 0, none⟩ = some (Value.slice A n c) := (hD.out).cell 0
        go_wp2_with fail
        clear b0 r0 rz0 d0
        refine (hcs.out _ hb.out).mono ?_; rintro e w5 ⟨rfl, hq⟩
        have hB := Lib.hid (hB.out.below hq hB.out.lt)
        have hR := Lib.hid (hR.out.below hq hR.out.lt)
        have hb := Lib.hid (hb.out.trans (hq.mono hb.out.size))
        have hD := Lib.hid (hD.out.below hq hD.out.lt)
        clear hq
        cases q6 : smallI its with
        | false =>
          have hF : Hid (R = (L.map Im.val, 2)) := hF0.2.2.2.2.1 q1 q2 q3 (by omega) q6
          have b0 : (w5).cell? ⟨w.heap.size, 0, none⟩ = some (Value.slice A n c) := (hB.out).cell 0
          have r0 : (w5).cell? ⟨(w.heap.size + 1), 0, none⟩ = some (Value.slice none 0 0) := (hR.out).cell 0; have rz0 : (w5).frozen? ⟨(w.heap.size + 1), 0, none⟩ = false := (hR.out).frozen 0
          have d0 : (w5).cell? ⟨gd, 0, none⟩ = some (Value.slice A n c) := (hD.out).cell 0
          go_wp2_with fail
          (try simp only [Exit.inBlock, Exit.then])
          have hRf : Blk (w5.setCell ⟨(w.heap.size + 1), 0, none⟩ (Value.slice A n c)) (w.heap.size + 1) 57 #[Value.slice A n c] := hR.out.set_ 0 _
          have hgs : w5.grownBy (w5.setCell ⟨(w.heap.size + 1), 0, none⟩ (Value.slice A n c)) (some (w.heap.size + 1)) := only_set (World.grownBy.refl _ _) 0 _
          have hbF : Below w.heap.size w (w5.setCell ⟨(w.heap.size + 1), 0, none⟩ (Value.slice A n c)) := hb.out.grown hgs hb.out.size (fun g8 e8 => by injection e8 with e8; omega)
          refine bodyPost_ret (v := .tuple #[.agg #[Value.slice A n c], .int .i64 2]) ?_ rfl ?_
          · refine (res2 (fn := Tryd.f12) (p := 10) (u := 11) (ty := 57) rfl _ _ (w.heap.size + 1) 57 _ (0, 0) _ ?_ hRf Tryd.underlying57 rfl (by kernel_rfl)).trans ?_
            · rfl
            · rfl
          · exact ⟨⟨A, n, c, L, by rw [hF.out], (hG.out.more hbF).at_, by rw [hF.out]⟩, hbF⟩
        | true =>
          have hF : Hid (R = (L.map Im.val ++ [mkIv (L.map Im.val) cust cur t its 0], 0)) := hF0.2.2.2.2.2 q1 q2 q3 (by omega) q6
          have hadd := Lib.hid (hadd q6 (by omega))
          have b0 : (w5).cell? ⟨w.heap.size, 0, none⟩ = some (Value.slice A n c) := (hB.out).cell 0
          have r0 : (w5).cell? ⟨(w.heap.size + 1), 0, none⟩ = some (Value.slice none 0 0) := (hR.out).cell 0; have rz0 : (w5).frozen? ⟨(w.heap.size + 1), 0, none⟩ = false := (hR.out).frozen 0
          have d0 : (w5).cell? ⟨gd, 0, none⟩ = some (Value.slice A n c) := (hD.out).cell 0
          go_wp2_with fail
          clear b0 r0 rz0 d0
          refine (hadd.out _ hb.out).mono ?_; rintro e w6 ⟨⟨A2, n2, c2, L2, rfl, hbk2, hval2⟩, hq⟩
          have hB := Lib.hid (hB.out.below hq hB.out.lt)
          have hR := Lib.hid (hR.out.below hq hR.out.lt)
          have hb := Lib.hid (hb.out.trans (hq.mono hb.out.size))
          have hD := Lib.hid (hD.out.below hq hD.out.lt)
          clear hq
          have hbk2 := Lib.hid hbk2
          have r0 : (w6).cell? ⟨(w.heap.size + 1), 0, none⟩ = some (Value.slice none 0 0) := (hR.out).cell 0; have rz0 : (w6).frozen? ⟨(w.heap.size + 1), 0, none⟩ = false := (hR.out).frozen 0
          go_wp2_with fail
          (try simp only [Exit.inBlock, Exit.then])
          have hRf : Blk (w6.setCell ⟨(w.heap.size + 1), 0, none⟩ (Value.slice A2 n2 c2)) (w.heap.size + 1) 57 #[Value.slice A2 n2 c2] := hR.out.set_ 0 _
          have hgs : w6.grownBy (w6.setCell ⟨(w.heap.size + 1), 0, none⟩ (Value.slice A2 n2 c2)) (some (w.heap.size + 1)) := only_set (World.grownBy.refl _ _) 0 _
          have hbF : Below w.heap.size w (w6.setCell ⟨(w.heap.size + 1), 0, none⟩ (Value.slice A2 n2 c2)) := hb.out.grown hgs hb.out.size (fun g8 e8 => by injection e8 with e8; omega)
          refine bodyPost_ret (v := .tuple #[.agg #[Value.slice A2 n2 c2], .int .i64 0]) ?_ rfl ?_
          · refine (res2 (fn := Tryd.f12) (p := 10) (u := 11) (ty := 57) rfl _ _ (w.heap.size + 1) 57 _ (0, 0) _ ?_ hRf Tryd.underlying57 rfl (by kernel_rfl)).trans ?_
            · rfl
            · rfl
          · exact ⟨⟨A2, n2, c2, L2, by rw [hF.out], hbk2.out.stB hR.out hgs, by rw [hF.out]; exact hval2⟩, hbF⟩
set_option maxRecDepth 100000 in
set_option maxHeartbeats 8000000 in
theorem due_any (A : Option Addr) (n c : Nat) (L : List Im) (cust cur : ByteArray) (w : World) (h : GoodM w A n c L) : Calls Tryd.prog 14 #[.agg #[Value.slice A n c], .string cust, .string cur] w fun e w' => e = .returned (.tuple #[.int .i64 (dueS (L.map Im.val) cust cur), .int .i64 0]) ∧ Below w.heap.size w w' := by
  have hl := Lib.hid h.at_.len
  have hn := h.n256
  have hbd := Lib.hid (due_bound h.ok cust cur)
  have hgr := Lib.hid (fun (k : Nat) (hk : k < L.length) => valid_gross h.ok (map_at hk))
  have hv := Lib.hid (fun wz (hz : Below w.heap.size w wz) => valid_any A n c L wz (h.more hz))
  have hrow := Lib.hid h.at_.row
  obtain ⟨D, hD⟩ : ∃ D, D = dueS (L.map Im.val) cust cur := ⟨_, rfl⟩
  rw [← hD]
  replace hD := Lib.hid hD
  clear h
  have hB := Lib.hid (Blk.new w 57 #[Value.slice A n c])
  have hb : Hid (Below w.heap.size w (w.alloc (.cells #[Value.slice A n c] 57))) := a1 w _
  have b0 : ((w.alloc (.cells #[Value.slice A n c] 57))).cell? ⟨w.heap.size, 0, none⟩ = some (Value.slice A n c) := (hB.out).cell 0
  go_enter Tryd.func14, Tryd.ntmps14
  go_wp2_with fail
  refine (hv.out _ hb.out).mono ?_; rintro e w1 ⟨rfl, hq⟩
  have hB := Lib.hid (hB.out.below hq hB.out.lt)
  have hb := Lib.hid (hb.out.trans (hq.mono hb.out.size))
  clear b0 hq hv
  have b0 : (w1).cell? ⟨w.heap.size, 0, none⟩ = some (Value.slice A n c) := (hB.out).cell 0
  go_wp2_with fail
  clear b0 hB
  go_loopw [20, 9] (fun i sv wr => ∃ (k : Nat) (s : Int), k ≤ n ∧ i = .int .i64 k ∧ sv = .int .i64 s ∧ Hid (s = dueS ((L.map Im.val).take k) cust cur) ∧ Hid (Below w.heap.size w wr)) (fun i _ _ => n - (intOf i).toNat)
  case atStart => exact ⟨0, 0, Nat.zero_le _, rfl, rfl, rfl, hb.out⟩
  case round =>
    clear hb
    obtain ⟨k, s, hkn, rfl, rfl, hs, hbL⟩ := hrel
    by_cases hlt : k < n
    · have hk1 : (k : Int) < n := by omega
      have hk0 : (0 : Int) ≤ k := by omega
      have hkl : k < L.length := by have := hl.out; omega
      obtain ⟨ad, hA, -, e0, e1, e2, e3, e4, e5, e6, e7, e8⟩ := iv_cells (hrow.out.more hbL.out) hlt
      have hst := due_take cust cur (map_at hkl)
      have hsb := hbd.out k (by rw [List.length_map]; omega)
      have hg9 := hgr.out k hkl
      rw [← hs.out] at hst hsb
      have hs1 : -600000000000000000 ≤ s ∧ s ≤ 600000000000000000 := by omega
      generalize L[k] = x at *
      obtain ⟨xnum, xcu, xcr, xat, xA, xn, xc, xits, xnet, xvat, xgr, xcd⟩ := x
      simp only [Im.val] at e0 e1 e2 e3 e4 e5 e6 e7 e8 hg9
      obtain ⟨hg1, hg2⟩ := hg9
      obtain ⟨hs2, hs3⟩ := hs1
      clear hsb
      subst hA
      have hy := Blk.new wr 100 #[Value.int .i64 xnum, Value.string xcu, Value.string xcr, Value.int .i64 xat, Value.slice xA xn xc, Value.int .i64 xnet, Value.int .i64 xvat, Value.int .i64 xgr, Value.int .i64 xcd]
      obtain ⟨m0, m1, m2, m3, m4, m5, m6, m7, m8⟩ := cells9 ((wr.alloc (.cells #[Value.int .i64 xnum, Value.string xcu, Value.string xcr, Value.int .i64 xat, Value.slice xA xn xc, Value.int .i64 xnet, Value.int .i64 xvat, Value.int .i64 xgr, Value.int .i64 xcd] 100))) (wr.heap.size) (Value.int .i64 xnum) (Value.string xcu) (Value.string xcr) (Value.int .i64 xat) (Value.slice xA xn xc) (Value.int .i64 xnet) (Value.int .i64 xvat) (Value.int .i64 xgr) (Value.int .i64 xcd) (hy)
      have hb2 : Hid (Below w.heap.size w (wr.alloc (.cells #[Value.int .i64 xnum, Value.string xcu, Value.string xcr, Value.int .i64 xat, Value.slice xA xn xc, Value.int .i64 xnet, Value.int .i64 xvat, Value.int .i64 xgr, Value.int .i64 xcd] 100))) := hbL.out.alloc hbL.out.size _
      clear hy
      by_cases q1 : xcu = cust
      · have dq1 : (xcu.toList == cust.toList) = true := by rw [q1]; simp
        by_cases q2 : xcr = cur
        · have hst2 : Hid (s + xgr = dueS ((L.map Im.val).take (k + 1)) cust cur) := by
            show _ = _
            rw [hst, show dueT cust cur (Im.val (⟨xnum, xcu, xcr, xat, xA, xn, xc, xits, xnet, xvat, xgr, xcd⟩ : Im)) = xgr from dueT_yes q1 q2]
          clear hst
          subst q1
          subst q2
          go_wp2_with fail
          go_roundw
          case rel => exact ⟨k + 1, _, by omega, by go_num, rfl, hst2.out, hb2.out⟩
          case measure => simp [intOf]; omega
        · have hst2 : Hid (s = dueS ((L.map Im.val).take (k + 1)) cust cur) := by
            show _ = _
            rw [hst, show dueT cust cur (Im.val (⟨xnum, xcu, xcr, xat, xA, xn, xc, xits, xnet, xvat, xgr, xcd⟩ : Im)) = 0 from dueT_no2 q2, Int.add_zero]
          clear hst
          subst q1
          have nq2 := str_ne q2
          have bq2 : (xcr.toList == cur.toList) = false := by simpa using nq2
          replace q2 := Lib.hid q2
          go_wp2_with fail
          go_roundw
          case rel => exact ⟨k + 1, _, by omega, by go_num, rfl, hst2.out, hb2.out⟩
          case measure => simp [intOf]; omega
      · have hst2 : Hid (s = dueS ((L.map Im.val).take (k + 1)) cust cur) := by
          show _ = _
          rw [hst, show dueT cust cur (Im.val (⟨xnum, xcu, xcr, xat, xA, xn, xc, xits, xnet, xvat, xgr, xcd⟩ : Im)) = 0 from dueT_no1 q1, Int.add_zero]
        clear hst
        have nq1 := str_ne q1
        have bq1 : (xcu.toList == cust.toList) = false := by simpa using nq1
        replace q1 := Lib.hid q1
        go_wp2_with fail
        go_roundw
        case rel => exact ⟨k + 1, _, by omega, by go_num, rfl, hst2.out, hb2.out⟩
        case measure => simp [intOf]; omega
    · have hF : Hid (D = s) := by show _ = _; rw [hD.out, hs.out, List.take_of_length_le (by rw [List.length_map]; have := hl.out; omega)]
      go_wp2_with fail
      exact bodyPost_ret (v := .tuple #[.int .i64 s, .int .i64 0]) (by simp [results, Tryd.results14, go_sem]) rfl ⟨by rw [hF.out], hbL.out⟩
end Go.Proofs.YtbngclibfnnejaaDoor
