/- Ledger: build; LedgerGrows, walked. -/
import Derived.Test.YtiggpgeldigknaaLL
import Derived.Test.YtiggpgeldigknaaRN
set_option linter.unusedVariables false
set_option linter.unusedSimpArgs false
namespace Go.Proofs.Ytiggpgeldigknaa
open Go.RowKit
/-- a log that is handed back -/
def ResB (L : List Ln) (e : Ending) (w' : World) : Prop := ∃ A' n' c', e = .returned (.slice A' n' c') ∧ LAt lnC 6 w' w'.heap.size A' n' L ∧ n' ≤ c'
theorem brief_at {N : List Nt} (h : briefL N = true) {x : Nt} (hx : x ∈ N) : t3 x.who x.what x.on = true := by
  simp only [briefL, Bool.and_eq_true, List.all_eq_true, briefLT] at h
  exact h.2 x hx
theorem brief_len {N : List Nt} (h : briefL N = true) : N.length ≤ 30 := by
  simp only [briefL, Bool.and_eq_true, decide_eq_true_eq] at h
  exact h.1
theorem log_lnok {L : List Ln} (h : LogOk L) : ∀ x ∈ L, LnOk x := fun x hx => by
  have h1 := h.all x hx
  have := h1.s; have := h1.a; have := h1.w; have := h1.t; have := h1.o
  exact ⟨by omega, by omega, by omega⟩
def LgT (L : List Ln) (E : Int) (v : Value) (w : World) : Prop := ∃ A2 n2 c2, v = .tuple #[.slice A2 n2 c2, .int .i64 E] ∧ LAt lnC 6 w w.heap.size A2 n2 L ∧ n2 ≤ c2
def LgS (L : List Ln) (v : Value) (w : World) : Prop := ∃ A2 n2 c2, v = .slice A2 n2 c2 ∧ LAt lnC 6 w w.heap.size A2 n2 L ∧ n2 ≤ c2
theorem LgT.more {L : List Ln} {E : Int} {v : Value} {w w' : World} (h : LgT L E v w) (hb : Below w.heap.size w w') : LgT L E v w' := by
  obtain ⟨A2, n2, c2, rfl, h2, hc⟩ := h
  exact ⟨A2, n2, c2, rfl, h2.more hb, hc⟩
theorem LgS.more {L : List Ln} {v : Value} {w w' : World} (h : LgS L v w) (hb : Below w.heap.size w w') : LgS L v w' := by
  obtain ⟨A2, n2, c2, rfl, h2, hc⟩ := h
  exact ⟨A2, n2, c2, rfl, h2.more hb, hc⟩
def F47 (ad : Addr) (n cp k : Nat) (at_ : Int) (who what on : ByteArray) (AO : Option Addr) (no co : Nat) (L : List Ln) (E : Int) : Tmp → Value → World → Prop
  | 0, v, _ => v = .slice (some ad) n cp
  | 3, v, w => LgS L v w
  | 4, v, _ => v = .int .i64 (k : Int)
  | 11, v, w => LgT L E v w
  | 12, v, _ => v = .slice AO no co
  | 13, v, _ => v = .slice (some ad) n cp
  | 14, v, _ => v = .int .i64 (k : Int)
  | 15, v, _ => v = .pointer (some (ad.add (k * 4)))
  | 16, v, _ => v = .pointer (some (ad.add (k * 4)))
  | 17, v, _ => v = .int .i64 at_
  | 18, v, _ => v = .slice (some ad) n cp
  | 19, v, _ => v = .int .i64 (k : Int)
  | 20, v, _ => v = .pointer (some (ad.add (k * 4)))
  | 21, v, _ => v = .pointer (some ⟨(ad.add (k * 4)).block, (ad.add (k * 4)).off + 1, none⟩)
  | 22, v, _ => v = .string who
  | 23, v, _ => v = .slice (some ad) n cp
  | 24, v, _ => v = .int .i64 (k : Int)
  | 25, v, _ => v = .pointer (some (ad.add (k * 4)))
  | 26, v, _ => v = .pointer (some ⟨(ad.add (k * 4)).block, (ad.add (k * 4)).off + 2, none⟩)
  | 27, v, _ => v = .string what
  | 28, v, _ => v = .slice (some ad) n cp
  | 29, v, _ => v = .int .i64 (k : Int)
  | 30, v, _ => v = .pointer (some (ad.add (k * 4)))
  | 31, v, _ => v = .pointer (some ⟨(ad.add (k * 4)).block, (ad.add (k * 4)).off + 3, none⟩)
  | 32, v, _ => v = .string on
  | 33, v, w => LgT L E v w
  | 34, v, w => LgS L v w
  | 35, v, _ => v = .int .i64 E
  | _, _, _ => True
theorem F47_more {ad : Addr} {n cp k : Nat} {at_ : Int} {who what on : ByteArray} {AO : Option Addr} {no co : Nat} {L : List Ln} {E : Int} (d t : Tmp) (v : Value) (w w' : World) (hR : Rb w w') (hne : t ≠ d) (hc : ([] : List (Tmp × Tmp)).contains (d, t) = false) (h : F47 ad n cp k at_ who what on AO no co L E t v w) : F47 ad n cp k at_ who what on AO no co L E t v w' := by
  unfold F47 at *
  split at h <;> first | exact h | exact LgT.more h hR | exact fun hg => LgT.more (h hg) hR | exact LgS.more h hR | exact fun hg => LgS.more (h hg) hR
set_option maxRecDepth 100000 in
set_option maxHeartbeats 8000000 in
theorem build_any (A : Option Addr) (n cp : Nat) (N : List Nt) (w : World) (h : LAt ntC 4 w w.heap.size A n N) (hr : ∀ x ∈ N, NtR x) (hbf : briefL N = true) :
    Calls Try.prog 47 #[.slice A n cp] w fun e w' => ResB (buildL N) e w' ∧ Below w.heap.size w w' := by
  have hn := Lib.hid h.len
  have hn30 : n ≤ 30 := by have := brief_len hbf; have := hn.out; omega
  replace h := Lib.hid h
  replace hr := Lib.hid hr
  replace hbf := Lib.hid hbf
  go_enter Try.func47, Try.ntmps47
  go_wp2_with fail
  go_loopw [4, 3] (fun i o wr => ∃ (k : Nat) (AO : Option Addr) (no co : Nat), k ≤ n ∧ i = .int .i64 k ∧ o = .slice AO no co ∧ no ≤ co ∧ Hid (LAt lnC 6 wr wr.heap.size AO no (buildL (N.take k))) ∧ Hid (Below w.heap.size w wr)) (fun i _ _ => n - (intOf i).toNat)
  case atStart => exact ⟨0, none, 0, 0, Nat.zero_le _, rfl, rfl, Nat.le_refl _, LAt.nil lnC_len _ _, Below.refl _ _⟩
  case round =>
    obtain ⟨k, AO, no, co, hkn, rfl, rfl, hnc, hO, hb⟩ := hrel
    by_cases hlt : k < n
    · have hk0 : (0 : Int) ≤ k := by omega
      have hk1 : (k : Int) < n := by omega
      have hkl : k < N.length := by have := hn.out; omega
      have hbs := build_snoc N k hkl
      have htt := brief_at hbf.out (List.getElem_mem hkl)
      have hrr := hr.out _ (List.getElem_mem hkl)
      have hbo := build_ok (N.take k)
      have hno : no ≤ 1000 := by have := hbo.2; have := hO.out.len; rw [List.length_take] at *; omega
      replace hbo := Lib.hid hbo
      obtain ⟨ad, hA, hadb, -⟩ := nt_cells (h.out.below hb.out (Nat.le_refl _)) hlt
      subst hA
      generalize hx : N[k] = x at hbs htt hrr
      obtain ⟨at_, who, what, on⟩ := x
      replace hx := Lib.hid hx
      have hA := fun w h => append_any AO no co (buildL (N.take k)) at_ who what on w h hno hnc hrr htt
      rw [show (appR (buildL (N.take k)) ⟨at_, who, what, on⟩) = ((appR (buildL (N.take k)) ⟨at_, who, what, on⟩).1, (appR (buildL (N.take k)) ⟨at_, who, what, on⟩).2) from rfl, ← hbs] at hA
      generalize (appR (buildL (N.take k)) ⟨at_, who, what, on⟩).2 = E at hA
      replace hA := Lib.hid hA
      replace hbs := Lib.hid hbs
      go_wp2_with fail
      have hcell : Hid (∀ w2, Below wr.heap.size wr w2 → w2.cell? (ad.add (k * 4)) = some (Value.int .i64 at_) ∧ w2.cell? ⟨(ad.add (k * 4)).block, (ad.add (k * 4)).off + 1, none⟩ = some (Value.string who) ∧ w2.cell? ⟨(ad.add (k * 4)).block, (ad.add (k * 4)).off + 2, none⟩ = some (Value.string what) ∧ w2.cell? ⟨(ad.add (k * 4)).block, (ad.add (k * 4)).off + 3, none⟩ = some (Value.string on)) := fun w2 hw1 => by
        obtain ⟨ad', e, hadb', e0, e1, e2, e3⟩ := nt_cells (h.out.below (hb.out.trans (hw1.mono hb.out.size)) (Nat.le_refl _)) hlt
        injection e with e
        subst e
        rw [hx.out] at e0 e1 e2 e3
        exact ⟨e0, e1, e2, e3⟩
      refine RN.region [] [3] [] (F := F47 ad n cp k at_ who what on AO no co (buildL (N.take (k + 1))) E) (W := fun wz => Below wr.heap.size wr wz) (R := fun _ => Rb) (S := noS) (G := noG) rfl F47_more (fun _ _ _ _ _ _ _ => trivial) (fun _ _ _ _ _ h => h.elim) (fun _ _ _ _ _ h => h.elim) (by kernel_rfl) (by kernel_rfl) (by kernel_rfl) (by kernel_rfl) (by kernel_rfl) ?_ ?_ ?_ (by kernel_rfl) (by kernel_rfl) ?_
      · exact (Below.refl _ _).drew
      · intro t ht
        unfold F47
        split <;> first | trivial | exact rfl | (exact absurd ht (by decide))
      · simp only [List.forall_mem_cons, List.not_mem_nil, false_implies, implies_true, and_true]
        refine ⟨?_, ?_, ?_, ?_, ?_, ?_, ?_, ?_, ?_, ?_, ?_, ?_, ?_, ?_, ?_, ?_, ?_, ?_, ?_, ?_, ?_, ?_, ?_, ?_, ?_, ?_⟩
        · intro a w2 hw _ hf hz K hK
          have f0 : a.tmps[3]?.getD undef = (Value.slice AO no co) := by rw [hz 3 rfl rfl]; rfl
          clear hf hz
          go_simp
          exact hK _ _ _ rfl rfl hw (Below.refl _ _) (fun h => absurd h (by decide))
        · intro a w2 hw _ hf hz K hK
          have f0 := hf 0 rfl rfl
          simp only [F47] at f0
          clear hf hz
          go_simp
          exact hK _ _ _ rfl rfl hw (Below.refl _ _) (fun h => absurd h (by decide))
        · intro a w2 hw _ hf hz K hK
          have f0 := hf 4 rfl rfl
          simp only [F47] at f0
          clear hf hz
          go_simp
          exact hK _ _ _ rfl rfl hw (Below.refl _ _) (fun h => absurd h (by decide))
        · intro a w2 hw _ hf hz K hK
          have f0 := hf 13 rfl rfl
          have f1 := hf 14 rfl rfl
          simp only [F47] at f0 f1
          clear hf hz
          obtain ⟨e0, e1, e2, e3⟩ := hcell.out w2 hw
          go_simp
          exact hK _ _ _ rfl rfl hw (Below.refl _ _) (fun h => absurd h (by decide))
        · intro a w2 hw _ hf hz K hK
          have f0 := hf 15 rfl rfl
          simp only [F47] at f0
          clear hf hz
          go_simp
          exact hK _ _ _ rfl rfl hw (Below.refl _ _) (fun h => absurd h (by decide))
        · intro a w2 hw _ hf hz K hK
          have f0 := hf 16 rfl rfl
          simp only [F47] at f0
          clear hf hz
          obtain ⟨e0, e1, e2, e3⟩ := hcell.out w2 hw
          go_simp
          exact hK _ _ _ rfl rfl hw (Below.refl _ _) (fun h => absurd h (by decide))
        · intro a w2 hw _ hf hz K hK
          have f0 := hf 0 rfl rfl
          simp only [F47] at f0
          clear hf hz
          go_simp
          exact hK _ _ _ rfl rfl hw (Below.refl _ _) (fun h => absurd h (by decide))
        · intro a w2 hw _ hf hz K hK
          have f0 := hf 4 rfl rfl
          simp only [F47] at f0
          clear hf hz
          go_simp
          exact hK _ _ _ rfl rfl hw (Below.refl _ _) (fun h => absurd h (by decide))
        · intro a w2 hw _ hf hz K hK
          have f0 := hf 18 rfl rfl
          have f1 := hf 19 rfl rfl
          simp only [F47] at f0 f1
          clear hf hz
          obtain ⟨e0, e1, e2, e3⟩ := hcell.out w2 hw
          go_simp
          exact hK _ _ _ rfl rfl hw (Below.refl _ _) (fun h => absurd h (by decide))
        · intro a w2 hw _ hf hz K hK
          have f0 := hf 20 rfl rfl
          simp only [F47] at f0
          clear hf hz
          go_simp
          exact hK _ _ _ rfl rfl hw (Below.refl _ _) (fun h => absurd h (by decide))
        · intro a w2 hw _ hf hz K hK
          have f0 := hf 21 rfl rfl
          simp only [F47] at f0
          clear hf hz
          obtain ⟨e0, e1, e2, e3⟩ := hcell.out w2 hw
          go_simp
          exact hK _ _ _ rfl rfl hw (Below.refl _ _) (fun h => absurd h (by decide))
        · intro a w2 hw _ hf hz K hK
          have f0 := hf 0 rfl rfl
          simp only [F47] at f0
          clear hf hz
          go_simp
          exact hK _ _ _ rfl rfl hw (Below.refl _ _) (fun h => absurd h (by decide))
        · intro a w2 hw _ hf hz K hK
          have f0 := hf 4 rfl rfl
          simp only [F47] at f0
          clear hf hz
          go_simp
          exact hK _ _ _ rfl rfl hw (Below.refl _ _) (fun h => absurd h (by decide))
        · intro a w2 hw _ hf hz K hK
          have f0 := hf 23 rfl rfl
          have f1 := hf 24 rfl rfl
          simp only [F47] at f0 f1
          clear hf hz
          obtain ⟨e0, e1, e2, e3⟩ := hcell.out w2 hw
          go_simp
          exact hK _ _ _ rfl rfl hw (Below.refl _ _) (fun h => absurd h (by decide))
        · intro a w2 hw _ hf hz K hK
          have f0 := hf 25 rfl rfl
          simp only [F47] at f0
          clear hf hz
          go_simp
          exact hK _ _ _ rfl rfl hw (Below.refl _ _) (fun h => absurd h (by decide))
        · intro a w2 hw _ hf hz K hK
          have f0 := hf 26 rfl rfl
          simp only [F47] at f0
          clear hf hz
          obtain ⟨e0, e1, e2, e3⟩ := hcell.out w2 hw
          go_simp
          exact hK _ _ _ rfl rfl hw (Below.refl _ _) (fun h => absurd h (by decide))
        · intro a w2 hw _ hf hz K hK
          have f0 := hf 0 rfl rfl
          simp only [F47] at f0
          clear hf hz
          go_simp
          exact hK _ _ _ rfl rfl hw (Below.refl _ _) (fun h => absurd h (by decide))
        · intro a w2 hw _ hf hz K hK
          have f0 := hf 4 rfl rfl
          simp only [F47] at f0
          clear hf hz
          go_simp
          exact hK _ _ _ rfl rfl hw (Below.refl _ _) (fun h => absurd h (by decide))
        · intro a w2 hw _ hf hz K hK
          have f0 := hf 28 rfl rfl
          have f1 := hf 29 rfl rfl
          simp only [F47] at f0 f1
          clear hf hz
          obtain ⟨e0, e1, e2, e3⟩ := hcell.out w2 hw
          go_simp
          exact hK _ _ _ rfl rfl hw (Below.refl _ _) (fun h => absurd h (by decide))
        · intro a w2 hw _ hf hz K hK
          have f0 := hf 30 rfl rfl
          simp only [F47] at f0
          clear hf hz
          go_simp
          exact hK _ _ _ rfl rfl hw (Below.refl _ _) (fun h => absurd h (by decide))
        · intro a w2 hw _ hf hz K hK
          have f0 := hf 31 rfl rfl
          simp only [F47] at f0
          clear hf hz
          obtain ⟨e0, e1, e2, e3⟩ := hcell.out w2 hw
          go_simp
          exact hK _ _ _ rfl rfl hw (Below.refl _ _) (fun h => absurd h (by decide))
        · intro a w2 hw _ hf hz K hK
          have f0 := hf 12 rfl rfl
          have f1 := hf 17 rfl rfl
          have f2 := hf 22 rfl rfl
          have f3 := hf 27 rfl rfl
          have f4 := hf 32 rfl rfl
          simp only [F47] at f0 f1 f2 f3 f4
          clear hf hz
          go_simp
          refine (hA.out w2 (hO.out.more hw)).mono ?_; rintro e w5 ⟨⟨A2, n2, c2, rfl, h2, hc2⟩, hbq⟩
          exact hK _ _ _ rfl ⟨A2, n2, c2, rfl, h2, hc2⟩ (hw.trans (hbq.mono hw.size)) hbq (fun h => absurd h (by decide))
        · intro a w2 hw _ hf hz K hK
          have f0 := hf 33 rfl rfl
          simp only [F47] at f0
          clear hf hz
          have g0 := Lib.hid f0
          obtain ⟨A2, n2, c2, f0, -⟩ := f0
          go_simp
          skip
          exact hK _ _ _ rfl (by rw [← f0]; exact g0.out) hw (Below.refl _ _) (fun h => absurd h (by decide))
        · intro a w2 hw _ hf hz K hK
          have f0 := hf 11 rfl rfl
          simp only [F47] at f0
          clear hf hz
          obtain ⟨A2, n2, c2, f0, h2, hc2⟩ := f0
          replace h2 := Lib.hid h2
          go_simp
          exact hK _ _ _ rfl ⟨A2, n2, c2, rfl, h2.out, hc2⟩ hw (Below.refl _ _) (fun h => absurd h (by decide))
        · intro a w2 hw _ hf hz K hK
          have f0 := hf 11 rfl rfl
          simp only [F47] at f0
          clear hf hz
          obtain ⟨A2, n2, c2, f0, h2, hc2⟩ := f0
          replace h2 := Lib.hid h2
          go_simp
          exact hK _ _ _ rfl rfl hw (Below.refl _ _) (fun h => absurd h (by decide))
        · intro a w2 hw _ hf hz K hK
          have f0 := hf 34 rfl rfl
          simp only [F47] at f0
          clear hf hz
          obtain ⟨A2, n2, c2, f0, h2, hc2⟩ := f0
          replace h2 := Lib.hid h2
          go_simp
          exact hK _ _ _ rfl ⟨A2, n2, c2, rfl, h2.out, hc2⟩ hw (Below.refl _ _) (fun h => absurd h (by decide))
      · intro a' w9 hd hs hw hout hf _
        have h3 := hf 3 rfl
        simp only [F47] at h3
        have e0 : _ = some (Value.slice (some ad) n cp) := hout 0 rfl
        have e1 : _ = some (undef) := hout 1 rfl
        have e2 : _ = some (Value.slice none 0 0) := hout 2 rfl
        have e4 : _ = some (Value.int .i64 k) := hout 4 rfl
        have e36 : _ = some (undef) := hout 36 rfl
        obtain ⟨tm, df⟩ := a'
        simp only at hd hs h3 e0 e1 e2 e4 e36
        have e := lit_arr tm 37 hs
        rw [show (List.range 37).map (fun i => tm[i]?.getD undef) = [tm[0]?.getD undef, tm[1]?.getD undef, tm[2]?.getD undef, tm[3]?.getD undef, tm[4]?.getD undef, tm[5]?.getD undef, tm[6]?.getD undef, tm[7]?.getD undef, tm[8]?.getD undef, tm[9]?.getD undef, tm[10]?.getD undef, tm[11]?.getD undef, tm[12]?.getD undef, tm[13]?.getD undef, tm[14]?.getD undef, tm[15]?.getD undef, tm[16]?.getD undef, tm[17]?.getD undef, tm[18]?.getD undef, tm[19]?.getD undef, tm[20]?.getD undef, tm[21]?.getD undef, tm[22]?.getD undef, tm[23]?.getD undef, tm[24]?.getD undef, tm[25]?.getD undef, tm[26]?.getD undef, tm[27]?.getD undef, tm[28]?.getD undef, tm[29]?.getD undef, tm[30]?.getD undef, tm[31]?.getD undef, tm[32]?.getD undef, tm[33]?.getD undef, tm[34]?.getD undef, tm[35]?.getD undef, tm[36]?.getD undef] from rfl] at e
        simp only [e0, e1, e2, e4, e36, Option.getD_some] at e
        clear hf hout hs
        rw [e, hd]
        clear e hd e0 e1 e2 e4 e36
        generalize tm[3]?.getD undef = u3x at h3 ⊢
        generalize tm[5]?.getD undef = u5x
        generalize tm[6]?.getD undef = u6x
        generalize tm[7]?.getD undef = u7x
        generalize tm[8]?.getD undef = u8x
        generalize tm[9]?.getD undef = u9x
        generalize tm[10]?.getD undef = u10x
        generalize tm[11]?.getD undef = u11x
        generalize tm[12]?.getD undef = u12x
        generalize tm[13]?.getD undef = u13x
        generalize tm[14]?.getD undef = u14x
        generalize tm[15]?.getD undef = u15x
        generalize tm[16]?.getD undef = u16x
        generalize tm[17]?.getD undef = u17x
        generalize tm[18]?.getD undef = u18x
        generalize tm[19]?.getD undef = u19x
        generalize tm[20]?.getD undef = u20x
        generalize tm[21]?.getD undef = u21x
        generalize tm[22]?.getD undef = u22x
        generalize tm[23]?.getD undef = u23x
        generalize tm[24]?.getD undef = u24x
        generalize tm[25]?.getD undef = u25x
        generalize tm[26]?.getD undef = u26x
        generalize tm[27]?.getD undef = u27x
        generalize tm[28]?.getD undef = u28x
        generalize tm[29]?.getD undef = u29x
        generalize tm[30]?.getD undef = u30x
        generalize tm[31]?.getD undef = u31x
        generalize tm[32]?.getD undef = u32x
        generalize tm[33]?.getD undef = u33x
        generalize tm[34]?.getD undef = u34x
        generalize tm[35]?.getD undef = u35x
        obtain ⟨A2, n2, c2, h3, h2, hc2⟩ := h3
        subst h3
        have hb2 := Lib.hid (hb.out.trans (hw.mono hb.out.size))
        replace h2 := Lib.hid h2
        clear hw hcell
        go_wp2_with fail
        go_roundw
        case rel => exact ⟨k + 1, A2, n2, c2, by omega, by go_num, rfl, hc2, h2.out, hb2.out⟩
        case measure => simp [intOf]; omega
    · have hd : N.take k = N := List.take_of_length_le (by have := hn.out; omega)
      rw [hd] at hO
      go_wp2_with fail
      go_ret
      exact ⟨⟨AO, no, co, rfl, hO.out, hnc⟩, hb.out⟩
theorem log_seq {L : List Ln} (h : LogOk L) (i : Nat) (hi : i < L.length) : L[i].seq = (i : Int) + 1 := by
  have := right_seq (good_mid h.good hi)
  rwa [Nat.zero_add] at this
set_option maxRecDepth 100000 in
set_option maxHeartbeats 8000000 in
theorem lawGrowsL (A : Option Addr) (n cp : Nat) (N : List Nt) (at_ : Int) (w : World) (h : LAt ntC 4 w w.heap.size A n N) (hr : ∀ x ∈ N, NtR x) (hat : (Lit.int .u8 at_).wf = true) :
    Calls Try.prog 12 #[.slice A n cp, .int .u8 at_] w fun e w' => e = .returned (.bool true) ∧ Below w.heap.size w w' := by
  have hat2 : 0 ≤ at_ ∧ at_ ≤ 255 := by simpa [Lit.wf, IntKind.min, IntKind.max, IntKind.signed, IntKind.bits] using hat
  obtain ⟨hat0, hat1⟩ := hat2
  clear hat
  replace h := Lib.hid h
  go_enter Try.func12, Try.ntmps12
  go_wp2_with fail
  refine (brief_any A n cp N w h.out).mono ?_; rintro e w2 ⟨rfl, hb⟩
  replace hb := Lib.hid hb
  have h := Lib.hid (h.out.more hb.out)
  cases hs : briefL N with
  | false =>
    go_wp2_with fail
    refine (awakeL_any _).mono ?_; rintro e wa ⟨rfl, hq⟩
    have hb := Lib.hid (hb.out.trans (hq.mono hb.out.size))
    clear hq
    go_wp2_with fail
    go_ret
    exact ⟨rfl, hb.out⟩
  | true =>
    obtain ⟨hlog, hll⟩ := build_ok N
    have hl30 := brief_len hs
    have hB := fun w h => build_any A n cp N w h hr hs
    generalize buildL N = L at *
    replace hB := Lib.hid hB
    replace hs := Lib.hid hs
    go_wp2_with fail
    refine (hB.out _ h.out).mono ?_; rintro e w3 ⟨⟨AL, nl, cl, rfl, hL, hnc⟩, hq⟩
    have hb := Lib.hid (hb.out.trans (hq.mono hb.out.size))
    have hnl : L.length = nl := hL.len
    have hn30 : nl ≤ 30 := by omega
    replace hL := Lib.hid hL
    have hnl2 := Lib.hid hnl
    clear hq hB hnl h
    have hnz : ((nl : Int) + 1) ≠ 0 := by omega
    obtain ⟨k, hk, hkn⟩ : ∃ k : Nat, at_ % ((nl : Int) + 1) = k ∧ k ≤ nl := ⟨(at_ % ((nl : Int) + 1)).toNat, by have := Int.emod_nonneg at_ hnz; omega, by have := Int.emod_lt_of_pos at_ (show 0 < (nl : Int) + 1 by omega); have := Int.emod_nonneg at_ hnz; omega⟩
    have hkt : Int.tmod at_ ((nl : Int) + 1) = k := by rw [Int.tmod_eq_emod_of_nonneg hat0]; exact hk
    have hok := log_lnok hlog
    have hV1 := fun w h => verify_log AL nl cl L w h hok (by omega)
    have hg1 : verN L = nl := by have := verF_good hlog.good; rw [Nat.zero_add, hnl2.out] at this; exact this
    have hg2 : verE L = 0 := by unfold verE; rw [if_pos hlog.good]
    rw [hg1, hg2] at hV1
    have hV2 := fun w h => verify_log AL k cl (L.take k) w h (fun x hx => hok x (List.mem_of_mem_take hx)) (by omega)
    have hgt := good_take hlog.good k
    have hg3 : verN (L.take k) = k := by have := verF_good hgt; rw [Nat.zero_add, List.length_take, Nat.min_eq_left (by rw [hnl2.out]; exact hkn)] at this; exact this
    have hg4 : verE (L.take k) = 0 := by unfold verE; rw [if_pos hgt]
    rw [hg3, hg4] at hV2
    replace hV1 := Lib.hid hV1
    replace hV2 := Lib.hid hV2
    clear hg1 hg2 hg3 hg4 hgt
    replace hlog := Lib.hid hlog
    replace hok := Lib.hid hok
    have hk0 : (0 : Int) ≤ (k : Int) := by omega
    have hkl : (k : Int) ≤ (nl : Int) := by omega
    have hkc : (k : Int) ≤ (cl : Int) := by omega
    go_wp2_with fail
    refine (hV1.out _ hL.out).mono ?_; rintro e w4 ⟨rfl, hq⟩
    have hb := Lib.hid (hb.out.trans (hq.mono hb.out.size))
    have hL := Lib.hid (hL.out.more hq)
    clear hq hV1
    go_wp2_with fail
    refine (hV2.out _ (hL.out.take hkn)).mono ?_; rintro e w5 ⟨rfl, hq⟩
    have hb := Lib.hid (hb.out.trans (hq.mono hb.out.size))
    have hL := Lib.hid (hL.out.more hq)
    clear hq hV2
    go_wp2_with fail
    go_loopw [11] (fun i wr => ∃ m : Nat, m ≤ nl ∧ i = .int .i64 m ∧ Hid (LAt lnC 6 wr wr.heap.size AL nl L) ∧ Hid (Below w.heap.size w wr) ∧ Hid (∀ i (hi : i < L.length), i < m → L[i].sum ≠ 0 ∧ ∀ j (hj : j < L.length), j < i → L[j].sum ≠ L[i].sum)) (fun i _ => nl - (intOf i).toNat)
    case atStart => exact ⟨0, Nat.zero_le _, rfl, hL.out, hb.out, fun i hi h => absurd h (Nat.not_lt_zero _)⟩
    case round =>
      clear hL hb
      obtain ⟨m, hmn, rfl, hL, hb, hP⟩ := hrel
      by_cases hlt : m < nl
      · have hm0 : (0 : Int) ≤ m := by omega
        have hm1 : (m : Int) < nl := by omega
        have hml : m < L.length := by have := hnl2.out; omega
        obtain ⟨ad, hA, hadb, e0, e1, e2, e3, e4, e5⟩ := ln_cells hL.out hlt
        subst hA
        rw [log_seq hlog.out m hml] at e0
        generalize hsm : L[m].sum = sm at *
        replace hsm := Lib.hid hsm
        by_cases hz : sm = 0
        · subst hz
          go_wp2_with fail
          clear e0 e1 e2 e3 e4 e5
          refine (awakeL_any _).mono ?_; rintro e wa ⟨rfl, hq⟩
          have hb := Lib.hid (hb.out.trans (hq.mono hb.out.size))
          clear hq
          go_wp2_with fail
          go_ret
          exact ⟨rfl, hb.out⟩
        · have hzd : (sm == 0) = false := by simpa using hz
          replace hz := Lib.hid hz
          go_wp2_with fail
          clear e0 e1 e2 e3 e4 e5
          go_loopw [12] (fun i wr2 => ∃ j : Nat, j ≤ m ∧ i = .int .i64 j ∧ Hid (LAt lnC 6 wr2 wr2.heap.size (some ad) nl L) ∧ Hid (Below w.heap.size w wr2) ∧ Hid (∀ i (hi : i < L.length), i < j → L[i].sum ≠ sm)) (fun i _ => m - (intOf i).toNat)
          case atStart => exact ⟨0, Nat.zero_le _, rfl, hL.out, hb.out, fun i hi h => absurd h (Nat.not_lt_zero _)⟩
          case round =>
            clear hL hb
            obtain ⟨j, hjm, rfl, hL, hb, hQ⟩ := hrel
            by_cases hlt2 : j < m
            · have hj0 : (0 : Int) ≤ j := by omega
              have hj1 : (j : Int) < m := by omega
              have hj2 : (j : Int) < nl := by omega
              have hjl : j < L.length := by omega
              obtain ⟨ad', hA', -, d0, d1, d2, d3, d4, d5⟩ := ln_cells hL.out (show j < nl by omega)
              injection hA' with hA'
              subst hA'
              obtain ⟨ad', hA', -, e0, e1, e2, e3, e4, e5⟩ := ln_cells hL.out hlt
              injection hA' with hA'
              subst hA'
              rw [hsm.out] at e5
              generalize hsj : L[j].sum = sj at *
              replace hsj := Lib.hid hsj
              clear d0 d1 d2 d3 d4 e0 e1 e2 e3 e4
              by_cases hjj : sj = sm
              · subst hjj
                go_wp2_with fail
                go_quiet (fail)
                go_wp2_with fail
                have hb := Lib.hid (below_drewN hb.out nq)
                refine (awakeL_any _).mono ?_; rintro e wa ⟨rfl, hq⟩
                have hb := Lib.hid (hb.out.trans (hq.mono hb.out.size))
                clear hq
                go_wp2_with fail
                go_ret
                exact ⟨rfl, hb.out⟩
              · have hjd : (sj == sm) = false := by simpa using hjj
                replace hjj := Lib.hid hjj
                go_wp2_with fail
                go_quiet (fail)
                go_wp2_with fail
                go_roundw
                case rel => exact ⟨j + 1, by omega, by go_num, hL.out, below_drewN hb.out _, fun i hi h => by
                  by_cases he : i = j
                  · subst he; rw [hsj.out]; exact hjj.out
                  · exact hQ.out i hi (by omega)⟩
                case measure => simp [intOf]; omega
            · go_wp2_with fail
              go_roundw
              case rel => exact ⟨m + 1, by omega, by go_num, hL.out, hb.out, fun i hi h => by
                by_cases he : i = m
                · subst he; rw [hsm.out]; exact ⟨hz.out, fun j' hj' h' => hQ.out j' hj' (by omega)⟩
                · exact hP.out i hi (by omega)⟩
              case measure => simp [intOf]; omega
      · have hall : ∀ i (hi : i < L.length), L[i].sum ≠ 0 ∧ ∀ j (hj : j < L.length), j < i → L[j].sum ≠ L[i].sum := fun i hi => hP.out i hi (by have := hnl2.out; omega)
        have hsi := since_head (l := L) (k := k) (by rw [hnl2.out]; exact hkn) (fun x hx => by obtain ⟨i, hi, rfl⟩ := List.getElem_of_mem hx; exact (hall i hi).1) (fun i j hji hi hj => (hall i hi).2 j hj hji)
        have hS := fun w h => since_any AL nl cl L (headL (L.take k)) w h (by omega)
        rw [hsi] at hS
        have hH := fun w h => head_any AL k cl (L.take k) w h (by omega)
        generalize headL (L.take k) = hd at hS hH
        replace hS := Lib.hid hS
        replace hH := Lib.hid hH
        clear hall hP hsi
        go_wp2_with fail
        refine (hH.out _ (hL.out.take hkn)).mono ?_; rintro e w6 ⟨rfl, rfl⟩
        go_wp2_with fail
        refine (hS.out _ hL.out).mono ?_; rintro e w7 ⟨⟨A2, n2, c2, rfl, h2, -⟩, hq⟩
        have hb := Lib.hid (hb.out.trans (hq.mono hb.out.size))
        have hL := Lib.hid (hL.out.more hq)
        have hn2 : nl - k = n2 := by have := h2.len; dsimp only at this; rw [List.length_drop, hnl2.out] at this; exact this
        have hcut := hL.out.cut (cap := cl) hkn hnc
        rw [hn2] at hcut
        have hn2b : n2 ≤ 30 := by omega
        have hSm := fun A3 c3 h3 => same_self A2 A3 n2 c2 c3 (L.drop k) w7 h2 h3 (by omega)
        replace h2 := Lib.hid h2
        replace hSm := Lib.hid hSm
        clear hq
        by_cases hck : cl = k
        · rw [if_pos hck] at hcut
          replace hcut := Lib.hid hcut
          go_wp2_with fail
          refine (hSm.out _ _ hcut.out).mono ?_; rintro e w8 ⟨rfl, hq⟩
          have hb := Lib.hid (hb.out.trans (hq.mono hb.out.size))
          clear hq
          go_wp2_with fail
          refine (awakeL_any _).mono ?_; rintro e wa ⟨rfl, hq⟩
          have hb := Lib.hid (hb.out.trans (hq.mono hb.out.size))
          clear hq
          go_wp2_with fail
          go_ret
          exact ⟨rfl, hb.out⟩
        · rw [if_neg hck] at hcut
          replace hcut := Lib.hid hcut
          go_wp2_with fail
          refine (hSm.out _ _ hcut.out).mono ?_; rintro e w8 ⟨rfl, hq⟩
          have hb := Lib.hid (hb.out.trans (hq.mono hb.out.size))
          clear hq
          go_wp2_with fail
          refine (awakeL_any _).mono ?_; rintro e wa ⟨rfl, hq⟩
          have hb := Lib.hid (hb.out.trans (hq.mono hb.out.size))
          clear hq
          go_wp2_with fail
          go_ret
          exact ⟨rfl, hb.out⟩
end Go.Proofs.Ytiggpgeldigknaa
