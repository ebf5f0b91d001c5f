/- Replicated servers: greatest, walked. -/
import Derived.Test.YtiapeenfggjpnaaPB
set_option linter.unusedVariables false
set_option linter.unusedSimpArgs false
namespace Go.Proofs.Ytiapeenfggjpnaa
open Go.RowKit
theorem lit_arr (tm : Array Value) (n : Nat) (h : tm.size = n) : tm = ((List.range n).map fun i => tm[i]?.getD undef).toArray := by
  subst h
  apply Array.ext'
  apply List.ext_getElem?
  intro i
  simp only [Array.getElem?_toList, List.getElem?_map]
  by_cases hi : i < tm.size
  · rw [List.getElem?_eq_getElem (by simpa using hi)]
    simp [hi]
  · rw [List.getElem?_eq_none (by simpa using hi)]
    simp [hi]
theorem aheadM_val {a b : Sm} (ha : a.log.length = a.n) (hb : b.log.length = b.n) : aheadM a b = aheadS a.val b.val := by
  unfold aheadM aheadS Sm.val
  simp only [List.length_map, ha, hb]
theorem grF_cons (p : Sv → Bool) (L : List Sv) (k : Nat) (b : Option (Nat × Sv)) (x : Sv) (h : L[k]? = some x) : grF p (L.drop k) k b = grF p (L.drop (k + 1)) (k + 1) (if better p b x then some (k, x) else b) := by
  obtain ⟨hk, rfl⟩ := List.getElem?_eq_some_iff.1 h
  rw [List.drop_eq_getElem_cons hk]
  rfl
def F39 (fp n c gx j : Nat) (ad : Addr) (b : Int) (x y : Sm) (px nb bf : Bool) : Tmp → Value → World → Prop
  | 0, v, _ => v = .slice (some ad) n c
  | 1, v, _ => v = .func (.func fp) #[] #[]
  | 2, v, _ => v = .func (.func 41) #[] #[]
  | 7, v, _ => v = .int .i64 b
  | 9, v, _ => v = .pointer (some ⟨gx, 0, none⟩)
  | 17, v, _ => v = .func (.func fp) #[] #[]
  | 18, v, _ => v = svV x
  | 19, v, _ => v = .bool px
  | 20, v, _ => v = .bool px
  | 21, v, _ => (px = true → v = .int .i64 b)
  | 22, v, _ => (px = true → v = .bool nb)
  | 23, v, _ => v = if px = true then .bool nb else undef
  | 24, v, _ => (px = true → nb = false → v = .func (.func 41) #[] #[])
  | 25, v, _ => (px = true → nb = false → v = .slice (some ad) n c)
  | 26, v, _ => (px = true → nb = false → v = .int .i64 (j : Int))
  | 27, v, _ => (px = true → nb = false → v = .pointer (some (ad.add (j * 3))))
  | 28, v, _ => (px = true → nb = false → v = svV y)
  | 29, v, _ => (px = true → nb = false → v = svV x)
  | 30, v, _ => (px = true → nb = false → v = .bool bf)
  | 31, v, _ => (px = true → nb = false → v = .bool (!bf))
  | 32, v, _ => (px = true → v = .bool (nb || !bf))
  | 33, v, _ => v = .bool (px && (nb || !bf))
  | _, _, _ => True
theorem F39_more {fp n c gx j : Nat} {ad : Addr} {b : Int} {x y : Sm} {px nb bf : Bool} (d t : Tmp) (v : Value) (w w' : World) (hR : Rb w w') (hne : t ≠ d) (hc : ([] : List (Tmp × Tmp)).contains (d, t) = false) (h : F39 fp n c gx j ad b x y px nb bf t v w) : F39 fp n c gx j ad b x y px nb bf t v w' := by
  unfold F39 at *
  split at h <;> first | exact h
theorem F39_lit (tm : Array Value) (hs : tm.size = 37) : tm = #[tm[0]?.getD undef, tm[1]?.getD undef, tm[2]?.getD undef, tm[3]?.getD undef, tm[4]?.getD undef, tm[5]?.getD undef, tm[6]?.getD undef, tm[7]?.getD undef, tm[8]?.getD undef, tm[9]?.getD undef, tm[10]?.getD undef, tm[11]?.getD undef, tm[12]?.getD undef, tm[13]?.getD undef, tm[14]?.getD undef, tm[15]?.getD undef, tm[16]?.getD undef, tm[17]?.getD undef, tm[18]?.getD undef, tm[19]?.getD undef, tm[20]?.getD undef, tm[21]?.getD undef, tm[22]?.getD undef, tm[23]?.getD undef, tm[24]?.getD undef, tm[25]?.getD undef, tm[26]?.getD undef, tm[27]?.getD undef, tm[28]?.getD undef, tm[29]?.getD undef, tm[30]?.getD undef, tm[31]?.getD undef, tm[32]?.getD undef, tm[33]?.getD undef, tm[34]?.getD undef, tm[35]?.getD undef, tm[36]?.getD undef] := lit_arr tm 37 hs
set_option maxRecDepth 100000 in
set_option maxHeartbeats 8000000 in
theorem greatA_any (P : Sv → Bool) (hp : ∀ (s : Sm) (w : World), Calls Try.prog 40 #[svV s] w fun e w' => e = .returned (.bool (P s.val)) ∧ Below w.heap.size w w')
    (A : Option Addr) (n c : Nat) (sl : List Sm) (w : World) (h : LAt svC 3 w w.heap.size A n sl) (hs : ∀ s ∈ sl, s.log.length = s.n) (hn : n ≤ 1000) :
    Calls Try.prog 39 #[.slice A n c, .func (.func 40) #[] #[], .func (.func 41) #[] #[]] w fun e w' => e = .returned (.int .i64 (idxO (greatS P (sl.map Sm.val)))) ∧ Below w.heap.size w w' := by
  have hl := Lib.hid h.len
  replace h := Lib.hid h
  replace hs := Lib.hid hs
  replace hp := Lib.hid hp
  go_enter Try.func39, Try.ntmps39
  go_wp2_with fail
  go_loopw [12, 7] (fun i v wr => ∃ (k : Nat) (bo : Option (Nat × Sv)), k ≤ n ∧ i = .int .i64 k ∧ v = .int .i64 (idxO bo) ∧ Hid (greatS P (sl.map Sm.val) = grF P ((sl.map Sm.val).drop k) k bo) ∧ Hid (∀ q, bo = some q → q.1 < k ∧ (sl.map Sm.val)[q.1]? = some q.2) ∧ Hid (Below w.heap.size w wr)) (fun i _ _ => n - (intOf i).toNat)
  case atStart => exact ⟨0, none, Nat.zero_le _, rfl, rfl, rfl, fun q e => by simp at e, Below.refl _ _⟩
  case round =>
    obtain ⟨k, bo, hkn, rfl, rfl, hst, hbo, hb⟩ := hrel
    by_cases hlt : k < n
    · have hkl : k < sl.length := by have := hl.out; omega
      have hk0 : (0 : Int) ≤ k := by omega
      have hk1 : (k : Int) < n := by omega
      obtain ⟨ad, hA, -, e0, e1, e2⟩ := sv_cells (h.out.below hb.out (Nat.le_refl _)) hlt
      obtain ⟨x, hx⟩ : ∃ x, x = sl[k] := ⟨_, rfl⟩
      rw [← hx] at e0 e1 e2
      have hLk : Hid ((sl.map Sm.val)[k]? = some x.val) := by show _ = _; rw [List.getElem?_map, List.getElem?_eq_getElem hkl, hx]; rfl
      replace hst : Hid (greatS P (sl.map Sm.val) = grF P ((sl.map Sm.val).drop (k + 1)) (k + 1) (if better P bo x.val then some (k, x.val) else bo)) := by show _ = _; rw [hst.out]; exact grF_cons _ _ _ _ _ hLk.out
      have hxn : x.log.length = x.n := hs.out x (by rw [hx]; exact List.getElem_mem hkl)
      obtain ⟨px, hpx⟩ : ∃ px, px = P x.val := ⟨_, rfl⟩
      obtain ⟨nb, hnb⟩ : ∃ nb, nb = decide (idxO bo < 0) := ⟨_, rfl⟩
      obtain ⟨j, y, hjy, hyv⟩ : ∃ (j : Nat) (y : Sm), (nb = false → idxO bo = (j : Int) ∧ (0 : Int) ≤ (j : Int) ∧ (j : Int) < (n : Int) ∧ ∃ hj : j < sl.length, y = sl[j]) ∧ better P bo x.val = (px && (nb || !(aheadM y x))) := by
        cases bo with
        | none => exact ⟨0, x, fun e => by rw [hnb] at e; simp [idxO] at e, by unfold better; rw [hpx, hnb]; simp [idxO]⟩
        | some q =>
          obtain ⟨h1, h2⟩ := hbo.out q rfl
          have hq : q.1 < sl.length := by omega
          refine ⟨q.1, sl[q.1], fun _ => ⟨rfl, by omega, by have := hl.out; omega, hq, rfl⟩, ?_⟩
          have h3 : q.2 = (sl[q.1]).val := by
            rw [List.getElem?_map, List.getElem?_eq_getElem hq] at h2
            injection h2 with h2
            exact h2.symm
          have h4 : nb = false := by rw [hnb]; exact decide_eq_false (by show ¬ ((q.1 : Int) < 0); omega)
          unfold better
          rw [h4, ← hpx, aheadM_val (hs.out _ (List.getElem_mem hq)) hxn]
          simp only [h3, Bool.false_or]
      obtain ⟨bf, hbf⟩ : ∃ bf, bf = aheadM y x := ⟨_, rfl⟩
      rw [← hbf] at hyv
      have hbe := Lib.hid hyv
      have hj : Hid (nb = false → idxO bo = (j : Int) ∧ (0 : Int) ≤ (j : Int) ∧ (j : Int) < (n : Int)) := fun e => ⟨(hjy e).1, (hjy e).2.1, (hjy e).2.2.1⟩
      have hnb0 := Lib.hid hnb
      have hb2 : Hid (Below w.heap.size w (wr.alloc (.cells #[Value.bool x.up, Value.int .i64 x.view, Value.slice x.A x.n x.c] 47))) := hb.out.alloc hb.out.size _
      have hxb := Lib.hid (Blk.new wr 47 #[Value.bool x.up, Value.int .i64 x.view, Value.slice x.A x.n x.c])
      have hxc : Hid (∀ wz, Below (wr.alloc (.cells #[Value.bool x.up, Value.int .i64 x.view, Value.slice x.A x.n x.c] 47)).heap.size (wr.alloc (.cells #[Value.bool x.up, Value.int .i64 x.view, Value.slice x.A x.n x.c] 47)) wz → wz.cell? ⟨wr.heap.size, 0, none⟩ = some (Value.bool x.up) ∧ wz.cell? ⟨wr.heap.size, 1, none⟩ = some (Value.int .i64 x.view) ∧ wz.cell? ⟨wr.heap.size, 2, none⟩ = some (Value.slice x.A x.n x.c)) := fun wz hz => by
        have q := hxb.out.below hz hxb.out.lt
        exact ⟨q.cell 0, q.cell 1, q.cell 2⟩
      have hyc : Hid (nb = false → ∀ wz, Below (wr.alloc (.cells #[Value.bool x.up, Value.int .i64 x.view, Value.slice x.A x.n x.c] 47)).heap.size (wr.alloc (.cells #[Value.bool x.up, Value.int .i64 x.view, Value.slice x.A x.n x.c] 47)) wz → wz.cell? (ad.add (j * 3)) = some (Value.bool y.up) ∧ wz.cell? ⟨(ad.add (j * 3)).block, (ad.add (j * 3)).off + 1, none⟩ = some (Value.int .i64 y.view) ∧ wz.cell? ⟨(ad.add (j * 3)).block, (ad.add (j * 3)).off + 2, none⟩ = some (Value.slice y.A y.n y.c)) := fun e wz hz => by
        obtain ⟨h1, -, -, h4, rfl⟩ := hjy e
        obtain ⟨ad', hA', -, q⟩ := sv_cells (h.out.below (hb2.out.trans (hz.mono hb2.out.size)) (Nat.le_refl _)) (show j < n by have := hl.out; omega)
        rw [hA] at hA'
        injection hA' with hA'
        subst hA'
        exact q
      have hpc : Hid (∀ wz, Calls Try.prog 40 #[svV x] wz fun e w' => e = .returned (.bool px) ∧ Below wz.heap.size wz w') := fun wz => by rw [hpx]; exact hp.out x wz
      have hac : Hid (∀ wz, Calls Try.prog 41 #[svV y, svV x] wz fun e w' => e = .returned (.bool bf) ∧ Below wz.heap.size wz w') := fun wz => by rw [hbf]; exact ahead_any y x wz
      clear hjy hyv hbf hpx hnb hx hxn hxb
      subst hA
      go_wp2_with fail
      refine RM.region [] [] (F := F39 40 n c wr.heap.size j ad (idxO bo) x y px nb bf) (W := fun wz => Below (wr.alloc (.cells #[Value.bool x.up, Value.int .i64 x.view, Value.slice x.A x.n x.c] 47)).heap.size (wr.alloc (.cells #[Value.bool x.up, Value.int .i64 x.view, Value.slice x.A x.n x.c] 47)) wz) (R := fun _ => Rb) (S := noS) (G := noG) rfl F39_more (fun _ _ _ _ _ _ _ => trivial) (fun _ _ _ _ _ h => h.elim) (fun _ _ _ _ _ h => h.elim) (by kernel_rfl) (by kernel_rfl) (by kernel_rfl) (by kernel_rfl) (by kernel_rfl) ?_ ?_ ?_ (by kernel_rfl) ?_
      · exact (Below.refl _ _).drew
      · intro t ht
        unfold F39
        split <;> first | trivial | exact rfl | (exact absurd ht (by decide))
      · simp only [List.forall_mem_cons, List.not_mem_nil, false_implies, implies_true, and_true]
        refine ⟨?_, ?_, ?_, ?_, ?_, ?_, ?_, ?_, ?_, ?_, ?_, ?_, ?_, ?_, ?_, ?_, ?_⟩
        · intro a w2 hw _ hf K hK
          have f0 := hf 1 rfl
          simp only [F39] at f0
          clear hf
          go_simp
          exact hK _ _ _ rfl rfl hw (Below.refl _ _) (fun h => absurd h (by decide))
        · intro a w2 hw _ hf K hK
          have f0 := hf 9 rfl
          simp only [F39] at f0
          clear hf
          obtain ⟨x0, x1, x2⟩ := hxc.out w2 hw
          go_simp
          exact hK _ _ _ rfl rfl hw (Below.refl _ _) (fun h => absurd h (by decide))
        · intro a w2 hw _ hf K hK
          have f0 := hf 17 rfl
          have f1 := hf 18 rfl
          simp only [F39] at f0 f1
          clear hf
          go_simp
          refine (hpc.out w2).mono ?_; rintro e w5 ⟨rfl, hbq⟩
          exact hK _ _ _ rfl rfl (hw.trans (hbq.mono hw.size)) hbq (fun h => absurd h (by decide))
        · intro a w2 hw _ hf K hK
          have f0 := hf 19 rfl
          simp only [F39] at f0
          clear hf
          go_simp
          exact hK _ _ _ rfl rfl hw (Below.refl _ _) (fun h => absurd h (by decide))
        · refine ⟨?_, ?_⟩
          · intro a w2 hw hg hf K hK
            have f0 := hf 7 rfl
            simp only [F39] at f0
            simp only [F39] at hg
            replace hg := (Value.bool.inj hg).symm
            clear hf
            go_simp
            exact hK _ _ _ rfl (fun h1 => rfl) hw (Below.refl _ _) (fun h => absurd h (by decide))
          · intro v w _ hv hne; simp only [F39] at hv ⊢; intro h; exact absurd (hv.trans (by rw [h])) hne
        · refine ⟨?_, ?_⟩
          · intro a w2 hw hg hf K hK
            have f0 := hf 21 rfl
            simp only [F39] at f0
            simp only [F39] at hg
            replace hg := (Value.bool.inj hg).symm
            clear hf
            replace f0 := f0 hg
            go_simp
            exact hK _ _ _ rfl (fun h1 => by rw [hnb0.out]) hw (Below.refl _ _) (fun h => absurd h (by decide))
          · intro v w _ hv hne; simp only [F39] at hv ⊢; intro h; exact absurd (hv.trans (by rw [h])) hne
        · refine ⟨?_, ?_⟩
          · intro a w2 hw hg hf K hK
            have f0 := hf 22 rfl
            simp only [F39] at f0
            simp only [F39] at hg
            replace hg := (Value.bool.inj hg).symm
            clear hf
            replace f0 := f0 hg
            go_simp
            exact hK _ _ _ rfl (by show _ = _; rw [if_pos hg]) hw (Below.refl _ _) (fun h => absurd h (by decide))
          · intro v w _ hv hne; simp only [F39] at hv ⊢; rw [if_neg (fun h => hne (hv.trans (by rw [h])))]
        · refine ⟨?_, ?_⟩
          · intro a w2 hw hg hf K hK
            have f0 := hf 2 rfl
            simp only [F39] at f0
            simp only [F39] at hg
            have hpx : px = true := by cases px with
              | true => rfl
              | false => exact absurd (hg.trans (if_neg (by decide))) (by intro h; cases h)
            have hnb : nb = false := by
              subst hpx
              simpa using hg.symm
            clear hg
            clear hf
            skip
            go_simp
            exact hK _ _ _ rfl (fun h1 h2 => rfl) hw (Below.refl _ _) (fun h => absurd h (by decide))
          · intro v w _ hv hne; simp only [F39] at hv ⊢; intro h1 h2; rw [h1, h2] at hv; exact absurd hv hne
        · refine ⟨?_, ?_⟩
          · intro a w2 hw hg hf K hK
            have f0 := hf 0 rfl
            simp only [F39] at f0
            simp only [F39] at hg
            have hpx : px = true := by cases px with
              | true => rfl
              | false => exact absurd (hg.trans (if_neg (by decide))) (by intro h; cases h)
            have hnb : nb = false := by
              subst hpx
              simpa using hg.symm
            clear hg
            clear hf
            skip
            go_simp
            exact hK _ _ _ rfl (fun h1 h2 => rfl) hw (Below.refl _ _) (fun h => absurd h (by decide))
          · intro v w _ hv hne; simp only [F39] at hv ⊢; intro h1 h2; rw [h1, h2] at hv; exact absurd hv hne
        · refine ⟨?_, ?_⟩
          · intro a w2 hw hg hf K hK
            have f0 := hf 7 rfl
            simp only [F39] at f0
            simp only [F39] at hg
            have hpx : px = true := by cases px with
              | true => rfl
              | false => exact absurd (hg.trans (if_neg (by decide))) (by intro h; cases h)
            have hnb : nb = false := by
              subst hpx
              simpa using hg.symm
            clear hg
            clear hf
            skip
            have hbj := hj.out hnb
            rw [hbj.1] at f0
            go_simp
            exact hK _ _ _ rfl (fun h1 h2 => rfl) hw (Below.refl _ _) (fun h => absurd h (by decide))
          · intro v w _ hv hne; simp only [F39] at hv ⊢; intro h1 h2; rw [h1, h2] at hv; exact absurd hv hne
        · refine ⟨?_, ?_⟩
          · intro a w2 hw hg hf K hK
            have f0 := hf 25 rfl
            have f1 := hf 26 rfl
            simp only [F39] at f0 f1
            simp only [F39] at hg
            have hpx : px = true := by cases px with
              | true => rfl
              | false => exact absurd (hg.trans (if_neg (by decide))) (by intro h; cases h)
            have hnb : nb = false := by
              subst hpx
              simpa using hg.symm
            clear hg
            clear hf
            replace f0 := f0 hpx hnb
            replace f1 := f1 hpx hnb
            obtain ⟨hbj, hj0, hj1⟩ := hj.out hnb
            clear hbj
            go_simp
            exact hK _ _ _ rfl (fun h1 h2 => rfl) hw (Below.refl _ _) (fun h => absurd h (by decide))
          · intro v w _ hv hne; simp only [F39] at hv ⊢; intro h1 h2; rw [h1, h2] at hv; exact absurd hv hne
        · refine ⟨?_, ?_⟩
          · intro a w2 hw hg hf K hK
            have f0 := hf 27 rfl
            simp only [F39] at f0
            simp only [F39] at hg
            have hpx : px = true := by cases px with
              | true => rfl
              | false => exact absurd (hg.trans (if_neg (by decide))) (by intro h; cases h)
            have hnb : nb = false := by
              subst hpx
              simpa using hg.symm
            clear hg
            clear hf
            replace f0 := f0 hpx hnb
            obtain ⟨y0, y1, y2⟩ := hyc.out hnb w2 hw
            go_simp
            exact hK _ _ _ rfl (fun h1 h2 => rfl) hw (Below.refl _ _) (fun h => absurd h (by decide))
          · intro v w _ hv hne; simp only [F39] at hv ⊢; intro h1 h2; rw [h1, h2] at hv; exact absurd hv hne
        · refine ⟨?_, ?_⟩
          · intro a w2 hw hg hf K hK
            have f0 := hf 9 rfl
            simp only [F39] at f0
            simp only [F39] at hg
            have hpx : px = true := by cases px with
              | true => rfl
              | false => exact absurd (hg.trans (if_neg (by decide))) (by intro h; cases h)
            have hnb : nb = false := by
              subst hpx
              simpa using hg.symm
            clear hg
            clear hf
            skip
            obtain ⟨x0, x1, x2⟩ := hxc.out w2 hw
            go_simp
            exact hK _ _ _ rfl (fun h1 h2 => rfl) hw (Below.refl _ _) (fun h => absurd h (by decide))
          · intro v w _ hv hne; simp only [F39] at hv ⊢; intro h1 h2; rw [h1, h2] at hv; exact absurd hv hne
        · refine ⟨?_, ?_⟩
          · intro a w2 hw hg hf K hK
            have f0 := hf 24 rfl
            have f1 := hf 28 rfl
            have f2 := hf 29 rfl
            simp only [F39] at f0 f1 f2
            simp only [F39] at hg
            have hpx : px = true := by cases px with
              | true => rfl
              | false => exact absurd (hg.trans (if_neg (by decide))) (by intro h; cases h)
            have hnb : nb = false := by
              subst hpx
              simpa using hg.symm
            clear hg
            clear hf
            replace f0 := f0 hpx hnb
            replace f1 := f1 hpx hnb
            replace f2 := f2 hpx hnb
            go_simp
            refine (hac.out w2).mono ?_; rintro e w5 ⟨rfl, hbq⟩
            exact hK _ _ _ rfl (fun h1 h2 => rfl) (hw.trans (hbq.mono hw.size)) hbq (fun h => absurd h (by decide))
          · intro v w _ hv hne; simp only [F39] at hv ⊢; intro h1 h2; rw [h1, h2] at hv; exact absurd hv hne
        · refine ⟨?_, ?_⟩
          · intro a w2 hw hg hf K hK
            have f0 := hf 30 rfl
            simp only [F39] at f0
            simp only [F39] at hg
            have hpx : px = true := by cases px with
              | true => rfl
              | false => exact absurd (hg.trans (if_neg (by decide))) (by intro h; cases h)
            have hnb : nb = false := by
              subst hpx
              simpa using hg.symm
            clear hg
            clear hf
            replace f0 := f0 hpx hnb
            go_simp
            exact hK _ _ _ rfl (fun h1 h2 => rfl) hw (Below.refl _ _) (fun h => absurd h (by decide))
          · intro v w _ hv hne; simp only [F39] at hv ⊢; intro h1 h2; rw [h1, h2] at hv; exact absurd hv hne
        · refine ⟨?_, ?_⟩
          · intro a w2 hw hg hf K hK
            have f0 := hf 23 rfl
            have f1 := hf 31 rfl
            simp only [F39] at f0 f1
            simp only [F39] at hg
            replace hg := (Value.bool.inj hg).symm
            clear hf
            rw [if_pos hg] at f0
            replace f1 := f1 hg
            clear hg
            cases nb with
            | true =>
              go_simp
              exact hK _ _ _ rfl (fun h1 => rfl) hw (Below.refl _ _) (fun h => absurd h (by decide))
            | false =>
              replace f1 := f1 rfl
              go_simp
              exact hK _ _ _ rfl (fun h1 => rfl) hw (Below.refl _ _) (fun h => absurd h (by decide))
          · intro v w _ hv hne; simp only [F39] at hv ⊢; intro h; exact absurd (hv.trans (by rw [h])) hne
        · intro a w2 hw _ hf K hK
          have f0 := hf 20 rfl
          have f1 := hf 32 rfl
          simp only [F39] at f0 f1
          clear hf
          cases px with
          | false =>
            go_simp
            exact hK _ _ _ rfl rfl hw (Below.refl _ _) (fun h => absurd h (by decide))
          | true =>
            replace f1 := f1 rfl
            go_simp
            exact hK _ _ _ rfl rfl hw (Below.refl _ _) (fun h => absurd h (by decide))
      · intro a' w9 hd hs hw hout hf _
        have h33 := hf 33 rfl
        simp only [F39] at h33
        have e0 : _ = some (Value.slice (some ad) n c) := hout 0 rfl
        have e1 : _ = some (Value.func (.func 40) #[] #[]) := hout 1 rfl
        have e2 : _ = some (Value.func (.func 41) #[] #[]) := hout 2 rfl
        have e3 : _ = some (undef) := hout 3 rfl
        have e4 : _ = some (undef) := hout 4 rfl
        have e5 : _ = some (undef) := hout 5 rfl
        have e6 : _ = some (Value.int .i64 0) := hout 6 rfl
        have e7 : _ = some (Value.int .i64 (idxO bo)) := hout 7 rfl
        have e8 : _ = some (Value.int .i64 (k : Int)) := hout 8 rfl
        have e9 : _ = some (Value.pointer (some ⟨wr.heap.size, 0, none⟩)) := hout 9 rfl
        have e10 : _ = some (Value.slice (some ad) n c) := hout 10 rfl
        have e11 : _ = some (Value.int .i64 (n : Int)) := hout 11 rfl
        have e12 : _ = some (Value.int .i64 (k : Int)) := hout 12 rfl
        have e13 : _ = some (Value.bool true) := hout 13 rfl
        have e36 : _ = some (undef) := hout 36 rfl
        obtain ⟨tm, df⟩ := a'
        simp only at hd hs h33 e0 e1 e2 e3 e4 e5 e6 e7 e8 e9 e10 e11 e12 e13 e36
        have e := F39_lit tm hs
        simp only [h33, e0, e1, e2, e3, e4, e5, e6, e7, e8, e9, e10, e11, e12, e13, e36, Option.getD_some] at e
        clear hf hout hs
        rw [e, hd]
        clear e hd h33 e0 e1 e2 e3 e4 e5 e6 e7 e8 e9 e10 e11 e12 e13 e36
        generalize tm[14]?.getD undef = u14x, tm[15]?.getD undef = u15x, tm[16]?.getD undef = u16x, tm[17]?.getD undef = u17x, tm[18]?.getD undef = u18x, tm[19]?.getD undef = u19x, tm[20]?.getD undef = u20x, tm[21]?.getD undef = u21x, tm[22]?.getD undef = u22x, tm[23]?.getD undef = u23x, tm[24]?.getD undef = u24x, tm[25]?.getD undef = u25x, tm[26]?.getD undef = u26x, tm[27]?.getD undef = u27x, tm[28]?.getD undef = u28x, tm[29]?.getD undef = u29x, tm[30]?.getD undef = u30x, tm[31]?.getD undef = u31x, tm[32]?.getD undef = u32x, tm[34]?.getD undef = u34x, tm[35]?.getD undef = u35x
        have hw9 := Lib.hid hw
        clear hxc hpc hac hyc hj hw
        cases hbt : (px && (nb || !bf)) with
        | true =>
          replace hst : Hid (greatS P (sl.map Sm.val) = grF P ((sl.map Sm.val).drop (k + 1)) (k + 1) (some (k, x.val))) := by
            show _ = _
            rw [hst.out, hbe.out, hbt]
            rfl
          clear hbt hbe
          go_wp2_with fail
          go_roundw
          case rel => exact ⟨k + 1, some (k, x.val), by omega, by go_num, rfl, hst.out, fun q e => by injection e with e; subst e; exact ⟨Nat.lt_succ_self _, hLk.out⟩, hb2.out.trans (hw9.out.mono hb2.out.size)⟩
          case measure => simp [intOf]; omega
        | false =>
          replace hst : Hid (greatS P (sl.map Sm.val) = grF P ((sl.map Sm.val).drop (k + 1)) (k + 1) bo) := by
            show _ = _
            rw [hst.out, hbe.out, hbt]
            rfl
          clear hbt hbe
          go_wp2_with fail
          go_roundw
          case rel => exact ⟨k + 1, bo, by omega, by go_num, rfl, hst.out, fun q e => ⟨Nat.lt_succ_of_lt (hbo.out q e).1, (hbo.out q e).2⟩, hb2.out.trans (hw9.out.mono hb2.out.size)⟩
          case measure => simp [intOf]; omega
    · have hF : Hid (greatS P (sl.map Sm.val) = bo) := by show _ = _; rw [hst.out, List.drop_eq_nil_of_le (by have := hl.out; simp; omega)]; rfl
      go_wp2_with fail
      go_ret
      exact ⟨by rw [hF.out]; rfl, hb.out⟩
set_option maxRecDepth 100000 in
set_option maxHeartbeats 8000000 in
theorem greatU_any (P : Sv → Bool) (hp : ∀ (s : Sm) (w : World), Calls Try.prog 47 #[svV s] w fun e w' => e = .returned (.bool (P s.val)) ∧ Below w.heap.size w w')
    (A : Option Addr) (n c : Nat) (sl : List Sm) (w : World) (h : LAt svC 3 w w.heap.size A n sl) (hs : ∀ s ∈ sl, s.log.length = s.n) (hn : n ≤ 1000) :
    Calls Try.prog 39 #[.slice A n c, .func (.func 47) #[] #[], .func (.func 41) #[] #[]] w fun e w' => e = .returned (.int .i64 (idxO (greatS P (sl.map Sm.val)))) ∧ Below w.heap.size w w' := by
  have hl := Lib.hid h.len
  replace h := Lib.hid h
  replace hs := Lib.hid hs
  replace hp := Lib.hid hp
  go_enter Try.func39, Try.ntmps39
  go_wp2_with fail
  go_loopw [12, 7] (fun i v wr => ∃ (k : Nat) (bo : Option (Nat × Sv)), k ≤ n ∧ i = .int .i64 k ∧ v = .int .i64 (idxO bo) ∧ Hid (greatS P (sl.map Sm.val) = grF P ((sl.map Sm.val).drop k) k bo) ∧ Hid (∀ q, bo = some q → q.1 < k ∧ (sl.map Sm.val)[q.1]? = some q.2) ∧ Hid (Below w.heap.size w wr)) (fun i _ _ => n - (intOf i).toNat)
  case atStart => exact ⟨0, none, Nat.zero_le _, rfl, rfl, rfl, fun q e => by simp at e, Below.refl _ _⟩
  case round =>
    obtain ⟨k, bo, hkn, rfl, rfl, hst, hbo, hb⟩ := hrel
    by_cases hlt : k < n
    · have hkl : k < sl.length := by have := hl.out; omega
      have hk0 : (0 : Int) ≤ k := by omega
      have hk1 : (k : Int) < n := by omega
      obtain ⟨ad, hA, -, e0, e1, e2⟩ := sv_cells (h.out.below hb.out (Nat.le_refl _)) hlt
      obtain ⟨x, hx⟩ : ∃ x, x = sl[k] := ⟨_, rfl⟩
      rw [← hx] at e0 e1 e2
      have hLk : Hid ((sl.map Sm.val)[k]? = some x.val) := by show _ = _; rw [List.getElem?_map, List.getElem?_eq_getElem hkl, hx]; rfl
      replace hst : Hid (greatS P (sl.map Sm.val) = grF P ((sl.map Sm.val).drop (k + 1)) (k + 1) (if better P bo x.val then some (k, x.val) else bo)) := by show _ = _; rw [hst.out]; exact grF_cons _ _ _ _ _ hLk.out
      have hxn : x.log.length = x.n := hs.out x (by rw [hx]; exact List.getElem_mem hkl)
      obtain ⟨px, hpx⟩ : ∃ px, px = P x.val := ⟨_, rfl⟩
      obtain ⟨nb, hnb⟩ : ∃ nb, nb = decide (idxO bo < 0) := ⟨_, rfl⟩
      obtain ⟨j, y, hjy, hyv⟩ : ∃ (j : Nat) (y : Sm), (nb = false → idxO bo = (j : Int) ∧ (0 : Int) ≤ (j : Int) ∧ (j : Int) < (n : Int) ∧ ∃ hj : j < sl.length, y = sl[j]) ∧ better P bo x.val = (px && (nb || !(aheadM y x))) := by
        cases bo with
        | none => exact ⟨0, x, fun e => by rw [hnb] at e; simp [idxO] at e, by unfold better; rw [hpx, hnb]; simp [idxO]⟩
        | some q =>
          obtain ⟨h1, h2⟩ := hbo.out q rfl
          have hq : q.1 < sl.length := by omega
          refine ⟨q.1, sl[q.1], fun _ => ⟨rfl, by omega, by have := hl.out; omega, hq, rfl⟩, ?_⟩
          have h3 : q.2 = (sl[q.1]).val := by
            rw [List.getElem?_map, List.getElem?_eq_getElem hq] at h2
            injection h2 with h2
            exact h2.symm
          have h4 : nb = false := by rw [hnb]; exact decide_eq_false (by show ¬ ((q.1 : Int) < 0); omega)
          unfold better
          rw [h4, ← hpx, aheadM_val (hs.out _ (List.getElem_mem hq)) hxn]
          simp only [h3, Bool.false_or]
      obtain ⟨bf, hbf⟩ : ∃ bf, bf = aheadM y x := ⟨_, rfl⟩
      rw [← hbf] at hyv
      have hbe := Lib.hid hyv
      have hj : Hid (nb = false → idxO bo = (j : Int) ∧ (0 : Int) ≤ (j : Int) ∧ (j : Int) < (n : Int)) := fun e => ⟨(hjy e).1, (hjy e).2.1, (hjy e).2.2.1⟩
      have hnb0 := Lib.hid hnb
      have hb2 : Hid (Below w.heap.size w (wr.alloc (.cells #[Value.bool x.up, Value.int .i64 x.view, Value.slice x.A x.n x.c] 47))) := hb.out.alloc hb.out.size _
      have hxb := Lib.hid (Blk.new wr 47 #[Value.bool x.up, Value.int .i64 x.view, Value.slice x.A x.n x.c])
      have hxc : Hid (∀ wz, Below (wr.alloc (.cells #[Value.bool x.up, Value.int .i64 x.view, Value.slice x.A x.n x.c] 47)).heap.size (wr.alloc (.cells #[Value.bool x.up, Value.int .i64 x.view, Value.slice x.A x.n x.c] 47)) wz → wz.cell? ⟨wr.heap.size, 0, none⟩ = some (Value.bool x.up) ∧ wz.cell? ⟨wr.heap.size, 1, none⟩ = some (Value.int .i64 x.view) ∧ wz.cell? ⟨wr.heap.size, 2, none⟩ = some (Value.slice x.A x.n x.c)) := fun wz hz => by
        have q := hxb.out.below hz hxb.out.lt
        exact ⟨q.cell 0, q.cell 1, q.cell 2⟩
      have hyc : Hid (nb = false → ∀ wz, Below (wr.alloc (.cells #[Value.bool x.up, Value.int .i64 x.view, Value.slice x.A x.n x.c] 47)).heap.size (wr.alloc (.cells #[Value.bool x.up, Value.int .i64 x.view, Value.slice x.A x.n x.c] 47)) wz → wz.cell? (ad.add (j * 3)) = some (Value.bool y.up) ∧ wz.cell? ⟨(ad.add (j * 3)).block, (ad.add (j * 3)).off + 1, none⟩ = some (Value.int .i64 y.view) ∧ wz.cell? ⟨(ad.add (j * 3)).block, (ad.add (j * 3)).off + 2, none⟩ = some (Value.slice y.A y.n y.c)) := fun e wz hz => by
        obtain ⟨h1, -, -, h4, rfl⟩ := hjy e
        obtain ⟨ad', hA', -, q⟩ := sv_cells (h.out.below (hb2.out.trans (hz.mono hb2.out.size)) (Nat.le_refl _)) (show j < n by have := hl.out; omega)
        rw [hA] at hA'
        injection hA' with hA'
        subst hA'
        exact q
      have hpc : Hid (∀ wz, Calls Try.prog 47 #[svV x] wz fun e w' => e = .returned (.bool px) ∧ Below wz.heap.size wz w') := fun wz => by rw [hpx]; exact hp.out x wz
      have hac : Hid (∀ wz, Calls Try.prog 41 #[svV y, svV x] wz fun e w' => e = .returned (.bool bf) ∧ Below wz.heap.size wz w') := fun wz => by rw [hbf]; exact ahead_any y x wz
      clear hjy hyv hbf hpx hnb hx hxn hxb
      subst hA
      go_wp2_with fail
      refine RM.region [] [] (F := F39 47 n c wr.heap.size j ad (idxO bo) x y px nb bf) (W := fun wz => Below (wr.alloc (.cells #[Value.bool x.up, Value.int .i64 x.view, Value.slice x.A x.n x.c] 47)).heap.size (wr.alloc (.cells #[Value.bool x.up, Value.int .i64 x.view, Value.slice x.A x.n x.c] 47)) wz) (R := fun _ => Rb) (S := noS) (G := noG) rfl F39_more (fun _ _ _ _ _ _ _ => trivial) (fun _ _ _ _ _ h => h.elim) (fun _ _ _ _ _ h => h.elim) (by kernel_rfl) (by kernel_rfl) (by kernel_rfl) (by kernel_rfl) (by kernel_rfl) ?_ ?_ ?_ (by kernel_rfl) ?_
      · exact (Below.refl _ _).drew
      · intro t ht
        unfold F39
        split <;> first | trivial | exact rfl | (exact absurd ht (by decide))
      · simp only [List.forall_mem_cons, List.not_mem_nil, false_implies, implies_true, and_true]
        refine ⟨?_, ?_, ?_, ?_, ?_, ?_, ?_, ?_, ?_, ?_, ?_, ?_, ?_, ?_, ?_, ?_, ?_⟩
        · intro a w2 hw _ hf K hK
          have f0 := hf 1 rfl
          simp only [F39] at f0
          clear hf
          go_simp
          exact hK _ _ _ rfl rfl hw (Below.refl _ _) (fun h => absurd h (by decide))
        · intro a w2 hw _ hf K hK
          have f0 := hf 9 rfl
          simp only [F39] at f0
          clear hf
          obtain ⟨x0, x1, x2⟩ := hxc.out w2 hw
          go_simp
          exact hK _ _ _ rfl rfl hw (Below.refl _ _) (fun h => absurd h (by decide))
        · intro a w2 hw _ hf K hK
          have f0 := hf 17 rfl
          have f1 := hf 18 rfl
          simp only [F39] at f0 f1
          clear hf
          go_simp
          refine (hpc.out w2).mono ?_; rintro e w5 ⟨rfl, hbq⟩
          exact hK _ _ _ rfl rfl (hw.trans (hbq.mono hw.size)) hbq (fun h => absurd h (by decide))
        · intro a w2 hw _ hf K hK
          have f0 := hf 19 rfl
          simp only [F39] at f0
          clear hf
          go_simp
          exact hK _ _ _ rfl rfl hw (Below.refl _ _) (fun h => absurd h (by decide))
        · refine ⟨?_, ?_⟩
          · intro a w2 hw hg hf K hK
            have f0 := hf 7 rfl
            simp only [F39] at f0
            simp only [F39] at hg
            replace hg := (Value.bool.inj hg).symm
            clear hf
            go_simp
            exact hK _ _ _ rfl (fun h1 => rfl) hw (Below.refl _ _) (fun h => absurd h (by decide))
          · intro v w _ hv hne; simp only [F39] at hv ⊢; intro h; exact absurd (hv.trans (by rw [h])) hne
        · refine ⟨?_, ?_⟩
          · intro a w2 hw hg hf K hK
            have f0 := hf 21 rfl
            simp only [F39] at f0
            simp only [F39] at hg
            replace hg := (Value.bool.inj hg).symm
            clear hf
            replace f0 := f0 hg
            go_simp
            exact hK _ _ _ rfl (fun h1 => by rw [hnb0.out]) hw (Below.refl _ _) (fun h => absurd h (by decide))
          · intro v w _ hv hne; simp only [F39] at hv ⊢; intro h; exact absurd (hv.trans (by rw [h])) hne
        · refine ⟨?_, ?_⟩
          · intro a w2 hw hg hf K hK
            have f0 := hf 22 rfl
            simp only [F39] at f0
            simp only [F39] at hg
            replace hg := (Value.bool.inj hg).symm
            clear hf
            replace f0 := f0 hg
            go_simp
            exact hK _ _ _ rfl (by show _ = _; rw [if_pos hg]) hw (Below.refl _ _) (fun h => absurd h (by decide))
          · intro v w _ hv hne; simp only [F39] at hv ⊢; rw [if_neg (fun h => hne (hv.trans (by rw [h])))]
        · refine ⟨?_, ?_⟩
          · intro a w2 hw hg hf K hK
            have f0 := hf 2 rfl
            simp only [F39] at f0
            simp only [F39] at hg
            have hpx : px = true := by cases px with
              | true => rfl
              | false => exact absurd (hg.trans (if_neg (by decide))) (by intro h; cases h)
            have hnb : nb = false := by
              subst hpx
              simpa using hg.symm
            clear hg
            clear hf
            skip
            go_simp
            exact hK _ _ _ rfl (fun h1 h2 => rfl) hw (Below.refl _ _) (fun h => absurd h (by decide))
          · intro v w _ hv hne; simp only [F39] at hv ⊢; intro h1 h2; rw [h1, h2] at hv; exact absurd hv hne
        · refine ⟨?_, ?_⟩
          · intro a w2 hw hg hf K hK
            have f0 := hf 0 rfl
            simp only [F39] at f0
            simp only [F39] at hg
            have hpx : px = true := by cases px with
              | true => rfl
              | false => exact absurd (hg.trans (if_neg (by decide))) (by intro h; cases h)
            have hnb : nb = false := by
              subst hpx
              simpa using hg.symm
            clear hg
            clear hf
            skip
            go_simp
            exact hK _ _ _ rfl (fun h1 h2 => rfl) hw (Below.refl _ _) (fun h => absurd h (by decide))
          · intro v w _ hv hne; simp only [F39] at hv ⊢; intro h1 h2; rw [h1, h2] at hv; exact absurd hv hne
        · refine ⟨?_, ?_⟩
          · intro a w2 hw hg hf K hK
            have f0 := hf 7 rfl
            simp only [F39] at f0
            simp only [F39] at hg
            have hpx : px = true := by cases px with
              | true => rfl
              | false => exact absurd (hg.trans (if_neg (by decide))) (by intro h; cases h)
            have hnb : nb = false := by
              subst hpx
              simpa using hg.symm
            clear hg
            clear hf
            skip
            have hbj := hj.out hnb
            rw [hbj.1] at f0
            go_simp
            exact hK _ _ _ rfl (fun h1 h2 => rfl) hw (Below.refl _ _) (fun h => absurd h (by decide))
          · intro v w _ hv hne; simp only [F39] at hv ⊢; intro h1 h2; rw [h1, h2] at hv; exact absurd hv hne
        · refine ⟨?_, ?_⟩
          · intro a w2 hw hg hf K hK
            have f0 := hf 25 rfl
            have f1 := hf 26 rfl
            simp only [F39] at f0 f1
            simp only [F39] at hg
            have hpx : px = true := by cases px with
              | true => rfl
              | false => exact absurd (hg.trans (if_neg (by decide))) (by intro h; cases h)
            have hnb : nb = false := by
              subst hpx
              simpa using hg.symm
            clear hg
            clear hf
            replace f0 := f0 hpx hnb
            replace f1 := f1 hpx hnb
            obtain ⟨hbj, hj0, hj1⟩ := hj.out hnb
            clear hbj
            go_simp
            exact hK _ _ _ rfl (fun h1 h2 => rfl) hw (Below.refl _ _) (fun h => absurd h (by decide))
          · intro v w _ hv hne; simp only [F39] at hv ⊢; intro h1 h2; rw [h1, h2] at hv; exact absurd hv hne
        · refine ⟨?_, ?_⟩
          · intro a w2 hw hg hf K hK
            have f0 := hf 27 rfl
            simp only [F39] at f0
            simp only [F39] at hg
            have hpx : px = true := by cases px with
              | true => rfl
              | false => exact absurd (hg.trans (if_neg (by decide))) (by intro h; cases h)
            have hnb : nb = false := by
              subst hpx
              simpa using hg.symm
            clear hg
            clear hf
            replace f0 := f0 hpx hnb
            obtain ⟨y0, y1, y2⟩ := hyc.out hnb w2 hw
            go_simp
            exact hK _ _ _ rfl (fun h1 h2 => rfl) hw (Below.refl _ _) (fun h => absurd h (by decide))
          · intro v w _ hv hne; simp only [F39] at hv ⊢; intro h1 h2; rw [h1, h2] at hv; exact absurd hv hne
        · refine ⟨?_, ?_⟩
          · intro a w2 hw hg hf K hK
            have f0 := hf 9 rfl
            simp only [F39] at f0
            simp only [F39] at hg
            have hpx : px = true := by cases px with
              | true => rfl
              | false => exact absurd (hg.trans (if_neg (by decide))) (by intro h; cases h)
            have hnb : nb = false := by
              subst hpx
              simpa using hg.symm
            clear hg
            clear hf
            skip
            obtain ⟨x0, x1, x2⟩ := hxc.out w2 hw
            go_simp
            exact hK _ _ _ rfl (fun h1 h2 => rfl) hw (Below.refl _ _) (fun h => absurd h (by decide))
          · intro v w _ hv hne; simp only [F39] at hv ⊢; intro h1 h2; rw [h1, h2] at hv; exact absurd hv hne
        · refine ⟨?_, ?_⟩
          · intro a w2 hw hg hf K hK
            have f0 := hf 24 rfl
            have f1 := hf 28 rfl
            have f2 := hf 29 rfl
            simp only [F39] at f0 f1 f2
            simp only [F39] at hg
            have hpx : px = true := by cases px with
              | true => rfl
              | false => exact absurd (hg.trans (if_neg (by decide))) (by intro h; cases h)
            have hnb : nb = false := by
              subst hpx
              simpa using hg.symm
            clear hg
            clear hf
            replace f0 := f0 hpx hnb
            replace f1 := f1 hpx hnb
            replace f2 := f2 hpx hnb
            go_simp
            refine (hac.out w2).mono ?_; rintro e w5 ⟨rfl, hbq⟩
            exact hK _ _ _ rfl (fun h1 h2 => rfl) (hw.trans (hbq.mono hw.size)) hbq (fun h => absurd h (by decide))
          · intro v w _ hv hne; simp only [F39] at hv ⊢; intro h1 h2; rw [h1, h2] at hv; exact absurd hv hne
        · refine ⟨?_, ?_⟩
          · intro a w2 hw hg hf K hK
            have f0 := hf 30 rfl
            simp only [F39] at f0
            simp only [F39] at hg
            have hpx : px = true := by cases px with
              | true => rfl
              | false => exact absurd (hg.trans (if_neg (by decide))) (by intro h; cases h)
            have hnb : nb = false := by
              subst hpx
              simpa using hg.symm
            clear hg
            clear hf
            replace f0 := f0 hpx hnb
            go_simp
            exact hK _ _ _ rfl (fun h1 h2 => rfl) hw (Below.refl _ _) (fun h => absurd h (by decide))
          · intro v w _ hv hne; simp only [F39] at hv ⊢; intro h1 h2; rw [h1, h2] at hv; exact absurd hv hne
        · refine ⟨?_, ?_⟩
          · intro a w2 hw hg hf K hK
            have f0 := hf 23 rfl
            have f1 := hf 31 rfl
            simp only [F39] at f0 f1
            simp only [F39] at hg
            replace hg := (Value.bool.inj hg).symm
            clear hf
            rw [if_pos hg] at f0
            replace f1 := f1 hg
            clear hg
            cases nb with
            | true =>
              go_simp
              exact hK _ _ _ rfl (fun h1 => rfl) hw (Below.refl _ _) (fun h => absurd h (by decide))
            | false =>
              replace f1 := f1 rfl
              go_simp
              exact hK _ _ _ rfl (fun h1 => rfl) hw (Below.refl _ _) (fun h => absurd h (by decide))
          · intro v w _ hv hne; simp only [F39] at hv ⊢; intro h; exact absurd (hv.trans (by rw [h])) hne
        · intro a w2 hw _ hf K hK
          have f0 := hf 20 rfl
          have f1 := hf 32 rfl
          simp only [F39] at f0 f1
          clear hf
          cases px with
          | false =>
            go_simp
            exact hK _ _ _ rfl rfl hw (Below.refl _ _) (fun h => absurd h (by decide))
          | true =>
            replace f1 := f1 rfl
            go_simp
            exact hK _ _ _ rfl rfl hw (Below.refl _ _) (fun h => absurd h (by decide))
      · intro a' w9 hd hs hw hout hf _
        have h33 := hf 33 rfl
        simp only [F39] at h33
        have e0 : _ = some (Value.slice (some ad) n c) := hout 0 rfl
        have e1 : _ = some (Value.func (.func 47) #[] #[]) := hout 1 rfl
        have e2 : _ = some (Value.func (.func 41) #[] #[]) := hout 2 rfl
        have e3 : _ = some (undef) := hout 3 rfl
        have e4 : _ = some (undef) := hout 4 rfl
        have e5 : _ = some (undef) := hout 5 rfl
        have e6 : _ = some (Value.int .i64 0) := hout 6 rfl
        have e7 : _ = some (Value.int .i64 (idxO bo)) := hout 7 rfl
        have e8 : _ = some (Value.int .i64 (k : Int)) := hout 8 rfl
        have e9 : _ = some (Value.pointer (some ⟨wr.heap.size, 0, none⟩)) := hout 9 rfl
        have e10 : _ = some (Value.slice (some ad) n c) := hout 10 rfl
        have e11 : _ = some (Value.int .i64 (n : Int)) := hout 11 rfl
        have e12 : _ = some (Value.int .i64 (k : Int)) := hout 12 rfl
        have e13 : _ = some (Value.bool true) := hout 13 rfl
        have e36 : _ = some (undef) := hout 36 rfl
        obtain ⟨tm, df⟩ := a'
        simp only at hd hs h33 e0 e1 e2 e3 e4 e5 e6 e7 e8 e9 e10 e11 e12 e13 e36
        have e := F39_lit tm hs
        simp only [h33, e0, e1, e2, e3, e4, e5, e6, e7, e8, e9, e10, e11, e12, e13, e36, Option.getD_some] at e
        clear hf hout hs
        rw [e, hd]
        clear e hd h33 e0 e1 e2 e3 e4 e5 e6 e7 e8 e9 e10 e11 e12 e13 e36
        generalize tm[14]?.getD undef = u14x, tm[15]?.getD undef = u15x, tm[16]?.getD undef = u16x, tm[17]?.getD undef = u17x, tm[18]?.getD undef = u18x, tm[19]?.getD undef = u19x, tm[20]?.getD undef = u20x, tm[21]?.getD undef = u21x, tm[22]?.getD undef = u22x, tm[23]?.getD undef = u23x, tm[24]?.getD undef = u24x, tm[25]?.getD undef = u25x, tm[26]?.getD undef = u26x, tm[27]?.getD undef = u27x, tm[28]?.getD undef = u28x, tm[29]?.getD undef = u29x, tm[30]?.getD undef = u30x, tm[31]?.getD undef = u31x, tm[32]?.getD undef = u32x, tm[34]?.getD undef = u34x, tm[35]?.getD undef = u35x
        have hw9 := Lib.hid hw
        clear hxc hpc hac hyc hj hw
        cases hbt : (px && (nb || !bf)) with
        | true =>
          replace hst : Hid (greatS P (sl.map Sm.val) = grF P ((sl.map Sm.val).drop (k + 1)) (k + 1) (some (k, x.val))) := by
            show _ = _
            rw [hst.out, hbe.out, hbt]
            rfl
          clear hbt hbe
          go_wp2_with fail
          go_roundw
          case rel => exact ⟨k + 1, some (k, x.val), by omega, by go_num, rfl, hst.out, fun q e => by injection e with e; subst e; exact ⟨Nat.lt_succ_self _, hLk.out⟩, hb2.out.trans (hw9.out.mono hb2.out.size)⟩
          case measure => simp [intOf]; omega
        | false =>
          replace hst : Hid (greatS P (sl.map Sm.val) = grF P ((sl.map Sm.val).drop (k + 1)) (k + 1) bo) := by
            show _ = _
            rw [hst.out, hbe.out, hbt]
            rfl
          clear hbt hbe
          go_wp2_with fail
          go_roundw
          case rel => exact ⟨k + 1, bo, by omega, by go_num, rfl, hst.out, fun q e => ⟨Nat.lt_succ_of_lt (hbo.out q e).1, (hbo.out q e).2⟩, hb2.out.trans (hw9.out.mono hb2.out.size)⟩
          case measure => simp [intOf]; omega
    · have hF : Hid (greatS P (sl.map Sm.val) = bo) := by show _ = _; rw [hst.out, List.drop_eq_nil_of_le (by have := hl.out; simp; omega)]; rfl
      go_wp2_with fail
      go_ret
      exact ⟨by rw [hF.out]; rfl, hb.out⟩
end Go.Proofs.Ytiapeenfggjpnaa
