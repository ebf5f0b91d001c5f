/- Certs: Plug at one contract token. -/
import Derived.Test.YtiggpgeldigknaaCS
import Derived.Test.YtiggpgeldigknaaAw
set_option linter.unusedVariables false
set_option linter.unusedSimpArgs false
namespace Go.Proofs.Ytiggpgeldigknaa
open Go.RowKit
def tkP : Tk := ⟨⟨#[84]⟩, ⟨#[]⟩, ⟨#[100, 101, 45, 97, 98, 99, 45, 99, 49]⟩, 3, 1, -1⟩
def carN : ByteArray := ⟨#[68, 69, 45, 65, 66, 67, 45, 67, 49]⟩
theorem same_car : same ⟨#[100, 101, 45, 97, 98, 99, 45, 99, 49]⟩ carN = true := by kernel_rfl
theorem cen_car (now : Int) : centralT [tkP] ⟨#[84]⟩ [] now = (1, 3, ⟨#[]⟩) := by
  have h : findT [tkP] ⟨#[84]⟩ = some tkP := by kernel_rfl
  have hs : statT tkP now = 1 := by unfold statT; rw [if_neg (fun h => h.2.1 rfl)]; rfl
  unfold centralT knownT inT
  rw [h]
  simp only [Option.map_some, Option.getD_some, hs]
  rfl
theorem blk_set3 {w : World} {g : Nat} {ty : TypeId} {b0 b1 b2 : Value} (h : Blk w g ty #[b0, b1, b2]) (v0 v1 v2 : Value) : Blk (((w.setCell ⟨g, 0, none⟩ v0).setCell ⟨g, 1, none⟩ v1).setCell ⟨g, 2, none⟩ v2) g ty #[v0, v1, v2] := by
  have := (((h.set_ 0 v0).set_ 1 v1).set_ 2 v2)
  simpa using this
def F8 (gy : Nat) (ad : Addr) (n cp : Nat) (nm : ByteArray) : Tmp → Value → World → Prop
  | 15, v, _ => v = .pointer (some ⟨gy, 0, none⟩)
  | 2, v, _ => v = .slice (some ad) n cp
  | 30, v, _ => v = .pointer (some ⟨gy, 3, none⟩)
  | 31, v, _ => v = .int .i64 3
  | 32, v, _ => v = .bool true
  | 33, v, _ => v = .bool true
  | 34, v, _ => v = .pointer (some ⟨gy, 2, none⟩)
  | 35, v, _ => v = .string ⟨#[100, 101, 45, 97, 98, 99, 45, 99, 49]⟩
  | 36, v, _ => v = .bool true
  | 37, v, _ => v = .bool true
  | 38, v, _ => v = .bool true
  | 39, v, _ => v = .pointer (some ⟨gy, 2, none⟩)
  | 40, v, _ => v = .string ⟨#[100, 101, 45, 97, 98, 99, 45, 99, 49]⟩
  | 41, v, _ => v = .slice (some ad) n cp
  | 42, v, _ => v = .pointer (some ad)
  | 43, v, _ => v = .pointer (some ⟨ad.block, ad.off + 1, none⟩)
  | 44, v, _ => v = .string nm
  | 45, v, _ => v = .bool true
  | 46, v, _ => v = .bool true
  | _, _, _ => True
theorem F8_more {gy : Nat} {ad : Addr} {n cp : Nat} {nm : ByteArray} (t : Tmp) (v : Value) (w w' : World) (hR : Rb w w') (h : F8 gy ad n cp nm t v w) : F8 gy ad n cp nm t v w' := by
  unfold F8 at *
  split at h <;> exact h
def plugS (V : Int) : Int := if V = 0 then 1 else 4
set_option maxRecDepth 100000 in
set_option maxHeartbeats 4000000 in
theorem plug_any (AT A A2 A3 : Option Addr) (cT n n2 n3 cp cp2 cp3 : Nat) (C R : List Ct) (rv : List Int) (now : Int) (w : World) (hT : TAt w w.heap.size AT 1 [tkP]) (hC : LAt ctC 8 w w.heap.size A n C) (h : LAt ctC 8 w w.heap.size A2 n2 R) (hV : LAt iC 1 w w.heap.size A3 n3 rv)
    (hn0 : 0 < n) (hn1 : n ≤ 1000) (hn2 : n2 ≤ 1000) (hn3 : n3 ≤ 1000) (hok : ∀ c ∈ C, CtOk c) (hnm : (C.getD 0 noCt).subj = carN) :
    Calls Try.prog 36 #[.slice AT 1 cT, .agg #[Value.slice A2 n2 cp2, Value.slice A3 n3 cp3], .slice A n cp, .slice none 0 0, .int .i64 now] w fun e w' => e = .returned (.agg #[.int .i64 (plugS (verR C R rv now)), .int .i64 5, .string ⟨#[]⟩]) ∧ Below w.heap.size w w' := by
  have px := ((Blk.new w 59 #[Value.slice A2 n2 cp2, Value.slice A3 n3 cp3]).alloc (.cells #[Value.int .i64 0, Value.int .i64 0, Value.string ⟨#[]⟩] 29)).alloc (.cells #[Value.int .i64 4, Value.int .i64 5, Value.string ⟨#[]⟩] 29)
  have pz := (Blk.new (w.alloc (.cells #[Value.slice A2 n2 cp2, Value.slice A3 n3 cp3] 59)) 29 #[Value.int .i64 0, Value.int .i64 0, Value.string ⟨#[]⟩]).alloc (.cells #[Value.int .i64 4, Value.int .i64 5, Value.string ⟨#[]⟩] 29)
  have pn := Blk.new ((w.alloc (.cells #[Value.slice A2 n2 cp2, Value.slice A3 n3 cp3] 59)).alloc (.cells #[Value.int .i64 0, Value.int .i64 0, Value.string ⟨#[]⟩] 29)) 29 #[Value.int .i64 4, Value.int .i64 5, Value.string ⟨#[]⟩]
  rw [show (w.alloc (.cells #[Value.slice A2 n2 cp2, Value.slice A3 n3 cp3] 59)).heap.size = w.heap.size + 1 by simp] at pz
  rw [show ((w.alloc (.cells #[Value.slice A2 n2 cp2, Value.slice A3 n3 cp3] 59)).alloc (.cells #[Value.int .i64 0, Value.int .i64 0, Value.string ⟨#[]⟩] 29)).heap.size = w.heap.size + 1 + 1 by simp] at pn
  have hb := Lib.hid (below_new (below_new (a1 w (.cells #[Value.slice A2 n2 cp2, Value.slice A3 n3 cp3] 59)) (.cells #[Value.int .i64 0, Value.int .i64 0, Value.string ⟨#[]⟩] 29)) (.cells #[Value.int .i64 4, Value.int .i64 5, Value.string ⟨#[]⟩] 29))
  have hT := Lib.hid (hT.more hb.out)
  have hC := Lib.hid (hC.more hb.out)
  have h := Lib.hid (h.more hb.out)
  have hV := Lib.hid (hV.more hb.out)
  have hver := Lib.hid (verify_any A A2 A3 n n2 n3 cp cp2 cp3 C R rv now _ hC.out h.out hV.out hn1 hn2 hn3 hok)
  replace px := Lib.hid px
  replace pz := Lib.hid pz
  replace pn := Lib.hid pn
  replace hok := Lib.hid hok
  go_enter Try.func36, Try.ntmps36
  obtain ⟨t0, t1⟩ := (show (((w.alloc (.cells #[Value.slice A2 n2 cp2, Value.slice A3 n3 cp3] 59)).alloc (.cells #[Value.int .i64 0, Value.int .i64 0, Value.string ⟨#[]⟩] 29)).alloc (.cells #[Value.int .i64 4, Value.int .i64 5, Value.string ⟨#[]⟩] 29)).cell? ⟨w.heap.size, 0, none⟩ = some (Value.slice A2 n2 cp2) ∧ (((w.alloc (.cells #[Value.slice A2 n2 cp2, Value.slice A3 n3 cp3] 59)).alloc (.cells #[Value.int .i64 0, Value.int .i64 0, Value.string ⟨#[]⟩] 29)).alloc (.cells #[Value.int .i64 4, Value.int .i64 5, Value.string ⟨#[]⟩] 29)).cell? ⟨w.heap.size, 1, none⟩ = some (Value.slice A3 n3 cp3) from ⟨px.out.cell 0, px.out.cell 1⟩)
  go_wp2_with fail
  clear t0 t1
  refine hver.out.mono ?_; rintro e w2 ⟨rfl, hq⟩
  have hT := Lib.hid (hT.out.more hq)
  have hC := Lib.hid (hC.out.more hq)
  have pz := Lib.hid (pz.out.below hq pz.out.lt)
  have pn := Lib.hid (pn.out.below hq pn.out.lt)
  have hb := Lib.hid (hb.out.trans (hq.mono hb.out.size))
  clear hq
  clear hver h hV
  generalize hVe : verR C R rv now = V
  replace hVe := Lib.hid hVe
  obtain ⟨z0, z1, z2, g0, g1, g2, n0, n1, n2x⟩ := (show w2.cell? ⟨w.heap.size + 1, 0, none⟩ = some (Value.int .i64 0) ∧ w2.cell? ⟨w.heap.size + 1, 1, none⟩ = some (Value.int .i64 0) ∧ w2.cell? ⟨w.heap.size + 1, 2, none⟩ = some (Value.string ⟨#[]⟩) ∧ w2.frozen? ⟨w.heap.size + 1, 0, none⟩ = false ∧ w2.frozen? ⟨w.heap.size + 1, 1, none⟩ = false ∧ w2.frozen? ⟨w.heap.size + 1, 2, none⟩ = false ∧ w2.cell? ⟨w.heap.size + 1 + 1, 0, none⟩ = some (Value.int .i64 4) ∧ w2.cell? ⟨w.heap.size + 1 + 1, 1, none⟩ = some (Value.int .i64 5) ∧ w2.cell? ⟨w.heap.size + 1 + 1, 2, none⟩ = some (Value.string ⟨#[]⟩) from ⟨pz.out.cell 0, pz.out.cell 1, pz.out.cell 2, pz.out.frozen 0, pz.out.frozen 1, pz.out.frozen 2, pn.out.cell 0, pn.out.cell 1, pn.out.cell 2⟩)
  by_cases hV0 : V = 0
  · subst hV0
    go_wp2_with fail
    clear z0 z1 z2 g0 g1 g2 n0 n1 n2x
    go_loopw [26, 12, 13] (fun i c s wr => ((i = .int .i64 0 ∧ c = .int .i64 0 ∧ s = .string ⟨#[]⟩) ∨ (i = .int .i64 1 ∧ c = .int .i64 1 ∧ s = .string ⟨#[84]⟩)) ∧ Hid (Below w2.heap.size w2 wr)) (fun i _ _ _ => 1 - (intOf i).toNat)
    case atStart => exact ⟨.inl ⟨rfl, rfl, rfl⟩, Below.refl _ _⟩
    case round =>
      obtain ⟨hrel, hbr⟩ := hrel
      rcases hrel with ⟨rfl, rfl, rfl⟩ | ⟨rfl, rfl, rfl⟩
      · obtain ⟨at_, hAT, _, c0, c1, c2, c3, c4, c5⟩ := TAt.cell (hT.out.below hbr.out (Nat.le_refl _)) (k := 0) (by decide)
        subst hAT
        have hadd : at_.add (0 * 6) = at_ := by simp [Addr.add]
        rw [hadd] at c0 c1 c2 c3 c4 c5
        simp only [List.getElem_cons_zero, tkP] at c0 c1 c2 c3 c4 c5
        obtain ⟨ad, hA, hadl, e0, e1, e2, e3, e4, e5, e6, e7⟩ := ct_cells (hC.out.below hbr.out (Nat.le_refl _)) hn0
        have hadd2 : ad.add (0 * 8) = ad := by simp [Addr.add]
        subst hA
        rw [hadd2] at e1
        have hgd : (C[0]'(by rw [hC.out.len]; exact hn0)).subj = carN := by rw [← hnm, getD_lt]
        rw [hgd] at e1
        clear e0 e2 e3 e4 e5 e6 e7 hadd hadd2 hgd
        go_wp2_with fail
        have py := Lib.hid (Blk.new wr 33 #[Value.string ⟨#[84]⟩, Value.string ⟨#[]⟩, Value.string ⟨#[100, 101, 45, 97, 98, 99, 45, 99, 49]⟩, Value.int .i64 3, Value.int .i64 1, Value.int .i64 (-1)])
        have hcell : Hid (∀ wz, Below (wr.alloc (.cells #[Value.string ⟨#[84]⟩, Value.string ⟨#[]⟩, Value.string ⟨#[100, 101, 45, 97, 98, 99, 45, 99, 49]⟩, Value.int .i64 3, Value.int .i64 1, Value.int .i64 (-1)] 33)).heap.size (wr.alloc (.cells #[Value.string ⟨#[84]⟩, Value.string ⟨#[]⟩, Value.string ⟨#[100, 101, 45, 97, 98, 99, 45, 99, 49]⟩, Value.int .i64 3, Value.int .i64 1, Value.int .i64 (-1)] 33)) wz → wz.cell? ⟨wr.heap.size, 2, none⟩ = some (Value.string ⟨#[100, 101, 45, 97, 98, 99, 45, 99, 49]⟩) ∧ wz.cell? ⟨wr.heap.size, 3, none⟩ = some (Value.int .i64 3) ∧ wz.cell? ⟨ad.block, ad.off + 1, none⟩ = some (Value.string carN)) := fun wz hz => by
          have q := py.out.below hz py.out.lt
          have hlt : ad.block < (wr.alloc (.cells #[Value.string ⟨#[84]⟩, Value.string ⟨#[]⟩, Value.string ⟨#[100, 101, 45, 97, 98, 99, 45, 99, 49]⟩, Value.int .i64 3, Value.int .i64 1, Value.int .i64 (-1)] 33)).heap.size := Nat.lt_of_lt_of_le hadl (Nat.le_trans hbr.out.size (by simp))
          exact ⟨q.cell 2, q.cell 3, (hz.cell (p := ⟨ad.block, ad.off + 1, none⟩) hlt).trans (cell_alloc e1 (.cells #[Value.string ⟨#[84]⟩, Value.string ⟨#[]⟩, Value.string ⟨#[100, 101, 45, 97, 98, 99, 45, 99, 49]⟩, Value.int .i64 3, Value.int .i64 1, Value.int .i64 (-1)] 33))⟩
        have hbr := Lib.hid (below_new hbr.out (.cells #[Value.string ⟨#[84]⟩, Value.string ⟨#[]⟩, Value.string ⟨#[100, 101, 45, 97, 98, 99, 45, 99, 49]⟩, Value.int .i64 3, Value.int .i64 1, Value.int .i64 (-1)] 33))
        clear c0 c1 c2 c3 c4 c5 e1
        have hsame := Lib.hid (fun w => same_any ⟨#[100, 101, 45, 97, 98, 99, 45, 99, 49]⟩ carN w (by decide) (by decide))
        rw [same_car] at hsame
        generalize hw3 : wr.alloc (.cells #[Value.string ⟨#[84]⟩, Value.string ⟨#[]⟩, Value.string ⟨#[100, 101, 45, 97, 98, 99, 45, 99, 49]⟩, Value.int .i64 3, Value.int .i64 1, Value.int .i64 (-1)] 33) = w3 at py hcell hbr ⊢
        refine RK.region [] [] (F := F8 wr.heap.size ad n cp carN) (W := fun wz => Below w3.heap.size w3 wz) (R := Rb) (S := noS) (G := noG) rfl F8_more (fun _ _ _ _ _ _ => trivial) (fun _ _ _ _ _ h => h.elim) (fun _ _ _ _ _ h => h.elim) (by kernel_rfl) (by kernel_rfl) (by kernel_rfl) (by kernel_rfl) (by kernel_rfl) ?_ ?_ ?_ ?_ (by decide) ?_
        · exact (Below.refl _ _).drew
        · intro t ht
          unfold F8
          split <;> first | trivial | exact rfl | (exact absurd ht (by decide))
        · simp only [List.forall_mem_cons, List.not_mem_nil, false_implies, implies_true, and_true]
          refine ⟨?_, ?_, ?_, ?_, ?_, ?_, ?_, ?_, ?_, ?_, ?_, ?_, ?_, ?_, ?_, ?_, ?_⟩
          · intro a w2 hw hf K hK
            have f0 := hf 15 rfl
            simp only [F8] at f0
            clear hf
            go_simp
            exact hK _ _ _ rfl rfl hw (Below.refl _ _) (fun h => absurd h (by decide))
          · intro a w2 hw hf K hK
            have f0 := hf 30 rfl
            simp only [F8] at f0
            clear hf
            obtain ⟨c2, c3, cx⟩ := hcell.out w2 hw
            go_simp
            exact hK _ _ _ rfl rfl hw (Below.refl _ _) (fun h => absurd h (by decide))
          · intro a w2 hw hf K hK
            have f0 := hf 31 rfl
            simp only [F8] at f0
            clear hf
            go_simp
            exact hK _ _ _ rfl rfl hw (Below.refl _ _) (fun h => absurd h (by decide))
          · intro a w2 hw hf K hK
            have f0 := hf 32 rfl
            simp only [F8] at f0
            clear hf
            go_simp
            exact hK _ _ _ rfl rfl hw (Below.refl _ _) (fun h => absurd h (by decide))
          · intro a w2 hw hf K hK
            have f0 := hf 15 rfl
            simp only [F8] at f0
            clear hf
            go_simp
            exact hK _ _ _ rfl rfl hw (Below.refl _ _) (fun h => absurd h (by decide))
          · intro a w2 hw hf K hK
            have f0 := hf 34 rfl
            simp only [F8] at f0
            clear hf
            obtain ⟨c2, c3, cx⟩ := hcell.out w2 hw
            go_simp
            exact hK _ _ _ rfl rfl hw (Below.refl _ _) (fun h => absurd h (by decide))
          · intro a w2 hw hf K hK
            have f0 := hf 35 rfl
            simp only [F8] at f0
            clear hf
            go_simp
            exact hK _ _ _ rfl rfl hw (Below.refl _ _) (fun h => absurd h (by decide))
          · intro a w2 hw hf K hK
            have f0 := hf 33 rfl
            have f1 := hf 36 rfl
            simp only [F8] at f0 f1
            clear hf
            go_simp
            exact hK _ _ _ rfl rfl hw (Below.refl _ _) (fun h => absurd h (by decide))
          · intro a w2 hw hf K hK
            have f0 := hf 37 rfl
            simp only [F8] at f0
            clear hf
            go_simp
            exact hK _ _ _ rfl rfl hw (Below.refl _ _) (fun h => absurd h (by decide))
          · intro a w2 hw hf K hK
            have f0 := hf 15 rfl
            simp only [F8] at f0
            clear hf
            go_simp
            exact hK _ _ _ rfl rfl hw (Below.refl _ _) (fun h => absurd h (by decide))
          · intro a w2 hw hf K hK
            have f0 := hf 39 rfl
            simp only [F8] at f0
            clear hf
            obtain ⟨c2, c3, cx⟩ := hcell.out w2 hw
            go_simp
            exact hK _ _ _ rfl rfl hw (Below.refl _ _) (fun h => absurd h (by decide))
          · intro a w2 hw hf K hK
            have f0 := hf 2 rfl
            simp only [F8] at f0
            clear hf
            go_simp
            exact hK _ _ _ rfl rfl hw (Below.refl _ _) (fun h => absurd h (by decide))
          · intro a w2 hw hf K hK
            have f0 := hf 41 rfl
            simp only [F8] at f0
            clear hf
            go_simp
            exact hK _ _ _ rfl rfl hw (Below.refl _ _) (fun h => absurd h (by decide))
          · intro a w2 hw hf K hK
            have f0 := hf 42 rfl
            simp only [F8] at f0
            clear hf
            go_simp
            exact hK _ _ _ rfl rfl hw (Below.refl _ _) (fun h => absurd h (by decide))
          · intro a w2 hw hf K hK
            have f0 := hf 43 rfl
            simp only [F8] at f0
            clear hf
            obtain ⟨c2, c3, cx⟩ := hcell.out w2 hw
            go_simp
            exact hK _ _ _ rfl rfl hw (Below.refl _ _) (fun h => absurd h (by decide))
          · intro a w2 hw hf K hK
            have f0 := hf 40 rfl
            have f1 := hf 44 rfl
            simp only [F8] at f0 f1
            clear hf
            go_simp
            refine (hsame.out w2).mono ?_; rintro e w5 ⟨rfl, m, rfl⟩
            exact hK _ _ _ rfl rfl (below_drewN hw m) (below_drewN (Below.refl _ _) m) (fun h => absurd h (by decide))
          · intro a w2 hw hf K hK
            have f0 := hf 38 rfl
            have f1 := hf 45 rfl
            simp only [F8] at f0 f1
            clear hf
            go_simp
            exact hK _ _ _ rfl rfl hw (Below.refl _ _) (fun h => absurd h (by decide))
        · simp only [List.forall_mem_cons, List.not_mem_nil, false_implies, implies_true, and_true]
          refine ⟨?_, ?_, ?_, ?_, ?_, ?_, ?_, ?_, ?_, ?_, ?_, ?_, ?_, ?_, ?_, ?_, ?_⟩
          all_goals first | exact trivial | (intro v w h; exact h)
        · intro a' w4 hd hs hw hout hf _
          have f46 := hf 46
          simp only [F8] at f46
          have e0 : _ = some _ := hout 0 rfl
          have e1 : _ = some _ := hout 1 rfl
          have e2 : _ = some _ := hout 2 rfl
          have e3 : _ = some _ := hout 3 rfl
          have e4 : _ = some _ := hout 4 rfl
          have e5 : _ = some _ := hout 5 rfl
          have e6 : _ = some _ := hout 6 rfl
          have e7 : _ = some _ := hout 7 rfl
          have e8 : _ = some _ := hout 8 rfl
          have e9 : _ = some _ := hout 9 rfl
          have e10 : _ = some _ := hout 10 rfl
          have e11 : _ = some _ := hout 11 rfl
          have e12 : _ = some _ := hout 12 rfl
          have e13 : _ = some _ := hout 13 rfl
          have e14 : _ = some _ := hout 14 rfl
          have e15 : _ = some _ := hout 15 rfl
          have e16 : _ = some _ := hout 16 rfl
          have e17 : _ = some _ := hout 17 rfl
          have e18 : _ = some _ := hout 18 rfl
          have e19 : _ = some _ := hout 19 rfl
          have e20 : _ = some _ := hout 20 rfl
          have e21 : _ = some _ := hout 21 rfl
          have e22 : _ = some _ := hout 22 rfl
          have e23 : _ = some _ := hout 23 rfl
          have e24 : _ = some _ := hout 24 rfl
          have e25 : _ = some _ := hout 25 rfl
          have e26 : _ = some _ := hout 26 rfl
          have e27 : _ = some _ := hout 27 rfl
          have e28 : _ = some _ := hout 28 rfl
          have e29 : _ = some _ := hout 29 rfl
          have e47 : _ = some _ := hout 47 rfl
          have e48 : _ = some _ := hout 48 rfl
          have e49 : _ = some _ := hout 49 rfl
          have e50 : _ = some _ := hout 50 rfl
          have e51 : _ = some _ := hout 51 rfl
          have e52 : _ = some _ := hout 52 rfl
          have e53 : _ = some _ := hout 53 rfl
          have e54 : _ = some _ := hout 54 rfl
          have e55 : _ = some _ := hout 55 rfl
          have e56 : _ = some _ := hout 56 rfl
          have e57 : _ = some _ := hout 57 rfl
          have e58 : _ = some _ := hout 58 rfl
          have e59 : _ = some _ := hout 59 rfl
          have e60 : _ = some _ := hout 60 rfl
          have e61 : _ = some _ := hout 61 rfl
          obtain ⟨tm, df⟩ := a'
          simp only at hd hs f46 e0 e1 e2 e3 e4 e5 e6 e7 e8 e9 e10 e11 e12 e13 e14 e15 e16 e17 e18 e19 e20 e21 e22 e23 e24 e25 e26 e27 e28 e29 e47 e48 e49 e50 e51 e52 e53 e54 e55 e56 e57 e58 e59 e60 e61
          have e := lit_arr tm 62 hs
          rw [show (List.range 62).map (fun i => tm[i]?.getD undef) = [tm[0]?.getD undef, tm[1]?.getD undef, tm[2]?.getD undef, tm[3]?.getD undef, tm[4]?.getD undef, tm[5]?.getD undef, tm[6]?.getD undef, tm[7]?.getD undef, tm[8]?.getD undef, tm[9]?.getD undef, tm[10]?.getD undef, tm[11]?.getD undef, tm[12]?.getD undef, tm[13]?.getD undef, tm[14]?.getD undef, tm[15]?.getD undef, tm[16]?.getD undef, tm[17]?.getD undef, tm[18]?.getD undef, tm[19]?.getD undef, tm[20]?.getD undef, tm[21]?.getD undef, tm[22]?.getD undef, tm[23]?.getD undef, tm[24]?.getD undef, tm[25]?.getD undef, tm[26]?.getD undef, tm[27]?.getD undef, tm[28]?.getD undef, tm[29]?.getD undef, tm[30]?.getD undef, tm[31]?.getD undef, tm[32]?.getD undef, tm[33]?.getD undef, tm[34]?.getD undef, tm[35]?.getD undef, tm[36]?.getD undef, tm[37]?.getD undef, tm[38]?.getD undef, tm[39]?.getD undef, tm[40]?.getD undef, tm[41]?.getD undef, tm[42]?.getD undef, tm[43]?.getD undef, tm[44]?.getD undef, tm[45]?.getD undef, tm[46]?.getD undef, tm[47]?.getD undef, tm[48]?.getD undef, tm[49]?.getD undef, tm[50]?.getD undef, tm[51]?.getD undef, tm[52]?.getD undef, tm[53]?.getD undef, tm[54]?.getD undef, tm[55]?.getD undef, tm[56]?.getD undef, tm[57]?.getD undef, tm[58]?.getD undef, tm[59]?.getD undef, tm[60]?.getD undef, tm[61]?.getD undef] from rfl] at e
          simp only [e0, e1, e2, e3, e4, e5, e6, e7, e8, e9, e10, e11, e12, e13, e14, e15, e16, e17, e18, e19, e20, e21, e22, e23, e24, e25, e26, e27, e28, e29, e47, e48, e49, e50, e51, e52, e53, e54, e55, e56, e57, e58, e59, e60, e61, f46, Option.getD_some] at e
          clear hf hout hs
          rw [e, hd]
          clear e hd f46 e0 e1 e2 e3 e4 e5 e6 e7 e8 e9 e10 e11 e12 e13 e14 e15 e16 e17 e18 e19 e20 e21 e22 e23 e24 e25 e26 e27 e28 e29 e47 e48 e49 e50 e51 e52 e53 e54 e55 e56 e57 e58 e59 e60 e61
          generalize tm[30]?.getD undef = y30
          generalize tm[31]?.getD undef = y31
          generalize tm[32]?.getD undef = y32
          generalize tm[33]?.getD undef = y33
          generalize tm[34]?.getD undef = y34
          generalize tm[35]?.getD undef = y35
          generalize tm[36]?.getD undef = y36
          generalize tm[37]?.getD undef = y37
          generalize tm[38]?.getD undef = y38
          generalize tm[39]?.getD undef = y39
          generalize tm[40]?.getD undef = y40
          generalize tm[41]?.getD undef = y41
          generalize tm[42]?.getD undef = y42
          generalize tm[43]?.getD undef = y43
          generalize tm[44]?.getD undef = y44
          generalize tm[45]?.getD undef = y45
          have k0 := (py.out.below hw py.out.lt).cell 0
          have hbr := Lib.hid (hbr.out.trans (hw.mono hbr.out.size))
          clear hw
          go_wp2_with fail
          go_roundw
          case rel => exact ⟨_, _, _, _, .inr ⟨rfl, rfl, rfl⟩, rfl, rfl, rfl, rfl⟩
          case measure => simp [intOf]
      · have hT2 := Lib.hid (hT.out.below hbr.out (Nat.le_refl _))
        have hbz := hbr.out.size
        have pz := Lib.hid (pz.out.below hbr.out pz.out.lt)
        have hb := Lib.hid (hb.out.trans (hbr.out.mono hb.out.size))
        have hcen := (central_any AT [tkP] 1 cT ⟨#[84]⟩ none [] 0 0 now wr (hT2.out.mono hbz) (by decide) (by decide) (by intro t ht; simp at ht; subst ht; exact ⟨by decide, by decide, by decide⟩) (LAt.nil (f := strC) (s := 1) (fun _ => rfl) _ _) (by decide) (by intro s hs; simp at hs))
        rw [cen_car] at hcen
        simp only [decV] at hcen
        replace hcen := Lib.hid hcen
        clear hT hT2 hC hok hbr
        go_wp2_with fail
        refine hcen.out.mono ?_; rintro e w3 ⟨rfl, hq⟩
        have pz := Lib.hid (pz.out.below hq pz.out.lt)
        have hb := Lib.hid (hb.out.trans (hq.mono hb.out.size))
        clear hq hcen
        have pz := Lib.hid (pz.out.alloc (.cells #[Value.int .i64 1, Value.int .i64 5, Value.string ⟨#[]⟩] 29))
        obtain ⟨z0, z1, z2, g0, g1, g2⟩ := (show (w3.alloc (.cells #[Value.int .i64 1, Value.int .i64 5, Value.string ⟨#[]⟩] 29)).cell? ⟨w.heap.size + 1, 0, none⟩ = some (Value.int .i64 0) ∧ (w3.alloc (.cells #[Value.int .i64 1, Value.int .i64 5, Value.string ⟨#[]⟩] 29)).cell? ⟨w.heap.size + 1, 1, none⟩ = some (Value.int .i64 0) ∧ (w3.alloc (.cells #[Value.int .i64 1, Value.int .i64 5, Value.string ⟨#[]⟩] 29)).cell? ⟨w.heap.size + 1, 2, none⟩ = some (Value.string ⟨#[]⟩) ∧ (w3.alloc (.cells #[Value.int .i64 1, Value.int .i64 5, Value.string ⟨#[]⟩] 29)).frozen? ⟨w.heap.size + 1, 0, none⟩ = false ∧ (w3.alloc (.cells #[Value.int .i64 1, Value.int .i64 5, Value.string ⟨#[]⟩] 29)).frozen? ⟨w.heap.size + 1, 1, none⟩ = false ∧ (w3.alloc (.cells #[Value.int .i64 1, Value.int .i64 5, Value.string ⟨#[]⟩] 29)).frozen? ⟨w.heap.size + 1, 2, none⟩ = false from ⟨pz.out.cell 0, pz.out.cell 1, pz.out.cell 2, pz.out.frozen 0, pz.out.frozen 1, pz.out.frozen 2⟩)
        have hbs := hb.out.size
        have hb := Lib.hid (below_new hb.out (.cells #[Value.int .i64 1, Value.int .i64 5, Value.string ⟨#[]⟩] 29))
        go_wp2_with fail
        have hB := blk_set3 pz.out (Value.int .i64 1) (Value.int .i64 5) (Value.string ⟨#[]⟩)
        refine bodyPost_ret (v := .agg #[Value.int .i64 1, Value.int .i64 5, Value.string ⟨#[]⟩]) ?_ rfl ?_
        · exact results_cell_row (h := rfl) _ _ (w.heap.size + 1) 29 _ (0, 0) _ rfl hB Try.underlying29 rfl (by kernel_rfl)
        · refine ⟨by rw [plugS, hVe.out, if_pos rfl], ?_⟩
          clear hB
          repeat (with_reducible refine below_set ?_ (by omega) _ _)
          exact hb.out
  · have hVb : (V != 0) = true := by simpa using hV0
    go_wp2_with fail
    have hB := blk_set3 pz.out (Value.int .i64 4) (Value.int .i64 5) (Value.string ⟨#[]⟩)
    refine bodyPost_ret (v := .agg #[Value.int .i64 4, Value.int .i64 5, Value.string ⟨#[]⟩]) ?_ rfl ?_
    · exact results_cell_row (h := rfl) _ _ (w.heap.size + 1) 29 _ (0, 0) _ rfl hB Try.underlying29 rfl (by kernel_rfl)
    · refine ⟨by rw [plugS, hVe.out, if_neg hV0], ?_⟩
      clear hB
      repeat (first | (with_reducible refine below_set ?_ (by omega) _ _) | (with_reducible refine below_new ?_ _) | (with_reducible refine below_drewN ?_ _) | (with_reducible refine below_dr ?_))
      exact hb.out
end Go.Proofs.Ytiggpgeldigknaa
