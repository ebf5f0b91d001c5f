/- A session of prices, walked. -/
import Derived.Test.YtbngclibfnnejaaDoorBJ
import Derived.Test.YtbngclibfnnejaaDoorRV
set_option linter.unusedVariables false
set_option linter.unusedSimpArgs false
namespace Go.Proofs.YtbngclibfnnejaaDoor
open Go.RowKit
set_option maxRecDepth 100000 in
set_option maxHeartbeats 4000000 in
theorem hasT_any (cA : Nat) (cost rate : Int) (w : World) (h : Blk w cA 32 #[Value.int .i64 2, Value.int .i64 cost, Value.int .i64 1, Value.int .i64 rate]) : Calls Tryd.prog 54 #[.agg #[Value.slice (some ⟨cA, 0, none⟩) 1 1, Value.int .i64 0, Value.int .i64 0, Value.int .i64 0, Value.int .i64 (-1), Value.int .i64 (-1), Value.int .i64 (-1), Value.int .i64 (-1), Value.int .i64 (-1), Value.int .i64 (-1), Value.int .i64 (-1), Value.int .i64 (-1)], .int .i64 2] w fun e w' => e = .returned (.bool true) ∧ Below w.heap.size w w' := by
  have hb0 : Below w.heap.size w (w.alloc (.cells #[Value.slice (some ⟨cA, 0, none⟩) 1 1, Value.int .i64 0, Value.int .i64 0, Value.int .i64 0, Value.int .i64 (-1), Value.int .i64 (-1), Value.int .i64 (-1), Value.int .i64 (-1), Value.int .i64 (-1), Value.int .i64 (-1), Value.int .i64 (-1), Value.int .i64 (-1)] 35)) := a1 w _
  have hx := Lib.hid (Blk.new w 35 #[Value.slice (some ⟨cA, 0, none⟩) 1 1, Value.int .i64 0, Value.int .i64 0, Value.int .i64 0, Value.int .i64 (-1), Value.int .i64 (-1), Value.int .i64 (-1), Value.int .i64 (-1), Value.int .i64 (-1), Value.int .i64 (-1), Value.int .i64 (-1), Value.int .i64 (-1)])
  have hC := Lib.hid (h.below hb0 h.lt)
  have hb := Lib.hid hb0
  clear hb0 h
  skip
  skip
  have k0 : ((w.alloc (.cells #[Value.slice (some ⟨cA, 0, none⟩) 1 1, Value.int .i64 0, Value.int .i64 0, Value.int .i64 0, Value.int .i64 (-1), Value.int .i64 (-1), Value.int .i64 (-1), Value.int .i64 (-1), Value.int .i64 (-1), Value.int .i64 (-1), Value.int .i64 (-1), Value.int .i64 (-1)] 35))).cell? ⟨w.heap.size, 0, none⟩ = some (Value.slice (some ⟨cA, 0, none⟩) 1 1) := (hx.out).cell 0
  go_enter Tryd.func54, Tryd.ntmps54
  go_wp2_with fail
  generalize (w.alloc (.cells #[Value.slice (some ⟨cA, 0, none⟩) 1 1, Value.int .i64 0, Value.int .i64 0, Value.int .i64 0, Value.int .i64 (-1), Value.int .i64 (-1), Value.int .i64 (-1), Value.int .i64 (-1), Value.int .i64 (-1), Value.int .i64 (-1), Value.int .i64 (-1), Value.int .i64 (-1)] 35)) = w0 at *
  clear k0
  go_loopw [10] (fun i wr => ∃ k : Nat, k = 0 ∧ i = .int .i64 k ∧ Hid (Blk wr cA 32 #[Value.int .i64 2, Value.int .i64 cost, Value.int .i64 1, Value.int .i64 rate]) ∧ Hid (Below w.heap.size w wr)) (fun i _ => 1 - (intOf i).toNat)
  case atStart => exact ⟨0, rfl, rfl, hC.out, hb.out⟩
  case round =>
    clear hx hC hb
    obtain ⟨k, hk9, rfl, hC, hb⟩ := hrel
    subst hk9
    · have c0 : (wr).cell? ⟨cA, 0, none⟩ = some (Value.int .i64 2) := (hC.out).cell 0; have c1 : (wr).cell? ⟨cA, 1, none⟩ = some (Value.int .i64 cost) := (hC.out).cell 1; have c2 : (wr).cell? ⟨cA, 2, none⟩ = some (Value.int .i64 1) := (hC.out).cell 2; have c3 : (wr).cell? ⟨cA, 3, none⟩ = some (Value.int .i64 rate) := (hC.out).cell 3
      have hN := Lib.hid (Blk.new wr 32 #[Value.int .i64 2, Value.int .i64 cost, Value.int .i64 1, Value.int .i64 rate])
      have hbN := a1 wr (.cells #[Value.int .i64 2, Value.int .i64 cost, Value.int .i64 1, Value.int .i64 rate] 32)
      replace hC := Lib.hid (hC.out.below hbN hC.out.lt)
      replace hb := Lib.hid (hb.out.trans (hbN.mono hb.out.size))
      have n0 : ((wr.alloc (.cells #[Value.int .i64 2, Value.int .i64 cost, Value.int .i64 1, Value.int .i64 rate] 32))).cell? ⟨wr.heap.size, 0, none⟩ = some (Value.int .i64 2) := (hN.out).cell 0; have n1 : ((wr.alloc (.cells #[Value.int .i64 2, Value.int .i64 cost, Value.int .i64 1, Value.int .i64 rate] 32))).cell? ⟨wr.heap.size, 1, none⟩ = some (Value.int .i64 cost) := (hN.out).cell 1; have n2 : ((wr.alloc (.cells #[Value.int .i64 2, Value.int .i64 cost, Value.int .i64 1, Value.int .i64 rate] 32))).cell? ⟨wr.heap.size, 2, none⟩ = some (Value.int .i64 1) := (hN.out).cell 2; have n3 : ((wr.alloc (.cells #[Value.int .i64 2, Value.int .i64 cost, Value.int .i64 1, Value.int .i64 rate] 32))).cell? ⟨wr.heap.size, 3, none⟩ = some (Value.int .i64 rate) := (hN.out).cell 3
      clear hbN
      go_wp2_with fail
      go_ret
      exact ⟨rfl, hb.out⟩
set_option maxRecDepth 100000 in
set_option maxHeartbeats 4000000 in
theorem hasF_any (cA : Nat) (cost rate : Int) (kind : Int) (w : World) (h : Blk w cA 32 #[Value.int .i64 2, Value.int .i64 cost, Value.int .i64 1, Value.int .i64 rate]) (hk : kind ≠ 2) : Calls Tryd.prog 54 #[.agg #[Value.slice (some ⟨cA, 0, none⟩) 1 1, Value.int .i64 0, Value.int .i64 0, Value.int .i64 0, Value.int .i64 (-1), Value.int .i64 (-1), Value.int .i64 (-1), Value.int .i64 (-1), Value.int .i64 (-1), Value.int .i64 (-1), Value.int .i64 (-1), Value.int .i64 (-1)], .int .i64 kind] w fun e w' => e = .returned (.bool false) ∧ Below w.heap.size w w' := by
  have hb0 : Below w.heap.size w (w.alloc (.cells #[Value.slice (some ⟨cA, 0, none⟩) 1 1, Value.int .i64 0, Value.int .i64 0, Value.int .i64 0, Value.int .i64 (-1), Value.int .i64 (-1), Value.int .i64 (-1), Value.int .i64 (-1), Value.int .i64 (-1), Value.int .i64 (-1), Value.int .i64 (-1), Value.int .i64 (-1)] 35)) := a1 w _
  have hx := Lib.hid (Blk.new w 35 #[Value.slice (some ⟨cA, 0, none⟩) 1 1, Value.int .i64 0, Value.int .i64 0, Value.int .i64 0, Value.int .i64 (-1), Value.int .i64 (-1), Value.int .i64 (-1), Value.int .i64 (-1), Value.int .i64 (-1), Value.int .i64 (-1), Value.int .i64 (-1), Value.int .i64 (-1)])
  have hC := Lib.hid (h.below hb0 h.lt)
  have hb := Lib.hid hb0
  clear hb0 h
  have dk : ((2 : Int) == kind) = false := by simp; omega
  replace hk := Lib.hid hk
  have k0 : ((w.alloc (.cells #[Value.slice (some ⟨cA, 0, none⟩) 1 1, Value.int .i64 0, Value.int .i64 0, Value.int .i64 0, Value.int .i64 (-1), Value.int .i64 (-1), Value.int .i64 (-1), Value.int .i64 (-1), Value.int .i64 (-1), Value.int .i64 (-1), Value.int .i64 (-1), Value.int .i64 (-1)] 35))).cell? ⟨w.heap.size, 0, none⟩ = some (Value.slice (some ⟨cA, 0, none⟩) 1 1) := (hx.out).cell 0
  go_enter Tryd.func54, Tryd.ntmps54
  go_wp2_with fail
  generalize (w.alloc (.cells #[Value.slice (some ⟨cA, 0, none⟩) 1 1, Value.int .i64 0, Value.int .i64 0, Value.int .i64 0, Value.int .i64 (-1), Value.int .i64 (-1), Value.int .i64 (-1), Value.int .i64 (-1), Value.int .i64 (-1), Value.int .i64 (-1), Value.int .i64 (-1), Value.int .i64 (-1)] 35)) = w0 at *
  clear k0
  go_loopw [10] (fun i wr => ∃ k : Nat, k ≤ 1 ∧ i = .int .i64 k ∧ Hid (Blk wr cA 32 #[Value.int .i64 2, Value.int .i64 cost, Value.int .i64 1, Value.int .i64 rate]) ∧ Hid (Below w.heap.size w wr)) (fun i _ => 1 - (intOf i).toNat)
  case atStart => exact ⟨0, Nat.zero_le _, rfl, hC.out, hb.out⟩
  case round =>
    clear hx hC hb
    obtain ⟨k, hk9, rfl, hC, hb⟩ := hrel
    rcases (show k = 0 ∨ k = 1 by omega) with rfl | rfl
    · have c0 : (wr).cell? ⟨cA, 0, none⟩ = some (Value.int .i64 2) := (hC.out).cell 0; have c1 : (wr).cell? ⟨cA, 1, none⟩ = some (Value.int .i64 cost) := (hC.out).cell 1; have c2 : (wr).cell? ⟨cA, 2, none⟩ = some (Value.int .i64 1) := (hC.out).cell 2; have c3 : (wr).cell? ⟨cA, 3, none⟩ = some (Value.int .i64 rate) := (hC.out).cell 3
      have hN := Lib.hid (Blk.new wr 32 #[Value.int .i64 2, Value.int .i64 cost, Value.int .i64 1, Value.int .i64 rate])
      have hbN := a1 wr (.cells #[Value.int .i64 2, Value.int .i64 cost, Value.int .i64 1, Value.int .i64 rate] 32)
      replace hC := Lib.hid (hC.out.below hbN hC.out.lt)
      replace hb := Lib.hid (hb.out.trans (hbN.mono hb.out.size))
      have n0 : ((wr.alloc (.cells #[Value.int .i64 2, Value.int .i64 cost, Value.int .i64 1, Value.int .i64 rate] 32))).cell? ⟨wr.heap.size, 0, none⟩ = some (Value.int .i64 2) := (hN.out).cell 0; have n1 : ((wr.alloc (.cells #[Value.int .i64 2, Value.int .i64 cost, Value.int .i64 1, Value.int .i64 rate] 32))).cell? ⟨wr.heap.size, 1, none⟩ = some (Value.int .i64 cost) := (hN.out).cell 1; have n2 : ((wr.alloc (.cells #[Value.int .i64 2, Value.int .i64 cost, Value.int .i64 1, Value.int .i64 rate] 32))).cell? ⟨wr.heap.size, 2, none⟩ = some (Value.int .i64 1) := (hN.out).cell 2; have n3 : ((wr.alloc (.cells #[Value.int .i64 2, Value.int .i64 cost, Value.int .i64 1, Value.int .i64 rate] 32))).cell? ⟨wr.heap.size, 3, none⟩ = some (Value.int .i64 rate) := (hN.out).cell 3
      clear hk9 hbN
      go_wp2_with fail
      go_roundw
      case rel => exact ⟨1, by omega, by go_num, hC.out, hb.out⟩
      case measure => simp [intOf]
    · clear hk9
      go_wp2_with fail
      go_ret
      exact ⟨rfl, hb.out⟩
structure Ses (w : World) (gh eA cA b : Nat) (cost rate start l0 l1 l2 : Int) (kn : Bool) (S : Int) : Prop where
  s : Blk w gh 86 #[Value.string (⟨#[84]⟩ : ByteArray), Value.string (⟨#[69, 85, 82]⟩ : ByteArray), Value.int .i64 1, Value.int .i64 0, Value.int .i64 268435456, Value.slice (some ⟨eA, 0, none⟩) 1 1, Value.int .i64 (-1), Value.int .i64 (-1), Value.int .i64 0, Value.bool false, Value.int .i64 start, Value.map (some b), Value.int .i64 0, Value.int .i64 0, Value.int .i64 0, Value.bool false, Value.int .i64 0, Value.int .i64 0, Value.int .i64 0, Value.bool false, Value.int .i64 l0, Value.int .i64 l1, Value.int .i64 l2, Value.bool kn, Value.int .i64 0, Value.int .i64 0, Value.int .i64 0, Value.bool false, Value.int .i64 0, Value.int .i64 0, Value.int .i64 0, Value.bool false]
  T : TarAt w eA cA cost rate
  M : MapSt w b S
theorem arr4 {cs : Array Value} (h : cs.size = 4) : ∃ a b c d, cs = #[a, b, c, d] := by
  obtain ⟨l⟩ := cs
  match l, h with
  | [a, b, c, d], _ => exact ⟨a, b, c, d, rfl⟩
theorem cv_set4 {w : World} {g : Nat} {a0 a1 a2 a3 : Value} (h : Blk w g 32 #[a0, a1, a2, a3]) (v0 v1 v2 v3 : Value) : Blk ((((w.setCell ⟨g, 0, none⟩ (v0)).setCell ⟨g, 1, none⟩ (v1)).setCell ⟨g, 2, none⟩ (v2)).setCell ⟨g, 3, none⟩ (v3)) g 32 #[v0, v1, v2, v3] :=
  (((h.set_ 0 v0).set_ 1 v1).set_ 2 v2).set_ 3 v3
theorem grown_set4 (w : World) (g : Nat) (v0 v1 v2 v3 : Value) : w.grownBy ((((w.setCell ⟨g, 0, none⟩ (v0)).setCell ⟨g, 1, none⟩ (v1)).setCell ⟨g, 2, none⟩ (v2)).setCell ⟨g, 3, none⟩ (v3)) (some g) :=
  only_set (only_set (only_set (only_set (World.grownBy.refl _ _) 0 _) 1 _) 2 _) 3 _
theorem res3 {P : Program} {fn : Func} {p u v : Tmp} {ty : TypeId} (h : fn.results = #[.cell p ty, .tmp u, .tmp v]) (tmps : Array Value) (w : World) (g : Nat) (t : TypeId) (cs : Array Value) (fr : Nat × Nat) (d : TypeDesc)
    (hp : tmps.getD p undef = .pointer (some ⟨g, 0, none⟩)) (hg : w.heap[g]? = some (.cells cs t fr))
    (hu : P.underlying ty = some d) (hd : (match d with | .struct _ | .array _ _ => true | _ => false) = true) (hi : (P.info? ty).map (·.size) = some cs.size) :
    (results fn tmps).run P w = .ok (.tuple #[.agg cs, tmps.getD u undef, tmps.getD v undef]) w := by
  have hp' : tmps[p]?.getD undef = .pointer (some ⟨g, 0, none⟩) := by simpa using hp
  simp only [results, h]
  simp [Sem.run_bind, Result.andThen, hp', asAddr, run_loadVar_row w g t ty cs fr d hg hu hd hi]
def F48 (gh g15 eA base : Nat) (cost rate start mi en po : Int) : Tmp → Value → World → Prop
  | 0, v, _ => v = .pointer (some ⟨gh, 0, none⟩)
  | 1, v, _ => v = .int .i64 2
  | 2, v, _ => v = .int .i64 mi
  | 3, v, _ => v = .int .i64 en
  | 4, v, _ => v = .int .i64 po
  | 15, v, _ => v = .pointer (some ⟨g15, 0, none⟩)
  | 16, v, w => Var 32 4 base v w
  | 17, v, _ => v = .bool true
  | 43, v, _ => v = .tuple #[.agg #[Value.int .i64 2, Value.int .i64 cost, Value.int .i64 1, Value.int .i64 rate], .bool true]
  | 44, v, _ => v = .agg #[Value.string ⟨#[]⟩, Value.string ⟨#[]⟩, Value.int .i64 0, Value.int .i64 0, Value.int .i64 0, Value.slice (some ⟨eA, 0, none⟩) 1 1, Value.int .i64 0, Value.int .i64 0]
  | 45, v, _ => v = .pointer (some ⟨gh, 0, none⟩)
  | 46, v, _ => v = .pointer (some ⟨gh, 0, none⟩)
  | 47, v, _ => v = .pointer (some ⟨gh, 8, none⟩)
  | 48, v, _ => v = .agg #[Value.int .i64 0, Value.bool false]
  | 49, v, _ => v = .int .i64 2
  | 50, v, _ => v = .pointer (some ⟨gh, 0, none⟩)
  | 51, v, _ => v = .pointer (some ⟨gh, 0, none⟩)
  | 52, v, _ => v = .pointer (some ⟨gh, 10, none⟩)
  | 53, v, _ => v = .int .i64 start
  | 54, v, _ => v = .int .i64 mi
  | 55, v, _ => v = .int .i64 (start + mi)
  | 56, v, _ => v = .int .i64 mi
  | 57, v, _ => v = .int .i64 en
  | 58, v, _ => v = .int .i64 po
  | 59, v, _ => v = .tuple #[.agg #[Value.int .i64 2, Value.int .i64 cost, Value.int .i64 1, Value.int .i64 rate], .bool true]
  | 60, v, _ => v = .agg #[Value.int .i64 2, Value.int .i64 cost, Value.int .i64 1, Value.int .i64 rate]
  | 61, v, _ => v = .bool true
  | _, _, _ => True
theorem F48_more {gh g15 eA base : Nat} {cost rate start mi en po : Int} (d t : Tmp) (v : Value) (w w' : World) (hR : Rb w w') (hne : t ≠ d) (hc : ([] : List (Tmp × Tmp)).contains (d, t) = false) (h : F48 gh g15 eA base cost rate start mi en po t v w) : F48 gh g15 eA base cost rate start mi en po t v w' := by
  unfold F48 at *
  split at h <;> first | exact h | exact Var.more h hR | exact fun hg => Var.more (h hg) hR
theorem F48_lit (tm : Array Value) (hs : tm.size = 67) : tm = #[tm[0]?.getD undef, tm[1]?.getD undef, tm[2]?.getD undef, tm[3]?.getD undef, tm[4]?.getD undef, tm[5]?.getD undef, tm[6]?.getD undef, tm[7]?.getD undef, tm[8]?.getD undef, tm[9]?.getD undef, tm[10]?.getD undef, tm[11]?.getD undef, tm[12]?.getD undef, tm[13]?.getD undef, tm[14]?.getD undef, tm[15]?.getD undef, tm[16]?.getD undef, tm[17]?.getD undef, tm[18]?.getD undef, tm[19]?.getD undef, tm[20]?.getD undef, tm[21]?.getD undef, tm[22]?.getD undef, tm[23]?.getD undef, tm[24]?.getD undef, tm[25]?.getD undef, tm[26]?.getD undef, tm[27]?.getD undef, tm[28]?.getD undef, tm[29]?.getD undef, tm[30]?.getD undef, tm[31]?.getD undef, tm[32]?.getD undef, tm[33]?.getD undef, tm[34]?.getD undef, tm[35]?.getD undef, tm[36]?.getD undef, tm[37]?.getD undef, tm[38]?.getD undef, tm[39]?.getD undef, tm[40]?.getD undef, tm[41]?.getD undef, tm[42]?.getD undef, tm[43]?.getD undef, tm[44]?.getD undef, tm[45]?.getD undef, tm[46]?.getD undef, tm[47]?.getD undef, tm[48]?.getD undef, tm[49]?.getD undef, tm[50]?.getD undef, tm[51]?.getD undef, tm[52]?.getD undef, tm[53]?.getD undef, tm[54]?.getD undef, tm[55]?.getD undef, tm[56]?.getD undef, tm[57]?.getD undef, tm[58]?.getD undef, tm[59]?.getD undef, tm[60]?.getD undef, tm[61]?.getD undef, tm[62]?.getD undef, tm[63]?.getD undef, tm[64]?.getD undef, tm[65]?.getD undef, tm[66]?.getD undef] := lit_arr tm 67 hs
def G48 (cost rate : Int) (base : Nat) : Tmp → Value → World → Prop
  | 16, v, w => VarIs 32 base #[Value.int .i64 2, Value.int .i64 cost, Value.int .i64 1, Value.int .i64 rate] v w
  | _, _, _ => True
theorem G48_more {cost rate : Int} {base : Nat} (d t : Tmp) (v : Value) (w w' : World) (hR : Rb w w') (h : G48 cost rate base t v w) : G48 cost rate base t v w' := by
  unfold G48 at *
  split at h <;> first | exact h.more hR | exact h
theorem G48_st {cost rate : Int} {base : Nat} (u : Value) (t : Tmp) (v : Value) (w w' : World) (hS : St 32 base u w w') (hne : v ≠ u) (h : G48 cost rate base t v w) : G48 cost rate base t v w' := by
  unfold G48 at *
  split at h <;> first | exact h.st hS hne | exact h
theorem F48_st {gh g15 eA base : Nat} {cost rate start mi en po : Int} (u : Value) (t : Tmp) (v : Value) (w w' : World) (hS : St 32 base u w w') (h9 : F48 gh g15 eA base cost rate start mi en po t v w) : F48 gh g15 eA base cost rate start mi en po t v w' := by
  unfold F48 at *
  split at h9 <;> first | exact h9 | exact h9.st hS
set_option maxRecDepth 100000 in
set_option maxHeartbeats 4000000 in
theorem find_ses (gh eA cA b : Nat) (cost rate start l0 l1 l2 mi en po : Int) (kn : Bool) (w : World) (hg : GlobOk w) (hs : Blk w gh 86 #[Value.string (⟨#[84]⟩ : ByteArray), Value.string (⟨#[69, 85, 82]⟩ : ByteArray), Value.int .i64 1, Value.int .i64 0, Value.int .i64 268435456, Value.slice (some ⟨eA, 0, none⟩) 1 1, Value.int .i64 (-1), Value.int .i64 (-1), Value.int .i64 0, Value.bool false, Value.int .i64 start, Value.map (some b), Value.int .i64 0, Value.int .i64 0, Value.int .i64 0, Value.bool false, Value.int .i64 0, Value.int .i64 0, Value.int .i64 0, Value.bool false, Value.int .i64 l0, Value.int .i64 l1, Value.int .i64 l2, Value.bool kn, Value.int .i64 0, Value.int .i64 0, Value.int .i64 0, Value.bool false, Value.int .i64 0, Value.int .i64 0, Value.int .i64 0, Value.bool false]) (hT : TarAt w eA cA cost rate) (h0 : 0 ≤ start) (h1 : start ≤ 268435456) (hm0 : 0 ≤ mi) (hm1 : start + mi ≤ 268435456) : Calls Tryd.prog 48 #[.pointer (some ⟨gh, 0, none⟩), .int .i64 2, .int .i64 mi, .int .i64 en, .int .i64 po] w fun e w' => e = .returned (.tuple #[.agg #[Value.int .i64 2, Value.int .i64 cost, Value.int .i64 1, Value.int .i64 rate], .int .i64 0, .bool true]) ∧ Below w.heap.size w w' := by
  have hb0 : Below w.heap.size w (w.alloc (.cells #[Value.int .i64 0, Value.int .i64 0, Value.int .i64 0, Value.int .i64 0] 32)) := a1 w _
  have hR := Lib.hid (Blk.new w 32 #[Value.int .i64 0, Value.int .i64 0, Value.int .i64 0, Value.int .i64 0])
  replace hs := Lib.hid (hs.below hb0 hs.lt)
  replace hT := Lib.hid (hT.more hb0)
  replace hg := Lib.hid (hg.more hb0)
  have hb := Lib.hid hb0
  clear hb0
  have k5 : ((w.alloc (.cells #[Value.int .i64 0, Value.int .i64 0, Value.int .i64 0, Value.int .i64 0] 32))).cell? ⟨gh, 5, none⟩ = some (Value.slice (some ⟨eA, 0, none⟩) 1 1) := (hs.out).cell 5
  go_enter Tryd.func48, Tryd.ntmps48
  go_wp2_with fail
  generalize (w.alloc (.cells #[Value.int .i64 0, Value.int .i64 0, Value.int .i64 0, Value.int .i64 0] 32)) = w0 at *
  go_loopw [24] (fun i wr => i = .int .i64 0 ∧ wr = w0) (fun _ _ => 0)
  case atStart => exact ⟨rfl, rfl⟩
  case round =>
    obtain ⟨rfl, rfl⟩ := hrel
    have e0 : (wr).cell? ⟨eA, 0, none⟩ = some (Value.slice (some ⟨cA, 0, none⟩) 1 1) := (hT.out.el).cell 0; have e1 : (wr).cell? ⟨eA, 1, none⟩ = some (Value.int .i64 0) := (hT.out.el).cell 1; have e2 : (wr).cell? ⟨eA, 2, none⟩ = some (Value.int .i64 0) := (hT.out.el).cell 2; have e3 : (wr).cell? ⟨eA, 3, none⟩ = some (Value.int .i64 0) := (hT.out.el).cell 3; have e4 : (wr).cell? ⟨eA, 4, none⟩ = some (Value.int .i64 (-1)) := (hT.out.el).cell 4; have e5 : (wr).cell? ⟨eA, 5, none⟩ = some (Value.int .i64 (-1)) := (hT.out.el).cell 5; have e6 : (wr).cell? ⟨eA, 6, none⟩ = some (Value.int .i64 (-1)) := (hT.out.el).cell 6; have e7 : (wr).cell? ⟨eA, 7, none⟩ = some (Value.int .i64 (-1)) := (hT.out.el).cell 7; have e8 : (wr).cell? ⟨eA, 8, none⟩ = some (Value.int .i64 (-1)) := (hT.out.el).cell 8; have e9 : (wr).cell? ⟨eA, 9, none⟩ = some (Value.int .i64 (-1)) := (hT.out.el).cell 9; have e10 : (wr).cell? ⟨eA, 10, none⟩ = some (Value.int .i64 (-1)) := (hT.out.el).cell 10; have e11 : (wr).cell? ⟨eA, 11, none⟩ = some (Value.int .i64 (-1)) := (hT.out.el).cell 11
    have hE := Lib.hid (Blk.new wr 35 #[Value.slice (some ⟨cA, 0, none⟩) 1 1, Value.int .i64 0, Value.int .i64 0, Value.int .i64 0, Value.int .i64 (-1), Value.int .i64 (-1), Value.int .i64 (-1), Value.int .i64 (-1), Value.int .i64 (-1), Value.int .i64 (-1), Value.int .i64 (-1), Value.int .i64 (-1)])
    have hbE := a1 wr (.cells #[Value.slice (some ⟨cA, 0, none⟩) 1 1, Value.int .i64 0, Value.int .i64 0, Value.int .i64 0, Value.int .i64 (-1), Value.int .i64 (-1), Value.int .i64 (-1), Value.int .i64 (-1), Value.int .i64 (-1), Value.int .i64 (-1), Value.int .i64 (-1), Value.int .i64 (-1)] 35)
    have n0 : ((wr.alloc (.cells #[Value.slice (some ⟨cA, 0, none⟩) 1 1, Value.int .i64 0, Value.int .i64 0, Value.int .i64 0, Value.int .i64 (-1), Value.int .i64 (-1), Value.int .i64 (-1), Value.int .i64 (-1), Value.int .i64 (-1), Value.int .i64 (-1), Value.int .i64 (-1), Value.int .i64 (-1)] 35))).cell? ⟨wr.heap.size, 0, none⟩ = some (Value.slice (some ⟨cA, 0, none⟩) 1 1) := (hE.out).cell 0; have n1 : ((wr.alloc (.cells #[Value.slice (some ⟨cA, 0, none⟩) 1 1, Value.int .i64 0, Value.int .i64 0, Value.int .i64 0, Value.int .i64 (-1), Value.int .i64 (-1), Value.int .i64 (-1), Value.int .i64 (-1), Value.int .i64 (-1), Value.int .i64 (-1), Value.int .i64 (-1), Value.int .i64 (-1)] 35))).cell? ⟨wr.heap.size, 1, none⟩ = some (Value.int .i64 0) := (hE.out).cell 1; have n2 : ((wr.alloc (.cells #[Value.slice (some ⟨cA, 0, none⟩) 1 1, Value.int .i64 0, Value.int .i64 0, Value.int .i64 0, Value.int .i64 (-1), Value.int .i64 (-1), Value.int .i64 (-1), Value.int .i64 (-1), Value.int .i64 (-1), Value.int .i64 (-1), Value.int .i64 (-1), Value.int .i64 (-1)] 35))).cell? ⟨wr.heap.size, 2, none⟩ = some (Value.int .i64 0) := (hE.out).cell 2; have n3 : ((wr.alloc (.cells #[Value.slice (some ⟨cA, 0, none⟩) 1 1, Value.int .i64 0, Value.int .i64 0, Value.int .i64 0, Value.int .i64 (-1), Value.int .i64 (-1), Value.int .i64 (-1), Value.int .i64 (-1), Value.int .i64 (-1), Value.int .i64 (-1), Value.int .i64 (-1), Value.int .i64 (-1)] 35))).cell? ⟨wr.heap.size, 3, none⟩ = some (Value.int .i64 0) := (hE.out).cell 3; have n4 : ((wr.alloc (.cells #[Value.slice (some ⟨cA, 0, none⟩) 1 1, Value.int .i64 0, Value.int .i64 0, Value.int .i64 0, Value.int .i64 (-1), Value.int .i64 (-1), Value.int .i64 (-1), Value.int .i64 (-1), Value.int .i64 (-1), Value.int .i64 (-1), Value.int .i64 (-1), Value.int .i64 (-1)] 35))).cell? ⟨wr.heap.size, 4, none⟩ = some (Value.int .i64 (-1)) := (hE.out).cell 4; have n5 : ((wr.alloc (.cells #[Value.slice (some ⟨cA, 0, none⟩) 1 1, Value.int .i64 0, Value.int .i64 0, Value.int .i64 0, Value.int .i64 (-1), Value.int .i64 (-1), Value.int .i64 (-1), Value.int .i64 (-1), Value.int .i64 (-1), Value.int .i64 (-1), Value.int .i64 (-1), Value.int .i64 (-1)] 35))).cell? ⟨wr.heap.size, 5, none⟩ = some (Value.int .i64 (-1)) := (hE.out).cell 5; have n6 : ((wr.alloc (.cells #[Value.slice (some ⟨cA, 0, none⟩) 1 1, Value.int .i64 0, Value.int .i64 0, Value.int .i64 0, Value.int .i64 (-1), Value.int .i64 (-1), Value.int .i64 (-1), Value.int .i64 (-1), Value.int .i64 (-1), Value.int .i64 (-1), Value.int .i64 (-1), Value.int .i64 (-1)] 35))).cell? ⟨wr.heap.size, 6, none⟩ = some (Value.int .i64 (-1)) := (hE.out).cell 6; have n7 : ((wr.alloc (.cells #[Value.slice (some ⟨cA, 0, none⟩) 1 1, Value.int .i64 0, Value.int .i64 0, Value.int .i64 0, Value.int .i64 (-1), Value.int .i64 (-1), Value.int .i64 (-1), Value.int .i64 (-1), Value.int .i64 (-1), Value.int .i64 (-1), Value.int .i64 (-1), Value.int .i64 (-1)] 35))).cell? ⟨wr.heap.size, 7, none⟩ = some (Value.int .i64 (-1)) := (hE.out).cell 7; have n8 : ((wr.alloc (.cells #[Value.slice (some ⟨cA, 0, none⟩) 1 1, Value.int .i64 0, Value.int .i64 0, Value.int .i64 0, Value.int .i64 (-1), Value.int .i64 (-1), Value.int .i64 (-1), Value.int .i64 (-1), Value.int .i64 (-1), Value.int .i64 (-1), Value.int .i64 (-1), Value.int .i64 (-1)] 35))).cell? ⟨wr.heap.size, 8, none⟩ = some (Value.int .i64 (-1)) := (hE.out).cell 8; have n9 : ((wr.alloc (.cells #[Value.slice (some ⟨cA, 0, none⟩) 1 1, Value.int .i64 0, Value.int .i64 0, Value.int .i64 0, Value.int .i64 (-1), Value.int .i64 (-1), Value.int .i64 (-1), Value.int .i64 (-1), Value.int .i64 (-1), Value.int .i64 (-1), Value.int .i64 (-1), Value.int .i64 (-1)] 35))).cell? ⟨wr.heap.size, 9, none⟩ = some (Value.int .i64 (-1)) := (hE.out).cell 9; have n10 : ((wr.alloc (.cells #[Value.slice (some ⟨cA, 0, none⟩) 1 1, Value.int .i64 0, Value.int .i64 0, Value.int .i64 0, Value.int .i64 (-1), Value.int .i64 (-1), Value.int .i64 (-1), Value.int .i64 (-1), Value.int .i64 (-1), Value.int .i64 (-1), Value.int .i64 (-1), Value.int .i64 (-1)] 35))).cell? ⟨wr.heap.size, 10, none⟩ = some (Value.int .i64 (-1)) := (hE.out).cell 10; have n11 : ((wr.alloc (.cells #[Value.slice (some ⟨cA, 0, none⟩) 1 1, Value.int .i64 0, Value.int .i64 0, Value.int .i64 0, Value.int .i64 (-1), Value.int .i64 (-1), Value.int .i64 (-1), Value.int .i64 (-1), Value.int .i64 (-1), Value.int .i64 (-1), Value.int .i64 (-1), Value.int .i64 (-1)] 35))).cell? ⟨wr.heap.size, 11, none⟩ = some (Value.int .i64 (-1)) := (hE.out).cell 11
    replace hs := Lib.hid (hs.out.below hbE hs.out.lt)
    replace hT := Lib.hid (hT.out.more hbE)
    replace hg := Lib.hid (hg.out.more hbE)
    replace hR := Lib.hid (hR.out.below hbE hR.out.lt)
    replace hb := Lib.hid (hb.out.trans (hbE.mono hb.out.size))
    have hc1 := Lib.hid (hasT_any cA cost rate (wr.alloc (.cells #[Value.slice (some ⟨cA, 0, none⟩) 1 1, Value.int .i64 0, Value.int .i64 0, Value.int .i64 0, Value.int .i64 (-1), Value.int .i64 (-1), Value.int .i64 (-1), Value.int .i64 (-1), Value.int .i64 (-1), Value.int .i64 (-1), Value.int .i64 (-1), Value.int .i64 (-1)] 35)) hT.out.co)
    clear hbE k5
    go_wp2_with fail
    refine hc1.out.mono ?_; rintro e w2 ⟨rfl, hq⟩
    replace hs := Lib.hid (hs.out.below hq hs.out.lt)
    replace hT := Lib.hid (hT.out.more hq)
    replace hg := Lib.hid (hg.out.more hq)
    replace hR := Lib.hid (hR.out.below hq hR.out.lt)
    replace hb := Lib.hid (hb.out.trans (hq.mono hb.out.size))
    clear hq hc1
    have k5 : (w2).cell? ⟨gh, 5, none⟩ = some (Value.slice (some ⟨eA, 0, none⟩) 1 1) := (hs.out).cell 5
    go_wp2_with fail
    have hbO := a1 w2 (.cells #[Value.string ⟨#[]⟩, Value.string ⟨#[]⟩, Value.int .i64 0, Value.int .i64 0, Value.int .i64 0, Value.slice (some ⟨eA, 0, none⟩) 1 1, Value.int .i64 0, Value.int .i64 0] 38)
    have hO := Lib.hid (Blk.new w2 38 #[Value.string ⟨#[]⟩, Value.string ⟨#[]⟩, Value.int .i64 0, Value.int .i64 0, Value.int .i64 0, Value.slice (some ⟨eA, 0, none⟩) 1 1, Value.int .i64 0, Value.int .i64 0])
    replace hs := Lib.hid (hs.out.below hbO hs.out.lt)
    replace hT := Lib.hid (hT.out.more hbO)
    replace hg := Lib.hid (hg.out.more hbO)
    replace hR := Lib.hid (hR.out.below hbO hR.out.lt)
    replace hb := Lib.hid (hb.out.trans (hbO.mono hb.out.size))
    clear hbO k5
    generalize (w2.alloc (.cells #[Value.string ⟨#[]⟩, Value.string ⟨#[]⟩, Value.int .i64 0, Value.int .i64 0, Value.int .i64 0, Value.slice (some ⟨eA, 0, none⟩) 1 1, Value.int .i64 0, Value.int .i64 0] 38)) = w6 at *
    generalize w2.heap.size = g15 at *
    have hone : Hid (∀ wz, Below w6.heap.size w6 wz → wz.cell? ⟨g15, 0, none⟩ = some (Value.string ⟨#[]⟩) ∧ wz.cell? ⟨g15, 1, none⟩ = some (Value.string ⟨#[]⟩) ∧ wz.cell? ⟨g15, 2, none⟩ = some (Value.int .i64 0) ∧ wz.cell? ⟨g15, 3, none⟩ = some (Value.int .i64 0) ∧ wz.cell? ⟨g15, 4, none⟩ = some (Value.int .i64 0) ∧ wz.cell? ⟨g15, 5, none⟩ = some (Value.slice (some ⟨eA, 0, none⟩) 1 1) ∧ wz.cell? ⟨g15, 6, none⟩ = some (Value.int .i64 0) ∧ wz.cell? ⟨g15, 7, none⟩ = some (Value.int .i64 0)) := fun wz h => by
      have q := hO.out.below h hO.out.lt
      exact ⟨q.cell 0, q.cell 1, q.cell 2, q.cell 3, q.cell 4, q.cell 5, q.cell 6, q.cell 7⟩
    have hses : Hid (∀ wz, Below w6.heap.size w6 wz → wz.cell? ⟨gh, 8, none⟩ = some (Value.int .i64 0) ∧ wz.cell? ⟨gh, 8 + 1, none⟩ = some (Value.bool false) ∧ wz.cell? ⟨gh, 10, none⟩ = some (Value.int .i64 start)) := fun wz h => by
      have q := hs.out.below h hs.out.lt
      exact ⟨q.cell 8, q.cell 9, q.cell 10⟩
    have hfind : Hid (∀ wz, Below w6.heap.size w6 wz → Calls Tryd.prog 55 #[.agg #[Value.string ⟨#[]⟩, Value.string ⟨#[]⟩, Value.int .i64 0, Value.int .i64 0, Value.int .i64 0, Value.slice (some ⟨eA, 0, none⟩) 1 1, Value.int .i64 0, Value.int .i64 0], .agg #[Value.int .i64 0, Value.bool false], .int .i64 2, .int .i64 (start + mi), .int .i64 mi, .int .i64 en, .int .i64 po] wz fun e w' => e = .returned (.tuple #[.agg #[Value.int .i64 2, Value.int .i64 cost, Value.int .i64 1, Value.int .i64 rate], .bool true]) ∧ Below wz.heap.size wz w') := fun wz h => find_any _ _ eA cA cost rate (start + mi) mi en po 0 0 0 0 0 wz (hg.out.more h) (hT.out.more h) (by omega) hm1
    refine RM.region [] [16] (F := F48 gh g15 eA w6.heap.size cost rate start mi en po) (W := fun wz => Below w6.heap.size w6 wz) (R := fun _ => Rb) (S := St 32 w6.heap.size) (G := G48 cost rate w6.heap.size) rfl F48_more G48_more F48_st G48_st (by kernel_rfl) (by kernel_rfl) (by kernel_rfl) (by kernel_rfl) (by kernel_rfl) ?_ ?_ ?_ (by kernel_rfl) ?_
    · exact (Below.refl _ _).drew
    · intro t ht
      unfold F48
      split <;> first | trivial | exact rfl | (exact absurd ht (by decide))
    · simp only [List.forall_mem_cons, List.not_mem_nil, false_implies, implies_true, and_true]
      refine ⟨?_, ?_, ?_, ?_, ?_, ?_, ?_, ?_, ?_, ?_, ?_, ?_, ?_, ?_, ?_, ?_, ?_, ?_, ?_, ?_, ?_, ?_⟩
      · intro a w2 hw _ hf K hK
        have f0 := hf 15 rfl
        simp only [F48] at f0
        clear hf
        obtain ⟨k0, k1, k2, k3, k4, k5, k6, k7⟩ := hone.out w2 hw
        go_simp
        exact hK _ _ _ rfl rfl hw (Below.refl _ _) (fun h => absurd h (by decide))
      · intro a w2 hw _ hf K hK
        have f0 := hf 0 rfl
        simp only [F48] at f0
        clear hf
        go_simp
        exact hK _ _ _ rfl rfl hw (Below.refl _ _) (fun h => absurd h (by decide))
      · intro a w2 hw _ hf K hK
        have f0 := hf 45 rfl
        simp only [F48] at f0
        clear hf
        go_simp
        exact hK _ _ _ rfl rfl hw (Below.refl _ _) (fun h => absurd h (by decide))
      · intro a w2 hw _ hf K hK
        have f0 := hf 46 rfl
        simp only [F48] at f0
        clear hf
        go_simp
        exact hK _ _ _ rfl rfl hw (Below.refl _ _) (fun h => absurd h (by decide))
      · intro a w2 hw _ hf K hK
        have f0 := hf 47 rfl
        simp only [F48] at f0
        clear hf
        obtain ⟨k0, k1, k2⟩ := hses.out w2 hw
        go_simp
        exact hK _ _ _ rfl rfl hw (Below.refl _ _) (fun h => absurd h (by decide))
      · intro a w2 hw _ hf K hK
        have f0 := hf 1 rfl
        simp only [F48] at f0
        clear hf
        go_simp
        exact hK _ _ _ rfl rfl hw (Below.refl _ _) (fun h => absurd h (by decide))
      · intro a w2 hw _ hf K hK
        have f0 := hf 0 rfl
        simp only [F48] at f0
        clear hf
        go_simp
        exact hK _ _ _ rfl rfl hw (Below.refl _ _) (fun h => absurd h (by decide))
      · intro a w2 hw _ hf K hK
        have f0 := hf 50 rfl
        simp only [F48] at f0
        clear hf
        go_simp
        exact hK _ _ _ rfl rfl hw (Below.refl _ _) (fun h => absurd h (by decide))
      · intro a w2 hw _ hf K hK
        have f0 := hf 51 rfl
        simp only [F48] at f0
        clear hf
        go_simp
        exact hK _ _ _ rfl rfl hw (Below.refl _ _) (fun h => absurd h (by decide))
      · intro a w2 hw _ hf K hK
        have f0 := hf 52 rfl
        simp only [F48] at f0
        clear hf
        obtain ⟨k0, k1, k2⟩ := hses.out w2 hw
        go_simp
        exact hK _ _ _ rfl rfl hw (Below.refl _ _) (fun h => absurd h (by decide))
      · intro a w2 hw _ hf K hK
        have f0 := hf 2 rfl
        simp only [F48] at f0
        clear hf
        go_simp
        exact hK _ _ _ rfl rfl hw (Below.refl _ _) (fun h => absurd h (by decide))
      · intro a w2 hw _ hf K hK
        have f0 := hf 53 rfl
        have f1 := hf 54 rfl
        simp only [F48] at f0 f1
        clear hf
        go_simp
        exact hK _ _ _ rfl (by show _ = _; rw [IntWalk.i64_in _ (by omega)]) hw (Below.refl _ _) (fun h => absurd h (by decide))
      · intro a w2 hw _ hf K hK
        have f0 := hf 2 rfl
        simp only [F48] at f0
        clear hf
        go_simp
        exact hK _ _ _ rfl rfl hw (Below.refl _ _) (fun h => absurd h (by decide))
      · intro a w2 hw _ hf K hK
        have f0 := hf 3 rfl
        simp only [F48] at f0
        clear hf
        go_simp
        exact hK _ _ _ rfl rfl hw (Below.refl _ _) (fun h => absurd h (by decide))
      · intro a w2 hw _ hf K hK
        have f0 := hf 4 rfl
        simp only [F48] at f0
        clear hf
        go_simp
        exact hK _ _ _ rfl rfl hw (Below.refl _ _) (fun h => absurd h (by decide))
      · intro a w2 hw _ hf K hK
        have f0 := hf 44 rfl
        have f1 := hf 48 rfl
        have f2 := hf 49 rfl
        have f3 := hf 55 rfl
        have f4 := hf 56 rfl
        have f5 := hf 57 rfl
        have f6 := hf 58 rfl
        simp only [F48] at f0 f1 f2 f3 f4 f5 f6
        clear hf
        go_simp
        refine (hfind.out w2 hw).mono ?_; rintro e w5 ⟨rfl, hb⟩
        exact hK _ _ _ rfl rfl (hw.trans (hb.mono hw.size)) hb (fun h => absurd h (by decide))
      · intro a w2 hw _ hf K hK
        have f0 := hf 59 rfl
        simp only [F48] at f0
        clear hf
        go_simp
        exact hK _ _ _ rfl rfl hw (Below.refl _ _) (fun h => absurd h (by decide))
      · intro a w2 hw _ hf K hK
        have f0 := hf 43 rfl
        simp only [F48] at f0
        clear hf
        go_simp
        exact hK _ _ _ rfl rfl hw (Below.refl _ _) (fun h => absurd h (by decide))
      · intro a w2 hw _ hf K hK
        have f0 := hf 43 rfl
        simp only [F48] at f0
        clear hf
        go_simp
        exact hK _ _ _ rfl rfl hw (Below.refl _ _) (fun h => absurd h (by decide))
      · intro a w2 hw _ hf K hK
        clear hf
        go_simp
        refine hK _ _ _ rfl (Var.made w2 _ hw.size rfl) (below_new hw _) (a1 _ _) (fun _ t u ht hu hF => ?_)
        have ht : t = 16 := by simpa using hu
        exact absurd ht (by assumption)
      · intro a w2 hw hf K hK
        have f0 := hf 16 rfl
        have f1 := hf 60 rfl
        simp only [F48] at f0 f1
        clear hf
        obtain ⟨g, e0, hg, cs, hbk, hn⟩ := f0
        obtain ⟨b0, b1, b2, b3, rfl⟩ := arr4 hn
        have k0 : (w2).cell? ⟨g, 0, none⟩ = some (b0) := (hbk).cell 0; have k1 : (w2).cell? ⟨g, 1, none⟩ = some (b1) := (hbk).cell 1; have k2 : (w2).cell? ⟨g, 2, none⟩ = some (b2) := (hbk).cell 2; have k3 : (w2).cell? ⟨g, 3, none⟩ = some (b3) := (hbk).cell 3; have z0 : (w2).frozen? ⟨g, 0, none⟩ = false := (hbk).frozen 0; have z1 : (w2).frozen? ⟨g, 1, none⟩ = false := (hbk).frozen 1; have z2 : (w2).frozen? ⟨g, 2, none⟩ = false := (hbk).frozen 2; have z3 : (w2).frozen? ⟨g, 3, none⟩ = false := (hbk).frozen 3
        replace hbk := Lib.hid hbk
        go_simp
        have hB := cv_set4 hbk.out (Value.int .i64 2) (Value.int .i64 cost) (Value.int .i64 1) (Value.int .i64 rate)
        have hS : St 32 w6.heap.size (.pointer (some ⟨g, 0, none⟩)) w2 _ := ⟨g, _, _, rfl, hg, grown_set4 w2 g (Value.int .i64 2) (Value.int .i64 cost) (Value.int .i64 1) (Value.int .i64 rate), hbk.out, hB, rfl⟩
        refine hK undef _ (hS.below hw (Nat.le_refl _)) ?_ ?_
        · show St _ _ (a.tmps[16]?.getD undef) _ _; rw [e0]; exact hS
        · show G48 _ _ _ 16 (a.tmps[16]?.getD undef) _; rw [e0]; exact ⟨g, rfl, hg, hB⟩
      · intro a w2 hw _ hf K hK
        have f0 := hf 61 rfl
        simp only [F48] at f0
        clear hf
        go_simp
        exact hK _ _ _ rfl rfl hw (Below.refl _ _) (fun h => absurd h (by decide))
    · intro a' w9 hd hs hw hout hf hg
      simp only [List.forall_mem_cons] at hg
      have hG16 : G48 cost rate w6.heap.size 16 (a'.tmps[16]?.getD undef) w9 := hg.2.2.2.2.2.2.2.2.2.2.2.2.2.2.2.2.2.2.2.2.1 trivial
      have h16 := hf 16 rfl
      simp only [F48] at h16
      have h17 := hf 17 rfl
      simp only [F48] at h17
      have e10 : _ = some (Value.pointer (some ⟨w.heap.size, 0, none⟩)) := hout 10 rfl
      have e13 : _ = some (Value.int .i64 0) := hout 13 rfl
      obtain ⟨tm, df⟩ := a'
      simp only at hd hs hG16 h16 h17 e10 e13
      have e := F48_lit tm hs
      simp only [h17, e10, e13, Option.getD_some] at e
      clear hf hout hs
      rw [e, hd]
      clear e hd h17 e10 e13
      generalize tm[16]?.getD undef = u16x at h16 hG16 ⊢
      generalize tm[0]?.getD undef = u0x, tm[1]?.getD undef = u1x, tm[2]?.getD undef = u2x, tm[3]?.getD undef = u3x, tm[4]?.getD undef = u4x, tm[5]?.getD undef = u5x, tm[6]?.getD undef = u6x, tm[7]?.getD undef = u7x, tm[8]?.getD undef = u8x, tm[9]?.getD undef = u9x, tm[11]?.getD undef = u11x, tm[12]?.getD undef = u12x, tm[14]?.getD undef = u14x, tm[15]?.getD undef = u15x, tm[18]?.getD undef = u18x, tm[19]?.getD undef = u19x, tm[20]?.getD undef = u20x, tm[21]?.getD undef = u21x, tm[22]?.getD undef = u22x, tm[23]?.getD undef = u23x, tm[24]?.getD undef = u24x, tm[25]?.getD undef = u25x, tm[26]?.getD undef = u26x, tm[27]?.getD undef = u27x, tm[28]?.getD undef = u28x, tm[29]?.getD undef = u29x, tm[30]?.getD undef = u30x, tm[31]?.getD undef = u31x, tm[32]?.getD undef = u32x, tm[33]?.getD undef = u33x, tm[34]?.getD undef = u34x, tm[35]?.getD undef = u35x, tm[36]?.getD undef = u36x, tm[37]?.getD undef = u37x, tm[38]?.getD undef = u38x, tm[39]?.getD undef = u39x, tm[40]?.getD undef = u40x, tm[41]?.getD undef = u41x, tm[42]?.getD undef = u42x, tm[43]?.getD undef = u43x, tm[44]?.getD undef = u44x, tm[45]?.getD undef = u45x, tm[46]?.getD undef = u46x, tm[47]?.getD undef = u47x, tm[48]?.getD undef = u48x, tm[49]?.getD undef = u49x, tm[50]?.getD undef = u50x, tm[51]?.getD undef = u51x, tm[52]?.getD undef = u52x, tm[53]?.getD undef = u53x, tm[54]?.getD undef = u54x, tm[55]?.getD undef = u55x, tm[56]?.getD undef = u56x, tm[57]?.getD undef = u57x, tm[58]?.getD undef = u58x, tm[59]?.getD undef = u59x, tm[60]?.getD undef = u60x, tm[61]?.getD undef = u61x, tm[62]?.getD undef = u62x, tm[63]?.getD undef = u63x, tm[64]?.getD undef = u64x, tm[65]?.getD undef = u65x, tm[66]?.getD undef = u66x
      obtain ⟨g7, h7, hg7, hb7⟩ := hG16
      subst h7
      have hkw := Lib.hid hw
      clear hone hses hfind hw hg7
      have hR9 := Lib.hid (hR.out.below hkw.out hR.out.lt)
      have hb9 := Lib.hid (hb.out.trans (hkw.out.mono hb.out.size))
      clear hR hb hkw
      have k0 : (w9).cell? ⟨g7, 0, none⟩ = some (Value.int .i64 2) := (hb7).cell 0; have k1 : (w9).cell? ⟨g7, 1, none⟩ = some (Value.int .i64 cost) := (hb7).cell 1; have k2 : (w9).cell? ⟨g7, 2, none⟩ = some (Value.int .i64 1) := (hb7).cell 2; have k3 : (w9).cell? ⟨g7, 3, none⟩ = some (Value.int .i64 rate) := (hb7).cell 3
      have r0 : (w9).cell? ⟨w.heap.size, 0, none⟩ = some (Value.int .i64 0) := (hR9.out).cell 0; have r1 : (w9).cell? ⟨w.heap.size, 1, none⟩ = some (Value.int .i64 0) := (hR9.out).cell 1; have r2 : (w9).cell? ⟨w.heap.size, 2, none⟩ = some (Value.int .i64 0) := (hR9.out).cell 2; have r3 : (w9).cell? ⟨w.heap.size, 3, none⟩ = some (Value.int .i64 0) := (hR9.out).cell 3; have rz0 : (w9).frozen? ⟨w.heap.size, 0, none⟩ = false := (hR9.out).frozen 0; have rz1 : (w9).frozen? ⟨w.heap.size, 1, none⟩ = false := (hR9.out).frozen 1; have rz2 : (w9).frozen? ⟨w.heap.size, 2, none⟩ = false := (hR9.out).frozen 2; have rz3 : (w9).frozen? ⟨w.heap.size, 3, none⟩ = false := (hR9.out).frozen 3
      clear hb7
      go_wp2_with fail
      (try simp only [Exit.inBlock, Exit.then])
      have hRf : Blk ((((w9.setCell ⟨w.heap.size, 0, none⟩ (Value.int .i64 2)).setCell ⟨w.heap.size, 1, none⟩ (Value.int .i64 cost)).setCell ⟨w.heap.size, 2, none⟩ (Value.int .i64 1)).setCell ⟨w.heap.size, 3, none⟩ (Value.int .i64 rate)) w.heap.size 32 #[Value.int .i64 2, Value.int .i64 cost, Value.int .i64 1, Value.int .i64 rate] := (((hR9.out.set_ 0 _).set_ 1 _).set_ 2 _).set_ 3 _
      refine bodyPost_ret (v := .tuple #[.agg #[Value.int .i64 2, Value.int .i64 cost, Value.int .i64 1, Value.int .i64 rate], .int .i64 0, .bool true]) ?_ rfl ?_
      · refine (res3 (fn := Tryd.f48) (p := 10) (u := 11) (v := 12) (ty := 32) rfl _ _ w.heap.size 32 _ (0, 0) _ ?_ hRf Tryd.underlying32 rfl (by kernel_rfl)).trans ?_
        · rfl
        · rfl
      · exact ⟨rfl, below_set (below_set (below_set (below_set hb9.out (Nat.le_refl _) 0 _) (Nat.le_refl _) 1 _) (Nat.le_refl _) 2 _) (Nat.le_refl _) 3 _⟩
end Go.Proofs.YtbngclibfnnejaaDoor
