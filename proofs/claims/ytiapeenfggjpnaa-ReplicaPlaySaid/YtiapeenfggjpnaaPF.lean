/- Replicated servers: Valid of both, walked. -/
import Derived.Test.YtiapeenfggjpnaaPE
import Derived.Test.YtiapeenfggjpnaaRU
set_option linter.unusedVariables false
set_option linter.unusedSimpArgs false
namespace Go.Proofs.Ytiapeenfggjpnaa
open Go.RowKit
theorem validC_head (c : Cv) (h : headE c = true) : validC c = 2 := by unfold validC; rw [if_pos h]
theorem validC_sv (c : Cv) (h : headE c = false) (e : Int) (he : serversE c.view c.servers = e) (h0 : e ≠ 0) : validC c = e := by unfold validC; rw [if_neg (by rw [h]; decide), he, if_pos h0]
theorem validC_prim (c : Cv) (h : headE c = false) (he : serversE c.view c.servers = 0) (hp : primE c = true) : validC c = 1 := by unfold validC; rw [if_neg (by rw [h]; decide), he, if_neg (by decide), if_pos hp]
theorem validC_com (c : Cv) (h : headE c = false) (he : serversE c.view c.servers = 0) (hp : primE c = false) : validC c = if c.commit < 0 ∨ ((bestLog c).length : Int) < c.commit then 1 else 0 := by unfold validC; rw [if_neg (by rw [h]; decide), he, if_neg (by decide), if_neg (by rw [hp]; decide)]
theorem best_at {n : Nat} {sl : List Sm} (hl : sl.length = n) (hs : ∀ s ∈ sl, s.log.length = s.n) (hn : 1 ≤ n) : ∃ (bj : Nat) (y : Sm), (∀ p v m, bestLog ⟨p, v, m, sl.map Sm.val⟩ = y.log.map Em.val) ∧ greatS (fun _ => true) (sl.map Sm.val) = some (bj, y.val) ∧ bj < n ∧ sl[bj]? = some y ∧ y.log.length = y.n := by
  have h0 : 0 < sl.length := by omega
  obtain ⟨q, hq, _⟩ := great_max (p := fun _ => true) (l := sl.map Sm.val) (s := (sl[0]).val) (List.mem_map.2 ⟨_, List.getElem_mem h0, rfl⟩) rfl
  obtain ⟨h1, _⟩ := great_some hq
  rw [List.getElem?_map] at h1
  cases hy : sl[q.1]? with
  | none => rw [hy] at h1; cases h1
  | some y =>
    rw [hy] at h1
    injection h1 with h1
    refine ⟨q.1, y, fun p v m => ?_, by rw [hq, h1], ?_, hy, hs y (List.mem_of_getElem? hy)⟩
    · unfold bestLog
      rw [hq]
      show q.2.log = _
      rw [← h1]
      rfl
    · have := (List.getElem?_eq_some_iff.1 hy).1
      omega
def F11a (gx n c k sn sc : Nat) (ad : Addr) (up : Bool) (sview view E : Int) (sA : Option Addr) : Tmp → Value → World → Prop
  | 1, v, _ => v = .pointer (some ⟨gx, 0, none⟩)
  | 4, v, _ => v = .int .i64 (k : Int)
  | 5, v, _ => v = .int .i64 E
  | 43, v, _ => v = .pointer (some ⟨gx, 3, none⟩)
  | 44, v, _ => v = .slice (some ad) n c
  | 45, v, _ => v = .int .i64 (k : Int)
  | 46, v, _ => v = .pointer (some (ad.add (k * 3)))
  | 47, v, _ => v = .agg #[Value.bool up, Value.int .i64 sview, Value.slice sA sn sc]
  | 48, v, _ => v = .pointer (some ⟨gx, 1, none⟩)
  | 49, v, _ => v = .int .i64 view
  | 50, v, _ => v = .int .i64 E
  | _, _, _ => True
theorem F11a_more {gx n c k sn sc : Nat} {ad : Addr} {up : Bool} {sview view E : Int} {sA : Option Addr} (d t : Tmp) (v : Value) (w w' : World) (hR : Rb w w') (hne : t ≠ d) (hc : ([] : List (Tmp × Tmp)).contains (d, t) = false) (h : F11a gx n c k sn sc ad up sview view E sA t v w) : F11a gx n c k sn sc ad up sview view E sA t v w' := by
  unfold F11a at *
  split at h <;> first | exact h
theorem F11a_lit (tm : Array Value) (hs : tm.size = 116) : tm = #[tm[0]?.getD undef, tm[1]?.getD undef, tm[2]?.getD undef, tm[3]?.getD undef, tm[4]?.getD undef, tm[5]?.getD undef, tm[6]?.getD undef, tm[7]?.getD undef, tm[8]?.getD undef, tm[9]?.getD undef, tm[10]?.getD undef, tm[11]?.getD undef, tm[12]?.getD undef, tm[13]?.getD undef, tm[14]?.getD undef, tm[15]?.getD undef, tm[16]?.getD undef, tm[17]?.getD undef, tm[18]?.getD undef, tm[19]?.getD undef, tm[20]?.getD undef, tm[21]?.getD undef, tm[22]?.getD undef, tm[23]?.getD undef, tm[24]?.getD undef, tm[25]?.getD undef, tm[26]?.getD undef, tm[27]?.getD undef, tm[28]?.getD undef, tm[29]?.getD undef, tm[30]?.getD undef, tm[31]?.getD undef, tm[32]?.getD undef, tm[33]?.getD undef, tm[34]?.getD undef, tm[35]?.getD undef, tm[36]?.getD undef, tm[37]?.getD undef, tm[38]?.getD undef, tm[39]?.getD undef, tm[40]?.getD undef, tm[41]?.getD undef, tm[42]?.getD undef, tm[43]?.getD undef, tm[44]?.getD undef, tm[45]?.getD undef, tm[46]?.getD undef, tm[47]?.getD undef, tm[48]?.getD undef, tm[49]?.getD undef, tm[50]?.getD undef, tm[51]?.getD undef, tm[52]?.getD undef, tm[53]?.getD undef, tm[54]?.getD undef, tm[55]?.getD undef, tm[56]?.getD undef, tm[57]?.getD undef, tm[58]?.getD undef, tm[59]?.getD undef, tm[60]?.getD undef, tm[61]?.getD undef, tm[62]?.getD undef, tm[63]?.getD undef, tm[64]?.getD undef, tm[65]?.getD undef, tm[66]?.getD undef, tm[67]?.getD undef, tm[68]?.getD undef, tm[69]?.getD undef, tm[70]?.getD undef, tm[71]?.getD undef, tm[72]?.getD undef, tm[73]?.getD undef, tm[74]?.getD undef, tm[75]?.getD undef, tm[76]?.getD undef, tm[77]?.getD undef, tm[78]?.getD undef, tm[79]?.getD undef, tm[80]?.getD undef, tm[81]?.getD undef, tm[82]?.getD undef, tm[83]?.getD undef, tm[84]?.getD undef, tm[85]?.getD undef, tm[86]?.getD undef, tm[87]?.getD undef, tm[88]?.getD undef, tm[89]?.getD undef, tm[90]?.getD undef, tm[91]?.getD undef, tm[92]?.getD undef, tm[93]?.getD undef, tm[94]?.getD undef, tm[95]?.getD undef, tm[96]?.getD undef, tm[97]?.getD undef, tm[98]?.getD undef, tm[99]?.getD undef, tm[100]?.getD undef, tm[101]?.getD undef, tm[102]?.getD undef, tm[103]?.getD undef, tm[104]?.getD undef, tm[105]?.getD undef, tm[106]?.getD undef, tm[107]?.getD undef, tm[108]?.getD undef, tm[109]?.getD undef, tm[110]?.getD undef, tm[111]?.getD undef, tm[112]?.getD undef, tm[113]?.getD undef, tm[114]?.getD undef, tm[115]?.getD undef] := lit_arr tm 116 hs
def F11b (gx n c bj yn yc : Nat) (ad : Addr) (pm view commit : Int) (yA : Option Addr) (c0 c1 : Bool) : Tmp → Value → World → Prop
  | 1, v, _ => v = .pointer (some ⟨gx, 0, none⟩)
  | 100, v, _ => v = .pointer (some ⟨gx, 2, none⟩)
  | 101, v, _ => v = .int .i64 commit
  | 102, v, _ => v = .bool c0
  | 103, v, _ => v = .bool c0
  | 104, v, _ => (c0 = false → v = .pointer (some ⟨gx, 2, none⟩))
  | 105, v, _ => (c0 = false → v = .int .i64 commit)
  | 106, v, _ => (c0 = false → v = .pointer (some ⟨gx, 3, none⟩))
  | 107, v, _ => (c0 = false → v = .slice (some ad) n c)
  | 108, v, _ => (c0 = false → v = .agg #[.int .i64 pm, .int .i64 view, .int .i64 commit, .slice (some ad) n c])
  | 109, v, _ => (c0 = false → v = .int .i64 (bj : Int))
  | 110, v, _ => (c0 = false → v = .pointer (some (ad.add (bj * 3))))
  | 111, v, _ => (c0 = false → v = .pointer (some ⟨(ad.add (bj * 3)).block, (ad.add (bj * 3)).off + 2, none⟩))
  | 112, v, _ => (c0 = false → v = .slice yA yn yc)
  | 113, v, _ => (c0 = false → v = .int .i64 (yn : Int))
  | 114, v, _ => (c0 = false → v = .bool c1)
  | 115, v, _ => v = .bool (c0 || c1)
  | _, _, _ => True
theorem F11b_more {gx n c bj yn yc : Nat} {ad : Addr} {pm view commit : Int} {yA : Option Addr} {c0 c1 : Bool} (d t : Tmp) (v : Value) (w w' : World) (hR : Rb w w') (hne : t ≠ d) (hc : ([] : List (Tmp × Tmp)).contains (d, t) = false) (h : F11b gx n c bj yn yc ad pm view commit yA c0 c1 t v w) : F11b gx n c bj yn yc ad pm view commit yA c0 c1 t v w' := by
  unfold F11b at *
  split at h <;> first | exact h
theorem F11b_lit (tm : Array Value) (hs : tm.size = 116) : tm = #[tm[0]?.getD undef, tm[1]?.getD undef, tm[2]?.getD undef, tm[3]?.getD undef, tm[4]?.getD undef, tm[5]?.getD undef, tm[6]?.getD undef, tm[7]?.getD undef, tm[8]?.getD undef, tm[9]?.getD undef, tm[10]?.getD undef, tm[11]?.getD undef, tm[12]?.getD undef, tm[13]?.getD undef, tm[14]?.getD undef, tm[15]?.getD undef, tm[16]?.getD undef, tm[17]?.getD undef, tm[18]?.getD undef, tm[19]?.getD undef, tm[20]?.getD undef, tm[21]?.getD undef, tm[22]?.getD undef, tm[23]?.getD undef, tm[24]?.getD undef, tm[25]?.getD undef, tm[26]?.getD undef, tm[27]?.getD undef, tm[28]?.getD undef, tm[29]?.getD undef, tm[30]?.getD undef, tm[31]?.getD undef, tm[32]?.getD undef, tm[33]?.getD undef, tm[34]?.getD undef, tm[35]?.getD undef, tm[36]?.getD undef, tm[37]?.getD undef, tm[38]?.getD undef, tm[39]?.getD undef, tm[40]?.getD undef, tm[41]?.getD undef, tm[42]?.getD undef, tm[43]?.getD undef, tm[44]?.getD undef, tm[45]?.getD undef, tm[46]?.getD undef, tm[47]?.getD undef, tm[48]?.getD undef, tm[49]?.getD undef, tm[50]?.getD undef, tm[51]?.getD undef, tm[52]?.getD undef, tm[53]?.getD undef, tm[54]?.getD undef, tm[55]?.getD undef, tm[56]?.getD undef, tm[57]?.getD undef, tm[58]?.getD undef, tm[59]?.getD undef, tm[60]?.getD undef, tm[61]?.getD undef, tm[62]?.getD undef, tm[63]?.getD undef, tm[64]?.getD undef, tm[65]?.getD undef, tm[66]?.getD undef, tm[67]?.getD undef, tm[68]?.getD undef, tm[69]?.getD undef, tm[70]?.getD undef, tm[71]?.getD undef, tm[72]?.getD undef, tm[73]?.getD undef, tm[74]?.getD undef, tm[75]?.getD undef, tm[76]?.getD undef, tm[77]?.getD undef, tm[78]?.getD undef, tm[79]?.getD undef, tm[80]?.getD undef, tm[81]?.getD undef, tm[82]?.getD undef, tm[83]?.getD undef, tm[84]?.getD undef, tm[85]?.getD undef, tm[86]?.getD undef, tm[87]?.getD undef, tm[88]?.getD undef, tm[89]?.getD undef, tm[90]?.getD undef, tm[91]?.getD undef, tm[92]?.getD undef, tm[93]?.getD undef, tm[94]?.getD undef, tm[95]?.getD undef, tm[96]?.getD undef, tm[97]?.getD undef, tm[98]?.getD undef, tm[99]?.getD undef, tm[100]?.getD undef, tm[101]?.getD undef, tm[102]?.getD undef, tm[103]?.getD undef, tm[104]?.getD undef, tm[105]?.getD undef, tm[106]?.getD undef, tm[107]?.getD undef, tm[108]?.getD undef, tm[109]?.getD undef, tm[110]?.getD undef, tm[111]?.getD undef, tm[112]?.getD undef, tm[113]?.getD undef, tm[114]?.getD undef, tm[115]?.getD undef] := lit_arr tm 116 hs
set_option maxRecDepth 100000 in
set_option maxHeartbeats 8000000 in
theorem valid_any (k : Cm) (w : World) {Q : Nat → Prop} (h : CmAt w Q k) :
    Calls Try.prog 25 #[clV k] w fun e w' => e = .returned (.int .i64 (validC k.val)) ∧ Below w.heap.size w w' := by
  have hl : Hid (k.servers.length = k.n) := h.len
  have hcm := Lib.hid h
  clear h
  obtain ⟨primary, view, commit, A, n, c, sl⟩ := k
  simp only [clV] at *
  have hx0 := Lib.hid (Blk.new w 24 #[Value.int .i64 primary, Value.int .i64 view, Value.int .i64 commit, Value.slice A n c])
  have hb0 : Hid (Below w.heap.size w (w.alloc (.cells #[Value.int .i64 primary, Value.int .i64 view, Value.int .i64 commit, Value.slice A n c] 24))) := a1 w _
  obtain ⟨k0, k1, k2, k3⟩ := cells4 ((w.alloc (.cells #[Value.int .i64 primary, Value.int .i64 view, Value.int .i64 commit, Value.slice A n c] 24))) (w.heap.size) (Value.int .i64 primary) (Value.int .i64 view) (Value.int .i64 commit) (Value.slice A n c) (hx0.out)
  by_cases q0 : n < 1
  · have q0d : decide ((n : Int) < 1) = true := by simp; omega
    have q0i : (n : Int) < 1 := by omega
    have hF : Hid (validC ⟨primary, view, commit, sl.map Sm.val⟩ = 2) := validC_head _ (by unfold headE; simp only [List.length_map, hl.out]; rw [show decide (n < 1) = true from decide_eq_true q0]; simp)
    go_enter Try.func25, Try.ntmps25
    go_wp2_with fail
    go_ret
    exact ⟨congrArg (fun e : Int => Ending.returned (Value.int .i64 e)) hF.out.symm, hb0.out⟩
  have q0d : decide ((n : Int) < 1) = false := by simp; omega
  have q0i : ¬ ((n : Int) < 1) := by omega
  by_cases q1 : 7 < n
  · have q1d : decide ((7 : Int) < (n : Int)) = true := by simp; omega
    have q1i : (7 : Int) < (n : Int) := by omega
    have hF : Hid (validC ⟨primary, view, commit, sl.map Sm.val⟩ = 2) := validC_head _ (by unfold headE; simp only [List.length_map, hl.out]; rw [show decide (7 < n) = true from decide_eq_true q1]; simp)
    go_enter Try.func25, Try.ntmps25
    go_wp2_with fail
    go_ret
    exact ⟨congrArg (fun e : Int => Ending.returned (Value.int .i64 e)) hF.out.symm, hb0.out⟩
  have q1d : decide ((7 : Int) < (n : Int)) = false := by simp; omega
  have q1i : ¬ ((7 : Int) < (n : Int)) := by omega
  by_cases q2 : primary < -1
  · have q2d : decide (primary < -1) = true := by simp; omega
    have q2i : primary < -1 := by omega
    have hF : Hid (validC ⟨primary, view, commit, sl.map Sm.val⟩ = 2) := validC_head _ (by unfold headE; simp only [List.length_map, hl.out]; rw [show decide (primary < -1) = true from decide_eq_true q2]; simp)
    go_enter Try.func25, Try.ntmps25
    go_wp2_with fail
    go_ret
    exact ⟨congrArg (fun e : Int => Ending.returned (Value.int .i64 e)) hF.out.symm, hb0.out⟩
  have q2d : decide (primary < -1) = false := by simp; omega
  have q2i : ¬ (primary < -1) := by omega
  by_cases q3 : (n : Int) ≤ primary
  · have q3d : decide ((n : Int) ≤ primary) = true := by simp; omega
    have q3i : (n : Int) ≤ primary := by omega
    have hF : Hid (validC ⟨primary, view, commit, sl.map Sm.val⟩ = 2) := validC_head _ (by unfold headE; simp only [List.length_map, hl.out]; rw [show decide ((n : Int) ≤ primary) = true from decide_eq_true q3]; simp)
    go_enter Try.func25, Try.ntmps25
    go_wp2_with fail
    go_ret
    exact ⟨congrArg (fun e : Int => Ending.returned (Value.int .i64 e)) hF.out.symm, hb0.out⟩
  have q3d : decide ((n : Int) ≤ primary) = false := by simp; omega
  have q3i : ¬ ((n : Int) ≤ primary) := by omega
  by_cases q4 : view < 1
  · have q4d : decide (view < 1) = true := by simp; omega
    have q4i : view < 1 := by omega
    have hF : Hid (validC ⟨primary, view, commit, sl.map Sm.val⟩ = 2) := validC_head _ (by unfold headE; simp only [List.length_map, hl.out]; rw [show decide (view < 1) = true from decide_eq_true q4]; simp)
    go_enter Try.func25, Try.ntmps25
    go_wp2_with fail
    go_ret
    exact ⟨congrArg (fun e : Int => Ending.returned (Value.int .i64 e)) hF.out.symm, hb0.out⟩
  have q4d : decide (view < 1) = false := by simp; omega
  have q4i : ¬ (view < 1) := by omega
  by_cases q5 : 2147483647 < view
  · have q5d : decide (2147483647 < view) = true := by simp; omega
    have q5i : 2147483647 < view := by omega
    have hF : Hid (validC ⟨primary, view, commit, sl.map Sm.val⟩ = 2) := validC_head _ (by unfold headE; simp only [List.length_map, hl.out]; rw [show decide (2147483647 < view) = true from decide_eq_true q5]; simp)
    go_enter Try.func25, Try.ntmps25
    go_wp2_with fail
    go_ret
    exact ⟨congrArg (fun e : Int => Ending.returned (Value.int .i64 e)) hF.out.symm, hb0.out⟩
  have q5d : decide (2147483647 < view) = false := by simp; omega
  have q5i : ¬ (2147483647 < view) := by omega
  have hh : Hid (headE ⟨primary, view, commit, sl.map Sm.val⟩ = false) := by
    show _ = _
    unfold headE
    simp only [List.length_map, hl.out, Bool.or_eq_false_iff, decide_eq_false_iff_not]
    exact ⟨⟨⟨⟨⟨q0, q1⟩, q2⟩, q3⟩, q4⟩, q5⟩
  have hn1 : 1 ≤ n := by omega
  have hn7 : n ≤ 7 := by omega
  go_enter Try.func25, Try.ntmps25
  go_wp2_with fail
  clear k0 k1 k2 k3
  generalize (w.alloc (.cells #[Value.int .i64 primary, Value.int .i64 view, Value.int .i64 commit, Value.slice A n c] 24)) = w0 at *
  go_loopw [44] (fun i wr => ∃ k : Nat, k ≤ n ∧ i = .int .i64 k ∧ Hid (Blk wr w.heap.size 24 #[Value.int .i64 primary, Value.int .i64 view, Value.int .i64 commit, Value.slice A n c]) ∧ Hid (Below w.heap.size w wr) ∧ Hid (serversE view (sl.map Sm.val) = serversE view ((sl.map Sm.val).drop k))) (fun i _ => n - (intOf i).toNat)
  case atStart => exact ⟨0, Nat.zero_le _, rfl, hx0.out, hb0.out, rfl⟩
  case round =>
    obtain ⟨k, hkn, rfl, hB, hb, hL⟩ := hrel
    by_cases hlt : k < n
    · have hkl : k < sl.length := by have := hl.out; (try simp only at this); omega
      have hk0 : (0 : Int) ≤ k := by omega
      have hk1 : (k : Int) < n := by omega
      obtain ⟨ad, hA, -, e0, e1, e2⟩ := sv_cells (hcm.out.at_.below hb.out (Nat.le_refl _)) hlt
      obtain ⟨x, hx⟩ : ∃ x, x = sl[k] := ⟨_, rfl⟩
      rw [← hx] at e0 e1 e2
      have hsx : Hid (sl[k] = x) := hx.symm
      have hsm : Hid (SmAt w Q x) := hcm.out.els x (by rw [hx]; exact List.getElem_mem hkl)
      clear hx
      obtain ⟨up, sview, sA, sn, sc, slog⟩ := x
      (try simp only at hA)
      (try simp only at e0 e1 e2)
      have hst : Hid (serversE view (sl.map Sm.val) = if serverE view (Sm.val ⟨up, sview, sA, sn, sc, slog⟩) ≠ 0 then serverE view (Sm.val ⟨up, sview, sA, sn, sc, slog⟩) else serversE view ((sl.map Sm.val).drop (k + 1))) := by
        show _ = _
        rw [hL.out, List.drop_eq_getElem_cons (by simpa using hkl), List.getElem_map, hsx.out]
        rfl
      have hy := Lib.hid (Blk.new wr 47 #[Value.bool up, Value.int .i64 sview, Value.slice sA sn sc])
      have hB2 : Hid (Blk (wr.alloc (.cells #[Value.bool up, Value.int .i64 sview, Value.slice sA sn sc] 47)) w.heap.size 24 #[Value.int .i64 primary, Value.int .i64 view, Value.int .i64 commit, Value.slice (some ad) n c]) := by
        have := hB.out.alloc (.cells #[Value.bool up, Value.int .i64 sview, Value.slice sA sn sc] 47)
        rw [hA] at this
        exact this
      have hb2 : Hid (Below w.heap.size w (wr.alloc (.cells #[Value.bool up, Value.int .i64 sview, Value.slice sA sn sc] 47))) := hb.out.alloc hb.out.size _
      have hBr : Hid (Blk wr w.heap.size 24 #[Value.int .i64 primary, Value.int .i64 view, Value.int .i64 commit, Value.slice (some ad) n c]) := by
        have := hB.out
        rw [hA] at this
        exact this
      have hcv := Lib.hid (fun (wz : World) => validLog_any ⟨up, sview, sA, sn, sc, slog⟩ wz (Q := Q))
      subst hA
      obtain ⟨y0, y1, y2⟩ := cells3 ((wr.alloc (.cells #[Value.bool up, Value.int .i64 sview, Value.slice sA sn sc] 47))) (wr.heap.size) (Value.bool up) (Value.int .i64 sview) (Value.slice sA sn sc) (hy.out)
      obtain ⟨k0, k1, k2, k3⟩ := cells4 ((wr.alloc (.cells #[Value.bool up, Value.int .i64 sview, Value.slice sA sn sc] 47))) (w.heap.size) (Value.int .i64 primary) (Value.int .i64 view) (Value.int .i64 commit) (Value.slice (some ad) n c) (hB2.out)
      by_cases p1 : sview < 1
      · have p1d : decide (sview < 1) = true := by simpa using p1
        have hE : Hid (serverE view (Sm.val ⟨up, sview, sA, sn, sc, slog⟩) = 2) := serverE_2 _ _ (.inl p1)
        have hF : Hid (validC ⟨primary, view, commit, sl.map Sm.val⟩ = 2) := validC_sv _ hh.out _ (by rw [hst.out, hE.out]; simp) (by decide)
        go_wp2_with fail
        go_ret
        exact ⟨congrArg (fun e : Int => Ending.returned (Value.int .i64 e)) hF.out.symm, hb2.out⟩
      · have p1d : decide (sview < 1) = false := by simpa using p1
        by_cases p2 : view < sview
        · have p2d : decide (view < sview) = true := by simpa using p2
          have hE : Hid (serverE view (Sm.val ⟨up, sview, sA, sn, sc, slog⟩) = 2) := serverE_2 _ _ (.inr p2)
          have hF : Hid (validC ⟨primary, view, commit, sl.map Sm.val⟩ = 2) := validC_sv _ hh.out _ (by rw [hst.out, hE.out]; simp) (by decide)
          go_wp2_with fail
          go_ret
          exact ⟨congrArg (fun e : Int => Ending.returned (Value.int .i64 e)) hF.out.symm, hb2.out⟩
        · have p2d : decide (view < sview) = false := by simpa using p2
          have p12 : Hid (¬ (sview < 1 ∨ view < sview)) := fun h => h.elim p1 p2
          by_cases p3 : 4096 < sn
          · have p3d : decide ((4096 : Int) < (sn : Int)) = true := by simp; omega
            have p3i : (4096 : Int) < (sn : Int) := by omega
            have hE : Hid (serverE view (Sm.val ⟨up, sview, sA, sn, sc, slog⟩) = 3) := serverE_3 _ _ p12.out (by show 4096 < (slog.map Em.val).length; rw [List.length_map, hsm.out.len]; exact p3)
            have hF : Hid (validC ⟨primary, view, commit, sl.map Sm.val⟩ = 3) := validC_sv _ hh.out _ (by rw [hst.out, hE.out]; simp) (by decide)
            go_wp2_with fail
            go_ret
            exact ⟨congrArg (fun e : Int => Ending.returned (Value.int .i64 e)) hF.out.symm, hb2.out⟩
          · have p3d : decide ((4096 : Int) < (sn : Int)) = false := by simp; omega
            have p3i : ¬ (4096 : Int) < (sn : Int) := by omega
            have hlg : Hid (serverE view (Sm.val ⟨up, sview, sA, sn, sc, slog⟩) = logE sview (slog.map Em.val) false 0) := serverE_l _ _ p12.out (by show ¬ 4096 < (slog.map Em.val).length; rw [List.length_map, hsm.out.len]; exact p3)
            obtain ⟨E, hE⟩ : ∃ E, E = logE sview (slog.map Em.val) false 0 := ⟨_, rfl⟩
            have hcw := Lib.hid (hcv.out (wr.alloc (.cells #[Value.bool up, Value.int .i64 sview, Value.slice sA sn sc] 47)) (hsm.out.more hb2.out) (by simp only; omega))
            simp only [svV] at hcw
            rw [← hE] at hcw hlg
            clear hcv hE
            go_wp2_with fail
            refine hcw.out.mono ?_; rintro e w5 ⟨rfl, hq⟩
            have hBn := Lib.hid (hB2.out.below hq hB2.out.lt)
            have hb := Lib.hid (hb2.out.trans (hq.mono hb2.out.size))
            clear hq hcw y0 y1 y2 k0 k1 k2 k3
            by_cases hE0 : E = 0
            · subst hE0
              have hF : Hid (serversE view (sl.map Sm.val) = serversE view ((sl.map Sm.val).drop (k + 1))) := by show _ = _; rw [hst.out, hlg.out]; simp
              go_wp2_with fail
              go_roundw
              case rel => exact ⟨k + 1, by omega, by go_num, hBn.out, hb.out, hF.out⟩
              case measure => simp [intOf]; omega
            · have hE1 : (E != 0) = true := by simpa using hE0
              have hF : Hid (validC ⟨primary, view, commit, sl.map Sm.val⟩ = E) := validC_sv _ hh.out _ (by rw [hst.out, hlg.out]; simp [hE0]) hE0
              replace hE0 := Lib.hid hE0
              go_wp2_with fail
              go_ret
              exact ⟨congrArg (fun e : Int => Ending.returned (Value.int .i64 e)) hF.out.symm, hb.out⟩
    · have hsv : Hid (serversE view (sl.map Sm.val) = 0) := by show _ = _; rw [hL.out, List.drop_eq_nil_of_le (by have := hl.out; (try simp only at this); simp; omega)]; rfl
      clear hL
      by_cases hp0 : primary < 0
      · obtain rfl : primary = -1 := by omega
        have hpr : Hid (primE ⟨-1, view, commit, sl.map Sm.val⟩ = false) := rfl
        obtain ⟨k0, k1, k2, k3⟩ := cells4 (wr) (w.heap.size) (Value.int .i64 (-1)) (Value.int .i64 view) (Value.int .i64 commit) (Value.slice A n c) (hB.out)
        obtain ⟨bj, y, hbl, hbj, hbn, hby, hyl⟩ := best_at (n := n) (sl := sl) hl.out (fun s hs => (hcm.out.els s hs).len) hn1
        obtain ⟨hbjl, hyy⟩ := List.getElem?_eq_some_iff.1 hby
        have hbb : ((bestLog ⟨(-1), view, commit, sl.map Sm.val⟩).length : Int) = (y.n : Int) := by rw [hbl]; rw [List.length_map, hyl]
        have hfin : validC ⟨(-1), view, commit, sl.map Sm.val⟩ = if commit < 0 ∨ (y.n : Int) < commit then 1 else 0 := by rw [validC_com _ hh.out hsv.out hpr.out, hbb]
        have hfin := Lib.hid hfin
        clear hbb hbl
        obtain ⟨bad, hA, -, -, -, -⟩ := sv_cells (hcm.out.at_.below hb.out (Nat.le_refl _)) hbn
        (try simp only at hA)
        subst hA
        have hyc : Hid (∀ wz, Below w.heap.size w wz → wz.cell? (bad.add (bj * 3)) = some (Value.bool y.up) ∧ wz.cell? ⟨(bad.add (bj * 3)).block, (bad.add (bj * 3)).off + 1, none⟩ = some (Value.int .i64 y.view) ∧ wz.cell? ⟨(bad.add (bj * 3)).block, (bad.add (bj * 3)).off + 2, none⟩ = some (Value.slice y.A y.n y.c)) := fun wz hz => by
          obtain ⟨ad', hA', -, q⟩ := sv_cells (hcm.out.at_.below hz (Nat.le_refl _)) hbn
          (try simp only at hA')
          injection hA' with hA'
          subst hA'
          rw [hyy] at q
          exact q
        have hbj0 : (0 : Int) ≤ (bj : Int) := by omega
        have hbj1 : (bj : Int) < (n : Int) := by omega
        replace hbj := Lib.hid hbj
        clear hyl hyy hbjl hby
        obtain ⟨yup, yview, yA, yn, yc, ylog⟩ := y
        (try simp only at hfin hbj hyc)
        have hgr := Lib.hid (greatA_any (fun _ => true) (fun s w => anyServer_any s w) (some bad) n c sl wr (hcm.out.at_.more hb.out) (fun s hs => (hcm.out.els s hs).len) (by omega))
        rw [hbj.out] at hgr
        simp only [idxO] at hgr
        go_wp2_with fail
        refine hgr.out.mono ?_; rintro e w5 ⟨rfl, hq⟩
        have hB5 := Lib.hid (hB.out.below hq hB.out.lt)
        have hb5 := Lib.hid (hb.out.trans (hq.mono hb.out.size))
        clear hq hgr k0 k1 k2 k3
        obtain ⟨k0, k1, k2, k3⟩ := cells4 (w5) (w.heap.size) (Value.int .i64 (-1)) (Value.int .i64 view) (Value.int .i64 commit) (Value.slice (some bad) n c) (hB5.out)
        obtain ⟨y0, y1, y2⟩ := hyc.out w5 hb5.out
        clear hyc hbj
        by_cases r1 : commit < 0
        · have r1d : decide (commit < 0) = true := by simpa using r1
          have hF : Hid (validC ⟨(-1), view, commit, sl.map Sm.val⟩ = 1) := by show _ = _; rw [hfin.out, if_pos (.inl r1)]
          go_wp2_with fail
          go_quiet (fail)
          go_wp2_with fail
          go_ret
          exact ⟨congrArg (fun e : Int => Ending.returned (Value.int .i64 e)) hF.out.symm, below_drewN hb5.out _⟩
        · have r1d : decide (commit < 0) = false := by simpa using r1
          by_cases r2 : (yn : Int) < commit
          · have r2d : decide ((yn : Int) < commit) = true := by simpa using r2
            have hF : Hid (validC ⟨(-1), view, commit, sl.map Sm.val⟩ = 1) := by show _ = _; rw [hfin.out, if_pos (.inr r2)]
            go_wp2_with fail
            go_quiet (fail)
            go_wp2_with fail
            go_ret
            exact ⟨congrArg (fun e : Int => Ending.returned (Value.int .i64 e)) hF.out.symm, below_drewN hb5.out _⟩
          · have r2d : decide ((yn : Int) < commit) = false := by simpa using r2
            have hF : Hid (validC ⟨(-1), view, commit, sl.map Sm.val⟩ = 0) := by show _ = _; rw [hfin.out, if_neg (fun h => h.elim r1 r2)]
            go_wp2_with fail
            go_quiet (fail)
            go_wp2_with fail
            go_ret
            exact ⟨congrArg (fun e : Int => Ending.returned (Value.int .i64 e)) hF.out.symm, below_drewN hb5.out _⟩
      · obtain ⟨pj, rfl⟩ : ∃ pj : Nat, primary = (pj : Int) := ⟨primary.toNat, by omega⟩
        have hpjn : pj < n := by omega
        have hpjl : pj < sl.length := by have := hl.out; (try simp only at this); omega
        have hp0' : ((pj : Int) != -1) = true := by simp <;> omega
        have hp1 : decide ((0 : Int) ≤ (pj : Int)) = true := by simp
        have hp2 : (0 : Int) ≤ (pj : Int) := by omega
        have hp3 : (pj : Int) < (n : Int) := by omega
        have hp4 : ((pj : Int) = -1) = False := by simp <;> omega
        clear hp0
        obtain ⟨pad, hA, -, e0, e1, e2⟩ := sv_cells (hcm.out.at_.below hb.out (Nat.le_refl _)) hpjn
        (try simp only at hA)
        obtain ⟨p, hp⟩ : ∃ p, p = sl[pj] := ⟨_, rfl⟩
        rw [← hp] at e0 e1 e2
        have hpo : Hid (primOf ⟨(pj : Int), view, commit, sl.map Sm.val⟩ = some p.val) := by
          show _ = _
          unfold primOf
          rw [if_neg (by simp only; omega)]
          show (sl.map Sm.val)[pj]? = _
          rw [List.getElem?_map, List.getElem?_eq_getElem hpjl, hp]
          rfl
        have hpn : Hid (p.log.length = p.n) := (hcm.out.els p (by rw [hp]; exact List.getElem_mem hpjl)).len
        clear hp
        obtain ⟨pup, pview, pA, pn, pc, plog⟩ := p
        simp only at e0 e1 e2
        have hPE : Hid (primE ⟨(pj : Int), view, commit, sl.map Sm.val⟩ = (!pup || decide (pview ≠ view) || (sl.map Sm.val).any fun s => decide (s.view = pview) && decide ((plog.map Em.val).length < s.log.length))) := by
          show _ = _
          unfold primE
          rw [hpo.out]
          rfl
        rw [List.length_map, show plog.length = pn from hpn.out] at hPE
        clear hpo hpn
        subst hA
        have hP := Lib.hid (Blk.new wr 47 #[Value.bool pup, Value.int .i64 pview, Value.slice pA pn pc])
        have hB1 : Hid (Blk (wr.alloc (.cells #[Value.bool pup, Value.int .i64 pview, Value.slice pA pn pc] 47)) w.heap.size 24 #[Value.int .i64 (pj : Int), Value.int .i64 view, Value.int .i64 commit, Value.slice (some pad) n c]) := hB.out.alloc _
        have hb1 : Hid (Below w.heap.size w (wr.alloc (.cells #[Value.bool pup, Value.int .i64 pview, Value.slice pA pn pc] 47))) := hb.out.alloc hb.out.size _
        obtain ⟨k0, k1, k2, k3⟩ := cells4 (wr) (w.heap.size) (Value.int .i64 (pj : Int)) (Value.int .i64 view) (Value.int .i64 commit) (Value.slice (some pad) n c) (hB.out)
        obtain ⟨p0, p1, p2⟩ := cells3 ((wr.alloc (.cells #[Value.bool pup, Value.int .i64 pview, Value.slice pA pn pc] 47))) (wr.heap.size) (Value.bool pup) (Value.int .i64 pview) (Value.slice pA pn pc) (hP.out)
        obtain ⟨m0, m1, m2, m3⟩ := cells4 ((wr.alloc (.cells #[Value.bool pup, Value.int .i64 pview, Value.slice pA pn pc] 47))) (w.heap.size) (Value.int .i64 (pj : Int)) (Value.int .i64 view) (Value.int .i64 commit) (Value.slice (some pad) n c) (hB1.out)
        by_cases u1 : pup = false
        · subst u1
          have hpr : Hid (primE ⟨(pj : Int), view, commit, sl.map Sm.val⟩ = true) := by show _ = _; rw [hPE.out]; rfl
          have hF : Hid (validC ⟨(pj : Int), view, commit, sl.map Sm.val⟩ = 1) := validC_prim _ hh.out hsv.out hpr.out
          go_wp2_with fail
          go_ret
          exact ⟨congrArg (fun e : Int => Ending.returned (Value.int .i64 e)) hF.out.symm, hb1.out⟩
        obtain rfl : pup = true := by simpa using u1
        by_cases u2 : pview = view
        · have u2d : (pview != view) = false := by simpa using u2
          have hPE2 : Hid (primE ⟨(pj : Int), view, commit, sl.map Sm.val⟩ = (sl.map Sm.val).any fun s => decide (s.view = pview) && decide (pn < s.log.length)) := by show _ = _; rw [hPE.out]; simp [u2]
          replace u2 := Lib.hid u2
          go_wp2_with fail
          clear k0 k1 k2 k3 p0 p1 p2 m0 m1 m2 m3
          obtain ⟨gp, hgp⟩ : ∃ gp, gp = wr.heap.size := ⟨_, rfl⟩
          rw [← hgp] at hP ⊢
          replace hgp := Lib.hid hgp
          generalize (wr.alloc (.cells #[Value.bool true, Value.int .i64 pview, Value.slice pA pn pc] 47)) = w1 at *
          go_loopw [90] (fun i wr => ∃ k : Nat, k ≤ n ∧ i = .int .i64 k ∧ Hid (Blk wr w.heap.size 24 #[Value.int .i64 (pj : Int), Value.int .i64 view, Value.int .i64 commit, Value.slice (some pad) n c]) ∧ Hid (Blk wr gp 47 #[Value.bool true, Value.int .i64 pview, Value.slice pA pn pc]) ∧ Hid (Below w.heap.size w wr) ∧ Hid (primE ⟨(pj : Int), view, commit, sl.map Sm.val⟩ = ((sl.map Sm.val).drop k).any fun s => decide (s.view = pview) && decide (pn < s.log.length))) (fun i _ => n - (intOf i).toNat)
          case atStart => exact ⟨0, Nat.zero_le _, rfl, hB1.out, hP.out, hb1.out, hPE2.out⟩
          case round =>
            clear hB hb hB1 hb1 hP hPE hPE2
            obtain ⟨k, hkn, rfl, hB, hP, hb, hL⟩ := hrel
            by_cases hlt : k < n
            · have hkl : k < sl.length := by have := hl.out; (try simp only at this); omega
              have hk0 : (0 : Int) ≤ k := by omega
              have hk1 : (k : Int) < n := by omega
              obtain ⟨ad, hA, -, e0, e1, e2⟩ := sv_cells (hcm.out.at_.below hb.out (Nat.le_refl _)) hlt
              obtain ⟨x, hx⟩ : ∃ x, x = sl[k] := ⟨_, rfl⟩
              rw [← hx] at e0 e1 e2
              have hsx : Hid (sl[k] = x) := hx.symm
              have hsm : Hid (SmAt w Q x) := hcm.out.els x (by rw [hx]; exact List.getElem_mem hkl)
              clear hx
              obtain ⟨up, sview, sA, sn, sc, slog⟩ := x
              (try simp only at hA)
              (try simp only at e0 e1 e2)
              injection hA with hA
              subst hA
              have hst : Hid (primE ⟨(pj : Int), view, commit, sl.map Sm.val⟩ = ((decide (sview = pview) && decide (pn < sn)) || ((sl.map Sm.val).drop (k + 1)).any fun s => decide (s.view = pview) && decide (pn < s.log.length))) := by
                show _ = _
                rw [hL.out, List.drop_eq_getElem_cons (by simpa using hkl), List.getElem_map, hsx.out, List.any_cons]
                show ((decide (sview = pview) && decide (pn < (slog.map Em.val).length)) || _) = _
                rw [List.length_map, hsm.out.len]
              have hB2 : Hid (Blk (wr.alloc (.cells #[Value.bool up, Value.int .i64 sview, Value.slice sA sn sc] 47)) w.heap.size 24 #[Value.int .i64 (pj : Int), Value.int .i64 view, Value.int .i64 commit, Value.slice (some pad) n c]) := hB.out.alloc _
              have hP2 : Hid (Blk (wr.alloc (.cells #[Value.bool up, Value.int .i64 sview, Value.slice sA sn sc] 47)) gp 47 #[Value.bool true, Value.int .i64 pview, Value.slice pA pn pc]) := hP.out.alloc _
              have hb2 : Hid (Below w.heap.size w (wr.alloc (.cells #[Value.bool up, Value.int .i64 sview, Value.slice sA sn sc] 47))) := hb.out.alloc hb.out.size _
              have hy := Lib.hid (Blk.new wr 47 #[Value.bool up, Value.int .i64 sview, Value.slice sA sn sc])
              obtain ⟨y0, y1, y2⟩ := cells3 ((wr.alloc (.cells #[Value.bool up, Value.int .i64 sview, Value.slice sA sn sc] 47))) (wr.heap.size) (Value.bool up) (Value.int .i64 sview) (Value.slice sA sn sc) (hy.out)
              obtain ⟨p0, p1, p2⟩ := cells3 ((wr.alloc (.cells #[Value.bool up, Value.int .i64 sview, Value.slice sA sn sc] 47))) (gp) (Value.bool true) (Value.int .i64 pview) (Value.slice pA pn pc) (hP2.out)
              obtain ⟨k0, k1, k2, k3⟩ := cells4 ((wr.alloc (.cells #[Value.bool up, Value.int .i64 sview, Value.slice sA sn sc] 47))) (w.heap.size) (Value.int .i64 (pj : Int)) (Value.int .i64 view) (Value.int .i64 commit) (Value.slice (some pad) n c) (hB2.out)
              by_cases v1 : sview = pview
              · have v1d : (sview == pview) = true := by simpa using v1
                by_cases v2 : pn < sn
                · have v2d : decide ((pn : Int) < (sn : Int)) = true := by simp; omega
                  have v2i : (pn : Int) < (sn : Int) := by omega
                  have hpr : Hid (primE ⟨(pj : Int), view, commit, sl.map Sm.val⟩ = true) := by show _ = _; rw [hst.out]; simp [v1, v2]
                  have hF : Hid (validC ⟨(pj : Int), view, commit, sl.map Sm.val⟩ = 1) := validC_prim _ hh.out hsv.out hpr.out
                  replace v1 := Lib.hid v1
                  go_wp2_with fail

                  go_ret
                  exact ⟨congrArg (fun e : Int => Ending.returned (Value.int .i64 e)) hF.out.symm, hb2.out⟩
                · have v2d : decide ((pn : Int) < (sn : Int)) = false := by simp; omega
                  have v2i : ¬ (pn : Int) < (sn : Int) := by omega
                  have hF : Hid (primE ⟨(pj : Int), view, commit, sl.map Sm.val⟩ = ((sl.map Sm.val).drop (k + 1)).any fun s => decide (s.view = pview) && decide (pn < s.log.length)) := by show _ = _; rw [hst.out]; simp [v2]
                  replace v1 := Lib.hid v1
                  go_wp2_with fail

                  go_roundw
                  case rel => exact ⟨k + 1, by omega, by go_num, hB2.out, hP2.out, hb2.out, hF.out⟩
                  case measure => simp [intOf]; omega
              · have v1d : (sview == pview) = false := by simpa using v1
                have hF : Hid (primE ⟨(pj : Int), view, commit, sl.map Sm.val⟩ = ((sl.map Sm.val).drop (k + 1)).any fun s => decide (s.view = pview) && decide (pn < s.log.length)) := by show _ = _; rw [hst.out]; simp [v1]
                go_wp2_with fail

                go_roundw
                case rel => exact ⟨k + 1, by omega, by go_num, hB2.out, hP2.out, hb2.out, hF.out⟩
                case measure => simp [intOf]; omega
            · have hpr : Hid (primE ⟨(pj : Int), view, commit, sl.map Sm.val⟩ = false) := by show _ = _; rw [hL.out, List.drop_eq_nil_of_le (by have := hl.out; (try simp only at this); simp; omega)]; rfl
              clear hL hP
              obtain ⟨k0, k1, k2, k3⟩ := cells4 (wr) (w.heap.size) (Value.int .i64 (pj : Int)) (Value.int .i64 view) (Value.int .i64 commit) (Value.slice (some pad) n c) (hB.out)
              obtain ⟨bj, y, hbl, hbj, hbn, hby, hyl⟩ := best_at (n := n) (sl := sl) hl.out (fun s hs => (hcm.out.els s hs).len) hn1
              obtain ⟨hbjl, hyy⟩ := List.getElem?_eq_some_iff.1 hby
              have hbb : ((bestLog ⟨(pj : Int), view, commit, sl.map Sm.val⟩).length : Int) = (y.n : Int) := by rw [hbl]; rw [List.length_map, hyl]
              have hfin : validC ⟨(pj : Int), view, commit, sl.map Sm.val⟩ = if commit < 0 ∨ (y.n : Int) < commit then 1 else 0 := by rw [validC_com _ hh.out hsv.out hpr.out, hbb]
              have hfin := Lib.hid hfin
              clear hbb hbl
              obtain ⟨bad, hA, -, -, -, -⟩ := sv_cells (hcm.out.at_.below hb.out (Nat.le_refl _)) hbn
              (try simp only at hA)
              have hA' : bad = pad := by injection hA with hA; exact hA.symm
              subst hA'
              have hyc : Hid (∀ wz, Below w.heap.size w wz → wz.cell? (bad.add (bj * 3)) = some (Value.bool y.up) ∧ wz.cell? ⟨(bad.add (bj * 3)).block, (bad.add (bj * 3)).off + 1, none⟩ = some (Value.int .i64 y.view) ∧ wz.cell? ⟨(bad.add (bj * 3)).block, (bad.add (bj * 3)).off + 2, none⟩ = some (Value.slice y.A y.n y.c)) := fun wz hz => by
                obtain ⟨ad', hA', -, q⟩ := sv_cells (hcm.out.at_.below hz (Nat.le_refl _)) hbn
                (try simp only at hA')
                injection hA' with hA'
                subst hA'
                rw [hyy] at q
                exact q
              have hbj0 : (0 : Int) ≤ (bj : Int) := by omega
              have hbj1 : (bj : Int) < (n : Int) := by omega
              replace hbj := Lib.hid hbj
              clear hyl hyy hbjl hby
              obtain ⟨yup, yview, yA, yn, yc, ylog⟩ := y
              (try simp only at hfin hbj hyc)
              have hgr := Lib.hid (greatA_any (fun _ => true) (fun s w => anyServer_any s w) (some bad) n c sl wr (hcm.out.at_.more hb.out) (fun s hs => (hcm.out.els s hs).len) (by omega))
              rw [hbj.out] at hgr
              simp only [idxO] at hgr
              go_wp2_with fail
              refine hgr.out.mono ?_; rintro e w5 ⟨rfl, hq⟩
              have hB5 := Lib.hid (hB.out.below hq hB.out.lt)
              have hb5 := Lib.hid (hb.out.trans (hq.mono hb.out.size))
              clear hq hgr k0 k1 k2 k3
              obtain ⟨k0, k1, k2, k3⟩ := cells4 (w5) (w.heap.size) (Value.int .i64 (pj : Int)) (Value.int .i64 view) (Value.int .i64 commit) (Value.slice (some bad) n c) (hB5.out)
              obtain ⟨y0, y1, y2⟩ := hyc.out w5 hb5.out
              clear hyc hbj
              by_cases r1 : commit < 0
              · have r1d : decide (commit < 0) = true := by simpa using r1
                have hF : Hid (validC ⟨(pj : Int), view, commit, sl.map Sm.val⟩ = 1) := by show _ = _; rw [hfin.out, if_pos (.inl r1)]
                go_wp2_with fail
                go_quiet (fail)
                go_wp2_with fail
                go_ret
                exact ⟨congrArg (fun e : Int => Ending.returned (Value.int .i64 e)) hF.out.symm, below_drewN hb5.out _⟩
              · have r1d : decide (commit < 0) = false := by simpa using r1
                by_cases r2 : (yn : Int) < commit
                · have r2d : decide ((yn : Int) < commit) = true := by simpa using r2
                  have hF : Hid (validC ⟨(pj : Int), view, commit, sl.map Sm.val⟩ = 1) := by show _ = _; rw [hfin.out, if_pos (.inr r2)]
                  go_wp2_with fail
                  go_quiet (fail)
                  go_wp2_with fail
                  go_ret
                  exact ⟨congrArg (fun e : Int => Ending.returned (Value.int .i64 e)) hF.out.symm, below_drewN hb5.out _⟩
                · have r2d : decide ((yn : Int) < commit) = false := by simpa using r2
                  have hF : Hid (validC ⟨(pj : Int), view, commit, sl.map Sm.val⟩ = 0) := by show _ = _; rw [hfin.out, if_neg (fun h => h.elim r1 r2)]
                  go_wp2_with fail
                  go_quiet (fail)
                  go_wp2_with fail
                  go_ret
                  exact ⟨congrArg (fun e : Int => Ending.returned (Value.int .i64 e)) hF.out.symm, below_drewN hb5.out _⟩
        · have u2d : (pview != view) = true := by simpa using u2
          have hpr : Hid (primE ⟨(pj : Int), view, commit, sl.map Sm.val⟩ = true) := by show _ = _; rw [hPE.out]; simp [u2]
          have hF : Hid (validC ⟨(pj : Int), view, commit, sl.map Sm.val⟩ = 1) := validC_prim _ hh.out hsv.out hpr.out
          go_wp2_with fail
          go_ret
          exact ⟨congrArg (fun e : Int => Ending.returned (Value.int .i64 e)) hF.out.symm, hb1.out⟩
set_option maxRecDepth 100000 in
set_option maxHeartbeats 8000000 in
theorem rvalid_any (k : Cm) (w : World) {Q : Nat → Prop} (h : CmAt w Q k) (hsmall : ∀ s ∈ k.servers, s.n ≤ 5000) :
    Calls Try.prog 11 #[clV k] w fun e w' => e = .returned (.int .i64 (validC k.val)) ∧ Below w.heap.size w w' := by
  replace hsmall := Lib.hid hsmall
  have hl : Hid (k.servers.length = k.n) := h.len
  have hcm := Lib.hid h
  clear h
  obtain ⟨primary, view, commit, A, n, c, sl⟩ := k
  simp only [clV] at *
  have hx0 := Lib.hid (Blk.new w 24 #[Value.int .i64 primary, Value.int .i64 view, Value.int .i64 commit, Value.slice A n c])
  have hb0 : Hid (Below w.heap.size w (w.alloc (.cells #[Value.int .i64 primary, Value.int .i64 view, Value.int .i64 commit, Value.slice A n c] 24))) := a1 w _
  obtain ⟨k0, k1, k2, k3⟩ := cells4 ((w.alloc (.cells #[Value.int .i64 primary, Value.int .i64 view, Value.int .i64 commit, Value.slice A n c] 24))) (w.heap.size) (Value.int .i64 primary) (Value.int .i64 view) (Value.int .i64 commit) (Value.slice A n c) (hx0.out)
  by_cases q0 : n < 1
  · have q0d : decide ((n : Int) < 1) = true := by simp; omega
    have q0i : (n : Int) < 1 := by omega
    have hF : Hid (validC ⟨primary, view, commit, sl.map Sm.val⟩ = 2) := validC_head _ (by unfold headE; simp only [List.length_map, hl.out]; rw [show decide (n < 1) = true from decide_eq_true q0]; simp)
    go_enter Try.func11, Try.ntmps11
    go_wp2_with fail
    go_ret
    exact ⟨congrArg (fun e : Int => Ending.returned (Value.int .i64 e)) hF.out.symm, hb0.out⟩
  have q0d : decide ((n : Int) < 1) = false := by simp; omega
  have q0i : ¬ ((n : Int) < 1) := by omega
  by_cases q1 : 7 < n
  · have q1d : decide ((7 : Int) < (n : Int)) = true := by simp; omega
    have q1i : (7 : Int) < (n : Int) := by omega
    have hF : Hid (validC ⟨primary, view, commit, sl.map Sm.val⟩ = 2) := validC_head _ (by unfold headE; simp only [List.length_map, hl.out]; rw [show decide (7 < n) = true from decide_eq_true q1]; simp)
    go_enter Try.func11, Try.ntmps11
    go_wp2_with fail
    go_ret
    exact ⟨congrArg (fun e : Int => Ending.returned (Value.int .i64 e)) hF.out.symm, hb0.out⟩
  have q1d : decide ((7 : Int) < (n : Int)) = false := by simp; omega
  have q1i : ¬ ((7 : Int) < (n : Int)) := by omega
  by_cases q2 : primary < -1
  · have q2d : decide (primary < -1) = true := by simp; omega
    have q2i : primary < -1 := by omega
    have hF : Hid (validC ⟨primary, view, commit, sl.map Sm.val⟩ = 2) := validC_head _ (by unfold headE; simp only [List.length_map, hl.out]; rw [show decide (primary < -1) = true from decide_eq_true q2]; simp)
    go_enter Try.func11, Try.ntmps11
    go_wp2_with fail
    go_ret
    exact ⟨congrArg (fun e : Int => Ending.returned (Value.int .i64 e)) hF.out.symm, hb0.out⟩
  have q2d : decide (primary < -1) = false := by simp; omega
  have q2i : ¬ (primary < -1) := by omega
  by_cases q3 : (n : Int) ≤ primary
  · have q3d : decide ((n : Int) ≤ primary) = true := by simp; omega
    have q3i : (n : Int) ≤ primary := by omega
    have hF : Hid (validC ⟨primary, view, commit, sl.map Sm.val⟩ = 2) := validC_head _ (by unfold headE; simp only [List.length_map, hl.out]; rw [show decide ((n : Int) ≤ primary) = true from decide_eq_true q3]; simp)
    go_enter Try.func11, Try.ntmps11
    go_wp2_with fail
    go_ret
    exact ⟨congrArg (fun e : Int => Ending.returned (Value.int .i64 e)) hF.out.symm, hb0.out⟩
  have q3d : decide ((n : Int) ≤ primary) = false := by simp; omega
  have q3i : ¬ ((n : Int) ≤ primary) := by omega
  by_cases q4 : view < 1
  · have q4d : decide (view < 1) = true := by simp; omega
    have q4i : view < 1 := by omega
    have hF : Hid (validC ⟨primary, view, commit, sl.map Sm.val⟩ = 2) := validC_head _ (by unfold headE; simp only [List.length_map, hl.out]; rw [show decide (view < 1) = true from decide_eq_true q4]; simp)
    go_enter Try.func11, Try.ntmps11
    go_wp2_with fail
    go_ret
    exact ⟨congrArg (fun e : Int => Ending.returned (Value.int .i64 e)) hF.out.symm, hb0.out⟩
  have q4d : decide (view < 1) = false := by simp; omega
  have q4i : ¬ (view < 1) := by omega
  by_cases q5 : 2147483647 < view
  · have q5d : decide (2147483647 < view) = true := by simp; omega
    have q5i : 2147483647 < view := by omega
    have hF : Hid (validC ⟨primary, view, commit, sl.map Sm.val⟩ = 2) := validC_head _ (by unfold headE; simp only [List.length_map, hl.out]; rw [show decide (2147483647 < view) = true from decide_eq_true q5]; simp)
    go_enter Try.func11, Try.ntmps11
    go_wp2_with fail
    go_ret
    exact ⟨congrArg (fun e : Int => Ending.returned (Value.int .i64 e)) hF.out.symm, hb0.out⟩
  have q5d : decide (2147483647 < view) = false := by simp; omega
  have q5i : ¬ (2147483647 < view) := by omega
  have hh : Hid (headE ⟨primary, view, commit, sl.map Sm.val⟩ = false) := by
    show _ = _
    unfold headE
    simp only [List.length_map, hl.out, Bool.or_eq_false_iff, decide_eq_false_iff_not]
    exact ⟨⟨⟨⟨⟨q0, q1⟩, q2⟩, q3⟩, q4⟩, q5⟩
  have hn1 : 1 ≤ n := by omega
  have hn7 : n ≤ 7 := by omega
  go_enter Try.func11, Try.ntmps11
  go_wp2_with fail
  clear k0 k1 k2 k3
  generalize (w.alloc (.cells #[Value.int .i64 primary, Value.int .i64 view, Value.int .i64 commit, Value.slice A n c] 24)) = w0 at *
  go_loopw [4] (fun i wr => ∃ k : Nat, k ≤ n ∧ i = .int .i64 k ∧ Hid (Blk wr w.heap.size 24 #[Value.int .i64 primary, Value.int .i64 view, Value.int .i64 commit, Value.slice A n c]) ∧ Hid (Below w.heap.size w wr) ∧ Hid (serversE view (sl.map Sm.val) = serversE view ((sl.map Sm.val).drop k))) (fun i _ => n - (intOf i).toNat)
  case atStart => exact ⟨0, Nat.zero_le _, rfl, hx0.out, hb0.out, rfl⟩
  case round =>
    obtain ⟨k, hkn, rfl, hB, hb, hL⟩ := hrel
    by_cases hlt : k < n
    · have hkl : k < sl.length := by have := hl.out; (try simp only at this); omega
      have hk0 : (0 : Int) ≤ k := by omega
      have hk1 : (k : Int) < n := by omega
      obtain ⟨ad, hA, -, e0, e1, e2⟩ := sv_cells (hcm.out.at_.below hb.out (Nat.le_refl _)) hlt
      obtain ⟨x, hx⟩ : ∃ x, x = sl[k] := ⟨_, rfl⟩
      rw [← hx] at e0 e1 e2
      have hsx : Hid (sl[k] = x) := hx.symm
      have hsm : Hid (SmAt w Q x) := hcm.out.els x (by rw [hx]; exact List.getElem_mem hkl)
      clear hx
      obtain ⟨up, sview, sA, sn, sc, slog⟩ := x
      (try simp only at hA)
      (try simp only at e0 e1 e2)
      have hst : Hid (serversE view (sl.map Sm.val) = if serverE view (Sm.val ⟨up, sview, sA, sn, sc, slog⟩) ≠ 0 then serverE view (Sm.val ⟨up, sview, sA, sn, sc, slog⟩) else serversE view ((sl.map Sm.val).drop (k + 1))) := by
        show _ = _
        rw [hL.out, List.drop_eq_getElem_cons (by simpa using hkl), List.getElem_map, hsx.out]
        rfl
      obtain ⟨E, hE⟩ : ∃ E, E = serverE view (Sm.val ⟨up, sview, sA, sn, sc, slog⟩) := ⟨_, rfl⟩
      rw [← hE] at hst
      have hcw : Hid (∀ wz, Below wr.heap.size wr wz → Calls Try.prog 29 #[svV ⟨up, sview, sA, sn, sc, slog⟩, .int .i64 view] wz fun e w' => e = .returned (.int .i64 E) ∧ Below wz.heap.size wz w') := fun wz hz => by
        rw [hE]
        exact server_any ⟨up, sview, sA, sn, sc, slog⟩ view wz (hsm.out.more (hb.out.trans (hz.mono hb.out.size))) (by have := hsmall.out ⟨up, sview, sA, sn, sc, slog⟩ (by rw [← hsx.out]; exact List.getElem_mem hkl); exact this)
      have hcc : Hid (∀ wz, Below wr.heap.size wr wz → wz.cell? ⟨w.heap.size, 0, none⟩ = some (Value.int .i64 primary) ∧ wz.cell? ⟨w.heap.size, 1, none⟩ = some (Value.int .i64 view) ∧ wz.cell? ⟨w.heap.size, 2, none⟩ = some (Value.int .i64 commit) ∧ wz.cell? ⟨w.heap.size, 3, none⟩ = some (Value.slice A n c)) := fun wz hz => by
        have q := hB.out.below hz hB.out.lt
        exact ⟨q.cell 0, q.cell 1, q.cell 2, q.cell 3⟩
      rw [hA] at hcc
      have hsc : Hid (∀ wz, Below wr.heap.size wr wz → wz.cell? (ad.add (k * 3)) = some (Value.bool up) ∧ wz.cell? ⟨(ad.add (k * 3)).block, (ad.add (k * 3)).off + 1, none⟩ = some (Value.int .i64 sview) ∧ wz.cell? ⟨(ad.add (k * 3)).block, (ad.add (k * 3)).off + 2, none⟩ = some (Value.slice sA sn sc)) := fun wz hz => by
        obtain ⟨ad', hA', -, q⟩ := sv_cells (hcm.out.at_.below (hb.out.trans (hz.mono hb.out.size)) (Nat.le_refl _)) hlt
        simp only at hA'
        rw [hA] at hA'
        injection hA' with hA'
        subst hA'
        rw [hsx.out] at q
        exact q
      have hB1 := hB
      rw [hA] at hB
      simp only [svV] at hcw
      clear hE e0 e1 e2
      subst hA
      obtain ⟨k0, k1, k2, k3⟩ := cells4 (wr) (w.heap.size) (Value.int .i64 primary) (Value.int .i64 view) (Value.int .i64 commit) (Value.slice (some ad) n c) (hB.out)
      go_wp2_with fail
      clear k0 k1 k2 k3
      refine RU.region [] [] 8 (F := F11a w.heap.size n c k sn sc ad up sview view E sA) (W := fun wz => Below wr.heap.size wr wz) (R := fun _ => Rb) rfl F11a_more (by kernel_rfl) (by kernel_rfl) (by kernel_rfl) (by kernel_rfl) (by kernel_rfl) (by kernel_rfl) ?_ ?_ ?_ ?_
      · exact (Below.refl _ _).drew
      · intro t ht
        unfold F11a
        split <;> first | trivial | exact rfl | (exact absurd ht (by decide))
      · intro i o hi ho
        have hcs : i = 0 ∨ i = 1 ∨ i = 2 ∨ i = 3 ∨ i = 4 ∨ i = 5 ∨ i = 6 ∨ i = 7 := by omega
        rcases hcs with rfl | rfl | rfl | rfl | rfl | rfl | rfl | rfl <;> (injection ho with ho; subst ho)
        · intro a w2 hw _ hf K hK
          have f0 := hf 1 rfl
          simp only [F11a] at f0
          clear hf
          go_simp
          exact hK _ _ _ rfl rfl hw (Below.refl _ _) (fun h => absurd h (by decide))
        · intro a w2 hw _ hf K hK
          have f0 := hf 43 rfl
          simp only [F11a] at f0
          clear hf
          obtain ⟨c0, c1, c2, c3⟩ := hcc.out w2 hw
          go_simp
          exact hK _ _ _ rfl rfl hw (Below.refl _ _) (fun h => absurd h (by decide))
        · intro a w2 hw _ hf K hK
          have f0 := hf 4 rfl
          simp only [F11a] at f0
          clear hf
          go_simp
          exact hK _ _ _ rfl rfl hw (Below.refl _ _) (fun h => absurd h (by decide))
        · intro a w2 hw _ hf K hK
          have f0 := hf 44 rfl
          have f1 := hf 45 rfl
          simp only [F11a] at f0 f1
          clear hf
          go_simp
          exact hK _ _ _ rfl rfl hw (Below.refl _ _) (fun h => absurd h (by decide))
        · intro a w2 hw _ hf K hK
          have f0 := hf 46 rfl
          simp only [F11a] at f0
          clear hf
          obtain ⟨c0, c1, c2⟩ := hsc.out w2 hw
          go_simp
          exact hK _ _ _ rfl rfl hw (Below.refl _ _) (fun h => absurd h (by decide))
        · intro a w2 hw _ hf K hK
          have f0 := hf 1 rfl
          simp only [F11a] at f0
          clear hf
          go_simp
          exact hK _ _ _ rfl rfl hw (Below.refl _ _) (fun h => absurd h (by decide))
        · intro a w2 hw _ hf K hK
          have f0 := hf 48 rfl
          simp only [F11a] at f0
          clear hf
          obtain ⟨c0, c1, c2, c3⟩ := hcc.out w2 hw
          go_simp
          exact hK _ _ _ rfl rfl hw (Below.refl _ _) (fun h => absurd h (by decide))
        · intro a w2 hw _ hf K hK
          have f0 := hf 47 rfl
          have f1 := hf 49 rfl
          simp only [F11a] at f0 f1
          clear hf
          go_simp
          refine (hcw.out w2 hw).mono ?_; rintro e w5 ⟨rfl, hbq⟩
          exact hK _ _ _ rfl rfl (hw.trans (hbq.mono hw.size)) hbq (fun h => absurd h (by decide))
      · intro a' w9 hd hs hw hout hf
        have h50 := hf 7 50 (by decide) rfl rfl
        simp only [F11a] at h50
        have e0 := hout 0 rfl
        have e1 := hout 1 rfl
        have e2 := hout 2 rfl
        have e3 := hout 3 rfl
        have e4 := hout 4 rfl
        have e6 := hout 6 rfl
        have e7 := hout 7 rfl
        have e8 := hout 8 rfl
        have e9 := hout 9 rfl
        have e10 := hout 10 rfl
        have e11 := hout 11 rfl
        have e12 := hout 12 rfl
        have e13 := hout 13 rfl
        have e14 := hout 14 rfl
        have e15 := hout 15 rfl
        have e16 := hout 16 rfl
        have e17 := hout 17 rfl
        have e18 := hout 18 rfl
        have e19 := hout 19 rfl
        have e20 := hout 20 rfl
        have e21 := hout 21 rfl
        have e22 := hout 22 rfl
        have e23 := hout 23 rfl
        have e24 := hout 24 rfl
        have e25 := hout 25 rfl
        have e26 := hout 26 rfl
        have e27 := hout 27 rfl
        have e28 := hout 28 rfl
        have e29 := hout 29 rfl
        have e30 := hout 30 rfl
        have e31 := hout 31 rfl
        have e32 := hout 32 rfl
        have e33 := hout 33 rfl
        have e34 := hout 34 rfl
        have e35 := hout 35 rfl
        have e36 := hout 36 rfl
        have e37 := hout 37 rfl
        have e54 := hout 54 rfl
        have e55 := hout 55 rfl
        have e56 := hout 56 rfl
        have e57 := hout 57 rfl
        have e58 := hout 58 rfl
        have e59 := hout 59 rfl
        have e60 := hout 60 rfl
        have e61 := hout 61 rfl
        have e62 := hout 62 rfl
        have e63 := hout 63 rfl
        have e64 := hout 64 rfl
        have e65 := hout 65 rfl
        have e66 := hout 66 rfl
        have e67 := hout 67 rfl
        have e68 := hout 68 rfl
        have e69 := hout 69 rfl
        have e70 := hout 70 rfl
        have e71 := hout 71 rfl
        have e72 := hout 72 rfl
        have e73 := hout 73 rfl
        have e74 := hout 74 rfl
        have e75 := hout 75 rfl
        have e76 := hout 76 rfl
        have e77 := hout 77 rfl
        have e78 := hout 78 rfl
        have e79 := hout 79 rfl
        have e80 := hout 80 rfl
        have e81 := hout 81 rfl
        have e82 := hout 82 rfl
        have e83 := hout 83 rfl
        have e84 := hout 84 rfl
        have e85 := hout 85 rfl
        have e86 := hout 86 rfl
        have e87 := hout 87 rfl
        have e88 := hout 88 rfl
        have e89 := hout 89 rfl
        have e90 := hout 90 rfl
        have e91 := hout 91 rfl
        have e92 := hout 92 rfl
        have e93 := hout 93 rfl
        have e94 := hout 94 rfl
        have e95 := hout 95 rfl
        have e96 := hout 96 rfl
        have e97 := hout 97 rfl
        have e98 := hout 98 rfl
        have e99 := hout 99 rfl
        have e100 := hout 100 rfl
        have e101 := hout 101 rfl
        have e102 := hout 102 rfl
        have e103 := hout 103 rfl
        have e104 := hout 104 rfl
        have e105 := hout 105 rfl
        have e106 := hout 106 rfl
        have e107 := hout 107 rfl
        have e108 := hout 108 rfl
        have e109 := hout 109 rfl
        have e110 := hout 110 rfl
        have e111 := hout 111 rfl
        have e112 := hout 112 rfl
        have e113 := hout 113 rfl
        have e114 := hout 114 rfl
        have e115 := hout 115 rfl
        simp only [List.getElem?_toArray, List.getElem?_cons_succ, List.getElem?_cons_zero] at e0 e1 e2 e3 e4 e6 e7 e8 e9 e10 e11 e12 e13 e14 e15 e16 e17 e18 e19 e20 e21 e22 e23 e24 e25 e26 e27 e28 e29 e30 e31 e32 e33 e34 e35 e36 e37 e54 e55 e56 e57 e58 e59 e60 e61 e62 e63 e64 e65 e66 e67 e68 e69 e70 e71 e72 e73 e74 e75 e76 e77 e78 e79 e80 e81 e82 e83 e84 e85 e86 e87 e88 e89 e90 e91 e92 e93 e94 e95 e96 e97 e98 e99 e100 e101 e102 e103 e104 e105 e106 e107 e108 e109 e110 e111 e112 e113 e114 e115
        obtain ⟨tm, df⟩ := a'
        simp only at hd hs h50 e0 e1 e2 e3 e4 e6 e7 e8 e9 e10 e11 e12 e13 e14 e15 e16 e17 e18 e19 e20 e21 e22 e23 e24 e25 e26 e27 e28 e29 e30 e31 e32 e33 e34 e35 e36 e37 e54 e55 e56 e57 e58 e59 e60 e61 e62 e63 e64 e65 e66 e67 e68 e69 e70 e71 e72 e73 e74 e75 e76 e77 e78 e79 e80 e81 e82 e83 e84 e85 e86 e87 e88 e89 e90 e91 e92 e93 e94 e95 e96 e97 e98 e99 e100 e101 e102 e103 e104 e105 e106 e107 e108 e109 e110 e111 e112 e113 e114 e115
        have e := F11a_lit tm hs
        simp only [h50, e0, e1, e2, e3, e4, e6, e7, e8, e9, e10, e11, e12, e13, e14, e15, e16, e17, e18, e19, e20, e21, e22, e23, e24, e25, e26, e27, e28, e29, e30, e31, e32, e33, e34, e35, e36, e37, e54, e55, e56, e57, e58, e59, e60, e61, e62, e63, e64, e65, e66, e67, e68, e69, e70, e71, e72, e73, e74, e75, e76, e77, e78, e79, e80, e81, e82, e83, e84, e85, e86, e87, e88, e89, e90, e91, e92, e93, e94, e95, e96, e97, e98, e99, e100, e101, e102, e103, e104, e105, e106, e107, e108, e109, e110, e111, e112, e113, e114, e115, Option.getD_some] at e
        clear hf hout hs
        rw [e, hd]
        clear e hd h50 e0 e1 e2 e3 e4 e6 e7 e8 e9 e10 e11 e12 e13 e14 e15 e16 e17 e18 e19 e20 e21 e22 e23 e24 e25 e26 e27 e28 e29 e30 e31 e32 e33 e34 e35 e36 e37 e54 e55 e56 e57 e58 e59 e60 e61 e62 e63 e64 e65 e66 e67 e68 e69 e70 e71 e72 e73 e74 e75 e76 e77 e78 e79 e80 e81 e82 e83 e84 e85 e86 e87 e88 e89 e90 e91 e92 e93 e94 e95 e96 e97 e98 e99 e100 e101 e102 e103 e104 e105 e106 e107 e108 e109 e110 e111 e112 e113 e114 e115
        generalize tm[5]?.getD undef = u5x, tm[38]?.getD undef = u38x, tm[39]?.getD undef = u39x, tm[40]?.getD undef = u40x, tm[41]?.getD undef = u41x, tm[42]?.getD undef = u42x, tm[43]?.getD undef = u43x, tm[44]?.getD undef = u44x, tm[45]?.getD undef = u45x, tm[46]?.getD undef = u46x, tm[47]?.getD undef = u47x, tm[48]?.getD undef = u48x, tm[49]?.getD undef = u49x, tm[51]?.getD undef = u51x, tm[52]?.getD undef = u52x, tm[53]?.getD undef = u53x
        have hBn := Lib.hid (hB.out.below hw hB.out.lt)
        have hb := Lib.hid (hb.out.trans (hw.mono hb.out.size))
        clear hw hcw hcc hsc
        by_cases hE0 : E = 0
        · subst hE0
          have hF : Hid (serversE view (sl.map Sm.val) = serversE view ((sl.map Sm.val).drop (k + 1))) := by show _ = _; rw [hst.out]; simp
          go_wp2_with fail
          go_roundw
          case rel => exact ⟨k + 1, by omega, by go_num, hBn.out, hb.out, hF.out⟩
          case measure => simp [intOf]; omega
        · have hE1 : (E != 0) = true := by simpa using hE0
          have hF : Hid (validC ⟨primary, view, commit, sl.map Sm.val⟩ = E) := validC_sv _ hh.out _ (by rw [hst.out]; simp [hE0]) hE0
          replace hE0 := Lib.hid hE0
          go_wp2_with fail
          go_ret
          exact ⟨congrArg (fun e : Int => Ending.returned (Value.int .i64 e)) hF.out.symm, hb.out⟩
    · have hsv : Hid (serversE view (sl.map Sm.val) = 0) := by show _ = _; rw [hL.out, List.drop_eq_nil_of_le (by have := hl.out; (try simp only at this); simp; omega)]; rfl
      clear hL
      by_cases hp0 : primary < 0
      · obtain rfl : primary = -1 := by omega
        have hpr : Hid (primE ⟨-1, view, commit, sl.map Sm.val⟩ = false) := rfl
        obtain ⟨k0, k1, k2, k3⟩ := cells4 (wr) (w.heap.size) (Value.int .i64 (-1)) (Value.int .i64 view) (Value.int .i64 commit) (Value.slice A n c) (hB.out)
        obtain ⟨bj, y, hbl, hbj, hbn, hby, hyl⟩ := best_at (n := n) (sl := sl) hl.out (fun s hs => (hcm.out.els s hs).len) hn1
        obtain ⟨hbjl, hyy⟩ := List.getElem?_eq_some_iff.1 hby
        have hbb : ((bestLog ⟨(-1), view, commit, sl.map Sm.val⟩).length : Int) = (y.n : Int) := by rw [hbl]; rw [List.length_map, hyl]
        have hfin : validC ⟨(-1), view, commit, sl.map Sm.val⟩ = if commit < 0 ∨ (y.n : Int) < commit then 1 else 0 := by rw [validC_com _ hh.out hsv.out hpr.out, hbb]
        have hfin := Lib.hid hfin
        clear hbb hbl
        obtain ⟨bad, hA, -, -, -, -⟩ := sv_cells (hcm.out.at_.below hb.out (Nat.le_refl _)) hbn
        (try simp only at hA)
        subst hA
        have hyc : Hid (∀ wz, Below w.heap.size w wz → wz.cell? (bad.add (bj * 3)) = some (Value.bool y.up) ∧ wz.cell? ⟨(bad.add (bj * 3)).block, (bad.add (bj * 3)).off + 1, none⟩ = some (Value.int .i64 y.view) ∧ wz.cell? ⟨(bad.add (bj * 3)).block, (bad.add (bj * 3)).off + 2, none⟩ = some (Value.slice y.A y.n y.c)) := fun wz hz => by
          obtain ⟨ad', hA', -, q⟩ := sv_cells (hcm.out.at_.below hz (Nat.le_refl _)) hbn
          (try simp only at hA')
          injection hA' with hA'
          subst hA'
          rw [hyy] at q
          exact q
        have hbj0 : (0 : Int) ≤ (bj : Int) := by omega
        have hbj1 : (bj : Int) < (n : Int) := by omega
        replace hbj := Lib.hid hbj
        clear hyl hyy hbjl hby
        obtain ⟨yup, yview, yA, yn, yc, ylog⟩ := y
        (try simp only at hfin hbj hyc)
        have hcc : Hid (∀ wz, Below wr.heap.size wr wz → wz.cell? ⟨w.heap.size, 0, none⟩ = some (Value.int .i64 (-1)) ∧ wz.cell? ⟨w.heap.size, 1, none⟩ = some (Value.int .i64 view) ∧ wz.cell? ⟨w.heap.size, 2, none⟩ = some (Value.int .i64 commit) ∧ wz.cell? ⟨w.heap.size, 3, none⟩ = some (Value.slice (some bad) n c)) := fun wz hz => by
          have q := hB.out.below hz hB.out.lt
          exact ⟨q.cell 0, q.cell 1, q.cell 2, q.cell 3⟩
        have hyw : Hid (∀ wz, Below wr.heap.size wr wz → wz.cell? ⟨(bad.add (bj * 3)).block, (bad.add (bj * 3)).off + 2, none⟩ = some (Value.slice yA yn yc)) := fun wz hz => (hyc.out wz (hb.out.trans (hz.mono hb.out.size))).2.2
        have hfs : Hid (∀ wz, Below wr.heap.size wr wz → Calls Try.prog 30 #[.agg #[Value.int .i64 (-1), Value.int .i64 view, Value.int .i64 commit, Value.slice (some bad) n c], .bool false] wz fun e w' => e = .returned (.int .i64 (bj : Int)) ∧ Below wz.heap.size wz w') := fun wz hz => by
          have q := firstA_any ⟨(-1), view, commit, (some bad), n, c, sl⟩ wz (hcm.out.more (hb.out.trans (hz.mono hb.out.size))) (by simp only; omega)
          rw [hbj.out] at q
          exact q
        obtain ⟨c0, hc0⟩ : ∃ c0, c0 = decide (commit < 0) := ⟨_, rfl⟩
        obtain ⟨c1, hc1⟩ : ∃ c1, c1 = decide ((yn : Int) < commit) := ⟨_, rfl⟩
        replace hfin : Hid (validC ⟨(-1), view, commit, sl.map Sm.val⟩ = if (c0 || c1) = true then 1 else 0) := by
          show _ = _
          rw [hfin.out, hc0, hc1]
          simp only [Bool.or_eq_true, decide_eq_true_eq]
        have hc0' := Lib.hid hc0.symm
        have hc1' := Lib.hid hc1.symm
        clear hc0 hc1 hyc hbj
        go_wp2_with fail
        clear k0 k1 k2 k3
        refine RM.region [] [] (F := F11b w.heap.size n c bj yn yc bad (-1) view commit yA c0 c1) (W := fun wz => Below wr.heap.size wr wz) (R := fun _ => Rb) (S := noS) (G := noG) rfl F11b_more (fun _ _ _ _ _ _ _ => trivial) (fun _ _ _ _ _ h => h.elim) (fun _ _ _ _ _ h => h.elim) (by kernel_rfl) (by kernel_rfl) (by kernel_rfl) (by kernel_rfl) (by kernel_rfl) ?_ ?_ ?_ (by kernel_rfl) ?_
        · exact (Below.refl _ _).drew
        · intro t ht
          unfold F11b
          split <;> first | trivial | exact rfl | (exact absurd ht (by decide))
        · simp only [List.forall_mem_cons, List.not_mem_nil, false_implies, implies_true, and_true]
          refine ⟨?_, ?_, ?_, ?_, ?_, ?_, ?_, ?_, ?_, ?_, ?_, ?_, ?_, ?_, ?_, ?_⟩
          · intro a w2 hw _ hf K hK
            have f0 := hf 1 rfl
            simp only [F11b] at f0
            clear hf
            go_simp
            exact hK _ _ _ rfl rfl hw (Below.refl _ _) (fun h => absurd h (by decide))
          · intro a w2 hw _ hf K hK
            have f0 := hf 100 rfl
            simp only [F11b] at f0
            clear hf
            obtain ⟨c0, c1, c2, c3⟩ := hcc.out w2 hw
            go_simp
            exact hK _ _ _ rfl rfl hw (Below.refl _ _) (fun h => absurd h (by decide))
          · intro a w2 hw _ hf K hK
            have f0 := hf 101 rfl
            simp only [F11b] at f0
            clear hf
            go_simp
            exact hK _ _ _ rfl (by show _ = _; rw [← hc0'.out]) hw (Below.refl _ _) (fun h => absurd h (by decide))
          · intro a w2 hw _ hf K hK
            have f0 := hf 102 rfl
            simp only [F11b] at f0
            clear hf
            go_simp
            exact hK _ _ _ rfl rfl hw (Below.refl _ _) (fun h => absurd h (by decide))
          · refine ⟨?_, ?_⟩
            · intro a w2 hw hg hf K hK
              have f0 := hf 1 rfl
              simp only [F11b] at f0
              simp only [F11b] at hg
              replace hg := (Value.bool.inj hg).symm
              clear hf
              clear hg
              go_simp
              exact hK _ _ _ rfl (fun _ => rfl) hw (Below.refl _ _) (fun h => absurd h (by decide))
            · intro v w _ hv hne; simp only [F11b] at hv ⊢; intro h; exact absurd (hv.trans (by rw [h])) hne
          · refine ⟨?_, ?_⟩
            · intro a w2 hw hg hf K hK
              have f0 := hf 104 rfl
              simp only [F11b] at f0
              simp only [F11b] at hg
              replace hg := (Value.bool.inj hg).symm
              clear hf
              replace f0 := f0 hg
              clear hg
              obtain ⟨c0, c1, c2, c3⟩ := hcc.out w2 hw
              go_simp
              exact hK _ _ _ rfl (fun _ => rfl) hw (Below.refl _ _) (fun h => absurd h (by decide))
            · intro v w _ hv hne; simp only [F11b] at hv ⊢; intro h; exact absurd (hv.trans (by rw [h])) hne
          · refine ⟨?_, ?_⟩
            · intro a w2 hw hg hf K hK
              have f0 := hf 1 rfl
              simp only [F11b] at f0
              simp only [F11b] at hg
              replace hg := (Value.bool.inj hg).symm
              clear hf
              clear hg
              go_simp
              exact hK _ _ _ rfl (fun _ => rfl) hw (Below.refl _ _) (fun h => absurd h (by decide))
            · intro v w _ hv hne; simp only [F11b] at hv ⊢; intro h; exact absurd (hv.trans (by rw [h])) hne
          · refine ⟨?_, ?_⟩
            · intro a w2 hw hg hf K hK
              have f0 := hf 106 rfl
              simp only [F11b] at f0
              simp only [F11b] at hg
              replace hg := (Value.bool.inj hg).symm
              clear hf
              replace f0 := f0 hg
              clear hg
              obtain ⟨c0, c1, c2, c3⟩ := hcc.out w2 hw
              go_simp
              exact hK _ _ _ rfl (fun _ => rfl) hw (Below.refl _ _) (fun h => absurd h (by decide))
            · intro v w _ hv hne; simp only [F11b] at hv ⊢; intro h; exact absurd (hv.trans (by rw [h])) hne
          · refine ⟨?_, ?_⟩
            · intro a w2 hw hg hf K hK
              have f0 := hf 1 rfl
              simp only [F11b] at f0
              simp only [F11b] at hg
              replace hg := (Value.bool.inj hg).symm
              clear hf
              clear hg
              obtain ⟨c0, c1, c2, c3⟩ := hcc.out w2 hw
              go_simp
              exact hK _ _ _ rfl (fun _ => rfl) hw (Below.refl _ _) (fun h => absurd h (by decide))
            · intro v w _ hv hne; simp only [F11b] at hv ⊢; intro h; exact absurd (hv.trans (by rw [h])) hne
          · refine ⟨?_, ?_⟩
            · intro a w2 hw hg hf K hK
              have f0 := hf 108 rfl
              simp only [F11b] at f0
              simp only [F11b] at hg
              replace hg := (Value.bool.inj hg).symm
              clear hf
              replace f0 := f0 hg
              clear hg
              go_simp
              refine (hfs.out w2 hw).mono ?_; rintro e w5 ⟨rfl, hbq⟩
              exact hK _ _ _ rfl (fun _ => rfl) (hw.trans (hbq.mono hw.size)) hbq (fun h => absurd h (by decide))
            · intro v w _ hv hne; simp only [F11b] at hv ⊢; intro h; exact absurd (hv.trans (by rw [h])) hne
          · refine ⟨?_, ?_⟩
            · intro a w2 hw hg hf K hK
              have f0 := hf 107 rfl
              have f1 := hf 109 rfl
              simp only [F11b] at f0 f1
              simp only [F11b] at hg
              replace hg := (Value.bool.inj hg).symm
              clear hf
              replace f0 := f0 hg
              replace f1 := f1 hg
              clear hg
              go_simp
              exact hK _ _ _ rfl (fun _ => rfl) hw (Below.refl _ _) (fun h => absurd h (by decide))
            · intro v w _ hv hne; simp only [F11b] at hv ⊢; intro h; exact absurd (hv.trans (by rw [h])) hne
          · refine ⟨?_, ?_⟩
            · intro a w2 hw hg hf K hK
              have f0 := hf 110 rfl
              simp only [F11b] at f0
              simp only [F11b] at hg
              replace hg := (Value.bool.inj hg).symm
              clear hf
              replace f0 := f0 hg
              clear hg
              have e2 := hyw.out w2 hw
              go_simp
              exact hK _ _ _ rfl (fun _ => rfl) hw (Below.refl _ _) (fun h => absurd h (by decide))
            · intro v w _ hv hne; simp only [F11b] at hv ⊢; intro h; exact absurd (hv.trans (by rw [h])) hne
          · refine ⟨?_, ?_⟩
            · intro a w2 hw hg hf K hK
              have f0 := hf 111 rfl
              simp only [F11b] at f0
              simp only [F11b] at hg
              replace hg := (Value.bool.inj hg).symm
              clear hf
              replace f0 := f0 hg
              clear hg
              have e2 := hyw.out w2 hw
              go_simp
              exact hK _ _ _ rfl (fun _ => rfl) hw (Below.refl _ _) (fun h => absurd h (by decide))
            · intro v w _ hv hne; simp only [F11b] at hv ⊢; intro h; exact absurd (hv.trans (by rw [h])) hne
          · refine ⟨?_, ?_⟩
            · intro a w2 hw hg hf K hK
              have f0 := hf 112 rfl
              simp only [F11b] at f0
              simp only [F11b] at hg
              replace hg := (Value.bool.inj hg).symm
              clear hf
              replace f0 := f0 hg
              clear hg
              go_simp
              exact hK _ _ _ rfl (fun _ => rfl) hw (Below.refl _ _) (fun h => absurd h (by decide))
            · intro v w _ hv hne; simp only [F11b] at hv ⊢; intro h; exact absurd (hv.trans (by rw [h])) hne
          · refine ⟨?_, ?_⟩
            · intro a w2 hw hg hf K hK
              have f0 := hf 105 rfl
              have f1 := hf 113 rfl
              simp only [F11b] at f0 f1
              simp only [F11b] at hg
              replace hg := (Value.bool.inj hg).symm
              clear hf
              replace f0 := f0 hg
              replace f1 := f1 hg
              clear hg
              go_simp
              exact hK _ _ _ rfl (fun _ => by rw [← hc1'.out]) hw (Below.refl _ _) (fun h => absurd h (by decide))
            · intro v w _ hv hne; simp only [F11b] at hv ⊢; intro h; exact absurd (hv.trans (by rw [h])) hne
          · intro a w2 hw _ hf K hK
            have f0 := hf 103 rfl
            have f1 := hf 114 rfl
            simp only [F11b] at f0 f1
            clear hf
            cases c0 with
            | true =>
              go_simp
              exact hK _ _ _ rfl rfl hw (Below.refl _ _) (fun h => absurd h (by decide))
            | false =>
              replace f1 := f1 rfl
              go_simp
              exact hK _ _ _ rfl rfl hw (Below.refl _ _) (fun h => absurd h (by decide))
        · intro a' w9 hd hs hw hout hf _
          have h115 := hf 115 rfl
          simp only [F11b] at h115
          have e1 : _ = some (Value.pointer (some ⟨w.heap.size, 0, none⟩)) := hout 1 rfl
          obtain ⟨tm, df⟩ := a'
          simp only at hd hs h115 e1
          have e := F11b_lit tm hs
          simp only [h115, e1, Option.getD_some] at e
          clear hf hout hs
          rw [e, hd]
          clear e hd h115 e1
          generalize tm[0]?.getD undef = u0x, tm[2]?.getD undef = u2x, tm[3]?.getD undef = u3x, tm[4]?.getD undef = u4x, tm[5]?.getD undef = u5x, tm[6]?.getD undef = u6x, tm[7]?.getD undef = u7x, tm[8]?.getD undef = u8x, tm[9]?.getD undef = u9x, tm[10]?.getD undef = u10x, tm[11]?.getD undef = u11x, tm[12]?.getD undef = u12x, tm[13]?.getD undef = u13x, tm[14]?.getD undef = u14x, tm[15]?.getD undef = u15x, tm[16]?.getD undef = u16x, tm[17]?.getD undef = u17x, tm[18]?.getD undef = u18x, tm[19]?.getD undef = u19x, tm[20]?.getD undef = u20x, tm[21]?.getD undef = u21x, tm[22]?.getD undef = u22x, tm[23]?.getD undef = u23x, tm[24]?.getD undef = u24x, tm[25]?.getD undef = u25x, tm[26]?.getD undef = u26x, tm[27]?.getD undef = u27x, tm[28]?.getD undef = u28x, tm[29]?.getD undef = u29x, tm[30]?.getD undef = u30x, tm[31]?.getD undef = u31x, tm[32]?.getD undef = u32x, tm[33]?.getD undef = u33x, tm[34]?.getD undef = u34x, tm[35]?.getD undef = u35x, tm[36]?.getD undef = u36x, tm[37]?.getD undef = u37x, tm[38]?.getD undef = u38x, tm[39]?.getD undef = u39x, tm[40]?.getD undef = u40x, tm[41]?.getD undef = u41x, tm[42]?.getD undef = u42x, tm[43]?.getD undef = u43x, tm[44]?.getD undef = u44x, tm[45]?.getD undef = u45x, tm[46]?.getD undef = u46x, tm[47]?.getD undef = u47x, tm[48]?.getD undef = u48x, tm[49]?.getD undef = u49x, tm[50]?.getD undef = u50x, tm[51]?.getD undef = u51x, tm[52]?.getD undef = u52x, tm[53]?.getD undef = u53x, tm[54]?.getD undef = u54x, tm[55]?.getD undef = u55x, tm[56]?.getD undef = u56x, tm[57]?.getD undef = u57x, tm[58]?.getD undef = u58x, tm[59]?.getD undef = u59x, tm[60]?.getD undef = u60x, tm[61]?.getD undef = u61x, tm[62]?.getD undef = u62x, tm[63]?.getD undef = u63x, tm[64]?.getD undef = u64x, tm[65]?.getD undef = u65x, tm[66]?.getD undef = u66x, tm[67]?.getD undef = u67x, tm[68]?.getD undef = u68x, tm[69]?.getD undef = u69x, tm[70]?.getD undef = u70x, tm[71]?.getD undef = u71x, tm[72]?.getD undef = u72x, tm[73]?.getD undef = u73x, tm[74]?.getD undef = u74x, tm[75]?.getD undef = u75x, tm[76]?.getD undef = u76x, tm[77]?.getD undef = u77x, tm[78]?.getD undef = u78x, tm[79]?.getD undef = u79x, tm[80]?.getD undef = u80x, tm[81]?.getD undef = u81x, tm[82]?.getD undef = u82x, tm[83]?.getD undef = u83x, tm[84]?.getD undef = u84x, tm[85]?.getD undef = u85x, tm[86]?.getD undef = u86x, tm[87]?.getD undef = u87x, tm[88]?.getD undef = u88x, tm[89]?.getD undef = u89x, tm[90]?.getD undef = u90x, tm[91]?.getD undef = u91x, tm[92]?.getD undef = u92x, tm[93]?.getD undef = u93x, tm[94]?.getD undef = u94x, tm[95]?.getD undef = u95x, tm[96]?.getD undef = u96x, tm[97]?.getD undef = u97x, tm[98]?.getD undef = u98x, tm[99]?.getD undef = u99x, tm[100]?.getD undef = u100x, tm[101]?.getD undef = u101x, tm[102]?.getD undef = u102x, tm[103]?.getD undef = u103x, tm[104]?.getD undef = u104x, tm[105]?.getD undef = u105x, tm[106]?.getD undef = u106x, tm[107]?.getD undef = u107x, tm[108]?.getD undef = u108x, tm[109]?.getD undef = u109x, tm[110]?.getD undef = u110x, tm[111]?.getD undef = u111x, tm[112]?.getD undef = u112x, tm[113]?.getD undef = u113x, tm[114]?.getD undef = u114x
          have hb := Lib.hid (hb.out.trans (hw.mono hb.out.size))
          clear hw hcc hyw hfs
          cases hcx : (c0 || c1) with
          | true =>
            have hF : Hid (validC ⟨(-1), view, commit, sl.map Sm.val⟩ = 1) := by show _ = _; rw [hfin.out, hcx]; rfl
            go_wp2_with fail
            go_ret
            exact ⟨congrArg (fun e : Int => Ending.returned (Value.int .i64 e)) hF.out.symm, hb.out⟩
          | false =>
            have hF : Hid (validC ⟨(-1), view, commit, sl.map Sm.val⟩ = 0) := by show _ = _; rw [hfin.out, hcx]; rfl
            go_wp2_with fail
            go_ret
            exact ⟨congrArg (fun e : Int => Ending.returned (Value.int .i64 e)) hF.out.symm, hb.out⟩
      · obtain ⟨pj, rfl⟩ : ∃ pj : Nat, primary = (pj : Int) := ⟨primary.toNat, by omega⟩
        have hpjn : pj < n := by omega
        have hpjl : pj < sl.length := by have := hl.out; (try simp only at this); omega
        have hp0' : ((pj : Int) != -1) = true := by simp <;> omega
        have hp1 : decide ((0 : Int) ≤ (pj : Int)) = true := by simp
        have hp2 : (0 : Int) ≤ (pj : Int) := by omega
        have hp3 : (pj : Int) < (n : Int) := by omega
        have hp4 : ((pj : Int) = -1) = False := by simp <;> omega
        clear hp0
        obtain ⟨pad, hA, -, e0, e1, e2⟩ := sv_cells (hcm.out.at_.below hb.out (Nat.le_refl _)) hpjn
        (try simp only at hA)
        obtain ⟨p, hp⟩ : ∃ p, p = sl[pj] := ⟨_, rfl⟩
        rw [← hp] at e0 e1 e2
        have hpo : Hid (primOf ⟨(pj : Int), view, commit, sl.map Sm.val⟩ = some p.val) := by
          show _ = _
          unfold primOf
          rw [if_neg (by simp only; omega)]
          show (sl.map Sm.val)[pj]? = _
          rw [List.getElem?_map, List.getElem?_eq_getElem hpjl, hp]
          rfl
        have hpn : Hid (p.log.length = p.n) := (hcm.out.els p (by rw [hp]; exact List.getElem_mem hpjl)).len
        clear hp
        obtain ⟨pup, pview, pA, pn, pc, plog⟩ := p
        simp only at e0 e1 e2
        have hPE : Hid (primE ⟨(pj : Int), view, commit, sl.map Sm.val⟩ = (!pup || decide (pview ≠ view) || (sl.map Sm.val).any fun s => decide (s.view = pview) && decide ((plog.map Em.val).length < s.log.length))) := by
          show _ = _
          unfold primE
          rw [hpo.out]
          rfl
        rw [List.length_map, show plog.length = pn from hpn.out] at hPE
        clear hpo hpn
        subst hA
        have hP := Lib.hid (Blk.new wr 47 #[Value.bool pup, Value.int .i64 pview, Value.slice pA pn pc])
        have hB1 : Hid (Blk (wr.alloc (.cells #[Value.bool pup, Value.int .i64 pview, Value.slice pA pn pc] 47)) w.heap.size 24 #[Value.int .i64 (pj : Int), Value.int .i64 view, Value.int .i64 commit, Value.slice (some pad) n c]) := hB.out.alloc _
        have hb1 : Hid (Below w.heap.size w (wr.alloc (.cells #[Value.bool pup, Value.int .i64 pview, Value.slice pA pn pc] 47))) := hb.out.alloc hb.out.size _
        obtain ⟨k0, k1, k2, k3⟩ := cells4 (wr) (w.heap.size) (Value.int .i64 (pj : Int)) (Value.int .i64 view) (Value.int .i64 commit) (Value.slice (some pad) n c) (hB.out)
        obtain ⟨p0, p1, p2⟩ := cells3 ((wr.alloc (.cells #[Value.bool pup, Value.int .i64 pview, Value.slice pA pn pc] 47))) (wr.heap.size) (Value.bool pup) (Value.int .i64 pview) (Value.slice pA pn pc) (hP.out)
        obtain ⟨m0, m1, m2, m3⟩ := cells4 ((wr.alloc (.cells #[Value.bool pup, Value.int .i64 pview, Value.slice pA pn pc] 47))) (w.heap.size) (Value.int .i64 (pj : Int)) (Value.int .i64 view) (Value.int .i64 commit) (Value.slice (some pad) n c) (hB1.out)
        by_cases u1 : pup = false
        · subst u1
          have hpr : Hid (primE ⟨(pj : Int), view, commit, sl.map Sm.val⟩ = true) := by show _ = _; rw [hPE.out]; rfl
          have hF : Hid (validC ⟨(pj : Int), view, commit, sl.map Sm.val⟩ = 1) := validC_prim _ hh.out hsv.out hpr.out
          go_wp2_with fail
          go_ret
          exact ⟨congrArg (fun e : Int => Ending.returned (Value.int .i64 e)) hF.out.symm, hb1.out⟩
        obtain rfl : pup = true := by simpa using u1
        by_cases u2 : pview = view
        · have u2d : (pview != view) = false := by simpa using u2
          have hPE2 : Hid (primE ⟨(pj : Int), view, commit, sl.map Sm.val⟩ = (sl.map Sm.val).any fun s => decide (s.view = pview) && decide (pn < s.log.length)) := by show _ = _; rw [hPE.out]; simp [u2]
          replace u2 := Lib.hid u2
          go_wp2_with fail
          clear k0 k1 k2 k3 p0 p1 p2 m0 m1 m2 m3
          obtain ⟨gp, hgp⟩ : ∃ gp, gp = wr.heap.size := ⟨_, rfl⟩
          rw [← hgp] at hP ⊢
          replace hgp := Lib.hid hgp
          generalize (wr.alloc (.cells #[Value.bool true, Value.int .i64 pview, Value.slice pA pn pc] 47)) = w1 at *
          go_loopw [7] (fun i wr => ∃ k : Nat, k ≤ n ∧ i = .int .i64 k ∧ Hid (Blk wr w.heap.size 24 #[Value.int .i64 (pj : Int), Value.int .i64 view, Value.int .i64 commit, Value.slice (some pad) n c]) ∧ Hid (Blk wr gp 47 #[Value.bool true, Value.int .i64 pview, Value.slice pA pn pc]) ∧ Hid (Below w.heap.size w wr) ∧ Hid (primE ⟨(pj : Int), view, commit, sl.map Sm.val⟩ = ((sl.map Sm.val).drop k).any fun s => decide (s.view = pview) && decide (pn < s.log.length))) (fun i _ => n - (intOf i).toNat)
          case atStart => exact ⟨0, Nat.zero_le _, rfl, hB1.out, hP.out, hb1.out, hPE2.out⟩
          case round =>
            clear hB hb hB1 hb1 hP hPE hPE2
            obtain ⟨k, hkn, rfl, hB, hP, hb, hL⟩ := hrel
            by_cases hlt : k < n
            · have hkl : k < sl.length := by have := hl.out; (try simp only at this); omega
              have hk0 : (0 : Int) ≤ k := by omega
              have hk1 : (k : Int) < n := by omega
              obtain ⟨ad, hA, -, e0, e1, e2⟩ := sv_cells (hcm.out.at_.below hb.out (Nat.le_refl _)) hlt
              obtain ⟨x, hx⟩ : ∃ x, x = sl[k] := ⟨_, rfl⟩
              rw [← hx] at e0 e1 e2
              have hsx : Hid (sl[k] = x) := hx.symm
              have hsm : Hid (SmAt w Q x) := hcm.out.els x (by rw [hx]; exact List.getElem_mem hkl)
              clear hx
              obtain ⟨up, sview, sA, sn, sc, slog⟩ := x
              (try simp only at hA)
              (try simp only at e0 e1 e2)
              injection hA with hA
              subst hA
              have hst : Hid (primE ⟨(pj : Int), view, commit, sl.map Sm.val⟩ = ((decide (sview = pview) && decide (pn < sn)) || ((sl.map Sm.val).drop (k + 1)).any fun s => decide (s.view = pview) && decide (pn < s.log.length))) := by
                show _ = _
                rw [hL.out, List.drop_eq_getElem_cons (by simpa using hkl), List.getElem_map, hsx.out, List.any_cons]
                show ((decide (sview = pview) && decide (pn < (slog.map Em.val).length)) || _) = _
                rw [List.length_map, hsm.out.len]
              have hB2 : Hid (Blk wr w.heap.size 24 #[Value.int .i64 (pj : Int), Value.int .i64 view, Value.int .i64 commit, Value.slice (some pad) n c]) := hB.out
              have hP2 : Hid (Blk wr gp 47 #[Value.bool true, Value.int .i64 pview, Value.slice pA pn pc]) := hP.out
              have hb2 : Hid (Below w.heap.size w wr) := hb.out

              obtain ⟨p0, p1, p2⟩ := cells3 (wr) (gp) (Value.bool true) (Value.int .i64 pview) (Value.slice pA pn pc) (hP2.out)
              obtain ⟨k0, k1, k2, k3⟩ := cells4 (wr) (w.heap.size) (Value.int .i64 (pj : Int)) (Value.int .i64 view) (Value.int .i64 commit) (Value.slice (some pad) n c) (hB2.out)
              by_cases v1 : sview = pview
              · have v1d : (sview == pview) = true := by simpa using v1
                by_cases v2 : pn < sn
                · have v2d : decide ((pn : Int) < (sn : Int)) = true := by simp; omega
                  have v2i : (pn : Int) < (sn : Int) := by omega
                  have hpr : Hid (primE ⟨(pj : Int), view, commit, sl.map Sm.val⟩ = true) := by show _ = _; rw [hst.out]; simp [v1, v2]
                  have hF : Hid (validC ⟨(pj : Int), view, commit, sl.map Sm.val⟩ = 1) := validC_prim _ hh.out hsv.out hpr.out
                  replace v1 := Lib.hid v1
                  go_wp2_with fail
                  go_quiet (fail)
                  go_wp2_with fail
                  go_ret
                  exact ⟨congrArg (fun e : Int => Ending.returned (Value.int .i64 e)) hF.out.symm, below_drewN (hb2.out) _⟩
                · have v2d : decide ((pn : Int) < (sn : Int)) = false := by simp; omega
                  have v2i : ¬ (pn : Int) < (sn : Int) := by omega
                  have hF : Hid (primE ⟨(pj : Int), view, commit, sl.map Sm.val⟩ = ((sl.map Sm.val).drop (k + 1)).any fun s => decide (s.view = pview) && decide (pn < s.log.length)) := by show _ = _; rw [hst.out]; simp [v2]
                  replace v1 := Lib.hid v1
                  go_wp2_with fail
                  go_quiet (fail)
                  go_wp2_with fail
                  go_roundw
                  case rel => exact ⟨k + 1, by omega, by go_num, (hB2.out).drewN _, (hP2.out).drewN _, below_drewN (hb2.out) _, hF.out⟩
                  case measure => simp [intOf]; omega
              · have v1d : (sview == pview) = false := by simpa using v1
                have hF : Hid (primE ⟨(pj : Int), view, commit, sl.map Sm.val⟩ = ((sl.map Sm.val).drop (k + 1)).any fun s => decide (s.view = pview) && decide (pn < s.log.length)) := by show _ = _; rw [hst.out]; simp [v1]
                go_wp2_with fail
                go_quiet (fail)
                go_wp2_with fail
                go_roundw
                case rel => exact ⟨k + 1, by omega, by go_num, (hB2.out).drewN _, (hP2.out).drewN _, below_drewN (hb2.out) _, hF.out⟩
                case measure => simp [intOf]; omega
            · have hpr : Hid (primE ⟨(pj : Int), view, commit, sl.map Sm.val⟩ = false) := by show _ = _; rw [hL.out, List.drop_eq_nil_of_le (by have := hl.out; (try simp only at this); simp; omega)]; rfl
              clear hL hP
              obtain ⟨k0, k1, k2, k3⟩ := cells4 (wr) (w.heap.size) (Value.int .i64 (pj : Int)) (Value.int .i64 view) (Value.int .i64 commit) (Value.slice (some pad) n c) (hB.out)
              obtain ⟨bj, y, hbl, hbj, hbn, hby, hyl⟩ := best_at (n := n) (sl := sl) hl.out (fun s hs => (hcm.out.els s hs).len) hn1
              obtain ⟨hbjl, hyy⟩ := List.getElem?_eq_some_iff.1 hby
              have hbb : ((bestLog ⟨(pj : Int), view, commit, sl.map Sm.val⟩).length : Int) = (y.n : Int) := by rw [hbl]; rw [List.length_map, hyl]
              have hfin : validC ⟨(pj : Int), view, commit, sl.map Sm.val⟩ = if commit < 0 ∨ (y.n : Int) < commit then 1 else 0 := by rw [validC_com _ hh.out hsv.out hpr.out, hbb]
              have hfin := Lib.hid hfin
              clear hbb hbl
              obtain ⟨bad, hA, -, -, -, -⟩ := sv_cells (hcm.out.at_.below hb.out (Nat.le_refl _)) hbn
              (try simp only at hA)
              have hA' : bad = pad := by injection hA with hA; exact hA.symm
              subst hA'
              have hyc : Hid (∀ wz, Below w.heap.size w wz → wz.cell? (bad.add (bj * 3)) = some (Value.bool y.up) ∧ wz.cell? ⟨(bad.add (bj * 3)).block, (bad.add (bj * 3)).off + 1, none⟩ = some (Value.int .i64 y.view) ∧ wz.cell? ⟨(bad.add (bj * 3)).block, (bad.add (bj * 3)).off + 2, none⟩ = some (Value.slice y.A y.n y.c)) := fun wz hz => by
                obtain ⟨ad', hA', -, q⟩ := sv_cells (hcm.out.at_.below hz (Nat.le_refl _)) hbn
                (try simp only at hA')
                injection hA' with hA'
                subst hA'
                rw [hyy] at q
                exact q
              have hbj0 : (0 : Int) ≤ (bj : Int) := by omega
              have hbj1 : (bj : Int) < (n : Int) := by omega
              replace hbj := Lib.hid hbj
              clear hyl hyy hbjl hby
              obtain ⟨yup, yview, yA, yn, yc, ylog⟩ := y
              (try simp only at hfin hbj hyc)
              have hcc : Hid (∀ wz, Below wr.heap.size wr wz → wz.cell? ⟨w.heap.size, 0, none⟩ = some (Value.int .i64 (pj : Int)) ∧ wz.cell? ⟨w.heap.size, 1, none⟩ = some (Value.int .i64 view) ∧ wz.cell? ⟨w.heap.size, 2, none⟩ = some (Value.int .i64 commit) ∧ wz.cell? ⟨w.heap.size, 3, none⟩ = some (Value.slice (some bad) n c)) := fun wz hz => by
                have q := hB.out.below hz hB.out.lt
                exact ⟨q.cell 0, q.cell 1, q.cell 2, q.cell 3⟩
              have hyw : Hid (∀ wz, Below wr.heap.size wr wz → wz.cell? ⟨(bad.add (bj * 3)).block, (bad.add (bj * 3)).off + 2, none⟩ = some (Value.slice yA yn yc)) := fun wz hz => (hyc.out wz (hb.out.trans (hz.mono hb.out.size))).2.2
              have hfs : Hid (∀ wz, Below wr.heap.size wr wz → Calls Try.prog 30 #[.agg #[Value.int .i64 (pj : Int), Value.int .i64 view, Value.int .i64 commit, Value.slice (some bad) n c], .bool false] wz fun e w' => e = .returned (.int .i64 (bj : Int)) ∧ Below wz.heap.size wz w') := fun wz hz => by
                have q := firstA_any ⟨(pj : Int), view, commit, (some bad), n, c, sl⟩ wz (hcm.out.more (hb.out.trans (hz.mono hb.out.size))) (by simp only; omega)
                rw [hbj.out] at q
                exact q
              obtain ⟨c0, hc0⟩ : ∃ c0, c0 = decide (commit < 0) := ⟨_, rfl⟩
              obtain ⟨c1, hc1⟩ : ∃ c1, c1 = decide ((yn : Int) < commit) := ⟨_, rfl⟩
              replace hfin : Hid (validC ⟨(pj : Int), view, commit, sl.map Sm.val⟩ = if (c0 || c1) = true then 1 else 0) := by
                show _ = _
                rw [hfin.out, hc0, hc1]
                simp only [Bool.or_eq_true, decide_eq_true_eq]
              have hc0' := Lib.hid hc0.symm
              have hc1' := Lib.hid hc1.symm
              clear hc0 hc1 hyc hbj
              go_wp2_with fail
              clear k0 k1 k2 k3
              refine RM.region [] [] (F := F11b w.heap.size n c bj yn yc bad (pj : Int) view commit yA c0 c1) (W := fun wz => Below wr.heap.size wr wz) (R := fun _ => Rb) (S := noS) (G := noG) rfl F11b_more (fun _ _ _ _ _ _ _ => trivial) (fun _ _ _ _ _ h => h.elim) (fun _ _ _ _ _ h => h.elim) (by kernel_rfl) (by kernel_rfl) (by kernel_rfl) (by kernel_rfl) (by kernel_rfl) ?_ ?_ ?_ (by kernel_rfl) ?_
              · exact (Below.refl _ _).drew
              · intro t ht
                unfold F11b
                split <;> first | trivial | exact rfl | (exact absurd ht (by decide))
              · simp only [List.forall_mem_cons, List.not_mem_nil, false_implies, implies_true, and_true]
                refine ⟨?_, ?_, ?_, ?_, ?_, ?_, ?_, ?_, ?_, ?_, ?_, ?_, ?_, ?_, ?_, ?_⟩
                · intro a w2 hw _ hf K hK
                  have f0 := hf 1 rfl
                  simp only [F11b] at f0
                  clear hf
                  go_simp
                  exact hK _ _ _ rfl rfl hw (Below.refl _ _) (fun h => absurd h (by decide))
                · intro a w2 hw _ hf K hK
                  have f0 := hf 100 rfl
                  simp only [F11b] at f0
                  clear hf
                  obtain ⟨c0, c1, c2, c3⟩ := hcc.out w2 hw
                  go_simp
                  exact hK _ _ _ rfl rfl hw (Below.refl _ _) (fun h => absurd h (by decide))
                · intro a w2 hw _ hf K hK
                  have f0 := hf 101 rfl
                  simp only [F11b] at f0
                  clear hf
                  go_simp
                  exact hK _ _ _ rfl (by show _ = _; rw [← hc0'.out]) hw (Below.refl _ _) (fun h => absurd h (by decide))
                · intro a w2 hw _ hf K hK
                  have f0 := hf 102 rfl
                  simp only [F11b] at f0
                  clear hf
                  go_simp
                  exact hK _ _ _ rfl rfl hw (Below.refl _ _) (fun h => absurd h (by decide))
                · refine ⟨?_, ?_⟩
                  · intro a w2 hw hg hf K hK
                    have f0 := hf 1 rfl
                    simp only [F11b] at f0
                    simp only [F11b] at hg
                    replace hg := (Value.bool.inj hg).symm
                    clear hf
                    clear hg
                    go_simp
                    exact hK _ _ _ rfl (fun _ => rfl) hw (Below.refl _ _) (fun h => absurd h (by decide))
                  · intro v w _ hv hne; simp only [F11b] at hv ⊢; intro h; exact absurd (hv.trans (by rw [h])) hne
                · refine ⟨?_, ?_⟩
                  · intro a w2 hw hg hf K hK
                    have f0 := hf 104 rfl
                    simp only [F11b] at f0
                    simp only [F11b] at hg
                    replace hg := (Value.bool.inj hg).symm
                    clear hf
                    replace f0 := f0 hg
                    clear hg
                    obtain ⟨c0, c1, c2, c3⟩ := hcc.out w2 hw
                    go_simp
                    exact hK _ _ _ rfl (fun _ => rfl) hw (Below.refl _ _) (fun h => absurd h (by decide))
                  · intro v w _ hv hne; simp only [F11b] at hv ⊢; intro h; exact absurd (hv.trans (by rw [h])) hne
                · refine ⟨?_, ?_⟩
                  · intro a w2 hw hg hf K hK
                    have f0 := hf 1 rfl
                    simp only [F11b] at f0
                    simp only [F11b] at hg
                    replace hg := (Value.bool.inj hg).symm
                    clear hf
                    clear hg
                    go_simp
                    exact hK _ _ _ rfl (fun _ => rfl) hw (Below.refl _ _) (fun h => absurd h (by decide))
                  · intro v w _ hv hne; simp only [F11b] at hv ⊢; intro h; exact absurd (hv.trans (by rw [h])) hne
                · refine ⟨?_, ?_⟩
                  · intro a w2 hw hg hf K hK
                    have f0 := hf 106 rfl
                    simp only [F11b] at f0
                    simp only [F11b] at hg
                    replace hg := (Value.bool.inj hg).symm
                    clear hf
                    replace f0 := f0 hg
                    clear hg
                    obtain ⟨c0, c1, c2, c3⟩ := hcc.out w2 hw
                    go_simp
                    exact hK _ _ _ rfl (fun _ => rfl) hw (Below.refl _ _) (fun h => absurd h (by decide))
                  · intro v w _ hv hne; simp only [F11b] at hv ⊢; intro h; exact absurd (hv.trans (by rw [h])) hne
                · refine ⟨?_, ?_⟩
                  · intro a w2 hw hg hf K hK
                    have f0 := hf 1 rfl
                    simp only [F11b] at f0
                    simp only [F11b] at hg
                    replace hg := (Value.bool.inj hg).symm
                    clear hf
                    clear hg
                    obtain ⟨c0, c1, c2, c3⟩ := hcc.out w2 hw
                    go_simp
                    exact hK _ _ _ rfl (fun _ => rfl) hw (Below.refl _ _) (fun h => absurd h (by decide))
                  · intro v w _ hv hne; simp only [F11b] at hv ⊢; intro h; exact absurd (hv.trans (by rw [h])) hne
                · refine ⟨?_, ?_⟩
                  · intro a w2 hw hg hf K hK
                    have f0 := hf 108 rfl
                    simp only [F11b] at f0
                    simp only [F11b] at hg
                    replace hg := (Value.bool.inj hg).symm
                    clear hf
                    replace f0 := f0 hg
                    clear hg
                    go_simp
                    refine (hfs.out w2 hw).mono ?_; rintro e w5 ⟨rfl, hbq⟩
                    exact hK _ _ _ rfl (fun _ => rfl) (hw.trans (hbq.mono hw.size)) hbq (fun h => absurd h (by decide))
                  · intro v w _ hv hne; simp only [F11b] at hv ⊢; intro h; exact absurd (hv.trans (by rw [h])) hne
                · refine ⟨?_, ?_⟩
                  · intro a w2 hw hg hf K hK
                    have f0 := hf 107 rfl
                    have f1 := hf 109 rfl
                    simp only [F11b] at f0 f1
                    simp only [F11b] at hg
                    replace hg := (Value.bool.inj hg).symm
                    clear hf
                    replace f0 := f0 hg
                    replace f1 := f1 hg
                    clear hg
                    go_simp
                    exact hK _ _ _ rfl (fun _ => rfl) hw (Below.refl _ _) (fun h => absurd h (by decide))
                  · intro v w _ hv hne; simp only [F11b] at hv ⊢; intro h; exact absurd (hv.trans (by rw [h])) hne
                · refine ⟨?_, ?_⟩
                  · intro a w2 hw hg hf K hK
                    have f0 := hf 110 rfl
                    simp only [F11b] at f0
                    simp only [F11b] at hg
                    replace hg := (Value.bool.inj hg).symm
                    clear hf
                    replace f0 := f0 hg
                    clear hg
                    have e2 := hyw.out w2 hw
                    go_simp
                    exact hK _ _ _ rfl (fun _ => rfl) hw (Below.refl _ _) (fun h => absurd h (by decide))
                  · intro v w _ hv hne; simp only [F11b] at hv ⊢; intro h; exact absurd (hv.trans (by rw [h])) hne
                · refine ⟨?_, ?_⟩
                  · intro a w2 hw hg hf K hK
                    have f0 := hf 111 rfl
                    simp only [F11b] at f0
                    simp only [F11b] at hg
                    replace hg := (Value.bool.inj hg).symm
                    clear hf
                    replace f0 := f0 hg
                    clear hg
                    have e2 := hyw.out w2 hw
                    go_simp
                    exact hK _ _ _ rfl (fun _ => rfl) hw (Below.refl _ _) (fun h => absurd h (by decide))
                  · intro v w _ hv hne; simp only [F11b] at hv ⊢; intro h; exact absurd (hv.trans (by rw [h])) hne
                · refine ⟨?_, ?_⟩
                  · intro a w2 hw hg hf K hK
                    have f0 := hf 112 rfl
                    simp only [F11b] at f0
                    simp only [F11b] at hg
                    replace hg := (Value.bool.inj hg).symm
                    clear hf
                    replace f0 := f0 hg
                    clear hg
                    go_simp
                    exact hK _ _ _ rfl (fun _ => rfl) hw (Below.refl _ _) (fun h => absurd h (by decide))
                  · intro v w _ hv hne; simp only [F11b] at hv ⊢; intro h; exact absurd (hv.trans (by rw [h])) hne
                · refine ⟨?_, ?_⟩
                  · intro a w2 hw hg hf K hK
                    have f0 := hf 105 rfl
                    have f1 := hf 113 rfl
                    simp only [F11b] at f0 f1
                    simp only [F11b] at hg
                    replace hg := (Value.bool.inj hg).symm
                    clear hf
                    replace f0 := f0 hg
                    replace f1 := f1 hg
                    clear hg
                    go_simp
                    exact hK _ _ _ rfl (fun _ => by rw [← hc1'.out]) hw (Below.refl _ _) (fun h => absurd h (by decide))
                  · intro v w _ hv hne; simp only [F11b] at hv ⊢; intro h; exact absurd (hv.trans (by rw [h])) hne
                · intro a w2 hw _ hf K hK
                  have f0 := hf 103 rfl
                  have f1 := hf 114 rfl
                  simp only [F11b] at f0 f1
                  clear hf
                  cases c0 with
                  | true =>
                    go_simp
                    exact hK _ _ _ rfl rfl hw (Below.refl _ _) (fun h => absurd h (by decide))
                  | false =>
                    replace f1 := f1 rfl
                    go_simp
                    exact hK _ _ _ rfl rfl hw (Below.refl _ _) (fun h => absurd h (by decide))
              · intro a' w9 hd hs hw hout hf _
                have h115 := hf 115 rfl
                simp only [F11b] at h115
                have e1 : _ = some (Value.pointer (some ⟨w.heap.size, 0, none⟩)) := hout 1 rfl
                obtain ⟨tm, df⟩ := a'
                simp only at hd hs h115 e1
                have e := F11b_lit tm hs
                simp only [h115, e1, Option.getD_some] at e
                clear hf hout hs
                rw [e, hd]
                clear e hd h115 e1
                generalize tm[0]?.getD undef = u0x, tm[2]?.getD undef = u2x, tm[3]?.getD undef = u3x, tm[4]?.getD undef = u4x, tm[5]?.getD undef = u5x, tm[6]?.getD undef = u6x, tm[7]?.getD undef = u7x, tm[8]?.getD undef = u8x, tm[9]?.getD undef = u9x, tm[10]?.getD undef = u10x, tm[11]?.getD undef = u11x, tm[12]?.getD undef = u12x, tm[13]?.getD undef = u13x, tm[14]?.getD undef = u14x, tm[15]?.getD undef = u15x, tm[16]?.getD undef = u16x, tm[17]?.getD undef = u17x, tm[18]?.getD undef = u18x, tm[19]?.getD undef = u19x, tm[20]?.getD undef = u20x, tm[21]?.getD undef = u21x, tm[22]?.getD undef = u22x, tm[23]?.getD undef = u23x, tm[24]?.getD undef = u24x, tm[25]?.getD undef = u25x, tm[26]?.getD undef = u26x, tm[27]?.getD undef = u27x, tm[28]?.getD undef = u28x, tm[29]?.getD undef = u29x, tm[30]?.getD undef = u30x, tm[31]?.getD undef = u31x, tm[32]?.getD undef = u32x, tm[33]?.getD undef = u33x, tm[34]?.getD undef = u34x, tm[35]?.getD undef = u35x, tm[36]?.getD undef = u36x, tm[37]?.getD undef = u37x, tm[38]?.getD undef = u38x, tm[39]?.getD undef = u39x, tm[40]?.getD undef = u40x, tm[41]?.getD undef = u41x, tm[42]?.getD undef = u42x, tm[43]?.getD undef = u43x, tm[44]?.getD undef = u44x, tm[45]?.getD undef = u45x, tm[46]?.getD undef = u46x, tm[47]?.getD undef = u47x, tm[48]?.getD undef = u48x, tm[49]?.getD undef = u49x, tm[50]?.getD undef = u50x, tm[51]?.getD undef = u51x, tm[52]?.getD undef = u52x, tm[53]?.getD undef = u53x, tm[54]?.getD undef = u54x, tm[55]?.getD undef = u55x, tm[56]?.getD undef = u56x, tm[57]?.getD undef = u57x, tm[58]?.getD undef = u58x, tm[59]?.getD undef = u59x, tm[60]?.getD undef = u60x, tm[61]?.getD undef = u61x, tm[62]?.getD undef = u62x, tm[63]?.getD undef = u63x, tm[64]?.getD undef = u64x, tm[65]?.getD undef = u65x, tm[66]?.getD undef = u66x, tm[67]?.getD undef = u67x, tm[68]?.getD undef = u68x, tm[69]?.getD undef = u69x, tm[70]?.getD undef = u70x, tm[71]?.getD undef = u71x, tm[72]?.getD undef = u72x, tm[73]?.getD undef = u73x, tm[74]?.getD undef = u74x, tm[75]?.getD undef = u75x, tm[76]?.getD undef = u76x, tm[77]?.getD undef = u77x, tm[78]?.getD undef = u78x, tm[79]?.getD undef = u79x, tm[80]?.getD undef = u80x, tm[81]?.getD undef = u81x, tm[82]?.getD undef = u82x, tm[83]?.getD undef = u83x, tm[84]?.getD undef = u84x, tm[85]?.getD undef = u85x, tm[86]?.getD undef = u86x, tm[87]?.getD undef = u87x, tm[88]?.getD undef = u88x, tm[89]?.getD undef = u89x, tm[90]?.getD undef = u90x, tm[91]?.getD undef = u91x, tm[92]?.getD undef = u92x, tm[93]?.getD undef = u93x, tm[94]?.getD undef = u94x, tm[95]?.getD undef = u95x, tm[96]?.getD undef = u96x, tm[97]?.getD undef = u97x, tm[98]?.getD undef = u98x, tm[99]?.getD undef = u99x, tm[100]?.getD undef = u100x, tm[101]?.getD undef = u101x, tm[102]?.getD undef = u102x, tm[103]?.getD undef = u103x, tm[104]?.getD undef = u104x, tm[105]?.getD undef = u105x, tm[106]?.getD undef = u106x, tm[107]?.getD undef = u107x, tm[108]?.getD undef = u108x, tm[109]?.getD undef = u109x, tm[110]?.getD undef = u110x, tm[111]?.getD undef = u111x, tm[112]?.getD undef = u112x, tm[113]?.getD undef = u113x, tm[114]?.getD undef = u114x
                have hb := Lib.hid (hb.out.trans (hw.mono hb.out.size))
                clear hw hcc hyw hfs
                cases hcx : (c0 || c1) with
                | true =>
                  have hF : Hid (validC ⟨(pj : Int), view, commit, sl.map Sm.val⟩ = 1) := by show _ = _; rw [hfin.out, hcx]; rfl
                  go_wp2_with fail
                  go_ret
                  exact ⟨congrArg (fun e : Int => Ending.returned (Value.int .i64 e)) hF.out.symm, hb.out⟩
                | false =>
                  have hF : Hid (validC ⟨(pj : Int), view, commit, sl.map Sm.val⟩ = 0) := by show _ = _; rw [hfin.out, hcx]; rfl
                  go_wp2_with fail
                  go_ret
                  exact ⟨congrArg (fun e : Int => Ending.returned (Value.int .i64 e)) hF.out.symm, hb.out⟩
        · have u2d : (pview != view) = true := by simpa using u2
          have hpr : Hid (primE ⟨(pj : Int), view, commit, sl.map Sm.val⟩ = true) := by show _ = _; rw [hPE.out]; simp [u2]
          have hF : Hid (validC ⟨(pj : Int), view, commit, sl.map Sm.val⟩ = 1) := validC_prim _ hh.out hsv.out hpr.out
          go_wp2_with fail
          go_ret
          exact ⟨congrArg (fun e : Int => Ending.returned (Value.int .i64 e)) hF.out.symm, hb1.out⟩
end Go.Proofs.Ytiapeenfggjpnaa
