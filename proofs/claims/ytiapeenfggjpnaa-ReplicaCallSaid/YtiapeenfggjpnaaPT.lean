/- Replicated servers: big, walked. -/
import Derived.Test.YtiapeenfggjpnaaPS
set_option linter.unusedVariables false
set_option linter.unusedSimpArgs false
namespace Go.Proofs.Ytiapeenfggjpnaa
open Go.RowKit
/-- what a server that is not big keeps to -/
def notBig (s : Sm) : Prop := s.n ≤ 5000 ∧ ((∀ e ∈ s.log, e.d.length ≤ 8198) → sumD s.log ≤ 65536)
def BigRes (k : Cm) (e : Ending) : Prop := ∃ b, e = .returned (.bool b) ∧ (b = false → k.n ≤ 10 ∧ ∀ s ∈ k.servers, notBig s)
theorem sumD_take1 {l : List Em} {j : Nat} {e : Em} (h : l[j]? = some e) : sumD (l.take (j + 1)) = sumD (l.take j) + e.d.length := by
  obtain ⟨hj, rfl⟩ := List.getElem?_eq_some_iff.1 h
  rw [List.take_succ_eq_append_getElem hj]
  unfold sumD
  rw [List.map_append, List.sum_append]
  simp
set_option maxRecDepth 100000 in
set_option maxHeartbeats 8000000 in
theorem big_any (k : Cm) (w : World) {Q : Nat → Prop} (h : CmAt w Q k) :
    Calls Try.prog 10 #[clV k] w fun e w' => BigRes k e ∧ Below w.heap.size w w' := by
  have hcm := Lib.hid h
  have hl : Hid (k.servers.length = k.n) := h.at_.len
  obtain ⟨primary, view, commit, A, n, c, sl⟩ := k
  simp only [clV] at *
  have hx0 := Lib.hid (Blk.new w 24 #[Value.int .i64 primary, Value.int .i64 view, Value.int .i64 commit, Value.slice A n c])
  have hb0 : Hid (Below w.heap.size w (w.alloc (.cells #[Value.int .i64 primary, Value.int .i64 view, Value.int .i64 commit, Value.slice A n c] 24))) := a1 w _
  obtain ⟨k0, k1, k2, k3⟩ := cells4 ((w.alloc (.cells #[Value.int .i64 primary, Value.int .i64 view, Value.int .i64 commit, Value.slice A n c] 24))) (w.heap.size) (Value.int .i64 primary) (Value.int .i64 view) (Value.int .i64 commit) (Value.slice A n c) (hx0.out)
  by_cases q0 : 10 < n
  · have q0i : (10 : Int) < (n : Int) := by omega
    have q0d : decide ((10 : Int) < (n : Int)) = true := by simp; omega
    have hb := hb0
    go_enter Try.func10, Try.ntmps10
    go_wp2_with fail
    go_ret
    exact ⟨⟨true, rfl, fun h8 => by cases h8⟩, hb.out⟩
  have q0i : ¬ (10 : Int) < (n : Int) := by omega
  have q0d : decide ((10 : Int) < (n : Int)) = false := by simp; omega
  go_enter Try.func10, Try.ntmps10
  go_wp2_with fail
  clear k0 k1 k2 k3
  go_loopw [13] (fun i wr => ∃ k : Nat, k ≤ n ∧ i = .int .i64 k ∧ Hid (∀ j s, j < k → sl[j]? = some s → notBig s) ∧ Hid (Blk wr w.heap.size 24 #[Value.int .i64 primary, Value.int .i64 view, Value.int .i64 commit, Value.slice A n c]) ∧ Hid (Below w.heap.size w wr)) (fun i _ => n - (intOf i).toNat)
  case atStart => exact ⟨0, Nat.zero_le _, rfl, (fun j s hj => absurd hj (Nat.not_lt_zero j)), hx0.out, hb0.out⟩
  clear hx0 hb0
  case round =>
    obtain ⟨k, hkn, rfl, hF, hX, hb⟩ := hrel
    by_cases hlt : k < n
    · have hkl : k < sl.length := by have := hl.out; (try simp only at this); omega
      have hk0 : (0 : Int) ≤ k := by omega
      have hk1 : (k : Int) < n := by omega
      obtain ⟨ad, hA, hbl, -, -, e2⟩ := sv_cells (hcm.out.at_.below hb.out (Nat.le_refl _)) hlt
      (try simp only at hA)
      subst hA
      have hs : Hid (SmAt w Q sl[k]) := hcm.out.els _ (List.getElem_mem hkl)
      have hsk : Hid (sl[k]? = some sl[k]) := List.getElem?_eq_getElem hkl
      have he2 : Hid (∀ wz, Below w.heap.size w wz → wz.cell? ⟨(ad.add (k * 3)).block, (ad.add (k * 3)).off + 2, none⟩ = some (Value.slice sl[k].A sl[k].n sl[k].c)) := by
        intro wz hz
        obtain ⟨ad', hA', -, -, -, e⟩ := sv_cells (hcm.out.at_.below hz (Nat.le_refl _)) hlt
        injection hA' with hA'
        subst hA'
        exact e
      (try simp only at e2)
      generalize sl[k] = s at *
      obtain ⟨up, sview, sA, sn, sc, slog⟩ := s
      (try simp only at e2)
      obtain ⟨k0, k1, k2, k3⟩ := cells4 (wr) (w.heap.size) (Value.int .i64 primary) (Value.int .i64 view) (Value.int .i64 commit) (Value.slice (some ad) n c) (hX.out)
      go_wp2_with fail
      clear k0 k1 k2 k3 e2
      go_loopw [23, 4] (fun i v wq => ∃ (j : Nat) (m : Int), j ≤ sn ∧ j ≤ 5000 ∧ i = .int .i64 j ∧ v = .int .i64 m ∧ Hid ((∀ e ∈ slog, e.d.length ≤ 8198) → m = (sumD (slog.take j) : Nat) ∧ sumD (slog.take j) ≤ 65536) ∧ Hid (Blk wq w.heap.size 24 #[Value.int .i64 primary, Value.int .i64 view, Value.int .i64 commit, Value.slice (some ad) n c]) ∧ Hid (Below w.heap.size w wq)) (fun i _ _ => sn - (intOf i).toNat)
      case atStart => exact ⟨0, 0, Nat.zero_le _, Nat.zero_le _, rfl, rfl, fun _ => ⟨rfl, Nat.zero_le _⟩, hX.out, hb.out⟩
      clear hX hb
      case round =>
        obtain ⟨j, m, hjn, hj5, rfl, rfl, hM, hX, hb⟩ := hrel
        by_cases hlj : j < sn
        · have hj0 : (0 : Int) ≤ j := by omega
          have hj1 : (j : Int) < sn := by omega
          have hsl : slog.length = sn := hs.out.len
          obtain ⟨ae, hAe, -, -, e1⟩ := en_cells (hs.out.at_.below hb.out (Nat.le_refl _)) hlj
          (try simp only at hAe e1)
          subst hAe
          have hej : Hid (slog[j]? = some slog[j]) := List.getElem?_eq_getElem _
          (try simp only at e1)
          generalize slog[j] = e at *
          obtain ⟨ev, eA, en, ec, ed⟩ := e
          (try simp only at e1)
          have hel : Hid (ed.length = en) := (hs.out.els ⟨ev, eA, en, ec, ed⟩ (List.mem_of_getElem? hej.out)).at_.len
          replace hsl := Lib.hid hsl
          have e2 := he2.out wr hb.out
          (try simp only at e2)
          obtain ⟨m', hm'⟩ : ∃ m', IntKind.i64.wrap (m + (en : Int)) = m' := ⟨_, rfl⟩
          have hM' : Hid ((∀ e ∈ slog, e.d.length ≤ 8198) → m' = (sumD (slog.take (j + 1)) : Nat)) := by
            intro hall
            obtain ⟨h1, h2⟩ := hM.out hall
            have h3 := hall _ (List.mem_of_getElem? hej.out)
            have h4 := sumD_take1 hej.out
            have h5 := hel.out
            simp only at h3 h4
            rw [← hm', IntWalk.i64_in _ (by omega), h4]
            omega
          obtain ⟨k0, k1, k2, k3⟩ := cells4 (wr) (w.heap.size) (Value.int .i64 primary) (Value.int .i64 view) (Value.int .i64 commit) (Value.slice (some ad) n c) (hX.out)
          by_cases p1 : 5000 ≤ j
          · have p1i : (5000 : Int) ≤ (j : Int) := by omega
            have p1d : decide ((5000 : Int) ≤ (j : Int)) = true := by simp; omega
            go_wp2_with fail
            go_ret
            exact ⟨⟨true, rfl, fun h8 => by cases h8⟩, hb.out⟩
          · have p1i : ¬ (5000 : Int) ≤ (j : Int) := by omega
            have p1d : decide ((5000 : Int) ≤ (j : Int)) = false := by simp; omega
            by_cases p2 : 65536 < m'
            · have p2d : decide (65536 < m') = true := by simpa using p2
              go_wp2_with fail
              go_ret
              exact ⟨⟨true, rfl, fun h8 => by cases h8⟩, hb.out⟩
            · have p2d : decide (65536 < m') = false := by simpa using p2
              go_wp2_with fail
              go_roundw
              case rel => exact ⟨j + 1, m', by omega, by omega, by go_num, by go_num, fun hall => ⟨hM'.out hall, by have := hM'.out hall; omega⟩, hX.out, hb.out⟩
              case measure => simp [intOf]; omega
        · have hF' : Hid (∀ j s, j < k + 1 → sl[j]? = some s → notBig s) := by
            intro j' s' hj' hs'
            by_cases hjk : j' < k
            · exact hF.out j' s' hjk hs'
            · obtain rfl : j' = k := by omega
              rw [hsk.out] at hs'
              injection hs' with hs'
              subst hs'
              have hsl : slog.length = sn := hs.out.len
              refine ⟨by show sn ≤ 5000; omega, fun hall => ?_⟩
              have := (hM.out hall).2
              rw [List.take_of_length_le (by omega)] at this
              exact this
          go_wp2_with fail
          go_roundw
          case rel => exact ⟨k + 1, by omega, by go_num, hF'.out, hX.out, hb.out⟩
          case measure => simp [intOf]; omega
    · go_wp2_with fail
      go_ret
      refine ⟨⟨false, rfl, fun _ => ⟨by show n ≤ 10; omega, fun s hs => ?_⟩⟩, hb.out⟩
      obtain ⟨j, hj, rfl⟩ := List.getElem_of_mem hs
      have hjl : j < sl.length := hj
      exact hF.out j _ (by have := hl.out; (try simp only at this); omega) (List.getElem?_eq_getElem hj)
end Go.Proofs.Ytiapeenfggjpnaa
