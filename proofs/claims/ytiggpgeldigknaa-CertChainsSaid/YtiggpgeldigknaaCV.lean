/- Certs: what the scenario's chains come to. -/
import Derived.Test.YtiggpgeldigknaaCU
set_option linter.unusedVariables false
set_option linter.unusedSimpArgs false
namespace Go.Proofs.Ytiggpgeldigknaa
open Go.RowKit
def rootA : Ct := ⟨1, ⟨#[114, 111, 111, 116]⟩, ⟨#[]⟩, 0, 2000000, true, 3, 0⟩
def rootZ : Ct := ⟨1, ⟨#[114, 111, 111, 116]⟩, ⟨#[114, 111, 111, 116]⟩, 0, 2000000, true, 3, 2262966990261143564⟩
def subA : Ct := ⟨2, ⟨#[115, 117, 98]⟩, ⟨#[]⟩, 0, 2000000, true, 5, 0⟩
def subZ : Ct := ⟨2, ⟨#[115, 117, 98]⟩, ⟨#[114, 111, 111, 116]⟩, 0, 2000000, true, 5, 15085443038224254757⟩
def leafA (f t : Int) : Ct := ⟨9, carN, ⟨#[]⟩, f, t, false, 7, 0⟩
def leafZ (f t : Int) (b : Ct) : Ct := { issC (leafA f t) b with sl := sealC (issC (leafA f t) b) b.key }
theorem rootA_eq : rootR rootA = (rootZ, 0) := by kernel_rfl
theorem subA_eq : issueR subA rootZ = (subZ, 0) := by kernel_rfl
theorem rootA_ok : CtOk (selfC rootA) := ⟨by decide, by decide, by decide, by decide, by decide⟩
theorem subA_ok : CtOk (issC subA rootZ) := ⟨by decide, by decide, by decide, by decide, by decide⟩
theorem subZ_ok : CtOk subZ := ⟨by decide, by decide, by decide, by decide, by decide⟩
theorem car_name : nameB carN = true := by kernel_rfl
theorem root_name : nameB rootZ.subj = true := by kernel_rfl
theorem sub_name : nameB subZ.subj = true := by kernel_rfl
section
variable {f t : Int} (h0 : 0 ≤ f) (h1 : f < t) (h2 : t ≤ 1000000)
include h0 h1 h2
theorem leaf_valid {b : Ct} (hb : nameB b.subj = true) : validE (issC (leafA f t) b) = 0 := by
  unfold validE
  rw [show serB (issC (leafA f t) b) = false from rfl]
  rw [show (issC (leafA f t) b).subj = carN from rfl, show (issC (leafA f t) b).iss = b.subj from rfl, car_name, hb]
  have hs : spanB (issC (leafA f t) b) = false := by
    show (decide (f < 0) || decide (t < f) || decide (268435456 < t)) = false
    simp
    omega
  rw [hs]
  rfl
theorem leaf_ok {b : Ct} (hs : b.subj.size ≤ 50) : CtOk (issC (leafA f t) b) := ⟨⟨by show (-9223372036854775808 : Int) ≤ 9; decide, by show (9 : Int) ≤ 9223372036854775807; decide⟩, ⟨by show -9223372036854775808 ≤ f; omega, by show f ≤ 9223372036854775807; omega⟩, ⟨by show -9223372036854775808 ≤ t; omega, by show t ≤ 9223372036854775807; omega⟩, ⟨by show (0 : Int) ≤ 7; decide, by show (7 : Int) < 18446744073709551616; decide⟩, by
  show carN.size + b.subj.size ≤ 4000
  have : carN.size = 9 := rfl
  omega⟩
theorem leaf_issue {b : Ct} (hb : nameB b.subj = true) (hv : validE b = 0) (hc : b.ca = true) (hf : b.from_ = 0) (ht : b.to_ = 2000000) : issueR (leafA f t) b = (leafZ f t b, 0) := by
  have hl := leaf_valid h0 h1 h2 hb
  have ho : outB (leafA f t) b = false := by
    show (decide (f < b.from_) || decide (b.to_ < t)) = false
    rw [hf, ht]
    simp
    omega
  unfold issueR
  rw [hl, hv, hc, ho]
  rfl
end
theorem leafZ_ok {f t : Int} {b : Ct} (h : CtOk (issC (leafA f t) b)) : CtOk (leafZ f t b) := ⟨h.s, h.f, h.t, h.k, h.len⟩
theorem sealC_sl (c : Ct) (s key : Int) : sealC { c with sl := s } key = sealC c key := by
  unfold sealC ctB
  rfl
theorem validE_sl (c : Ct) (s : Int) : validE { c with sl := s } = validE c := by
  unfold validE serB spanB
  rfl
theorem sl_self (X : Ct) (key : Int) : ({ X with sl := sealC X key } : Ct).sl = sealC { X with sl := sealC X key } key := (sealC_sl X _ key).symm
theorem leafZ_sl (f t : Int) (b : Ct) : (leafZ f t b).sl = sealC (leafZ f t b) b.key := sl_self (issC (leafA f t) b) b.key
theorem trust_root {rv : List Int} {now : Int} (hn : 0 ≤ now) (hn2 : now ≤ 1000000) (hr : hasI rv 1 = false) (nm : ByteArray) (hnm : nm = rootZ.subj) : rootF rv nm now [rootZ] = some rootZ := by
  have : trustOk rv nm now rootZ = true := by
    have hv : validE rootZ = 0 := by kernel_rfl
    have hs : spanH rootZ.from_ rootZ.to_ now = true := by
      show (decide ((0 : Int) ≤ now) && decide (now < 2000000)) = true
      simp
      omega
    have hh : hasI rv rootZ.serial = false := hr
    unfold trustOk
    rw [hv, hs, hh, hnm]
    simp
    rfl
  unfold rootF
  rw [List.find?_cons, this]
theorem step_eq {C R : List Ct} {rv : List Int} {now : Int} {i : Nat} {x b : Ct} (hi : issR C R rv now i = (b, true)) (hx : C.getD i noCt = x) (hsl : x.sl = sealC x b.key) :
    stepV C R rv now i = if spanH x.from_ x.to_ now = false then 12 else if hasI rv x.serial = true then 13 else 0 := by
  unfold stepV stepE
  rw [hi, hx]
  simp only [hsl, ne_eq, not_true_eq_false, if_false, Bool.true_eq_false]
theorem ver_one_eq {x r : Ct} {rv : List Int} {now : Int} (hv : validE x = 0) (hi : issR [x] [r] rv now 0 = (r, true)) (hsl : x.sl = sealC x r.key) :
    verR [x] [r] rv now = if spanH x.from_ x.to_ now = false then 12 else if hasI rv x.serial = true then 13 else 0 := by
  have hs := step_eq (x := x) hi rfl hsl
  unfold verR
  rw [if_neg (by simp), show badC [x] = false by unfold badC; simp [hv], if_neg (by decide)]
  simp only [List.length_cons, List.length_nil, Nat.zero_add, runV]
  rw [hs]
  generalize (if spanH x.from_ x.to_ now = false then (12 : Int) else if hasI rv x.serial = true then 13 else 0) = E
  by_cases hE : E = 0 <;> simp [hE]
theorem ver_two_eq {x y r : Ct} {rv : List Int} {now : Int} (hv : validE x = 0) (hv2 : validE y = 0) (hi : issR [x, y] [r] rv now 0 = (y, true)) (hi2 : issR [x, y] [r] rv now 1 = (r, true)) (hsl : x.sl = sealC x y.key) (hsl2 : y.sl = sealC y r.key)
    (hsp : spanH y.from_ y.to_ now = true) (hh : hasI rv y.serial = false) :
    verR [x, y] [r] rv now = if spanH x.from_ x.to_ now = false then 12 else if hasI rv x.serial = true then 13 else 0 := by
  have hs := step_eq (x := x) hi rfl hsl
  have hs2 := step_eq (x := y) hi2 rfl hsl2
  rw [hsp, hh, if_neg (by decide), if_neg (by decide)] at hs2
  unfold verR
  rw [if_neg (by simp), show badC [x, y] = false by unfold badC; simp [hv, hv2], if_neg (by decide)]
  simp only [List.length_cons, List.length_nil, Nat.zero_add, runV]
  rw [hs, hs2]
  generalize (if spanH x.from_ x.to_ now = false then (12 : Int) else if hasI rv x.serial = true then 13 else 0) = E
  by_cases hE : E = 0 <;> simp [hE]
theorem iss_one {x r : Ct} {rv : List Int} {now : Int} (h : rootF rv x.iss now [r] = some r) : issR [x] [r] rv now 0 = (r, true) := by
  show rootP (rootF rv x.iss now [r]) = _
  rw [h]
  rfl
theorem iss_two {x y r : Ct} {rv : List Int} {now : Int} (hc : y.ca = true) (h : y.subj = x.iss) : issR [x, y] [r] rv now 0 = (y, true) := by
  show linkP x y = _
  unfold linkP
  rw [hc, h]
  simp
theorem iss_two' {x y r : Ct} {rv : List Int} {now : Int} (h : rootF rv y.iss now [r] = some r) : issR [x, y] [r] rv now 1 = (r, true) := by
  show rootP (rootF rv y.iss now [r]) = _
  rw [h]
  rfl
theorem subZ_sl : subZ.sl = sealC subZ rootZ.key := of_decide_eq_true (by kernel_rfl)
theorem subZ_valid : validE subZ = 0 := by kernel_rfl
theorem rootZ_valid : validE rootZ = 0 := by kernel_rfl
theorem ver_a {f t now : Int} {rv : List Int} (h0 : 0 ≤ f) (h1 : f < t) (h2 : t ≤ 1000000) (hn : 0 ≤ now) (hn2 : now ≤ 1000000) (hr : hasI rv 1 = false) :
    verR [leafZ f t rootZ] [rootZ] rv now = if spanH f t now = false then 12 else if hasI rv 9 = true then 13 else 0 := by
  have hv : validE (leafZ f t rootZ) = 0 := (validE_sl (issC (leafA f t) rootZ) (sealC (issC (leafA f t) rootZ) rootZ.key)).trans (leaf_valid h0 h1 h2 root_name)
  have h3 := trust_root hn hn2 hr (leafZ f t rootZ).iss rfl
  have hl := leafZ_sl f t rootZ
  exact ver_one_eq hv (iss_one h3) hl
theorem ver_b {f t now : Int} {rv : List Int} (h0 : 0 ≤ f) (h1 : f < t) (h2 : t ≤ 1000000) (hn : 0 ≤ now) (hn2 : now ≤ 1000000) (hr : hasI rv 1 = false) (hr2 : hasI rv 2 = false) :
    verR [leafZ f t subZ, subZ] [rootZ] rv now = if spanH f t now = false then 12 else if hasI rv 9 = true then 13 else 0 := by
  have hv : validE (leafZ f t subZ) = 0 := (validE_sl (issC (leafA f t) subZ) (sealC (issC (leafA f t) subZ) subZ.key)).trans (leaf_valid h0 h1 h2 sub_name)
  have h3 := trust_root hn hn2 hr subZ.iss rfl
  have hl := leafZ_sl f t subZ
  have hsp : spanH subZ.from_ subZ.to_ now = true := by
    show (decide ((0 : Int) ≤ now) && decide (now < 2000000)) = true
    simp
    omega
  exact ver_two_eq hv subZ_valid (iss_two rfl rfl) (iss_two' h3) hl subZ_sl hsp hr2
theorem plug_is {f t now : Int} {rv : List Int} {V : Int} (h : V = if spanH f t now = false then 12 else if hasI rv 9 = true then 13 else 0) : (plugS V == 1) = (spanH f t now && !hasI rv 9) := by
  subst h
  unfold plugS
  cases spanH f t now <;> cases hasI rv 9 <;> rfl
theorem ct_info : (Try.prog.info? 52).map (fun i => (i.zero, i.size, i.bytes)) = some (some (.agg #[.int .i64 0, .string ⟨#[]⟩, .string ⟨#[]⟩, .int .i64 0, .int .i64 0, .bool false, .int .u64 0, .int .u64 0]), 8, 80) := by kernel_rfl
theorem ct_one (l : List Ct) : ∀ u ∈ flat ctC l, u.oneCell' = true := by
  intro u hu
  simp only [flat, List.mem_flatMap, ctC] at hu
  obtain ⟨s, _, h⟩ := hu
  simp at h
  rcases h with rfl | rfl | rfl | rfl | rfl | rfl | rfl | rfl <;> rfl
end Go.Proofs.Ytiggpgeldigknaa
