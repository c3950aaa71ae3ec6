/- The plain law of another record; no program in sight but the map's words. -/
import Derived.Test.YtllhmpbfnbbldaaChView
namespace Go.Proofs.Ytllhmpbfnbbldaa.ChAddsPure
set_option linter.unusedSimpArgs false
set_option linter.unusedVariables false
open Go.RowKit Go.Maps Go.Proofs.Ytllhmpbfnbbldaa.Util Go.Proofs.Ytllhmpbfnbbldaa.ChMap Go.Proofs.Ytllhmpbfnbbldaa.ChCore Go.Proofs.Ytllhmpbfnbbldaa.ChAdd Go.Proofs.Ytllhmpbfnbbldaa.ChView
open Go.Proofs.YtllhmpbfnbbldaaW.PrintWords Go.Proofs.YtllhmpbfnbbldaaW.PrintLast Go.Proofs.YtllhmpbfnbbldaaW.PrintMore
open Go.Proofs.Ytllhmpbfnbbldaa.PChainParts

theorem ofInt8 (a : Nat) (ha : a < 256) : (BitVec.ofInt 8 (a : Int)).toNat = a := by
  rw [BitVec.ofInt_natCast, BitVec.toNat_ofNat]; exact Nat.mod_eq_of_lt ha
theorem wrap8 (a : Nat) (ha : a < 256) : IntKind.u8.wrap (a : Int) = (a : Int) := by
  simp [IntKind.wrap, IntKind.bits, IntKind.signed]; omega
theorem bits_or_u8_nat (a b : Nat) (ha : a < 256) (hb : b < 256) : Go.bits .or .u8 (a : Int) (b : Int) = ((a ||| b : Nat) : Int) := by
  show IntKind.u8.wrap ((BitVec.ofInt 8 (a : Int) ||| BitVec.ofInt 8 (b : Int)).toNat : Int) = _
  rw [BitVec.toNat_or, ofInt8 a ha, ofInt8 b hb]
  exact wrap8 _ (Nat.or_lt_two_pow (n := 8) ha hb)
theorem bits_and1_u8 (a : Nat) (ha : a < 256) : Go.bits .and .u8 (a : Int) 1 = ((a % 2 : Nat) : Int) := by
  show IntKind.u8.wrap ((BitVec.ofInt 8 (a : Int) &&& BitVec.ofInt 8 ((1 : Nat) : Int)).toNat : Int) = _
  rw [BitVec.toNat_and, ofInt8 a ha, ofInt8 1 (by decide), Nat.and_one_is_mod]
  exact wrap8 _ (by omega)
theorem shr8 (a b : Nat) (hb : b < 8) : shr .u8 (a : Int) (b : Int) = ((a / 2 ^ b : Nat) : Int) := by
  unfold shr
  rw [Int.toNat_natCast, Nat.min_eq_left (by simp [IntKind.bits]; omega)]
  simp
theorem nm_nat (a b : Nat) (ha : a < 256) (hb : b < 8) : nm (a : Int) (b : Int) = a.testBit b := by
  unfold nm
  rw [shr8 a b hb, bits_and1_u8 _ (Nat.lt_of_le_of_lt (Nat.div_le_self _ _) ha), Nat.testBit_eq_decide_div_mod_eq]
  by_cases h : a / 2 ^ b % 2 = 1
  · rw [h]; simp
  · have : a / 2 ^ b % 2 = 0 := by omega
    rw [this]; simp
theorem nm_or (m c bit : Int) (hm : (Lit.int .u8 m).wf = true) (hc : (Lit.int .u8 c).wf = true) (h0 : 0 ≤ bit) (h8 : bit < 8) : nm (Go.bits .or .u8 m c) bit = (nm m bit || nm c bit) := by
  have bm : 0 ≤ m ∧ m ≤ 255 := bounds_u8 hm
  have bc : 0 ≤ c ∧ c ≤ 255 := bounds_u8 hc
  obtain ⟨a, rfl⟩ := Int.eq_ofNat_of_zero_le bm.1
  obtain ⟨b, rfl⟩ := Int.eq_ofNat_of_zero_le bc.1
  obtain ⟨k, rfl⟩ := Int.eq_ofNat_of_zero_le h0
  rw [bits_or_u8_nat a b (by omega) (by omega), nm_nat _ k (Nat.or_lt_two_pow (n := 8) (by omega) (by omega)) (by omega), nm_nat a k (by omega) (by omega), nm_nat b k (by omega) (by omega), Nat.testBit_or]

/-- so many generations, each asked alone -/
theorem passUp_iff (D : DataW Unit) (e bit tag : Int) (d : Nat) : passUp D e bit tag d = true ↔ ∀ g, tag < g → g ≤ tag + d → passD D e bit g = true := by
  unfold passUp
  rw [List.all_eq_true]
  constructor
  · intro h g h1 h2
    have := h (g - tag - 1).toNat (by simp; omega)
    rwa [show tag + 1 + ((g - tag - 1).toNat : Int) = g from by omega] at this
  · intro h i hi
    exact h _ (by omega) (by simp at hi; omega)
theorem passUp_congr {D D' : DataW Unit} {e bit tag : Int} {d : Nat} (h : ∀ g, tag < g → g ≤ tag + d → passD D e bit g = passD D' e bit g) : passUp D e bit tag d = passUp D' e bit tag d := by
  rw [Bool.eq_iff_iff, passUp_iff, passUp_iff]
  constructor
  · intro h1 g a b; rw [← h g a b]; exact h1 g a b
  · intro h1 g a b; rw [h g a b]; exact h1 g a b

section
variable {D : DataW Unit} {e bit tag now : Int} {r : S39}
/-- Of others nothing is changed. -/
theorem adds_other (hr : rwf r) (he : (Lit.int .i64 e).wf = true) (ht : (Lit.int .u64 tag).wf = true) (hn : (Lit.int .u64 now).wf = true) (h : ¬ (r.f2 = e ∧ tag < r.f3 ∧ r.f3 ≤ now)) : goodD (addR D r) e bit tag now = goodD D e bit tag now := by
  have t0 := (bounds_u64 ht).1
  have n1 := (bounds_u64 hn).2
  unfold goodD
  by_cases c : tag = 0 ∨ now < tag ∨ bit < 0 ∨ 8 ≤ bit
  · rw [if_pos c, if_pos c]
  · rw [if_neg c, if_neg c]
    refine passUp_congr fun g h1 h2 => ?_
    refine pass_other hr ⟨he, ?_⟩ ?_
    · simp only [Lit.wf, Bool.and_eq_true, decide_eq_true_eq]
      have : IntKind.u64.max = 18446744073709551615 := rfl
      have : IntKind.u64.min = 0 := rfl
      omega
    · rintro ⟨h3, h4⟩
      exact h ⟨h3, by omega, by omega⟩
/-- What is named is good no more. -/
theorem adds_named (hD : IsMap D) (hr : rwf r) (hw : (Lit.int .u8 (maskD D r.f2 r.f3)).wf = true) (h : r.f2 = e ∧ tag < r.f3 ∧ r.f3 ≤ now) (h0 : 0 ≤ bit) (h8 : bit < 8) (hnm : nm r.f4 bit = true) : goodD (addR D r) e bit tag now = false := by
  obtain ⟨rfl, h1, h2⟩ := h
  unfold goodD
  split
  · rfl
  · rw [Bool.eq_false_iff]
    intro hp
    have := (passUp_iff _ _ _ _ _).1 hp r.f3 h1 (by omega)
    unfold passD at this
    rw [has_same hD r hr, mask_same hD r hr, nm_or _ _ _ hw hr.2.2.2.2 h0 h8, hnm] at this
    simp at this
/-- What isn't named stays good. -/
theorem adds_kept (hD : IsMap D) (hr : rwf r) (hw : (Lit.int .u8 (maskD D r.f2 r.f3)).wf = true) (he : (Lit.int .i64 e).wf = true) (ht : (Lit.int .u64 tag).wf = true) (hn : (Lit.int .u64 now).wf = true) (hnm : 0 ≤ bit → bit < 8 → nm r.f4 bit = false) (hg : goodD D e bit tag now = true) : goodD (addR D r) e bit tag now = true := by
  have t0 := (bounds_u64 ht).1
  have n1 := (bounds_u64 hn).2
  unfold goodD at hg ⊢
  by_cases c : tag = 0 ∨ now < tag ∨ bit < 0 ∨ 8 ≤ bit
  · rw [if_pos c] at hg; cases hg
  · rw [if_neg c] at hg ⊢
    rw [passUp_iff] at hg ⊢
    intro g h1 h2
    have hp := hg g h1 h2
    by_cases k : r.f2 = e ∧ r.f3 = g
    · obtain ⟨rfl, rfl⟩ := k
      unfold passD at hp ⊢
      rw [has_same hD r hr, mask_same hD r hr, nm_or _ _ _ hw hr.2.2.2.2 (by omega) (by omega), hnm (by omega) (by omega)]
      simp at hp ⊢
      exact hp.2
    · rw [pass_other hr ⟨he, ?_⟩ k]
      · exact hp
      · simp only [Lit.wf, Bool.and_eq_true, decide_eq_true_eq]
        have : IntKind.u64.max = 18446744073709551615 := rfl
        have : IntKind.u64.min = 0 := rfl
        omega
end
end Go.Proofs.Ytllhmpbfnbbldaa.ChAddsPure
