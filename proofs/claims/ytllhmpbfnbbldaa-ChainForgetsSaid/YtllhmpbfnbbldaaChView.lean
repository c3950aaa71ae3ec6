/- The plain laws of chains: what another record changes, and how ways are parted; no program in sight but the map's words. -/
import Derived.Test.YtllhmpbfnbbldaaChNew
namespace Go.Proofs.Ytllhmpbfnbbldaa.ChView
set_option linter.unusedSimpArgs false
set_option linter.unusedVariables false
open Go.RowKit Go.Maps Go.Proofs.Ytllhmpbfnbbldaa.Util Go.Proofs.Ytllhmpbfnbbldaa.ChMap Go.Proofs.Ytllhmpbfnbbldaa.ChCore Go.Proofs.Ytllhmpbfnbbldaa.ChAdd
open Go.Proofs.YtllhmpbfnbbldaaW.PrintWords Go.Proofs.YtllhmpbfnbbldaaW.PrintLast Go.Proofs.YtllhmpbfnbbldaaW.PrintMore
open Go.Proofs.Ytllhmpbfnbbldaa.PChainParts

theorem isMap_addR {D : DataW Unit} (h : IsMap D) (r : S39) : IsMap (addR D r) := h.put _ _
theorem isMap_addD : ∀ (l : List S39) {D : DataW Unit}, IsMap D → IsMap (addD D l)
  | [], _, h => h
  | r :: l, _, h => isMap_addD l (isMap_addR h r)

theorem has_same {D : DataW Unit} (h : IsMap D) (r : S39) (hr : rwf r) : hasD (addR D r) r.f2 r.f3 = true := has_put_same h (kl_key _ _ hr.key) _
theorem mask_same {D : DataW Unit} (h : IsMap D) (r : S39) (hr : rwf r) : maskD (addR D r) r.f2 r.f3 = Go.bits .or .u8 (maskD D r.f2 r.f3) r.f4 := by
  show (match (addR D r).atKey (kl r.f2 r.f3) (.lit (.int .u8 0)) with | .lit (.int _ c) => c | _ => 0) = _
  rw [show (addR D r).atKey (kl r.f2 r.f3) (.lit (.int .u8 0)) = m8 (Go.bits .or .u8 (maskD D r.f2 r.f3) r.f4) from atKey_put_same h (kl_key _ _ hr.key) _ _]
  rfl
theorem kl_ne {e g : Int} {r : S39} (hr : rwf r) (hk : kwf e g) (hne : ¬ (r.f2 = e ∧ r.f3 = g)) : kl e g ≠ kl r.f2 r.f3 := by
  intro h
  obtain ⟨h1, h2⟩ := kl_inj hk hr.key h
  exact hne ⟨h1.symm, h2.symm⟩
theorem has_other {D : DataW Unit} {e g : Int} {r : S39} (hr : rwf r) (hk : kwf e g) (hne : ¬ (r.f2 = e ∧ r.f3 = g)) : hasD (addR D r) e g = hasD D e g := has_put_other (kl_ne hr hk hne) _
theorem mask_other {D : DataW Unit} {e g : Int} {r : S39} (hr : rwf r) (hk : kwf e g) (hne : ¬ (r.f2 = e ∧ r.f3 = g)) : maskD (addR D r) e g = maskD D e g := by
  show (match (addR D r).atKey (kl e g) (.lit (.int .u8 0)) with | .lit (.int _ c) => c | _ => 0) = _
  rw [show (addR D r).atKey (kl e g) (.lit (.int .u8 0)) = D.atKey (kl e g) (.lit (.int .u8 0)) from atKey_put_other (kl_ne hr hk hne) _ _]
  rfl
theorem pass_other {D : DataW Unit} {e g bit : Int} {r : S39} (hr : rwf r) (hk : kwf e g) (hne : ¬ (r.f2 = e ∧ r.f3 = g)) : passD (addR D r) e bit g = passD D e bit g := by
  unfold passD; rw [has_other hr hk hne, mask_other hr hk hne]

theorem passUp_add (D : DataW Unit) (e bit : Int) (d2 : Nat) : ∀ (d1 : Nat) (tag : Int), passUp D e bit tag (d1 + d2) = (passUp D e bit tag d1 && passUp D e bit (tag + d1) d2)
  | 0, tag => by
    rw [Nat.zero_add, show tag + ((0 : Nat) : Int) = tag from by omega]
    simp [passUp]
  | d1 + 1, tag => by
    rw [show d1 + 1 + d2 = (d1 + d2) + 1 from by omega, passUp_succ, passUp_succ, passUp_add D e bit d2 d1 (tag + 1), Bool.and_assoc]
    rw [show tag + 1 + (d1 : Int) = tag + ((d1 + 1 : Nat) : Int) from by omega]

/-- Parts. -/
theorem good_parts (D : DataW Unit) (e bit tag mid now : Int) (h0 : 0 ≤ tag) (h1 : tag ≤ mid) (h2 : mid ≤ now) : goodD D e bit tag now = (goodD D e bit tag mid && goodD D e bit mid now) := by
  unfold goodD
  by_cases c : tag = 0 ∨ bit < 0 ∨ 8 ≤ bit
  · rw [if_pos (by omega), if_pos (by omega)]; rfl
  · rw [if_neg (by omega), if_neg (by omega), if_neg (by omega)]
    rw [show (now - tag).toNat = (mid - tag).toNat + (now - mid).toNat from by omega, passUp_add, show tag + ((mid - tag).toNat : Int) = mid from by omega]

/-! ### the page's example -/
def rec1 : S39 := ⟨0, 0, 2, 5, 1⟩
theorem rec1_wf : rwf rec1 := by unfold rwf rec1; decide
noncomputable def D1 : DataW Unit := addD (.map []) [rec1]
theorem D1_is : D1 = addR (.map []) rec1 := rfl
theorem mask0 (e g : Int) : maskD (.map []) e g = 0 := rfl
theorem D1_has : hasD D1 2 5 = true := has_same isMap_empty rec1 rec1_wf
theorem D1_mask : maskD D1 2 5 = 1 := (mask_same isMap_empty rec1 rec1_wf).trans (by decide)
theorem D1_has4 : hasD D1 2 4 = false := by
  have h : hasD D1 2 4 = hasD (.map []) 2 4 := has_other (D := .map []) (e := 2) (g := 4) rec1_wf (by unfold kwf; decide) (by decide)
  rw [h]; rfl
theorem D1_pass (bit : Int) : passD D1 2 bit 5 = !nm 1 bit := by unfold passD; rw [D1_has, D1_mask]; rfl
theorem D1_pass4 (bit : Int) : passD D1 2 bit 4 = false := by unfold passD; rw [D1_has4]; rfl
theorem D1_good1 : goodD D1 2 1 4 5 = true := by
  unfold goodD; rw [if_neg (by decide), show ((5 : Int) - 4).toNat = 0 + 1 from rfl, passUp_succ, show (4 : Int) + 1 = 5 from rfl, D1_pass]; decide
theorem D1_good0 : goodD D1 2 0 4 5 = false := by
  unfold goodD; rw [if_neg (by decide), show ((5 : Int) - 4).toNat = 0 + 1 from rfl, passUp_succ, show (4 : Int) + 1 = 5 from rfl, D1_pass]; decide
theorem D1_good3 : goodD D1 2 1 3 5 = false := by
  unfold goodD; rw [if_neg (by decide), show ((5 : Int) - 3).toNat = 1 + 1 from rfl, passUp_succ, show (3 : Int) + 1 = 4 from rfl, D1_pass4]; rfl
theorem D1_size : Maps.size D1 = 1 := by
  rw [D1_is]; unfold addR
  rw [size_put tidy_empty]; rfl
end Go.Proofs.Ytllhmpbfnbbldaa.ChView
