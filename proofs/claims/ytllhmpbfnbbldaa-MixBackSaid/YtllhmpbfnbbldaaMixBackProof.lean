/- MixBack returns true for every seed and numbers: mix.Back undoes what a seed makes, and unlike numbers are made unlike; no conditions. -/
import Derived.Test.YtllhmpbfnbbldaaRows
import Derived.WalkKit
import Derived.ProofKit
import Derived.OpenShut
import Derived.ShutString
import Derived.Test.YtllhmpbfnbbldaaMixUndo
namespace Go.Proofs.Ytllhmpbfnbbldaa.mixBack
open Go.ChangeShapes Go.WideShapes Go.ChangeAt Go.RowKit
open Go.ChangeMaps (open_string shut_string)
open Go.Proofs.Ytllhmpbfnbbldaa.PMixPicks Go.Proofs.Ytllhmpbfnbbldaa.MixPure Go.Proofs.Ytllhmpbfnbbldaa.MixUndo Go.Proofs.YtllhmpbfnbbldaaW.PrintWords Go.Proofs.YtllhmpbfnbbldaaW.PrintLast Go.Proofs.YtllhmpbfnbbldaaW.PrintMore
set_option linter.unusedVariables false      -- a walk need not use every 'w<i>' (that an integer argument fits its kind)

theorem own : ownKnob Try.prog.godebug = none := by kernel_rfl

/-! ### the walk -/
theorem walk (a0 : Int) (a1 : Int) (a2 : Int) (w0 : (Lit.int .u64 a0).wf = true) (w1 : (Lit.int .u64 a1).wf = true) (w2 : (Lit.int .u64 a2).wf = true) (w : World) :
    Calls Try.prog 4 #[.int .u64 a0, .int .u64 a1, .int .u64 a2] w fun e w' => e = .returned (.bool true) ∧ Below w.heap.size w w' := by
  obtain ⟨s, rfl⟩ := Int.eq_ofNat_of_zero_le (show 0 ≤ a0 from by simp only [Lit.wf, Bool.and_eq_true, decide_eq_true_eq] at w0; exact w0.1)
  have hx : a1 ≤ 18446744073709551615 := by simp only [Lit.wf, Bool.and_eq_true, decide_eq_true_eq] at w1; exact w1.2
  obtain ⟨x, rfl⟩ := Int.eq_ofNat_of_zero_le (show 0 ≤ a1 from by simp only [Lit.wf, Bool.and_eq_true, decide_eq_true_eq] at w1; exact w1.1)
  have hn : a2 ≤ 18446744073709551615 := by simp only [Lit.wf, Bool.and_eq_true, decide_eq_true_eq] at w2; exact w2.2
  obtain ⟨n, rfl⟩ := Int.eq_ofNat_of_zero_le (show 0 ≤ a2 from by simp only [Lit.wf, Bool.and_eq_true, decide_eq_true_eq] at w2; exact w2.1)
  clear w0 w1 w2
  have hx' : x < 18446744073709551616 := by omega
  have hn' : n < 18446744073709551616 := by omega
  have HB := Lib.hid (of_back s x hx')
  have HN := Lib.hid (back_of s n hn')
  have hc : (((ofN s n : Nat) : Int) == ((ofN s x : Nat) : Int)) = ((n : Int) == (x : Int)) := by
    by_cases e : n = x
    · subst e; simp
    · have e1 : ofN s n ≠ ofN s x := fun h => e (by rw [← back_of s n hn', ← back_of s x hx', h])
      have a1 : (((ofN s n : Nat) : Int) == ((ofN s x : Nat) : Int)) = false := by simp; omega
      have a2 : ((n : Int) == (x : Int)) = false := by simp; omega
      rw [a1, a2]
  have HC := Lib.hid hc
  have HX := Lib.hid hx'
  clear hc hx hn hx' hn'
  go_enter Try.func4, Try.ntmps4
  go_wp2_with fail
  refine (back_calls s x HX.out _).mono ?_
  rintro e w1 ⟨rfl, h1⟩
  go_wp2_with fail
  refine (rOfAt s _ _).mono ?_
  rintro e w' ⟨rfl, ⟨n2, rfl⟩⟩
  rw [HB.out]
  go_wp2_with fail
  refine (rOfAt s n _).mono ?_
  rintro e w' ⟨rfl, ⟨n3, rfl⟩⟩
  go_wp2_with fail
  refine (back_calls s _ (ofN_lt s n) _).mono ?_
  rintro e w4 ⟨rfl, h4⟩
  rw [HN.out]
  go_wp2_with fail
  refine (ofAt s n _).mono ?_
  rintro e w' ⟨rfl, ⟨n5, rfl⟩⟩
  go_wp2_with fail
  refine (ofAt s x _).mono ?_
  rintro e w' ⟨rfl, ⟨n6, rfl⟩⟩
  have hc := HC.out
  go_wp2_with fail
  clear hc
  refine (awake_calls _).mono ?_
  rintro e w3 ⟨rfl, hb⟩
  go_wp2_with fail
  go_ret
  exact ⟨rfl, MixUndo.below_then (MixUndo.below_drewN (MixUndo.below_then (MixUndo.below_drewN h1 _) h4) _) hb⟩

/-! ### THE ROW's STEP: WRITTEN OUT: LEAVE IT -/
set_option maxRecDepth 100000 in
theorem lifted (os : Os) (started : os.Started) (H : Type) (enc : TypeId × Value → H) :
    ReturnsInHanded {} Try.checked os 4 .any (Rows.mixBackSpec.pre6 enc Try.prog Try.f4 Rows.mixBackRow.domain false) (Rows.mixBackSpec.post enc Try.prog Try.f4 false true false false) := by
  refine returnsInHanded_of_change (C := Try.checked) own started (by kernel_rfl) Try.func4
    (ChangeSpec.witness6 (enc := enc) (C := Try.checked) false ⟨#[], #[.int .u64 0, .int .u64 0, .int .u64 0], []⟩ 8 (by kernel_rfl) (by kernel_rfl) (by kernel_rfl) (by kernel_rfl)) ?_
  intro W base args ds gs before hval0 hW hcnd _
  have hval : ∀ (j : Nat) t v, Try.f4.params[j]? = some t → args[j]? = some v → Value.okWide Try.prog W .any base t v := hval0
  have hW' := hW
  obtain ⟨p, q, hA0, hV, rfl, hfz, hnd⟩ := hW
  have hA : DataW.TrodAll enc Try.prog W 0 (fun _ => true) true Try.f4.params.toList args.toList ds p := hA0
  rw [Try.params4] at hA hval
  obtain ⟨v0, vs0, d0, ds0, p0, q0, hargs, rfl, rfl, h0, r0⟩ := trodAll_cons hA
  obtain ⟨v1, vs1, d1, ds1, p1, q1, rfl, rfl, rfl, h1, r1⟩ := trodAll_cons r0
  obtain ⟨v2, vs2, d2, ds2, p2, q2, rfl, rfl, rfl, h2, r2⟩ := trodAll_cons r1
  obtain ⟨rfl, rfl, rfl⟩ := trodAll_nil r2
  obtain rfl : args = #[v0, v1, v2] := by cases args; simp_all
  obtain ⟨rfl, rfl⟩ := trodVars_none hV
  obtain ⟨a0, rfl, rfl, rfl, w0⟩ := open_int Try.underlying22 (hval 0 22 v0 rfl rfl) h0
  obtain ⟨a1, rfl, rfl, rfl, w1⟩ := open_int Try.underlying22 (hval 1 22 v1 rfl rfl) h1
  obtain ⟨a2, rfl, rfl, rfl, w2⟩ := open_int Try.underlying22 (hval 2 22 v2 rfl rfl) h2
  clear hA0 hval0
  simp only [List.append_nil] at hW'
  refine (walk a0 a1 a2 w0 w1 w2 W).mono fun e W' ⟨he, hg⟩ => ?_
  subst he
  exact ⟨_, rfl, _, _, _, [], [], [], hW', trodAll_mk1 (shut_bool Try.underlying4 _), (trodAll_cons_mk (shut_int Try.underlying22 w0) (trodAll_cons_mk (shut_int Try.underlying22 w1) (trodAll_cons_mk (shut_int Try.underlying22 w2) trodAll_mk0))), rfl, hg.frame _, fun h => by cases h⟩

theorem over : Rows.mixBackRow.holds Try.pinned (OpenSpec.ofChange Rows.mixBackSpec) :=
  OpenClaim.holds_of_wide 4 Try.f4 rfl rfl rfl rfl rfl rfl rfl ⟨rfl, rfl, rfl, rfl, rfl⟩ rfl rfl rfl rfl rfl (by kernel_rfl) Try.func4 (by kernel_rfl)
    (of_decide_eq_true (by kernel_rfl)) (by unfold Func.isWrapper; first | (rw [if_pos (by decide +kernel)]; kernel_rfl) | (rw [if_neg (by decide +kernel)]; exact ⟨rfl, rfl⟩))
    (fun os started H enc _ => lifted os started H enc)

/-- ████ THE STATEMENT ████ -/
theorem proved : Rows.MixBackSaid :=
  over
#print axioms proved
end Go.Proofs.Ytllhmpbfnbbldaa.mixBack
