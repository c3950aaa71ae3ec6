/- MixPicks returns true for all numbers: the places that mix picks are the reference's, and lie within bounds; no conditions. -/
import Derived.Test.YtllhmpbfnbbldaaRows
import Derived.WalkKit
import Derived.ProofKit
import Derived.OpenShut
import Derived.ShutString
import Derived.Test.YtllhmpbfnbbldaaMixPickPure
namespace Go.Proofs.Ytllhmpbfnbbldaa.mixPicks
open Go.ChangeShapes Go.WideShapes Go.ChangeAt Go.RowKit
open Go.ChangeMaps (open_string shut_string)
open Go.Proofs.Ytllhmpbfnbbldaa.MixPickPure Go.Proofs.Ytllhmpbfnbbldaa.PMixPicks Go.Proofs.Ytllhmpbfnbbldaa.MixPure Go.Proofs.Ytllhmpbfnbbldaa.MixUndo Go.Proofs.YtllhmpbfnbbldaaW.PrintWords Go.Proofs.YtllhmpbfnbbldaaW.PrintLast Go.Proofs.YtllhmpbfnbbldaaW.PrintMore
set_option linter.unusedVariables false      -- a walk need not use every 'w<i>' (that an integer argument fits its kind)

theorem own : ownKnob Try.prog.godebug = none := by kernel_rfl

/-! ### the walk -/
theorem walk (a0 : Int) (a1 : Int) (a2 : Int) (a3 : Int) (a4 : Int) (w0 : (Lit.int .u64 a0).wf = true) (w1 : (Lit.int .u64 a1).wf = true) (w2 : (Lit.int .i64 a2).wf = true) (w3 : (Lit.int .i64 a3).wf = true) (w4 : (Lit.int .i64 a4).wf = true) (w : World) :
    Calls Try.prog 5 #[.int .u64 a0, .int .u64 a1, .int .i64 a2, .int .i64 a3, .int .i64 a4] w fun e w' => e = .returned (.bool true) ∧ Below w.heap.size w w' := by
  have hs0 : 0 ≤ a0 := by simp only [Lit.wf, Bool.and_eq_true, decide_eq_true_eq] at w0; exact w0.1
  have hn0 : 0 ≤ a1 := by simp only [Lit.wf, Bool.and_eq_true, decide_eq_true_eq] at w1; exact w1.1
  have hm : a4 ≤ 9223372036854775807 := by simp only [Lit.wf, Bool.and_eq_true, decide_eq_true_eq] at w4; exact w4.2
  clear w0 w1 w2 w3 w4
  obtain ⟨l, hl1, hl2, hl3⟩ := all_both a0 a1 a3 a4 hn0 hm
  have hs := same_self l hl3
  have hp1 := pick_is a0 a1 a2 a4 hn0 hm
  have hp2 := rpick_is 32 (by decide) a0 a1 a2 a4 hn0 hm
  obtain ⟨hr1, hr2⟩ := pk_range a0 a1 a2 a4 hm
  generalize pk a0 a1 a2 a4 = p at *
  have A1 := Aside0.mk hl1
  have A2 := Aside0.mk hl2
  have A3 := Aside0.mk hs
  have A4 := Aside0.mk hp1
  have A5 := Aside0.mk hp2
  clear hl1 hl2 hl3 hs hp1 hp2 hs0 hn0 hm
  by_cases c : a4 < 1
  · clear hr2
    go_enter Try.func5, Try.ntmps5
    go_wp2_with fail
    refine (mix_Pick.calls a0 a1 a2 a4 p _ A4.out).mono ?_
    rintro e w' ⟨rfl, ⟨n1, rfl⟩⟩
    go_wp2_with fail
    refine (springhouseref05_Pick.calls 32 a0 a1 a2 a4 p _ A5.out).mono ?_
    rintro e w' ⟨rfl, ⟨n2, rfl⟩⟩
    go_wp2_with fail
    refine (mix_All.calls 100 a0 a1 a3 a4 l _ A1.out).mono ?_
    rintro e w3 ⟨v3, rfl, hR3, hb3⟩
    go_wp2_with fail
    refine (springhouseref05_All.calls 100 a0 a1 a3 a4 l _ A2.out).mono ?_
    rintro e w4 ⟨v4, rfl, hR4, hb4⟩
    obtain ⟨A, cA, rfl, hlA, hCA⟩ := Kd.R_reads hR3
    obtain ⟨B, cB, rfl, hlB, hCB⟩ := Kd.R_reads hR4
    have hCA' := Kd.C_below hCA hb4
    clear hCA hR3 hR4
    go_wp2_with fail
    refine (springhouseref05_Same.calls 65 A cA l B cB l true _ hCA' hlA hCB hlB A3.out).mono ?_
    rintro e w' ⟨rfl, ⟨n5, rfl⟩⟩
    go_wp2_with fail
    refine (awake_calls _).mono ?_
    rintro e w6 ⟨rfl, hb6⟩
    go_wp2_with fail
    go_ret
    exact ⟨rfl, MixUndo.below_then (MixUndo.below_drewN (MixUndo.below_then (MixUndo.below_then (MixUndo.below_drewN (Below.refl _ _) _) hb3) hb4) _) hb6⟩
  · have hr3 := hr2 (by omega)
    clear hr2
    go_enter Try.func5, Try.ntmps5
    go_wp2_with fail
    refine (mix_Pick.calls a0 a1 a2 a4 p _ A4.out).mono ?_
    rintro e w' ⟨rfl, ⟨n1, rfl⟩⟩
    go_wp2_with fail
    refine (springhouseref05_Pick.calls 32 a0 a1 a2 a4 p _ A5.out).mono ?_
    rintro e w' ⟨rfl, ⟨n2, rfl⟩⟩
    go_wp2_with fail
    refine (mix_All.calls 100 a0 a1 a3 a4 l _ A1.out).mono ?_
    rintro e w3 ⟨v3, rfl, hR3, hb3⟩
    go_wp2_with fail
    refine (springhouseref05_All.calls 100 a0 a1 a3 a4 l _ A2.out).mono ?_
    rintro e w4 ⟨v4, rfl, hR4, hb4⟩
    obtain ⟨A, cA, rfl, hlA, hCA⟩ := Kd.R_reads hR3
    obtain ⟨B, cB, rfl, hlB, hCB⟩ := Kd.R_reads hR4
    have hCA' := Kd.C_below hCA hb4
    clear hCA hR3 hR4
    go_wp2_with fail
    refine (springhouseref05_Same.calls 65 A cA l B cB l true _ hCA' hlA hCB hlB A3.out).mono ?_
    rintro e w' ⟨rfl, ⟨n5, rfl⟩⟩
    go_wp2_with fail
    refine (awake_calls _).mono ?_
    rintro e w6 ⟨rfl, hb6⟩
    go_wp2_with fail
    go_ret
    exact ⟨rfl, MixUndo.below_then (MixUndo.below_drewN (MixUndo.below_then (MixUndo.below_then (MixUndo.below_drewN (Below.refl _ _) _) hb3) hb4) _) hb6⟩

/-! ### THE ROW's STEP: WRITTEN OUT: LEAVE IT -/
set_option maxRecDepth 100000 in
theorem lifted (os : Os) (started : os.Started) (H : Type) (enc : TypeId × Value → H) :
    ReturnsInHanded {} Try.checked os 5 .any (Rows.mixPicksSpec.pre6 enc Try.prog Try.f5 Rows.mixPicksRow.domain false) (Rows.mixPicksSpec.post enc Try.prog Try.f5 false true false false) := by
  refine returnsInHanded_of_change (C := Try.checked) own started (by kernel_rfl) Try.func5
    (ChangeSpec.witness6 (enc := enc) (C := Try.checked) false ⟨#[], #[.int .u64 0, .int .u64 0, .int .i64 0, .int .i64 0, .int .i64 0], []⟩ 8 (by kernel_rfl) (by kernel_rfl) (by kernel_rfl) (by kernel_rfl)) ?_
  intro W base args ds gs before hval0 hW hcnd _
  have hval : ∀ (j : Nat) t v, Try.f5.params[j]? = some t → args[j]? = some v → Value.okWide Try.prog W .any base t v := hval0
  have hW' := hW
  obtain ⟨p, q, hA0, hV, rfl, hfz, hnd⟩ := hW
  have hA : DataW.TrodAll enc Try.prog W 0 (fun _ => true) true Try.f5.params.toList args.toList ds p := hA0
  rw [Try.params5] at hA hval
  obtain ⟨v0, vs0, d0, ds0, p0, q0, hargs, rfl, rfl, h0, r0⟩ := trodAll_cons hA
  obtain ⟨v1, vs1, d1, ds1, p1, q1, rfl, rfl, rfl, h1, r1⟩ := trodAll_cons r0
  obtain ⟨v2, vs2, d2, ds2, p2, q2, rfl, rfl, rfl, h2, r2⟩ := trodAll_cons r1
  obtain ⟨v3, vs3, d3, ds3, p3, q3, rfl, rfl, rfl, h3, r3⟩ := trodAll_cons r2
  obtain ⟨v4, vs4, d4, ds4, p4, q4, rfl, rfl, rfl, h4, r4⟩ := trodAll_cons r3
  obtain ⟨rfl, rfl, rfl⟩ := trodAll_nil r4
  obtain rfl : args = #[v0, v1, v2, v3, v4] := by cases args; simp_all
  obtain ⟨rfl, rfl⟩ := trodVars_none hV
  obtain ⟨a0, rfl, rfl, rfl, w0⟩ := open_int Try.underlying22 (hval 0 22 v0 rfl rfl) h0
  obtain ⟨a1, rfl, rfl, rfl, w1⟩ := open_int Try.underlying22 (hval 1 22 v1 rfl rfl) h1
  obtain ⟨a2, rfl, rfl, rfl, w2⟩ := open_int Try.underlying3 (hval 2 3 v2 rfl rfl) h2
  obtain ⟨a3, rfl, rfl, rfl, w3⟩ := open_int Try.underlying3 (hval 3 3 v3 rfl rfl) h3
  obtain ⟨a4, rfl, rfl, rfl, w4⟩ := open_int Try.underlying3 (hval 4 3 v4 rfl rfl) h4
  clear hA0 hval0
  simp only [List.append_nil] at hW'
  refine (walk a0 a1 a2 a3 a4 w0 w1 w2 w3 w4 W).mono fun e W' ⟨he, hg⟩ => ?_
  subst he
  exact ⟨_, rfl, _, _, _, [], [], [], hW', trodAll_mk1 (shut_bool Try.underlying4 _), (trodAll_cons_mk (shut_int Try.underlying22 w0) (trodAll_cons_mk (shut_int Try.underlying22 w1) (trodAll_cons_mk (shut_int Try.underlying3 w2) (trodAll_cons_mk (shut_int Try.underlying3 w3) (trodAll_cons_mk (shut_int Try.underlying3 w4) trodAll_mk0))))), rfl, hg.frame _, fun h => by cases h⟩

theorem over : Rows.mixPicksRow.holds Try.pinned (OpenSpec.ofChange Rows.mixPicksSpec) :=
  OpenClaim.holds_of_wide 5 Try.f5 rfl rfl rfl rfl rfl rfl rfl ⟨rfl, rfl, rfl, rfl, rfl⟩ rfl rfl rfl rfl rfl (by kernel_rfl) Try.func5 (by kernel_rfl)
    (of_decide_eq_true (by kernel_rfl)) (by unfold Func.isWrapper; first | (rw [if_pos (by decide +kernel)]; kernel_rfl) | (rw [if_neg (by decide +kernel)]; exact ⟨rfl, rfl⟩))
    (fun os started H enc _ => lifted os started H enc)

/-- ████ THE STATEMENT ████ -/
theorem proved : Rows.MixPicksSaid :=
  over
#print axioms proved
end Go.Proofs.Ytllhmpbfnbbldaa.mixPicks
