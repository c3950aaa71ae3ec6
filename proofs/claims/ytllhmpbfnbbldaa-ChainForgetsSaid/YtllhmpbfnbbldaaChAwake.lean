/- The walk of the page's example; no conditions. -/
import Derived.Test.YtllhmpbfnbbldaaChView
namespace Go.Proofs.Ytllhmpbfnbbldaa.ChAwake
set_option linter.unusedSimpArgs false
set_option linter.unusedVariables false
open Go.RowKit Go.Maps Go.Proofs.Ytllhmpbfnbbldaa.Util Go.Proofs.Ytllhmpbfnbbldaa.ChMap Go.Proofs.Ytllhmpbfnbbldaa.ChCore Go.Proofs.Ytllhmpbfnbbldaa.ChAdd Go.Proofs.Ytllhmpbfnbbldaa.ChNew Go.Proofs.Ytllhmpbfnbbldaa.ChView
open Go.Proofs.YtllhmpbfnbbldaaW.PrintWords Go.Proofs.YtllhmpbfnbbldaaW.PrintLast Go.Proofs.YtllhmpbfnbbldaaW.PrintMore
open Go.Proofs.Ytllhmpbfnbbldaa.PChainParts

section
variable {w : World} {cb bm n : Nat} {D : DataW Unit}
/-- good, with its answer named. -/
theorem good_is (hc : w.cell? ⟨cb, 0, none⟩ = some (.map (some bm))) (hm : MapIs w bm n D) (e bit tag now : Int) (he : (Lit.int .i64 e).wf = true) (ht : (Lit.int .u64 tag).wf = true) (hn : (Lit.int .u64 now).wf = true) (b : Bool) (hb : goodD D e bit tag now = b) :
    Calls Try.prog 22 #[.pointer (some ⟨cb, 0, none⟩), .int .i64 e, .int .i64 bit, .int .u64 tag, .int .u64 now] w fun r w' => r = .returned (.bool b) ∧ Below w.heap.size w w' := by
  rw [← hb]; exact good_calls hc hm he bit tag now ht hn
end

theorem one_row (w : World) : Kd.C k39 (w.alloc (.cells #[.int .u64 0, .int .u64 0, .int .i64 2, .int .u64 5, .int .u8 1] 39)) (some ⟨w.heap.size, 0, none⟩) [rec1].length [rec1] := by
  refine ⟨rfl, by decide, fun _ => ⟨_, rfl, fun j p hj => ?_⟩⟩
  cases j with
  | succ j => simp at hj
  | zero =>
    simp at hj
    subst hj
    refine ⟨_, rfl, k39_mk _ rec1, fun i u hu => ?_⟩
    match i, hu with
    | 0, hu => simp [rec1] at hu; subst hu; simp [Addr.add]
    | 1, hu => simp [rec1] at hu; subst hu; simp [Addr.add]
    | 2, hu => simp [rec1] at hu; subst hu; simp [Addr.add]
    | 3, hu => simp [rec1] at hu; subst hu; simp [Addr.add]
    | 4, hu => simp [rec1] at hu; subst hu; simp [Addr.add]
    | i + 5, hu => simp at hu
theorem one_wf : ∀ i, i < [rec1].length → rwf (rd_T39 [rec1] i) := by
  intro i hi
  obtain rfl : i = 0 := by simpa using hi
  exact rec1_wf
theorem new_one (w : World) : Calls Try.prog 19 #[.slice (some ⟨w.heap.size, 0, none⟩) 1 1] (w.alloc (.cells #[.int .u64 0, .int .u64 0, .int .i64 2, .int .u64 5, .int .u8 1] 39)) (Made (w.alloc (.cells #[.int .u64 0, .int .u64 0, .int .i64 2, .int .u64 5, .int .u8 1] 39)) D1) :=
  new_calls _ 1 [rec1] (one_row w) (by decide) one_wf (by unfold maxLen; simp)
theorem wf_i64_2 : (Lit.int .i64 2).wf = true := by decide
theorem wf_u64_3 : (Lit.int .u64 3).wf = true := by decide
theorem wf_u64_4 : (Lit.int .u64 4).wf = true := by decide
theorem wf_u64_5 : (Lit.int .u64 5).wf = true := by decide

set_option maxRecDepth 100000 in
theorem awake_calls (w : World) : Calls Try.prog 21 #[] w fun r w' => r = .returned (.bool true) ∧ Below w.heap.size w w' := by
  go_enter Try.func21, Try.ntmps21
  go_wp2_with fail
  refine (new_one w).mono ?_
  rintro r w1 ⟨cb, bm, n, rfl, hc, hm, hbm, hb⟩
  have HB := Lib.hid ((Below.refl _ _).alloc (Nat.le_refl _) (.cells #[.int .u64 0, .int .u64 0, .int .i64 2, .int .u64 5, .int .u8 1] 39) |> fun h => bthen (a := w) h hb)
  have HC := Lib.hid hc
  have HM := Lib.hid hm
  clear hc hm hb hbm
  go_wp2_with fail
  refine (good_is HC.out HM.out 2 1 4 5 wf_i64_2 wf_u64_4 wf_u64_5 true D1_good1).mono ?_
  rintro r w2 ⟨rfl, hb⟩
  have HB2 := Lib.hid hb
  clear hb
  go_wp2_with fail
  refine (good_is (cell_below HC.out HB2.out) (MapIs.below HM.out HB2.out) 2 0 4 5 wf_i64_2 wf_u64_4 wf_u64_5 false D1_good0).mono ?_
  rintro r w3 ⟨rfl, hb⟩
  have HB3 := Lib.hid (bthen HB2.out hb)
  clear hb
  go_wp2_with fail
  refine (good_is (cell_below HC.out HB3.out) (MapIs.below HM.out HB3.out) 2 1 3 5 wf_i64_2 wf_u64_3 wf_u64_5 false D1_good3).mono ?_
  rintro r w4 ⟨rfl, hb⟩
  have HB4 := Lib.hid (bthen HB3.out hb)
  clear hb
  have HL := len_calls (cell_below HC.out HB4.out) (MapIs.below HM.out HB4.out)
  rw [D1_size] at HL
  have HL := Lib.hid HL
  go_wp2_with fail
  refine HL.out.mono ?_
  rintro r w5 ⟨rfl, rfl⟩
  go_wp2_with fail
  go_ret
  exact ⟨rfl, bthen HB.out HB4.out⟩
end Go.Proofs.Ytllhmpbfnbbldaa.ChAwake
