/- The walks of a chain's New, of the law's few and of its example; no conditions but that the records fit. -/
import Derived.Test.YtllhmpbfnbbldaaChAdd
namespace Go.Proofs.Ytllhmpbfnbbldaa.ChNew
set_option linter.unusedSimpArgs false
set_option linter.unusedVariables false
open Go.RowKit Go.Maps Go.Proofs.Ytllhmpbfnbbldaa.Util Go.Proofs.Ytllhmpbfnbbldaa.ChMap Go.Proofs.Ytllhmpbfnbbldaa.ChCore Go.Proofs.Ytllhmpbfnbbldaa.ChAdd
open Go.Proofs.YtllhmpbfnbbldaaW.PrintWords Go.Proofs.YtllhmpbfnbbldaaW.PrintLast Go.Proofs.YtllhmpbfnbbldaaW.PrintMore
open Go.Proofs.Ytllhmpbfnbbldaa.PChainParts

/-- A chain that was made here: of which this is known. -/
def Made (w : World) (D : DataW Unit) (r : Ending) (w' : World) : Prop :=
  ∃ cb bm n, r = .returned (.pointer (some ⟨cb, 0, none⟩)) ∧ w'.cell? ⟨cb, 0, none⟩ = some (.map (some bm)) ∧ MapIs w' bm n D ∧ w.heap.size ≤ bm ∧ Below w.heap.size w w'

section
variable {w : World}
set_option maxRecDepth 100000 in
theorem new_calls (A : Option Addr) (c0 : Nat) (l : List S39) (hr : Kd.C k39 w A l.length l) (hlc : l.length ≤ c0) (hwf : ∀ i, i < l.length → rwf (rd_T39 l i)) (hn : l.length < maxLen) :
    Calls Try.prog 19 #[.slice A l.length c0] w (Made w (addD (.map []) l)) := by
  have hmm := @run_makeMap Try.prog
  have HR := Lib.hid hr
  have HWF := Lib.hid hwf
  have HN := Lib.hid hn
  clear hr hwf hn
  go_enter Try.func19, Try.ntmps19
  go_wp2_with fail
  clear hmm
  obtain ⟨W, hW⟩ : ∃ W : World, W = (w.alloc (.map #[] 0)).alloc (.cells #[.map (some w.heap.size)] 47) := ⟨_, rfl⟩
  have hb : Below w.heap.size w W := by rw [hW]; exact ((Below.refl _ _).alloc (Nat.le_refl _) _).alloc (by simp) _
  have hc : W.cell? ⟨w.heap.size + 1, 0, none⟩ = some (.map (some w.heap.size)) := by rw [hW]; simp
  have hm : MapIs W w.heap.size 0 (.map []) := by rw [hW]; exact (World.ownsMap_made _ _ _ _).alloc _
  rw [← hW]
  clear hW
  have HM := Lib.hid hm
  have HC := Lib.hid hc
  have HB := Lib.hid hb
  clear hm hc hb
  refine (add_calls A c0 l (Kd.C_below HR.out HB.out) hlc HWF.out HC.out HM.out (by have := HN.out; omega)).mono ?_
  rintro r w1 ⟨⟨k, rfl⟩, hg, n', hm1⟩
  have HC1 := Lib.hid (cell_grown HM.out hg HC.out)
  have HM1 := Lib.hid hm1
  have HB1 := Lib.hid (HB.out.grown hg HB.out.size (fun k hk => by cases hk; exact Nat.le_refl _))
  clear hm1 hg
  go_wp2
  go_ret
  exact ⟨_, _, n', rfl, HC1.out, HM1.out, Nat.le_refl _, HB1.out⟩

set_option maxRecDepth 100000 in
/-- few: not more than so many. -/
theorem few_calls (A : Option Addr) (len cap : Nat) (k : Nat) (h : len ≤ cap) (hm : cap ≤ 9223372036854775807) (hk : k ≤ 100) :
    Calls Try.prog 20 #[.slice A len cap, .int .i64 k] w fun r w' => r = .returned (.slice A (min len k) cap) ∧ w = w' := by
  by_cases c : k < len
  · have hc : (k : Int) < (len : Int) := by omega
    have HE := Lib.hid (Nat.min_eq_right (Nat.le_of_lt c))
    go_enter Try.func20, Try.ntmps20
    go_wp2
    go_ret
    exact ⟨by rw [HE.out]; simp, rfl⟩
  · have hc : ¬ (k : Int) < (len : Int) := by omega
    have HE := Lib.hid (Nat.min_eq_left (Nat.le_of_not_lt c))
    go_enter Try.func20, Try.ntmps20
    go_wp2
    go_ret
    exact ⟨by rw [HE.out]; rfl, rfl⟩
end
end Go.Proofs.Ytllhmpbfnbbldaa.ChNew
