/- Sectors compared. -/
import Derived.Test.YtbojokjommmebaaMoCrash
import Derived.ChangeKeysEq
namespace Go.Proofs.Ytbojokjommmebaa.MoEq
set_option linter.unusedSimpArgs false
set_option linter.unusedVariables false
open Go.RowKit Go.Proofs.YtbojokjommmebaaW.PrintWords Go.Proofs.YtbojokjommmebaaW.PrintLast Go.Proofs.YtbojokjommmebaaW.PrintMore Go.Proofs.Ytbojokjommmebaa.PModelPlays Go.Proofs.Ytbojokjommmebaa.MoMem Go.Proofs.Ytbojokjommmebaa.MoGo Go.Proofs.Ytbojokjommmebaa.MoNow Go.Proofs.Ytbojokjommmebaa.MoRead
theorem v8_get (a : List Int) (i : Nat) (h : i < a.length) : (v8 a).toArray[i]? = some (.int .u8 (a.getD i 0)) := by
  unfold v8
  rw [List.getElem?_toArray, List.getElem?_map, List.getElem?_eq_getElem h, List.getD_eq_getElem?_getD, List.getElem?_eq_getElem h]; rfl
theorem items_run (d : Nat) (a b : List Int) (w : World) : ∀ is : List Nat, (∀ i ∈ is, i < a.length ∧ i < b.length) → (Op.eqItems (d + 1) 5 1 (v8 a).toArray (v8 b).toArray is).run Try.prog w = .ok (is.all fun i => a.getD i 0 == b.getD i 0) w
  | [], _ => by simp [Op.eqItems]
  | i :: is, h => by
    have hi := h i (by simp)
    have p1 := run_part_plain (P := Try.prog) w (e := 5) (by kernel_rfl) (off := i * 1) (by rw [Nat.mul_one]; exact v8_get a i hi.1)
    have p2 := run_part_plain (P := Try.prog) w (e := 5) (by kernel_rfl) (off := i * 1) (by rw [Nat.mul_one]; exact v8_get b i hi.2)
    have p3 := run_equalIn_int (P := Try.prog) w d 5 .u8 .u8 (a.getD i 0) (b.getD i 0) Try.underlying5
    have ih := items_run d a b w is (fun j hj => h j (by simp [hj]))
    simp only [Op.eqItems, Sem.run_bind, p1, p2, p3, Result.andThen_ok, List.all_cons]
    cases hq : (a.getD i 0 == b.getD i 0)
    · simp
    · simp only [Bool.not_true, Bool.false_eq_true, if_false, Bool.true_and]; exact ih
theorem all_eq {a b : List Int} (ha : a.length = 64) (hb : b.length = 64) : ((List.range 64).all fun i => a.getD i 0 == b.getD i 0) = decide (a = b) := by
  rw [Bool.eq_iff_iff, List.all_eq_true, decide_eq_true_iff]
  constructor
  · intro h
    apply List.ext_getElem?
    intro i
    by_cases hi : i < 64
    · have := h i (List.mem_range.2 hi)
      rw [List.getD_eq_getElem?_getD, List.getD_eq_getElem?_getD, List.getElem?_eq_getElem (by omega), List.getElem?_eq_getElem (by omega)] at this
      rw [List.getElem?_eq_getElem (by omega), List.getElem?_eq_getElem (by omega)]
      simpa using this
    · rw [List.getElem?_eq_none (by omega), List.getElem?_eq_none (by omega)]
  · rintro rfl i _
    simp
theorem eq65 {a b : List Int} (ha : Sec a) (hb : Sec b) (d : Nat) (w : World) : (Op.equalIn (d + 2) 65 (.agg (v8 a).toArray) (.agg (v8 b).toArray)).run Try.prog w = .ok (decide (a = b)) w := by
  obtain ⟨i, hi, _⟩ := Option.map_eq_some_iff.1 info5'
  rw [run_equalIn_array (P := Try.prog) w (d + 1) _ _ Try.underlying65 hi]
  have e : Try.prog.cellsOf 5 = 1 := by kernel_rfl
  rw [e, items_run d a b w _ (fun j hj => by have := List.mem_range.1 hj; rw [ha.len, hb.len]; exact ⟨this, this⟩), all_eq ha.len hb.len]
theorem part65 {a : List Int} (ha : Sec a) (w : World) : (part 65 (v8 a).toArray 0).run Try.prog w = .ok (.agg (v8 a).toArray) w := by
  have hs : (Go.sizeOf 65).run Try.prog w = .ok 64 w := by kernel_rfl
  have hg : (isAgg 65).run Try.prog w = .ok true w := by kernel_rfl
  have hl : (v8 a).toArray.size = 64 := by rw [List.size_toArray, v8_len, ha.len]
  have he : List.take 64 (v8 a) = v8 a := List.take_of_length_le (by rw [v8_len, ha.len]; exact Nat.le_refl _)
  simp [part, Sem.run_bind, hs, hg, Result.andThen, hl, he]
theorem eq67 {a b : List Int} (ha : Sec a) (hb : Sec b) (d : Nat) (w : World) : (Op.equalIn (d + 3) 67 (.agg (v8 a).toArray) (.agg (v8 b).toArray)).run Try.prog w = .ok (decide (a = b)) w :=
  eqA_of Try.underlying67 (by kernel_rfl) (eqf_last rfl (part65 ha w) (part65 hb w) (eq65 ha hb d w))
theorem eql67 {a b : List Int} (ha : Sec a) (hb : Sec b) (w : World) : (binOp .eql 67 (.agg (v8 a).toArray) (.agg (v8 b).toArray)).run Try.prog w = .ok (.bool (decide (a = b))) w := by
  rw [run_eql_struct, eq67 ha hb 9997 w]; rfl
theorem eql65 {a b : List Int} (ha : Sec a) (hb : Sec b) (w : World) : (binOp .eql 65 (.agg (v8 a).toArray) (.agg (v8 b).toArray)).run Try.prog w = .ok (.bool (decide (a = b))) w := by
  rw [run_eql_struct, eq65 ha hb 9998 w]; rfl
end Go.Proofs.Ytbojokjommmebaa.MoEq
