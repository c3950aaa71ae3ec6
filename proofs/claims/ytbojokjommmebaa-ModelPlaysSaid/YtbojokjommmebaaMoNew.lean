/- New; blocks cloned. -/
import Derived.Test.YtbojokjommmebaaMoLoose
namespace Go.Proofs.Ytbojokjommmebaa.MoNew
set_option linter.unusedSimpArgs false
set_option linter.unusedVariables false
open Go.RowKit Go.Proofs.YtbojokjommmebaaW.PrintWords Go.Proofs.YtbojokjommmebaaW.PrintLast Go.Proofs.YtbojokjommmebaaW.PrintMore Go.Proofs.Ytbojokjommmebaa.PModelPlays Go.Proofs.Ytbojokjommmebaa.MoMem Go.Proofs.Ytbojokjommmebaa.MoGo Go.Proofs.Ytbojokjommmebaa.MoNow Go.Proofs.Ytbojokjommmebaa.MoRead Go.Proofs.Ytbojokjommmebaa.MoPut Go.Proofs.Ytbojokjommmebaa.MoWrite Go.Proofs.Ytbojokjommmebaa.MoLoose
theorem info69 : (Try.prog.info? 69).map (fun i => (i.zero, i.size, i.bytes)) = some (some (.agg Z69), 129, 129) := by kernel_rfl
theorem sizeOf69 (w : World) : (Go.sizeOf 69).run Try.prog w = .ok 129 w := by kernel_rfl
theorem getD_rep (n i : Nat) : (List.replicate n zb).getD i zb = zb := by
  rw [List.getD_eq_getElem?_getD, List.getElem?_replicate]; split <;> rfl
theorem made_get (Z : Array Value) (hZ : Z.size = 129) (n i j : Nat) (hi : i < n) (hj : j < 129) : (madeCells Z (n * 129))[i * 129 + j]? = Z[j]? := by
  have hlt : i * 129 + j < n * 129 := by
    have : (i + 1) * 129 ≤ n * 129 := Nat.mul_le_mul_right _ hi
    omega
  have hm : (i * 129 + j) % Z.size = j := by rw [hZ]; omega
  have hj2 : j < Z.size := by omega
  unfold madeCells
  rw [Array.getElem?_map, Array.getElem?_range, if_pos hlt, Option.map_some, hm, Array.getElem?_eq_getElem hj2, getElem!_pos Z j hj2]
theorem Z69_get (j : Nat) : Z69[j]? = (bcells zb)[j]? := by
  unfold Z69
  rw [List.getElem?_toArray]
theorem made_row (n : Nat) : ∀ i, i < n → ((List.replicate n zb).getD i zb).Ok ∧ ∀ j, j < 129 → (madeCells Z69 (n * 129))[i * 129 + j]? = (bcells ((List.replicate n zb).getD i zb))[j]? := by
  intro i hi
  rw [getD_rep]
  exact ⟨zb_ok, fun j hj => by rw [made_get Z69 Z69_size n i j hi hj, Z69_get]⟩
def NewPost (W : World) (bs : List Bk) (e : Ending) (W' : World) : Prop := ∃ ab lb, e = .returned (.tuple #[.pointer (some ⟨ab, 0, none⟩), .int .i64 0]) ∧ ArrAt W' ab lb bs ∧ W.heap.size ≤ ab ∧ W.heap.size ≤ lb ∧ Below W.heap.size W W'
theorem new_bad (n : Int) (h : n < 0 ∨ 512 < n) (W : World) : Calls Try.prog 7 #[.int .i64 n] W fun e W' => e = .returned (.tuple #[.pointer none, .int .i64 1]) ∧ W' = W := by
  by_cases c : n < 0
  · clear h
    go_enter Try.func7, Try.ntmps7
    go_wp2
    go_ret2
    exact ⟨rfl, rfl⟩
  · have h2 : 512 < n := by omega
    clear h
    go_enter Try.func7, Try.ntmps7
    go_wp2
    go_ret2
    exact ⟨rfl, rfl⟩
set_option maxRecDepth 100000 in
theorem new_calls (n : Nat) (hn : n ≤ 512) (W : World) : Calls Try.prog 7 #[.int .i64 (n : Int)] W (NewPost W (List.replicate n zb)) := by
  have hmk : ∀ W : World, (Instr.makeSlice 56 (.int .i64 (n : Int)) (.int .i64 (n : Int))).run Try.prog W = .ok (.slice (some ⟨W.heap.size, 0, none⟩) n n) (W.alloc (.cells (madeCells Z69 (n * 129)) 69)) := by
    intro W
    obtain ⟨i, hi, h1⟩ := Option.map_eq_some_iff.1 info69
    simp only [Prod.mk.injEq] at h1
    have := run_make (P := Try.prog) W 56 69 i (.agg Z69) Try.underlying56 hi h1.1 .i64 .i64 (n : Int) (n : Int) (by omega) (Int.le_refl _) (by rw [h1.2.2]; omega) (by omega)
    rw [this, h1.2.1]; rfl
  have HM := Lib.hid (made_row n)
  have HSZ := Lib.hid (size_madeCells Z69 (n * 129))
  generalize madeCells Z69 (n * 129) = cur at *
  go_enter Try.func7, Try.ntmps7
  go_wp2_with (fail)
  go_ret2
  have hB : Below W.heap.size W ((W.alloc (.cells cur 69)).alloc (.cells #[.slice (some ⟨W.heap.size, 0, none⟩) n n, .bool true] 58)) := ((Below.refl _ _).alloc (Nat.le_refl _) _).alloc (by simp) _
  have e : (W.alloc (.cells cur 69)).heap.size = W.heap.size + 1 := by simp
  refine ⟨W.heap.size + 1, W.heap.size, rfl, ⟨by omega, by rw [List.length_replicate]; exact hn, ⟨n, by simp, by unfold maxLen; omega, ?_⟩, ⟨cur, ?_, by rw [List.length_replicate, HSZ.out]; exact Nat.le_refl _, ?_⟩⟩, by omega, Nat.le_refl _, hB⟩
  · rw [← e, List.length_replicate]; exact alloc_at _ _
  · exact blk_alloc (alloc_at W _) _
  · rw [List.length_replicate]; exact HM.out
section
variable {W W' : World} {ab lb : Nat} {bs : List Bk} {S : Nat → Prop}
def ClonePost (W : World) (bs : List Bk) (e : Ending) (W' : World) : Prop := ∃ g c, e = .returned (.slice (some ⟨g, 0, none⟩) bs.length c) ∧ W.heap.size ≤ g ∧ bs.length ≤ c ∧ c ≤ maxLen ∧
  (∃ cur, W'.heap[g]? = some (.cells cur 69 (0, 0)) ∧ bs.length * 129 ≤ cur.size ∧ ∀ i, i < bs.length → (bs.getD i zb).Ok ∧ ∀ j, j < 129 → cur[i * 129 + j]? = (bcells (bs.getD i zb))[j]?) ∧ Below W.heap.size W W'
def flat (bs : List Bk) : List Value := (List.range (bs.length * 129)).map fun j => (bcells (bs.getD (j / 129) zb)).getD (j % 129) undef
theorem flat_get (bs : List Bk) (i j : Nat) (hi : i < bs.length) (hj : j < 129) (hok : (bs.getD i zb).Ok) : (flat bs)[i * 129 + j]? = (bcells (bs.getD i zb))[j]? := by
  have hlt : i * 129 + j < bs.length * 129 := by
    have : (i + 1) * 129 ≤ bs.length * 129 := Nat.mul_le_mul_right _ hi
    omega
  unfold flat
  rw [List.getElem?_map, List.getElem?_range hlt]
  simp only [Option.map_some]
  rw [show (i * 129 + j) / 129 = i from by omega, show (i * 129 + j) % 129 = j from by omega]
  have hj2 : j < (bcells (bs.getD i zb)).length := by rw [bcells_len hok]; exact hj
  generalize bcells (bs.getD i zb) = l at *
  rw [List.getD_eq_getElem?_getD, List.getElem?_eq_getElem hj2]; rfl
theorem clone_blocks (h : ArrAt W ab lb bs) (c : Nat) : Calls Try.prog 37 #[.slice (some ⟨lb, 0, none⟩) bs.length c] W (ClonePost W bs) := by
  obtain ⟨i0, hi, e1⟩ := Option.map_eq_some_iff.1 info69
  simp only [Prod.mk.injEq] at e1
  have hf := h.few
  refine (Try.slices_CloneBlocks i0 (.agg Z69) 129 129 hi e1.1 e1.2.1 e1.2.2 Z69_size (by omega) sizeOf69 lb 0 bs.length c (flat bs) W (by simp [flat]) (by unfold maxLen; omega) (by omega) ?_ ?_).mono ?_
  · intro q u hu
    have hq : q < bs.length * 129 := by
      have := (List.getElem?_eq_some_iff.1 hu).1
      simpa [flat] using this
    have hi : q / 129 < bs.length := by omega
    have := flat_get bs (q / 129) (q % 129) hi (by omega) (h.ok _)
    rw [show q / 129 * 129 + q % 129 = q from by omega, hu] at this
    have h2 := h.at (q / 129) hi (q % 129) (by omega)
    rw [show q / 129 * 129 + q % 129 = q from by omega, ← this] at h2
    rw [Nat.zero_add]; exact h2
  · intro u hu
    obtain ⟨q, hq, rfl⟩ := List.mem_map.1 hu
    have hq2 : q < bs.length * 129 := List.mem_range.1 hq
    have hj2 : q % 129 < (bcells (bs.getD (q / 129) zb)).length := by rw [bcells_len (h.ok _)]; omega
    have hone : ∀ v ∈ bcells (bs.getD (q / 129) zb), v.oneCell' = true := bcells_one
    show ((bcells (bs.getD (q / 129) zb)).getD (q % 129) undef).oneCell' = true
    generalize bcells (bs.getD (q / 129) zb) = l at *
    rw [List.getD_eq_getElem?_getD, List.getElem?_eq_getElem hj2]
    exact hone _ (List.getElem_mem _)
  · rintro _ w' ⟨v', rfl, ⟨ho1, ho2⟩, hne, hbl⟩
    rcases ho2 with ⟨h7, _⟩ | ⟨g, cap, cur', rfl, g1, g2, g3, g4, g5, g6⟩
    · exact absurd h7 hne
    refine ⟨g, cap, rfl, g1, g3, g4, ⟨cur', g2, by rw [g5]; exact Nat.mul_le_mul_right _ g3, fun i hi => ⟨h.ok i, fun j hj => ?_⟩⟩, hbl⟩
    have hlt : i * 129 + j < bs.length * 129 := by
      have : (i + 1) * 129 ≤ bs.length * 129 := Nat.mul_le_mul_right _ hi
      omega
    rw [← flat_get bs i j hi hj (h.ok i), ← g6, List.getElem?_take, if_pos hlt, Array.getElem?_toList]
end
end Go.Proofs.Ytbojokjommmebaa.MoNew
