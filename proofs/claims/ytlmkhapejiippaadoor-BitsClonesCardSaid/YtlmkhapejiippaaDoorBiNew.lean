/- New, Count, Clear, All. -/
import Derived.Test.YtlmkhapejiippaaDoorBiSeek
import Derived.Lib.SliceRun
import Derived.BigFrame
namespace Go.Proofs.YtlmkhapejiippaaDoor.BiNew
set_option linter.unusedSimpArgs false
set_option linter.unusedVariables false
open Go.RowKit Go.Proofs.YtlmkhapejiippaaDoorW.PrintWords Go.Proofs.YtlmkhapejiippaaDoorW.PrintLast Go.Proofs.YtlmkhapejiippaaDoorW.PrintMore Go.Proofs.YtlmkhapejiippaaDoor.PBitsPlays Go.Proofs.YtlmkhapejiippaaDoor.BiPop Go.Proofs.YtlmkhapejiippaaDoor.BiPure Go.Proofs.YtlmkhapejiippaaDoor.BiRef Go.Proofs.YtlmkhapejiippaaDoor.BiCore Go.Proofs.YtlmkhapejiippaaDoor.BiSeek

theorem info51 : (Tryd.prog.info? 51).map (fun i => (i.zero, i.size, i.bytes)) = some (some (.int .u64 0), 1, 8) := by kernel_rfl
theorem zero51 (w : World) : (zeroValue 51).run Tryd.prog w = .ok (.int .u64 0) w := by kernel_rfl
theorem up_is (n : Nat) (h : n ≤ 4096) : count_Up.f (n : Int) 64 = some (((n + 63) / 64 : Nat) : Int) := by
  unfold count_Up.f
  by_cases c : (n : Int) < 1
  · rw [if_pos c]; congr 1; omega
  · rw [if_neg c, if_neg (by omega), if_neg (by omega)]
    have e1 : wrap64 ((n : Int) - 1) = ((n - 1 : Nat) : Int) := by unfold wrap64; omega
    rw [e1, Int.tdiv_eq_ediv_of_nonneg (by omega)]
    congr 1
    unfold wrap64; omega
theorem made_words (L : Nat) : ∃ cur, cur = madeCells #[Value.int .u64 0] L ∧ cur.size = L ∧ ∀ i, i < L → cur[i]? = some (.int .u64 0) := by
  refine ⟨_, rfl, size_madeCells _ _, fun i hi => ?_⟩
  unfold madeCells
  rw [Array.getElem?_map, Array.getElem?_range]
  have : i % 1 = 0 := by omega
  simp [hi, this]
def NewPost (w : World) (n : Nat) (e : Ending) (w' : World) : Prop := ∃ sb lb, e = .returned (.tuple #[.pointer (some ⟨sb, 0, none⟩), .int .i64 0]) ∧ SetAt w' sb lb true n (List.replicate ((n + 63) / 64) 0) ∧ w.heap.size ≤ sb ∧ w.heap.size ≤ lb ∧ Below w.heap.size w w'

set_option maxRecDepth 100000 in
theorem new_bad (n : Int) (h : n < 0 ∨ 4096 < n) (w : World) : Calls Tryd.prog 6 #[.int .i64 n] w fun e w' => e = .returned (.tuple #[.pointer none, .int .i64 1]) ∧ w' = w := by
  by_cases c : n < 0
  · go_enter Tryd.func6, Tryd.ntmps6
    go_wp2
    go_ret2
    exact ⟨rfl, rfl⟩
  · have h2 : 4096 < n := by omega
    clear h
    go_enter Tryd.func6, Tryd.ntmps6
    go_wp2
    go_ret2
    exact ⟨rfl, rfl⟩
set_option maxRecDepth 100000 in
theorem new_calls (n : Nat) (hn : n ≤ 4096) (w : World) : Calls Tryd.prog 6 #[.int .i64 (n : Int)] w (NewPost w n) := by
  have HU := count_Up.calls (n : Int) 64 _ w (up_is n hn)
  have HZ := Lib.hid (zero_ok n hn)
  obtain ⟨L, hL⟩ : ∃ L, L = (n + 63) / 64 := ⟨_, rfl⟩
  rw [← hL] at HU HZ
  have hLn : L ≤ 64 := by omega
  have HL := Lib.hid hL
  clear hL
  have hmk : ∀ W : World, (Instr.makeSlice 36 (.int .i64 (L : Int)) (.int .i64 (L : Int))).run Tryd.prog W = .ok (.slice (some ⟨W.heap.size, 0, none⟩) L L) (W.alloc (.cells (madeCells #[.int .u64 0] L) 51)) := by
    intro W
    obtain ⟨i, hi, h1⟩ := Option.map_eq_some_iff.1 info51
    simp only [Prod.mk.injEq] at h1
    have := run_make (P := Tryd.prog) W 36 51 i (.int .u64 0) Tryd.underlying36 hi h1.1 .i64 .i64 (L : Int) (L : Int) (by omega) (Int.le_refl _) (by rw [h1.2.2]; omega) (by omega)
    rw [this, h1.2.1]; simp [Value.cells]
  obtain ⟨cur, hcur, hsz, hget⟩ := made_words L
  rw [← hcur] at hmk
  have HS := Lib.hid hsz
  have HG := Lib.hid hget
  clear hcur hsz hget
  go_enter Tryd.func6, Tryd.ntmps6
  go_wp2_with (go_at_call 20; refine HU.mono ?_; rintro _ _ ⟨rfl, ⟨nq, rfl⟩⟩)
  obtain ⟨W, hW⟩ : ∃ W : World, W = (((w.drewN nq).alloc (Obj.cells cur 51)).alloc (Obj.cells #[Value.slice (some { block := w.heap.size, off := 0 }) L L, Value.int IntKind.i64 ↑n, Value.bool true] 38)) := ⟨_, rfl⟩
  have hB : Below w.heap.size w W := by rw [hW]; exact ((bdrew (Below.refl _ _) nq).alloc (by simp) _).alloc (by simp) _
  have z4 : W.heap[w.heap.size + 1]? = some (.cells #[Value.slice (some { block := w.heap.size, off := 0 }) L L, Value.int IntKind.i64 ↑n, Value.bool true] 38 (0, 0)) := by
    have e : w.heap.size + 1 = ((w.drewN nq).alloc (Obj.cells cur 51)).heap.size := by simp [World.alloc]
    rw [hW, e]
    generalize ((w.drewN nq).alloc (Obj.cells cur 51)) = X
    show (X.heap.push _)[X.heap.size]? = _
    exact Array.getElem?_push_size
  have z0 : W.cell? ⟨w.heap.size + 1, 0, none⟩ = some (.slice (some ⟨w.heap.size, 0, none⟩) L L) := by rw [cell_of_row W _ _ _ _ _ z4]; rfl
  have z1 : W.cell? ⟨w.heap.size + 1, 1, none⟩ = some (.int .i64 n) := by rw [cell_of_row W _ _ _ _ _ z4]; rfl
  have z2 : W.cell? ⟨w.heap.size + 1, 2, none⟩ = some (.bool true) := by rw [cell_of_row W _ _ _ _ _ z4]; rfl
  have z3 : W.heap[w.heap.size]? = some (.cells cur 51 (0, 0)) := by
    rw [hW]
    simp [World.alloc, Array.getElem?_push]
  rw [← hW]
  clear hW
  go_ret2
  refine ⟨w.heap.size + 1, w.heap.size, rfl, ?_, by omega, Nat.le_refl _, hB⟩
  have hLs := HS.out
  have hl := HL.out
  rw [← hl]
  refine ⟨HZ.out, by omega, _, L, by rw [List.length_replicate]; exact z0, z1, z2, by simp, by unfold maxLen; omega, .inr ⟨rfl, cur, z3, by rw [List.length_replicate, hLs]; exact Nat.le_refl _, fun i hi => ?_⟩⟩
  rw [List.length_replicate] at hi
  rw [HG.out i hi, List.getD_eq_getElem?_getD, List.getElem?_replicate, if_pos hi]; rfl

/-! ### counting -/
theorem cb_le : ∀ (m x : Nat), cb m x ≤ m
  | 0, _ => Nat.le_refl _
  | m + 1, x => by
    have := cb_le m (x / 2)
    simp only [cb]; omega
theorem cbsum_le : ∀ l : List Nat, cbsum l ≤ 64 * l.length
  | [] => Nat.le_refl _
  | x :: r => by
    have := cbsum_le r
    have := cb_le 64 x
    simp only [cbsum, List.length_cons]; omega
theorem cbsum_snoc : ∀ (l : List Nat) (x : Nat), cbsum (l ++ [x]) = cbsum l + cb 64 x
  | [], x => by simp [cbsum]
  | y :: r, x => by
    have := cbsum_snoc r x
    simp only [List.cons_append, cbsum, this]; omega
theorem cbsum_next (l : List Nat) (k : Nat) (h : k < l.length) : cbsum (l.take (k + 1)) = cbsum (l.take k) + cb 64 (l.getD k 0) := by
  rw [List.take_succ_eq_append_getElem h, cbsum_snoc, List.getD_eq_getElem?_getD, List.getElem?_eq_getElem h]; rfl
section
variable {w w' : World} {sb lb n : Nat} {mk : Bool} {ws : List Nat}
set_option maxRecDepth 100000 in
theorem count_nil (w : World) : Calls Tryd.prog 12 #[.pointer none] w fun e w' => e = .returned (.int .i64 0) ∧ w' = w := by
  go_enter Tryd.func12, Tryd.ntmps12
  go_wp2
  go_ret
  exact ⟨rfl, rfl⟩
set_option maxRecDepth 100000 in
set_option maxHeartbeats 1000000 in
theorem count_calls (h : SetAt w sb lb mk n ws) : Calls Tryd.prog 12 #[.pointer (some ⟨sb, 0, none⟩)] w fun e w' => e = .returned (.int .i64 ((((List.range n).filter (bit ws)).length : Nat) : Int)) ∧ Below w.heap.size w w' := by
  obtain ⟨cnt, hcnt⟩ : ∃ c, c = ((List.range n).filter (bit ws)).length := ⟨_, rfl⟩
  rw [← hcnt]
  have HC := Lib.hid (hcnt.trans (cbsum_row h.1).symm)
  clear hcnt
  have HH := Lib.hid h
  have hl := h.1.len
  have hn := h.1.few
  obtain ⟨L, hL⟩ : ∃ L, L = ws.length := ⟨_, rfl⟩
  have hL64 : L ≤ 64 := by omega
  obtain ⟨A, c, c0, c1, c2, h3, h5⟩ := h.word
  rw [← hL] at c0 h3
  have HL := Lib.hid hL
  clear h h5 c2 c1 hL hl
  go_enter Tryd.func12, Tryd.ntmps12
  go_wp2
  clear c0
  go_loopw [3, 12] (fun v3 v12 wr => ∃ k s : Nat, v12 = .int .i64 (k : Int) ∧ v3 = .int .i64 (s : Int) ∧ k ≤ L ∧ s ≤ 64 * k ∧ Hid (s = cbsum (ws.take k)) ∧ Hid (Below w.heap.size w wr)) (fun _ v12 _ => ((L : Int) - intOf v12).toNat)
  case atStart => exact ⟨0, 0, rfl, rfl, by omega, by omega, Lib.hid (by simp [cbsum]), Lib.hid (Below.refl _ _)⟩
  case round =>
    obtain ⟨k, s, rfl, rfl, hk, hs, HK, HB⟩ := hrel
    by_cases hlt : k < L
    · have hw := HH.out.below HB.out
      obtain ⟨A, c, c0, c1, c2, h3, h5⟩ := hw.word
      obtain ⟨rfl, x0, _⟩ := h5 k (by rw [← HL.out]; exact hlt)
      rw [← HL.out] at c0 h3
      have hx := get_lt hw.1 k
      have hnx := cbsum_next ws k (by rw [← HL.out]; exact hlt)
      have HN := Lib.hid hnx
      clear hw h5 hnx
      generalize ws.getD k 0 = x at *
      have hcb := cb_le 64 x
      have HO := Lib.hid (bits_OnesCount64.calls (x : Int) _ wr (ones_is x hx))
      generalize cb 64 x = t at *
      go_wp2_with (go_at_call 28; refine HO.out.mono ?_; rintro _ _ ⟨rfl, ⟨nq, rfl⟩⟩)
      go_roundw
      case rel => exact ⟨k + 1, s + t, rfl, rfl, by omega, by omega, Lib.hid (by rw [HN.out, HK.out]), Lib.hid (bdrew HB.out nq)⟩
      case measure => simp [intOf]; omega
    · have hge : ¬ ((k : Int) < (L : Int)) := by omega
      clear hlt
      go_wp2_with (fail)
      go_ret
      refine ⟨?_, HB.out⟩
      have : s = cnt := by
        rw [HC.out, HK.out, show k = ws.length from by rw [← HL.out]; omega, List.take_length]
      rw [this]; rfl
end
end Go.Proofs.YtlmkhapejiippaaDoor.BiNew
