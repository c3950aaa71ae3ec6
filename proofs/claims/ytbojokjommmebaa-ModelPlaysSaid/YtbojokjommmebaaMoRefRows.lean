/- The reference: Rows, New. -/
import Derived.Test.YtbojokjommmebaaMoRefTrim
namespace Go.Proofs.Ytbojokjommmebaa.MoRefRows
set_option linter.unusedSimpArgs false
set_option linter.unusedVariables false
open Go.RowKit Go.Proofs.YtbojokjommmebaaW.PrintWords Go.Proofs.YtbojokjommmebaaW.PrintLast Go.Proofs.YtbojokjommmebaaW.PrintMore Go.Proofs.Ytbojokjommmebaa.PModelPlays Go.Proofs.Ytbojokjommmebaa.MoMem Go.Proofs.Ytbojokjommmebaa.MoGo Go.Proofs.Ytbojokjommmebaa.MoPut Go.Proofs.Ytbojokjommmebaa.MoWrite Go.Proofs.Ytbojokjommmebaa.MoLoose Go.Proofs.Ytbojokjommmebaa.MoPure Go.Proofs.Ytbojokjommmebaa.MoRefMem Go.Proofs.Ytbojokjommmebaa.MoRefPut Go.Proofs.Ytbojokjommmebaa.MoRefWrite Go.Proofs.Ytbojokjommmebaa.MoRefTrim
section
variable {W W' : World} {base rb n : Nat} {Z Y : Nat → Prop} {bs : List Bk} {v0 v1 v2 : Value}
theorem map_getD {α : Type} (f : Bk → α) (d : α) (bs : List Bk) (i : Nat) (h : i < bs.length) : (bs.map f).getD i d = f (bs.getD i zb) := by
  rw [List.getD_eq_getElem?_getD, List.getD_eq_getElem?_getD, List.getElem?_map, List.getElem?_eq_getElem h]; rfl
/-- The marks' row. -/
theorem refE_l (h : RefE W base Z rb bs) : ∃ A c, W.cell? ⟨rb, 2, none⟩ = some (.slice A bs.length c) ∧ bs.length ≤ c ∧ ∀ i, i < bs.length → ∃ g, A = some ⟨g, 0, none⟩ ∧ W.cell? ⟨g, i, none⟩ = some (.bool (bs.getD i zb).l) := by
  obtain ⟨v0, v1, v2, h⟩ := h
  obtain ⟨A, c, hv, hc⟩ := own_slice1 (RefAt.o2 h)
  refine ⟨A, c, by rw [RefAt.c2 h, hv], hc, fun i hi => ?_⟩
  obtain ⟨g, c', hv', hx, _⟩ := own_at (RefAt.o2 h) i hi
  rw [hv] at hv'
  injection hv' with e1 _ _
  refine ⟨g, e1, ?_⟩
  rw [hx, encs_get (d := false) _ _ (by rw [List.length_map]; exact hi), map_getD fL false bs i hi]; rfl
theorem refE_s (h : RefE W base Z rb bs) : ∃ A c, W.cell? ⟨rb, 1, none⟩ = some (.slice A bs.length c) ∧ bs.length ≤ c ∧ ∀ i, i < bs.length → ∃ g, A = some ⟨g, 0, none⟩ ∧ W.cell? ⟨g, i, none⟩ = some (.string (strOfNums (bs.getD i zb).now)) := by
  obtain ⟨v0, v1, v2, h⟩ := h
  obtain ⟨A, c, hv, hc⟩ := own_slice1 (RefAt.o1 h)
  refine ⟨A, c, by rw [RefAt.c1 h, hv], hc, fun i hi => ?_⟩
  obtain ⟨g, c', hv', hx, _⟩ := own_at (RefAt.o1 h) i hi
  rw [hv] at hv'
  injection hv' with e1 _ _
  refine ⟨g, e1, ?_⟩
  rw [hx, encs_get (d := ByteArray.empty) _ _ (by rw [List.length_map]; exact hi), map_getD fS ByteArray.empty bs i hi]; rfl
theorem refE_d (h : RefE W base Z rb bs) : ∃ A c, W.cell? ⟨rb, 0, none⟩ = some (.slice A bs.length c) ∧ bs.length ≤ c ∧ ∀ i, i < bs.length → ∃ g, A = some ⟨g, 0, none⟩ ∧ W.cell? ⟨g, i, none⟩ = some (.string (strOfNums (bs.getD i zb).d)) := by
  obtain ⟨v0, v1, v2, h⟩ := h
  obtain ⟨A, c, hv, hc⟩ := own_slice1 (RefAt.o0 h)
  refine ⟨A, c, by rw [RefAt.c0 h, hv], hc, fun i hi => ?_⟩
  obtain ⟨g, c', hv', hx, _⟩ := own_at (RefAt.o0 h) i hi
  rw [hv] at hv'
  injection hv' with e1 _ _
  refine ⟨g, e1, ?_⟩
  rw [hx, encs_get (d := ByteArray.empty) _ _ (by rw [List.length_map]; exact hi), map_getD fD ByteArray.empty bs i hi]; rfl
set_option maxRecDepth 100000 in
set_option maxHeartbeats 4000000 in
theorem rows_calls (h : RefE W base Z rb bs) : Calls Try.prog 22 #[.pointer (some ⟨rb, 0, none⟩)] W (IntsPost W (looseK bs bs.length)) := by
  have hf := h.few
  have HH := Lib.hid h
  obtain ⟨L, hL⟩ : ∃ L, L = bs.length := ⟨_, rfl⟩
  rw [← hL] at hf ⊢
  have HL := Lib.hid hL
  clear h hL
  go_enter Try.func22, Try.ntmps22
  go_wp2_with (fail)
  go_loopw [3, 4] (fun v3 v4 wr => ∃ (k : Nat) (xs : List Int), v4 = .int .i64 (k : Int) ∧ k ≤ L ∧ Hid (xs = looseK bs k) ∧ Hid (Kd.R (Kd.int .i64) 3 wr W.heap.size (fun _ => True) v3 xs) ∧ Hid (Below W.heap.size W wr)) (fun _ v4 _ => ((L : Int) - intOf v4).toNat)
  case atStart => exact ⟨0, [], rfl, by omega, Lib.hid rfl, Lib.hid (Kd.R_nil _ _ _ _ _), Lib.hid (Below.refl _ _)⟩
  case round =>
    obtain ⟨k, xs, rfl, hk, HX, HO, HB⟩ := hrel
    obtain ⟨A, c, c2, hc, hcell⟩ := refE_l (HH.out.below HB.out)
    rw [← HL.out] at c2 hc hcell
    by_cases hlt : k < L
    · obtain ⟨g, rfl, x0⟩ := hcell k hlt
      have hsu := looseK_succ bs k
      have hln := looseK_len bs k
      rw [← HX.out] at hsu hln
      generalize bs.getD k zb = b at *
      have HLEN := Lib.hid (show xs.length ≤ 512 from by omega)
      clear hln hcell
      cases hbl : b.l with
      | false =>
        rw [hbl, if_neg (by decide), List.append_nil] at hsu
        rw [hbl] at x0
        have HS := Lib.hid hsu
        clear hsu hbl
        go_wp2_with (fail)
        go_roundw
        case rel => exact ⟨k + 1, xs, rfl, by omega, Lib.hid HS.out.symm, HO, HB⟩
        case measure => simp [intOf]; omega
      | true =>
        rw [hbl, if_pos rfl] at hsu
        rw [hbl] at x0
        obtain ⟨ys, hys⟩ : ∃ ys, ys = xs ++ [(k : Int)] := ⟨_, rfl⟩
        rw [← hys] at hsu
        have HY := Lib.hid hys
        have HS := Lib.hid hsu
        clear hsu hbl hys
        go_wp2_with (first
          | (refine gate_builtin (b := .append) (xs := #[.tmp 21, .tmp 23]) rfl ?_; at_builtin; refine Kd.R_append (Kd.int .i64) (w0 := W) W.heap.size rfl (.tmp 21) (.tmp 23) 30 3 (.int .i64 0) 8 rfl Try.underlying30 info3 rfl (by decide) (by omega) u3 xs (k : Int) [.int .i64 (k : Int)] (fun _ => True) (fun _ => False) rfl rfl ?aP (fun _ hk => hk.elim) ?aF ?aO ?aB ?aS ?aL ?_; (case aP => exact rfl); (case aB => exact (by repeat (first | (with_reducible first | exact HB.out | apply below_alloc | apply pw_below_drewN | apply below_drew1) | exact HB.out))); (case aF => exact (fun _ _ => trivial)); (case aO => exact (by (with_reducible repeat (first | apply Kd.R_alloc | apply Kd.R_drewN | apply Kd.R_drew)); exact HO.out)); (case aS => exact (below_size (by repeat (first | (with_reducible first | exact HB.out | apply below_alloc | apply pw_below_drewN | apply below_drew1) | exact HB.out)))); (case aL => have := HLEN.out; omega); intro v108 w7 ho hb hg hat; rw [← HY.out] at ho; have n0_ := Lib.hid hb; have n1_ := Lib.hid ho; clear HB HO; have HB := n0_; have HO := n1_; clear n0_ n1_; clear ho hb hg hat))
        go_roundw
        case rel => exact ⟨k + 1, ys, rfl, by omega, Lib.hid HS.out.symm, HO, HB⟩
        case measure => simp [intOf]; omega
    · have hge : ¬ ((k : Int) < (L : Int)) := by omega
      obtain rfl : k = L := by omega
      clear hlt hcell
      go_wp2_with (fail)
      go_ret
      exact ⟨_, rfl, by rw [← HX.out]; exact HO.out, HB.out⟩
end
end Go.Proofs.Ytbojokjommmebaa.MoRefRows
