/- Loose, New. -/
import Derived.Test.YtbojokjommmebaaMoWrite
namespace Go.Proofs.Ytbojokjommmebaa.MoLoose
set_option linter.unusedSimpArgs false
set_option linter.unusedVariables false
open Go.RowKit Go.Proofs.YtbojokjommmebaaW.PrintWords Go.Proofs.YtbojokjommmebaaW.PrintLast Go.Proofs.YtbojokjommmebaaW.PrintMore Go.Proofs.Ytbojokjommmebaa.PModelPlays Go.Proofs.Ytbojokjommmebaa.MoMem Go.Proofs.Ytbojokjommmebaa.MoGo Go.Proofs.Ytbojokjommmebaa.MoNow Go.Proofs.Ytbojokjommmebaa.MoRead Go.Proofs.Ytbojokjommmebaa.MoPut Go.Proofs.Ytbojokjommmebaa.MoWrite
/-- The loose ones of the first k. -/
def looseK (bs : List Bk) (k : Nat) : List Int := ((List.range k).filter fun i => (bs.getD i zb).l).map fun i : Nat => (i : Int)
theorem looseK_succ (bs : List Bk) (k : Nat) : looseK bs (k + 1) = looseK bs k ++ (if (bs.getD k zb).l = true then [(k : Int)] else []) := by
  unfold looseK
  rw [List.range_succ, List.filter_append, List.map_append]
  congr 1
  by_cases h : (bs.getD k zb).l = true
  · rw [if_pos h]; simp only [List.filter, h]; rfl
  · have h' : (bs.getD k zb).l = false := by simpa using h
    rw [if_neg h]; simp only [List.filter, h']; rfl
theorem looseK_len (bs : List Bk) (k : Nat) : (looseK bs k).length ≤ k := by
  unfold looseK
  rw [List.length_map]
  have := List.length_filter_le (fun i => (bs.getD i zb).l) (List.range k)
  simpa using this
/-- 'alloc' at whatever zero value. -/
theorem wpList_alloc_agg {P : Program} {ops : Array Oper} {rest : List Oper} {o : Oper} {a : Act} {w : World} {Q : Exit → Act → World → Prop} (hgd : o.guard = none) (ty : TypeId) (ho : o.op = .alloc ty) (Z : Array Value)
    (hz : ∀ w, (zeroValue ty).run P w = .ok (.agg Z) w) (h : ∀ W2, W2.heap[w.heap.size]? = some (.cells Z ty (0, 0)) → Below w.heap.size w W2 → wpList P ops Q rest (a.put o.dst (.pointer (some ⟨w.heap.size, 0, none⟩))) W2) : wpList P ops Q (o :: rest) a w :=
  wpList_plain hgd fun K hK => by
    have h2 := h (w.alloc (.cells Z ty)) (alloc_at w _) ((Below.refl _ _).alloc (Nat.le_refl _) _)
    unfold Oper.wp execOp
    simp only [ho, Instr.alloc, Sem.run_bind, Result.andThen_ok, hz]
    exact hK _ _ h2
def Z69 : Array Value := (bcells zb).toArray
theorem Z69_size : Z69.size = 129 := by rw [Z69, List.size_toArray, bcells_len zb_ok]
theorem zero69 (w : World) : (zeroValue 69).run Try.prog w = .ok (.agg Z69) w := by kernel_rfl
def IntsPost (w : World) (l : List Int) (e : Ending) (w' : World) : Prop := ∃ v, e = .returned v ∧ Kd.R (Kd.int .i64) 3 w' w.heap.size (fun _ => True) v l ∧ Below w.heap.size w w'
theorem all_facts {W2 : World} {g : Nat} {z : Array Value} {b : Bk} (hB : W2.heap[g]? = some (.cells z 69 (0, 0))) (hz : z.size = 129) (hb : b.Ok) :
    W2.there g 0 (bcells b).toArray.size ∧ (W2.setCells g 0 (bcells b)).heap[g]? = some (.cells (bcells b).toArray 69 (0, 0)) := by
  have hl := bcells_len hb
  constructor
  · intro j hj
    rw [List.size_toArray, hl] at hj
    refine ⟨?_, blk_frozen hB _⟩
    rw [cell_of_row W2 _ _ _ _ _ hB, Array.getElem?_eq_getElem (by omega)]; rfl
  · obtain ⟨cur', e1, e2, e3⟩ := setCells_row (bcells b) 0 W2 z hB (by omega)
    have e4 : cur' = (bcells b).toArray := by
      apply Array.toList_inj.1
      rw [e3]
      have : z.toList.drop (0 + (bcells b).length) = [] := by
        rw [List.drop_eq_nil_iff, Array.length_toList]; omega
      rw [this]; simp
    rw [e1, e4]
theorem bcells_one {b : Bk} : ∀ v ∈ bcells b, v.oneCell' = true := by
  intro v hv
  unfold bcells at hv
  rcases List.mem_append.1 hv with h | h
  · exact v8_one _ v h
  · rcases List.mem_append.1 h with h | h
    · exact v8_one _ v h
    · rw [List.mem_singleton.1 h]; rfl
section
variable {W W' : World} {ab lb : Nat} {bs : List Bk} {S : Nat → Prop}
theorem loose_nil (W : World) : Calls Try.prog 26 #[.pointer none] W fun e W' => e = .returned (.slice none 0 0) ∧ W' = W := by
  have HR := real_nil W
  go_enter Try.func26, Try.ntmps26
  go_wp2_with (go_at_call 31; refine HR.mono ?_; rintro _ _ ⟨rfl, rfl⟩)
  go_ret
  exact ⟨rfl, rfl⟩
theorem loose_odd (hc : W.cell? ⟨ab, 1, none⟩ = some (.bool false)) : Calls Try.prog 26 #[.pointer (some ⟨ab, 0, none⟩)] W fun e W' => e = .returned (.slice none 0 0) ∧ W' = W := by
  have HR := real_is false hc
  clear hc
  go_enter Try.func26, Try.ntmps26
  go_wp2_with (go_at_call 31; refine HR.mono ?_; rintro _ _ ⟨rfl, rfl⟩)
  go_ret
  exact ⟨rfl, rfl⟩
set_option maxRecDepth 100000 in
set_option maxHeartbeats 4000000 in
theorem loose_calls (h : ArrAt W ab lb bs) : Calls Try.prog 26 #[.pointer (some ⟨ab, 0, none⟩)] W (IntsPost W (looseK bs bs.length)) := by
  obtain ⟨c, hc, c0, c1⟩ := h.head
  have HR := Lib.hid (real_is true c1)
  have hf := h.few
  have HH := Lib.hid h
  obtain ⟨L, hL⟩ : ∃ L, L = bs.length := ⟨_, rfl⟩
  rw [← hL] at hc c0 hf ⊢
  have HL := Lib.hid hL
  clear h c1 hL
  go_enter Try.func26, Try.ntmps26
  go_wp2_with (go_at_call 31; refine HR.out.mono ?_; rintro _ W2 ⟨rfl, hw⟩; replace hw := hw.symm; subst hw)
  clear c0
  go_loopw [3, 14] (fun v3 v14 wr => ∃ (k : Nat) (xs : List Int), v14 = .int .i64 (k : Int) ∧ k ≤ L ∧ Hid (xs = looseK bs k) ∧ Hid (Kd.R (Kd.int .i64) 3 wr W.heap.size (fun _ => True) v3 xs) ∧ Hid (Below W.heap.size W wr)) (fun _ v14 _ => ((L : Int) - intOf v14).toNat)
  case atStart => exact ⟨0, [], rfl, by omega, Lib.hid rfl, Lib.hid (Kd.R_nil _ _ _ _ _), Lib.hid (Below.refl _ _)⟩
  case round =>
    obtain ⟨k, xs, rfl, hk, HX, HO, HB⟩ := hrel
    by_cases hlt : k < L
    · have ha := HH.out.below HB.out
      have hi : k < bs.length := by rw [← HL.out]; exact hlt
      have HRG := Lib.hid (ha.range k hi)
      have hok := ha.ok k
      have hsu := looseK_succ bs k
      have hln := looseK_len bs k
      rw [← HX.out] at hsu hln
      generalize bs.getD k zb = b at *
      have HSZ := Lib.hid (show (Try.prog.info? 69).map (·.size) = some (bcells b).length from by rw [bcells_len hok]; exact size69)
      have HSZ2 := Lib.hid (show (Try.prog.info? 69).map (·.size) = some (bcells b).toArray.size from by rw [List.size_toArray, bcells_len hok]; exact size69)
      have HOK := Lib.hid hok
      have HLEN := Lib.hid (show xs.length ≤ 512 from by omega)
      clear ha hi hok hln
      cases hbl : b.l with
      | false =>
        rw [hbl, if_neg (by decide), List.append_nil] at hsu
        have HS := Lib.hid hsu
        have HBL := Lib.hid hbl
        clear hsu hbl
        go_wp2_with (first
          | (refine gate_ (.load 69 (.tmp 17)) rfl ?_; refine wpList_load_mid rfl 69 (.tmp 17) rfl lb (k * 129) rfl (bcells b) _ HRG.out Try.underlying69 rfl HSZ.out ?_)
          | (refine gate_ (.alloc 69) rfl ?_; refine wpList_alloc_agg rfl 69 rfl Z69 zero69 ?_; intro W2 hB hbw; have hz := Z69_size; obtain ⟨t1, t2⟩ := all_facts hB hz HOK.out; have T1 := Lib.hid t1; have f1 := (box_facts t2 HOK.out).1; rw [HBL.out] at f1; have HB2 := Lib.hid ((Fr.setCells W2 wr.heap.size 0 (bcells b)).below hbw (fun k hk => by omega)); clear hB hz t1 t2 hbw)
          | (refine gate_ (.store 69 (.tmp 5) (.tmp 18)) rfl ?_; refine wpList_store_mid rfl 69 (.tmp 5) (.tmp 18) rfl wr.heap.size 0 (bcells b).toArray rfl rfl T1.out HSZ2.out (all_oneCell_toArray bcells_one) ?_))
        go_roundw
        case rel => exact ⟨k + 1, xs, rfl, by omega, Lib.hid HS.out.symm, Lib.hid (Kd.R_below HO.out HB2.out), Lib.hid (bthen HB.out HB2.out)⟩
        case measure => simp [intOf]; omega
      | true =>
        rw [hbl, if_pos rfl] at hsu
        obtain ⟨ys, hys⟩ : ∃ ys, ys = xs ++ [(k : Int)] := ⟨_, rfl⟩
        rw [← hys] at hsu
        have HY := Lib.hid hys
        have HS := Lib.hid hsu
        have HBL := Lib.hid hbl
        clear hsu hbl hys
        go_wp2_with (first
          | (refine gate_ (.load 69 (.tmp 17)) rfl ?_; refine wpList_load_mid rfl 69 (.tmp 17) rfl lb (k * 129) rfl (bcells b) _ HRG.out Try.underlying69 rfl HSZ.out ?_)
          | (refine gate_ (.alloc 69) rfl ?_; refine wpList_alloc_agg rfl 69 rfl Z69 zero69 ?_; intro W2 hB hbw; have hz := Z69_size; obtain ⟨t1, t2⟩ := all_facts hB hz HOK.out; have T1 := Lib.hid t1; have f1 := (box_facts t2 HOK.out).1; rw [HBL.out] at f1; have n0 := (Fr.setCells W2 wr.heap.size 0 (bcells b)).below hbw (fun k hk => by omega); have HO2 := Lib.hid (Kd.R_below HO.out n0); have HB2 := Lib.hid (bthen HB.out n0); clear HO HB hB hz t1 t2 hbw n0; have HB := HB2; clear HB2)
          | (refine gate_ (.store 69 (.tmp 5) (.tmp 18)) rfl ?_; refine wpList_store_mid rfl 69 (.tmp 5) (.tmp 18) rfl wr.heap.size 0 (bcells b).toArray rfl rfl T1.out HSZ2.out (all_oneCell_toArray bcells_one) ?_)
          | ((with_reducible refine gate_builtin (b := .append) (xs := #[.tmp 21, .tmp 23]) rfl ?_); at_builtin; refine Kd.R_append (Kd.int .i64) (w0 := W) W.heap.size rfl (.tmp 21) (.tmp 23) 30 3 (.int .i64 0) 8 rfl Try.underlying30 info3 rfl (by decide) (by omega) u3 xs (k : Int) [.int .i64 (k : Int)] (fun _ => True) (fun _ => False) rfl rfl ?aP (fun _ hk => hk.elim) ?aF ?aO ?aB ?aS ?aL ?_; (case aP => exact rfl); (case aB => exact (by repeat (first | (with_reducible first | exact HB.out | apply below_alloc | apply pw_below_drewN | apply below_drew1) | exact HB.out))); (case aF => exact (fun _ _ => trivial)); (case aO => exact (by (with_reducible repeat (first | apply Kd.R_alloc | apply Kd.R_drewN | apply Kd.R_drew)); exact HO2.out)); (case aS => exact (below_size (by repeat (first | (with_reducible first | exact HB.out | apply below_alloc | apply pw_below_drewN | apply below_drew1) | exact HB.out)))); (case aL => have := HLEN.out; omega); intro v108 w7 ho hb hg hat; rw [← HY.out] at ho; have n0_ := Lib.hid hb; have n1_ := Lib.hid ho; clear HB HO2; have HB := n0_; have HO109 := n1_; clear n0_ n1_; clear ho hb hg hat))
        go_roundw
        case rel => exact ⟨k + 1, ys, rfl, by omega, Lib.hid HS.out.symm, HO109, HB⟩
        case measure => simp [intOf]; omega
    · have hge : ¬ ((k : Int) < (L : Int)) := by omega
      obtain rfl : k = L := by omega
      clear hlt
      go_wp2_with (fail)
      go_ret
      exact ⟨_, rfl, by rw [← HX.out]; exact HO.out, HB.out⟩
end
end Go.Proofs.Ytbojokjommmebaa.MoLoose
