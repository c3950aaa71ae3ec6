/- now, Read. -/
import Derived.Test.YtbojokjommmebaaMoGo
namespace Go.Proofs.Ytbojokjommmebaa.MoNow
set_option linter.unusedSimpArgs false
set_option linter.unusedVariables false
open Go.RowKit Go.Proofs.YtbojokjommmebaaW.PrintWords Go.Proofs.YtbojokjommmebaaW.PrintLast Go.Proofs.YtbojokjommmebaaW.PrintMore Go.Proofs.Ytbojokjommmebaa.MoMem Go.Proofs.Ytbojokjommmebaa.MoGo
section
variable {W W' : World} {ab lb : Nat} {bs : List Bk} {S : Nat → Prop}
/-- Two blocks made, ahead of an operation: the world gets a name. -/
theorem gate_two {P : Program} {ops : Array Oper} {rest : List Oper} {o : Oper} {a : Act} {Q : Exit → Act → World → Prop} {W : World} {A B : Obj} (op : Op) (_ho : o.op = op)
    (h : ∀ W2, W2.heap[W.heap.size]? = some A → W2.heap[W.heap.size + 1]? = some B → Below W.heap.size W W2 → wpList P ops Q (o :: rest) a W2) : wpList P ops Q (o :: rest) a ((W.alloc A).alloc B) := by
  refine h _ ?_ ?_ ?_
  · exact blk_alloc (alloc_at W A) B
  · have e : W.heap.size + 1 = (W.alloc A).heap.size := by simp
    rw [e]
    exact alloc_at _ _
  · exact ((Below.refl _ _).alloc (Nat.le_refl _) _).alloc (by simp) _
theorem box_facts {W2 : World} {g : Nat} {b : Bk} (hA : W2.heap[g]? = some (.cells (bcells b).toArray 69 (0, 0))) (hb : b.Ok) :
    W2.cell? ⟨g, 128, none⟩ = some (.bool b.l) ∧ W2.rangeAt g 64 (v8 b.s) ∧ W2.rangeAt g 0 (v8 b.d) := by
  have hc : ∀ j, W2.cell? ⟨g, j, none⟩ = (bcells b)[j]? := fun j => by rw [cell_of_row W2 _ _ _ _ _ hA]; simp
  refine ⟨by rw [hc, bcells_l hb], fun j v hv => ?_, fun j v hv => ?_⟩
  · have hj : j < 64 := by have := (List.getElem?_eq_some_iff.1 hv).1; rw [v8_len, hb.s.len] at this; exact this
    rw [hc, bcells_s hb j hj]; exact hv
  · have hj : j < 64 := by have := (List.getElem?_eq_some_iff.1 hv).1; rw [v8_len, hb.d.len] at this; exact this
    rw [hc, Nat.zero_add, bcells_d hb j hj]; exact hv
theorem cell_facts {W2 : World} {g : Nat} {z : Array Value} {t : Nat} {l : List Int} (hB : W2.heap[g]? = some (.cells z t (0, 0))) (hz : z.size = 64) (hl : Sec l) :
    W2.there g 0 (v8 l).toArray.size ∧ (W2.setCells g 0 (v8 l)).heap[g]? = some (.cells (v8 l).toArray t (0, 0)) := by
  constructor
  · intro j hj
    rw [List.size_toArray, v8_len, hl.len] at hj
    refine ⟨?_, blk_frozen hB _⟩
    rw [cell_of_row W2 _ _ _ _ _ hB, Array.getElem?_eq_getElem (by omega)]; rfl
  · obtain ⟨cur', e1, e2, e3⟩ := setCells_row (v8 l) 0 W2 z hB (by rw [v8_len, hl.len]; omega)
    have e4 : cur' = (v8 l).toArray := by
      apply Array.toList_inj.1
      rw [e3]
      have : z.toList.drop (0 + (v8 l).length) = [] := by
        rw [List.drop_eq_nil_iff, Array.length_toList, v8_len, hl.len]; omega
      rw [this]; simp
    rw [e1, e4]
set_option maxRecDepth 100000 in
set_option maxHeartbeats 1000000 in
theorem now_calls (b : Bk) (hb : b.Ok) (W : World) : Calls Try.prog 34 #[.agg (bcells b).toArray] W fun e W' => e = .returned (.agg (v8 b.now).toArray) ∧ Below W.heap.size W W' := by
  obtain ⟨bc, hbc⟩ : ∃ bc, bc = bcells b := ⟨_, rfl⟩
  rw [← hbc]
  have HBC := Lib.hid hbc
  clear hbc
  have HOK := Lib.hid hb
  clear hb
  cases hl : b.l with
  | true =>
    have hn : b.now = b.s := by unfold Bk.now; rw [if_pos hl]
    rw [hn]
    have HL := Lib.hid hl
    clear hn hl
    go_enter Try.func34, Try.ntmps34
    go_wp2_with (first
      | (refine gate_two (.load 4 (.tmp 3)) rfl ?_; intro W2 hA hB hbw; rw [HBC.out] at hA; obtain ⟨z, hz, hB⟩ : ∃ z : Array Value, z.size = 64 ∧ W2.heap[W.heap.size + 1]? = some (.cells z 65 (0, 0)) := ⟨_, rfl, hB⟩; obtain ⟨f1, f2, f3⟩ := box_facts hA HOK.out; rw [HL.out] at f1; obtain ⟨t1, t2⟩ := cell_facts hB hz HOK.out.s; have F := Lib.hid (And.intro f2 (And.intro t1 t2)); have HW := Lib.hid hbw; clear hA hB hz f2 f3 t1 t2 hbw)
      | (refine gate_ (.load 65 (.tmp 5)) rfl ?_; refine wpList_load_mid rfl 65 (.tmp 5) rfl W.heap.size 64 rfl (v8 b.s) _ F.out.1 Try.underlying65 rfl (sz65 HOK.out.s) ?_)
      | (refine gate_ (.store 65 (.tmp 2) (.tmp 6)) rfl ?_; refine wpList_store_mid rfl 65 (.tmp 2) (.tmp 6) rfl (W.heap.size + 1) 0 (v8 b.s).toArray rfl rfl F.out.2.1 (sz65' HOK.out.s) (all_oneCell_toArray (v8_one _)) ?_))
    refine bodyPost_ret (results_cell_row rfl _ _ (W.heap.size + 1) 65 (v8 b.s).toArray (0, 0) _ rfl F.out.2.2 Try.underlying65 rfl (sz65' HOK.out.s)) rfl ?_
    exact ⟨rfl, (Fr.setCells W2 (W.heap.size + 1) 0 _).below HW.out (fun k hk => by omega)⟩
  | false =>
    have hn : b.now = b.d := by unfold Bk.now; rw [hl, if_neg (by decide)]
    rw [hn]
    have HL := Lib.hid hl
    clear hn hl
    go_enter Try.func34, Try.ntmps34
    go_wp2_with (first
      | (refine gate_two (.load 4 (.tmp 3)) rfl ?_; intro W2 hA hB hbw; rw [HBC.out] at hA; obtain ⟨z, hz, hB⟩ : ∃ z : Array Value, z.size = 64 ∧ W2.heap[W.heap.size + 1]? = some (.cells z 65 (0, 0)) := ⟨_, rfl, hB⟩; obtain ⟨f1, f2, f3⟩ := box_facts hA HOK.out; rw [HL.out] at f1; obtain ⟨t1, t2⟩ := cell_facts hB hz HOK.out.d; have F := Lib.hid (And.intro f3 (And.intro t1 t2)); have HW := Lib.hid hbw; clear hA hB hz f2 f3 t1 t2 hbw)
      | (refine gate_ (.load 65 (.tmp 8)) rfl ?_; refine wpList_load_mid rfl 65 (.tmp 8) rfl W.heap.size 0 rfl (v8 b.d) _ F.out.1 Try.underlying65 rfl (sz65 HOK.out.d) ?_)
      | (refine gate_ (.store 65 (.tmp 2) (.tmp 9)) rfl ?_; refine wpList_store_mid rfl 65 (.tmp 2) (.tmp 9) rfl (W.heap.size + 1) 0 (v8 b.d).toArray rfl rfl F.out.2.1 (sz65' HOK.out.d) (all_oneCell_toArray (v8_one _)) ?_))
    refine bodyPost_ret (results_cell_row rfl _ _ (W.heap.size + 1) 65 (v8 b.d).toArray (0, 0) _ rfl F.out.2.2 Try.underlying65 rfl (sz65' HOK.out.d)) rfl ?_
    exact ⟨rfl, (Fr.setCells W2 (W.heap.size + 1) 0 _).below HW.out (fun k hk => by omega)⟩
end
end Go.Proofs.Ytbojokjommmebaa.MoNow
