/- Read. -/
import Derived.Test.YtbojokjommmebaaMoNow
namespace Go.Proofs.Ytbojokjommmebaa.MoRead
set_option linter.unusedSimpArgs false
set_option linter.unusedVariables false
open Go.RowKit Go.Proofs.YtbojokjommmebaaW.PrintWords Go.Proofs.YtbojokjommmebaaW.PrintLast Go.Proofs.YtbojokjommmebaaW.PrintMore Go.Proofs.Ytbojokjommmebaa.MoMem Go.Proofs.Ytbojokjommmebaa.MoGo Go.Proofs.Ytbojokjommmebaa.MoNow
section
variable {W W' : World} {ab lb : Nat} {bs : List Bk} {S : Nat → Prop}
theorem ready_in {len : Nat} {k : Nat} (h : k < len) : readyE len (k : Int) 1 = 0 := by unfold readyE; rw [if_neg (by omega)]
theorem ready_out {len : Nat} {lba : Int} (h : ¬(0 ≤ lba ∧ lba < (len : Int))) : readyE len lba 1 = 3 := by unfold readyE; rw [if_pos (by omega)]
theorem read_nil (lba : Int) (W : World) : Calls Try.prog 15 #[.pointer none, .int .i64 lba] W fun e W' => e = .returned (.tuple #[.slice none 0 0, .int .i64 2]) ∧ W' = W := by
  have HR := ready_nil lba 1 W
  go_enter Try.func15, Try.ntmps15
  go_wp2_with (go_at_call 28; refine HR.mono ?_; rintro _ _ ⟨rfl, rfl⟩)
  go_ret2
  exact ⟨rfl, rfl⟩
theorem read_out (h : ArrAt W ab lb bs) (lba : Int) (ho : ¬(0 ≤ lba ∧ lba < (bs.length : Int))) : Calls Try.prog 15 #[.pointer (some ⟨ab, 0, none⟩), .int .i64 lba] W fun e W' => e = .returned (.tuple #[.slice none 0 0, .int .i64 3]) ∧ W' = W := by
  have HR := ready_calls h lba 1
  rw [ready_out ho] at HR
  clear h ho
  go_enter Try.func15, Try.ntmps15
  go_wp2_with (go_at_call 28; refine HR.mono ?_; rintro _ _ ⟨rfl, rfl⟩)
  go_ret2
  exact ⟨rfl, rfl⟩
/-- A block made, ahead of an operation: the world gets a name. -/
theorem gate_one {P : Program} {ops : Array Oper} {rest : List Oper} {o : Oper} {a : Act} {Q : Exit → Act → World → Prop} {W : World} {A : Obj} (op : Op) (_ho : o.op = op)
    (h : ∀ W2, W2.heap[W.heap.size]? = some A → Below W.heap.size W W2 → wpList P ops Q (o :: rest) a W2) : wpList P ops Q (o :: rest) a (W.alloc A) :=
  h _ (alloc_at W A) ((Below.refl _ _).alloc (Nat.le_refl _) _)
theorem info5' : (Try.prog.info? 5).map (fun i => (i.zero, i.size, i.bytes)) = some (some (.int .u8 0), 1, 1) := by kernel_rfl
theorem sizeOf5 (w : World) : (Go.sizeOf 5).run Try.prog w = .ok 1 w := by kernel_rfl
def BytesPost (w : World) (l : List Int) (e : Ending) (w' : World) : Prop := ∃ v, e = .returned v ∧ Kd.R (Kd.int .u8) 5 w' w.heap.size (fun _ => True) v l ∧ Below w.heap.size w w'
theorem clone_bytes (g : Nat) (l : List Int) (hl : Sec l) (hb : W.heap[g]? = some (.cells (v8 l).toArray 65 (0, 0))) : Calls Try.prog 35 #[.slice (some ⟨g, 0, none⟩) 64 64] W (BytesPost W l) := by
  obtain ⟨i0, hi, e1⟩ := Option.map_eq_some_iff.1 info5'
  simp only [Prod.mk.injEq] at e1
  refine (Try.slices_CloneBytes i0 (.int .u8 0) 1 1 hi e1.1 e1.2.1 e1.2.2 rfl (by omega) sizeOf5 g 0 64 64 (v8 l) W (by rw [v8_len, hl.len]) (by unfold maxLen; omega) (by omega) ?_ (v8_one l)).mono ?_
  · intro j u hu
    rw [Nat.zero_add, cell_of_row W _ _ _ _ _ hb]; simpa using hu
  · rintro _ w' ⟨v', rfl, ho, hne, hbl⟩
    exact ⟨v', rfl, Kd.R_of_own (enc := Value.int .u8) (by rw [hl.len]; exact ho) (fun _ _ => trivial), hbl⟩
def ReadPost (w : World) (l : List Int) (e : Ending) (w' : World) : Prop := ∃ v, e = .returned (.tuple #[v, .int .i64 0]) ∧ Kd.R (Kd.int .u8) 5 w' w.heap.size (fun _ => True) v l ∧ Below w.heap.size w w'
theorem size69 : (Try.prog.info? 69).map (·.size) = some 129 := by kernel_rfl
set_option maxRecDepth 100000 in
set_option maxHeartbeats 1000000 in
theorem read_ok (h : ArrAt W ab lb bs) (k : Nat) (hk : k < bs.length) : Calls Try.prog 15 #[.pointer (some ⟨ab, 0, none⟩), .int .i64 (k : Int)] W (ReadPost W (bs.getD k zb).now) := by
  have HR := ready_calls h (k : Int) 1
  rw [ready_in hk] at HR
  obtain ⟨c, hc, c0, c1⟩ := h.head
  have r := h.range k hk
  have hok := h.ok k
  generalize bs.getD k zb = b at *
  have HN := Lib.hid (fun W => now_calls b hok W)
  have HRG := Lib.hid r
  have HSZ := Lib.hid (show (Try.prog.info? 69).map (·.size) = some (bcells b).length from by rw [bcells_len hok]; exact size69)
  have HS := Lib.hid hok.now
  have HCL := Lib.hid (fun W2 g hb => clone_bytes (W := W2) g b.now hok.now hb)
  clear h r hok c1
  generalize b.now = l at *
  generalize bs.length = L at *
  go_enter Try.func15, Try.ntmps15
  go_wp2_with (first
    | (go_at_call 28; refine HR.mono ?_; rintro _ W2 ⟨rfl, hw⟩; replace hw := hw.symm; subst hw)
    | (refine gate_ (.load 69 (.tmp 19)) rfl ?_; refine wpList_load_mid rfl 69 (.tmp 19) rfl lb (k * 129) rfl (bcells b) _ HRG.out Try.underlying69 rfl HSZ.out ?_)
    | (go_at_call 34; refine (HN.out _).mono ?_; rintro _ W1 ⟨rfl, hb1⟩; have HB1 := Lib.hid hb1; clear hb1)
    | (refine gate_one (.store 65 (.tmp 7) (.tmp 21)) rfl ?_; intro W2 hB hbw; obtain ⟨z, hz, hB⟩ : ∃ z : Array Value, z.size = 64 ∧ W2.heap[W1.heap.size]? = some (.cells z 65 (0, 0)) := ⟨_, rfl, hB⟩; obtain ⟨t1, t2⟩ := cell_facts hB hz HS.out; have F := Lib.hid (And.intro t1 t2); have HW := Lib.hid hbw; clear hB hz t1 t2 hbw)
    | (refine gate_ (.store 65 (.tmp 7) (.tmp 21)) rfl ?_; refine wpList_store_mid rfl 65 (.tmp 7) (.tmp 21) rfl W1.heap.size 0 (v8 l).toArray rfl rfl F.out.1 (sz65' HS.out) (all_oneCell_toArray (v8_one _)) ?_)
    | (go_at_call 35; refine (HCL.out _ _ F.out.2).mono ?_; rintro _ W4 ⟨v4, rfl, hr4, hb4⟩; have H4 := Lib.hid (And.intro hr4 hb4); clear hr4 hb4))
  go_ret2
  have hb2 := (Fr.setCells W2 W1.heap.size 0 (v8 l)).below (bthen HB1.out HW.out) (fun k hk => by rw [hk]; exact HB1.out.size)
  exact ⟨v4, rfl, Kd.R_lower H4.out.1 hb2.size, bthen hb2 H4.out.2⟩
end
end Go.Proofs.Ytbojokjommmebaa.MoRead
