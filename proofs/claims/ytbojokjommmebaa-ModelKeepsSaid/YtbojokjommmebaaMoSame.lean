/- Same and what it calls. -/
import Derived.Test.YtbojokjommmebaaMoEq
import Derived.Test.YtbojokjommmebaaMoReg
namespace Go.Proofs.Ytbojokjommmebaa.MoSame
set_option linter.unusedSimpArgs false
set_option linter.unusedVariables false
open Go.RowKit Go.Proofs.YtbojokjommmebaaW.PrintWords Go.Proofs.YtbojokjommmebaaW.PrintLast Go.Proofs.YtbojokjommmebaaW.PrintMore Go.Proofs.Ytbojokjommmebaa.PModelPlays Go.Proofs.Ytbojokjommmebaa.MoMem Go.Proofs.Ytbojokjommmebaa.MoGo Go.Proofs.Ytbojokjommmebaa.MoNow Go.Proofs.Ytbojokjommmebaa.MoRead Go.Proofs.Ytbojokjommmebaa.MoPut Go.Proofs.Ytbojokjommmebaa.MoWrite Go.Proofs.Ytbojokjommmebaa.MoLoose Go.Proofs.Ytbojokjommmebaa.MoNew Go.Proofs.Ytbojokjommmebaa.MoCrash Go.Proofs.Ytbojokjommmebaa.MoEq Go.Proofs.Ytbojokjommmebaa.MoReg
/-- Two blocks boxed. -/
structure Boxed (g1 g2 : Nat) (x y : Bk) (w : World) : Prop where
  b1 : w.heap[g1]? = some (.cells (bcells x).toArray 69 (0, 0))
  b2 : w.heap[g2]? = some (.cells (bcells y).toArray 69 (0, 0))
section
variable {g1 g2 : Nat} {x y : Bk} {w w' : World}
theorem Boxed.below (h : Boxed g1 g2 x y w) (hb : Below w.heap.size w w') : Boxed g1 g2 x y w' := ⟨blk_below h.b1 hb, blk_below h.b2 hb⟩
theorem Boxed.drew (h : Boxed g1 g2 x y w) : Boxed g1 g2 x y w.drew := h.below ((Below.refl _ _).drew)
theorem Boxed.drewN (h : Boxed g1 g2 x y w) (n : Nat) : Boxed g1 g2 x y (w.drewN n) := h.below (bdrew (Below.refl _ _) n)
def eqB (x y : Bk) : Bool := decide (x.d = y.d) && ((x.l == y.l) && decide (x.now = y.now))
end
theorem run_load4 (w : World) (g : Nat) (b : Bool) (hc : w.cell? ⟨g, 128, none⟩ = some (.bool b)) : (Instr.loadAt 4 (.pointer (some ⟨g, 128, none⟩))).run Try.prog w = .ok (.bool b) w := by
  simp [Instr.loadAt, Instr.sureAddr, Sem.run_bind, Sem.run_pure, go_sem, hc, Try.underlying4]
theorem size67 : (Try.prog.info? 67).map (·.size) = some 64 := by kernel_rfl
theorem box_all {W2 : World} {g : Nat} {b : Bk} (hA : W2.heap[g]? = some (.cells (bcells b).toArray 69 (0, 0))) : W2.rangeAt g 0 (bcells b) := by
  intro j v hv
  rw [Nat.zero_add, cell_of_row W2 _ _ _ _ _ hA]; simpa using hv
section
variable {g1 g2 : Nat} {x y : Bk}
theorem ld67a (hx : x.Ok) (w : World) (h : Boxed g1 g2 x y w) : (Instr.loadAt 67 (.pointer (some ⟨g1, 0, none⟩))).run Try.prog w = .ok (.agg (v8 x.d).toArray) w :=
  run_loadAt_mid w g1 0 67 (v8 x.d) _ (box_facts h.b1 hx).2.2 Try.underlying67 rfl (by rw [v8_len, hx.d.len]; exact size67)
theorem ld67b (hy : y.Ok) (w : World) (h : Boxed g1 g2 x y w) : (Instr.loadAt 67 (.pointer (some ⟨g2, 0, none⟩))).run Try.prog w = .ok (.agg (v8 y.d).toArray) w :=
  run_loadAt_mid w g2 0 67 (v8 y.d) _ (box_facts h.b2 hy).2.2 Try.underlying67 rfl (by rw [v8_len, hy.d.len]; exact size67)
theorem ld69a (hx : x.Ok) (w : World) (h : Boxed g1 g2 x y w) : (Instr.loadAt 69 (.pointer (some ⟨g1, 0, none⟩))).run Try.prog w = .ok (.agg (bcells x).toArray) w :=
  run_loadAt_mid w g1 0 69 (bcells x) _ (box_all h.b1) Try.underlying69 rfl (by rw [bcells_len hx]; exact size69)
theorem ld69b (hy : y.Ok) (w : World) (h : Boxed g1 g2 x y w) : (Instr.loadAt 69 (.pointer (some ⟨g2, 0, none⟩))).run Try.prog w = .ok (.agg (bcells y).toArray) w :=
  run_loadAt_mid w g2 0 69 (bcells y) _ (box_all h.b2) Try.underlying69 rfl (by rw [bcells_len hy]; exact size69)
theorem ld4a (hx : x.Ok) (w : World) (h : Boxed g1 g2 x y w) : (Instr.loadAt 4 (.pointer (some ⟨g1, 128, none⟩))).run Try.prog w = .ok (.bool x.l) w := run_load4 w g1 x.l (box_facts h.b1 hx).1
theorem ld4b (hy : y.Ok) (w : World) (h : Boxed g1 g2 x y w) : (Instr.loadAt 4 (.pointer (some ⟨g2, 128, none⟩))).run Try.prog w = .ok (.bool y.l) w := run_load4 w g2 y.l (box_facts h.b2 hy).1
end
/-- What a pointer's cells hold. -/
def readV (w : World) (v : Value) (n : Nat) : Array Value :=
  match v with
  | .pointer (some p) => ((List.range n).map fun j => (w.cell? (p.add j)).getD undef).toArray
  | _ => #[]
def fullV (w : World) (v : Value) (n : Nat) : Prop := ∃ (b o : Nat) (cs : List Value), v = .pointer (some ⟨b, o, none⟩) ∧ cs.length = n ∧ w.rangeAt b o cs
theorem readV_is {w : World} {b o : Nat} {cs : List Value} (h : w.rangeAt b o cs) : readV w (.pointer (some ⟨b, o, none⟩)) cs.length = cs.toArray := by
  show ((List.range cs.length).map fun j => (w.cell? ((⟨b, o, none⟩ : Addr).add j)).getD undef).toArray = cs.toArray
  congr 1
  apply List.ext_getElem?
  intro i
  rw [List.getElem?_map]
  by_cases hi : i < cs.length
  · rw [List.getElem?_range hi, Option.map_some, Addr.add_mid, h i _ (List.getElem?_eq_getElem hi), List.getElem?_eq_getElem hi]; rfl
  · rw [List.getElem?_eq_none (by simpa using hi), List.getElem?_eq_none (by omega)]; rfl
theorem op67 (ev : Operand → Value) (dst : Option Tmp) (x : Operand) (ty : TypeId) (pos : String) (after : Array Edge) (guard : Option (Nat × Bool)) (w : World) (h : fullV w (ev x) 64) :
    (execOp ev { dst := dst, op := .load 67 x, type := ty, pos := pos, after := after, guard := guard }).run Try.prog w = .ok (.value (.agg (readV w (ev x) 64))) w := by
  obtain ⟨b, o, cs, e, hl, hr⟩ := h
  have h2 := run_loadVar_mid (P := Try.prog) w b o 67 cs _ hr Try.underlying67 rfl (by rw [hl]; exact size67)
  unfold execOp
  simp only [e, Instr.loadAt, Instr.sureAddr, Sem.run_bind, Sem.run_pure, Result.andThen_ok, h2]
  rw [← hl, readV_is hr]
/-- A region ahead of which two blocks were made: the world gets a name. -/
theorem region_two {P : Program} {id : Nat} {ops : Array Oper} {b : Bool} {Q : Exit → Act → World → Prop} {a : Act} {W : World} {A B : Obj}
    (h : ∀ W2, W2.heap[W.heap.size]? = some A → W2.heap[W.heap.size + 1]? = some B → Below W.heap.size W W2 → (Code.region id ops b).wp P Q a W2) : (Code.region id ops b).wp P Q a ((W.alloc A).alloc B) := by
  refine h _ ?_ ?_ ?_
  · exact blk_alloc (alloc_at W A) B
  · have e : W.heap.size + 1 = (W.alloc A).heap.size := by simp
    rw [e]
    exact alloc_at _ _
  · exact ((Below.refl _ _).alloc (Nat.le_refl _) _).alloc (by simp) _
theorem take64 {a : List Int} (h : Sec a) : List.take 64 (v8 a) = v8 a := List.take_of_length_le (by rw [v8_len, h.len]; exact Nat.le_refl _)
set_option maxRecDepth 100000 in
set_option maxHeartbeats 2000000 in
theorem same1_ne (x y : Bk) (hx : x.Ok) (hy : y.Ok) (W : World) (hd : ¬ x.d = y.d) : Calls Try.prog 33 #[.agg (bcells x).toArray, .agg (bcells y).toArray] W fun e W' => e = .returned (.bool false) ∧ Below W.heap.size W W' := by
  have hdf : decide (x.d = y.d) = false := decide_eq_false hd
  have hq : ∀ w, (binOp .eql 67 (.agg (v8 x.d).toArray) (.agg (v8 y.d).toArray)).run Try.prog w = .ok (.bool false) w := fun w => by rw [eql67 hx.d hy.d w, hdf]
  have HX := Lib.hid hx
  have HY := Lib.hid hy
  have HD := Lib.hid hdf
  obtain ⟨bx, hbx⟩ : ∃ bx, bx = bcells x := ⟨_, rfl⟩
  obtain ⟨by', hby⟩ : ∃ by', by' = bcells y := ⟨_, rfl⟩
  rw [← hbx, ← hby]
  have HBX := Lib.hid hbx
  have HBY := Lib.hid hby
  clear hd hdf hx hy hbx hby hq
  go_enter Try.func33, Try.ntmps33
  go_wp2_with (fail)
  refine region_two ?_
  intro W2 hA hB hbw
  rw [HBX.out] at hA
  rw [HBY.out] at hB
  have S0 : Boxed W.heap.size (W.heap.size + 1) x y W2 := ⟨hA, hB⟩
  have HW := Lib.hid hbw
  clear hA hB hbw
  refine wp_region_held (S := fun w' => Boxed W.heap.size (W.heap.size + 1) x y w') (by kernel_rfl) ?_
  have S1 : Boxed W.heap.size (W.heap.size + 1) x y { W2 with drawn := W2.drawn + 1 } := S0.drew
  refine wpAnyH_take (i := 0) (v := .pointer (some ⟨W.heap.size, 0, none⟩)) rfl (by kernel_rfl) (by kernel_rfl) (by kernel_rfl) (fun _ _ _ h => h) ?hy S1 ?_
  case hy => exact .inl ⟨by kernel_rfl, fun w hS => by simp [execOp, go_sem, Act.eval, Act.put]⟩
  refine wpAnyH_take (i := 1) (v := .agg (v8 x.d).toArray) rfl (by kernel_rfl) (by kernel_rfl) (by kernel_rfl) (fun _ _ _ h => h) ?hy S1 ?_
  case hy => exact yieldsIf_load_mid rfl 67 (.tmp 5) rfl W.heap.size 0 rfl (v8 x.d) _ (fun w hS => (box_facts hS.b1 HX.out).2.2) Try.underlying67 rfl (by rw [v8_len, HX.out.d.len]; exact size67)
  refine wpAnyH_take (i := 2) (v := .pointer (some ⟨(W.heap.size + 1), 0, none⟩)) rfl (by kernel_rfl) (by kernel_rfl) (by kernel_rfl) (fun _ _ _ h => h) ?hy S1 ?_
  case hy => exact .inl ⟨by kernel_rfl, fun w hS => by simp [execOp, go_sem, Act.eval, Act.put]⟩
  refine wpAnyH_take (i := 3) (v := .agg (v8 y.d).toArray) rfl (by kernel_rfl) (by kernel_rfl) (by kernel_rfl) (fun _ _ _ h => h) ?hy S1 ?_
  case hy => exact yieldsIf_load_mid rfl 67 (.tmp 7) rfl (W.heap.size + 1) 0 rfl (v8 y.d) _ (fun w hS => (box_facts hS.b2 HY.out).2.2) Try.underlying67 rfl (by rw [v8_len, HY.out.d.len]; exact size67)
  refine wpAnyH_take (i := 4) (v := .bool false) rfl (by kernel_rfl) (by kernel_rfl) (by kernel_rfl) (fun _ _ _ h => h) ?hy S1 ?_
  case hy => exact .inl ⟨by kernel_rfl, fun w hS => by have e1 := take64 HX.out.d; have e2 := take64 HY.out.d; have e3 := eq65 HX.out.d HY.out.d 9997 w; rw [HD.out] at e3; simp [execOp, go_sem, Act.eval, Act.put, e1, e2, e3]⟩
  refine wpAnyH_take (i := 5) (v := .bool false) rfl (by kernel_rfl) (by kernel_rfl) (by kernel_rfl) (fun _ _ _ h => h) ?hy S1 ?_
  case hy => exact .inl ⟨by kernel_rfl, fun w hS => by simp [execOp, go_sem, Act.eval, Act.put]⟩
  refine wpAnyH_take (i := 6) (v := undef) rfl (by kernel_rfl) (by kernel_rfl) (by kernel_rfl) (fun _ _ _ h => h) ?hy S1 ?_
  case hy => exact .inr ⟨by kernel_rfl, rfl⟩
  refine wpAnyH_take (i := 7) (v := undef) rfl (by kernel_rfl) (by kernel_rfl) (by kernel_rfl) (fun _ _ _ h => h) ?hy S1 ?_
  case hy => exact .inr ⟨by kernel_rfl, rfl⟩
  refine wpAnyH_take (i := 8) (v := undef) rfl (by kernel_rfl) (by kernel_rfl) (by kernel_rfl) (fun _ _ _ h => h) ?hy S1 ?_
  case hy => exact .inr ⟨by kernel_rfl, rfl⟩
  refine wpAnyH_take (i := 9) (v := undef) rfl (by kernel_rfl) (by kernel_rfl) (by kernel_rfl) (fun _ _ _ h => h) ?hy S1 ?_
  case hy => exact .inr ⟨by kernel_rfl, rfl⟩
  refine wpAnyH_take (i := 10) (v := undef) rfl (by kernel_rfl) (by kernel_rfl) (by kernel_rfl) (fun _ _ _ h => h) ?hy S1 ?_
  case hy => exact .inr ⟨by kernel_rfl, rfl⟩
  refine wpAnyH_take (i := 11) (v := .bool false) rfl (by kernel_rfl) (by kernel_rfl) (by kernel_rfl) (fun _ _ _ h => h) ?hy S1 ?_
  case hy => exact .inl ⟨by kernel_rfl, fun w hS => by simp [execOp, go_sem, Act.eval, Act.put]⟩
  refine wpAnyH_take (i := 12) (v := .bool false) rfl (by kernel_rfl) (by kernel_rfl) (by kernel_rfl) (fun _ _ _ h => h) ?hy S1 ?_
  case hy => exact .inl ⟨by kernel_rfl, fun w hS => by simp [execOp, go_sem, Act.eval, Act.put]⟩
  refine wpAnyH_take (i := 13) (v := undef) rfl (by kernel_rfl) (by kernel_rfl) (by kernel_rfl) (fun _ _ _ h => h) ?hy S1 ?_
  case hy => exact .inr ⟨by kernel_rfl, rfl⟩
  refine wpAnyH_take (i := 14) (v := undef) rfl (by kernel_rfl) (by kernel_rfl) (by kernel_rfl) (fun _ _ _ h => h) ?hy S1 ?_
  case hy => exact .inr ⟨by kernel_rfl, rfl⟩
  refine wpAnyH_take (i := 15) (v := undef) rfl (by kernel_rfl) (by kernel_rfl) (by kernel_rfl) (fun _ _ _ h => h) ?hy S1 ?_
  case hy => exact .inr ⟨by kernel_rfl, rfl⟩
  refine wpAnyH_take (i := 16) (v := undef) rfl (by kernel_rfl) (by kernel_rfl) (by kernel_rfl) (fun _ _ _ h => h) ?hy S1 ?_
  case hy => exact .inr ⟨by kernel_rfl, rfl⟩
  refine wpAnyH_take (i := 17) (v := undef) rfl (by kernel_rfl) (by kernel_rfl) (by kernel_rfl) (fun _ _ _ h => h) ?hy S1 ?_
  case hy => exact .inr ⟨by kernel_rfl, rfl⟩
  refine wpAnyH_take (i := 18) (v := .bool false) rfl (by kernel_rfl) (by kernel_rfl) (by kernel_rfl) (fun _ _ _ h => h) ?hy S1 ?_
  case hy => exact .inl ⟨by kernel_rfl, fun w hS => by simp [execOp, go_sem, Act.eval, Act.put]⟩
  refine wpAnyH_take (i := 19) (v := .bool false) rfl (by kernel_rfl) (by kernel_rfl) (by kernel_rfl) (fun _ _ _ h => h) ?hy S1 ?_
  case hy => exact .inl ⟨by kernel_rfl, fun w hS => by simp [execOp, go_sem, Act.eval, Act.put]⟩
  refine wpAnyH_done (by kernel_rfl) ?_ _
  rename_i Q K hK
  refine hK _ _ ?_
  refine wp_ret ?_
  change bodyPost Try.prog Try.f33 (fun e W' => e = Ending.returned (.bool false) ∧ Below W.heap.size W W') Exit.ret _ _
  refine bodyPost_ret (v := .bool false) (by kernel_rfl) (by kernel_rfl) ?_
  exact ⟨rfl, bthen HW.out ((Below.refl _ _).drew)⟩

set_option maxRecDepth 100000 in
set_option maxHeartbeats 2000000 in
theorem same1_nl (x y : Bk) (hx : x.Ok) (hy : y.Ok) (W : World) (hd : x.d = y.d) (hl : (x.l == y.l) = false) : Calls Try.prog 33 #[.agg (bcells x).toArray, .agg (bcells y).toArray] W fun e W' => e = .returned (.bool false) ∧ Below W.heap.size W W' := by
  have hdf : decide (x.d = y.d) = true := decide_eq_true hd
  have hq : ∀ w, (binOp .eql 67 (.agg (v8 x.d).toArray) (.agg (v8 y.d).toArray)).run Try.prog w = .ok (.bool true) w := fun w => by rw [eql67 hx.d hy.d w, hdf]
  have HL := Lib.hid hl
  have HX := Lib.hid hx
  have HY := Lib.hid hy
  have HD := Lib.hid hdf
  obtain ⟨bx, hbx⟩ : ∃ bx, bx = bcells x := ⟨_, rfl⟩
  obtain ⟨by', hby⟩ : ∃ by', by' = bcells y := ⟨_, rfl⟩
  rw [← hbx, ← hby]
  have HBX := Lib.hid hbx
  have HBY := Lib.hid hby
  clear hl hd hdf hx hy hbx hby hq
  go_enter Try.func33, Try.ntmps33
  go_wp2_with (fail)
  refine region_two ?_
  intro W2 hA hB hbw
  rw [HBX.out] at hA
  rw [HBY.out] at hB
  have S0 : Boxed W.heap.size (W.heap.size + 1) x y W2 := ⟨hA, hB⟩
  have HW := Lib.hid hbw
  clear hA hB hbw
  refine wp_region_held (S := fun w' => Boxed W.heap.size (W.heap.size + 1) x y w') (by kernel_rfl) ?_
  have S1 : Boxed W.heap.size (W.heap.size + 1) x y { W2 with drawn := W2.drawn + 1 } := S0.drew
  refine wpAnyH_take (i := 0) (v := .pointer (some ⟨W.heap.size, 0, none⟩)) rfl (by kernel_rfl) (by kernel_rfl) (by kernel_rfl) (fun _ _ _ h => h) ?hy S1 ?_
  case hy => exact .inl ⟨by kernel_rfl, fun w hS => by simp [execOp, go_sem, Act.eval, Act.put]⟩
  refine wpAnyH_take (i := 1) (v := .agg (v8 x.d).toArray) rfl (by kernel_rfl) (by kernel_rfl) (by kernel_rfl) (fun _ _ _ h => h) ?hy S1 ?_
  case hy => exact yieldsIf_load_mid rfl 67 (.tmp 5) rfl W.heap.size 0 rfl (v8 x.d) _ (fun w hS => (box_facts hS.b1 HX.out).2.2) Try.underlying67 rfl (by rw [v8_len, HX.out.d.len]; exact size67)
  refine wpAnyH_take (i := 2) (v := .pointer (some ⟨(W.heap.size + 1), 0, none⟩)) rfl (by kernel_rfl) (by kernel_rfl) (by kernel_rfl) (fun _ _ _ h => h) ?hy S1 ?_
  case hy => exact .inl ⟨by kernel_rfl, fun w hS => by simp [execOp, go_sem, Act.eval, Act.put]⟩
  refine wpAnyH_take (i := 3) (v := .agg (v8 y.d).toArray) rfl (by kernel_rfl) (by kernel_rfl) (by kernel_rfl) (fun _ _ _ h => h) ?hy S1 ?_
  case hy => exact yieldsIf_load_mid rfl 67 (.tmp 7) rfl (W.heap.size + 1) 0 rfl (v8 y.d) _ (fun w hS => (box_facts hS.b2 HY.out).2.2) Try.underlying67 rfl (by rw [v8_len, HY.out.d.len]; exact size67)
  refine wpAnyH_take (i := 4) (v := .bool true) rfl (by kernel_rfl) (by kernel_rfl) (by kernel_rfl) (fun _ _ _ h => h) ?hy S1 ?_
  case hy => exact .inl ⟨by kernel_rfl, fun w hS => by have e1 := take64 HX.out.d; have e2 := take64 HY.out.d; have e3 := eq65 HX.out.d HY.out.d 9997 w; rw [HD.out] at e3; simp [execOp, go_sem, Act.eval, Act.put, e1, e2, e3]⟩
  refine wpAnyH_take (i := 5) (v := .bool true) rfl (by kernel_rfl) (by kernel_rfl) (by kernel_rfl) (fun _ _ _ h => h) ?hy S1 ?_
  case hy => exact .inl ⟨by kernel_rfl, fun w hS => by simp [execOp, go_sem, Act.eval, Act.put]⟩
  refine wpAnyH_take (i := 6) (v := .pointer (some ⟨W.heap.size, 128, none⟩)) rfl (by kernel_rfl) (by kernel_rfl) (by kernel_rfl) (fun _ _ _ h => h) ?hy S1 ?_
  case hy => exact .inl ⟨by kernel_rfl, fun w hS => by simp [execOp, go_sem, Act.eval, Act.put]⟩
  refine wpAnyH_take (i := 7) (v := .bool x.l) rfl (by kernel_rfl) (by kernel_rfl) (by kernel_rfl) (fun _ _ _ h => h) ?hy S1 ?_
  case hy => exact .inl ⟨by kernel_rfl, fun w hS => by have e1 := (box_facts hS.b1 HX.out).1; simp [execOp, go_sem, Act.eval, Act.put, e1]⟩
  refine wpAnyH_take (i := 8) (v := .pointer (some ⟨(W.heap.size + 1), 128, none⟩)) rfl (by kernel_rfl) (by kernel_rfl) (by kernel_rfl) (fun _ _ _ h => h) ?hy S1 ?_
  case hy => exact .inl ⟨by kernel_rfl, fun w hS => by simp [execOp, go_sem, Act.eval, Act.put]⟩
  refine wpAnyH_take (i := 9) (v := .bool y.l) rfl (by kernel_rfl) (by kernel_rfl) (by kernel_rfl) (fun _ _ _ h => h) ?hy S1 ?_
  case hy => exact .inl ⟨by kernel_rfl, fun w hS => by have e1 := (box_facts hS.b2 HY.out).1; simp [execOp, go_sem, Act.eval, Act.put, e1]⟩
  refine wpAnyH_take (i := 10) (v := .bool false) rfl (by kernel_rfl) (by kernel_rfl) (by kernel_rfl) (fun _ _ _ h => h) ?hy S1 ?_
  case hy => exact .inl ⟨by kernel_rfl, fun w hS => by have e1 := HL.out; simp [execOp, go_sem, Act.eval, Act.put, e1]⟩
  refine wpAnyH_take (i := 11) (v := .bool false) rfl (by kernel_rfl) (by kernel_rfl) (by kernel_rfl) (fun _ _ _ h => h) ?hy S1 ?_
  case hy => exact .inl ⟨by kernel_rfl, fun w hS => by simp [execOp, go_sem, Act.eval, Act.put]⟩
  refine wpAnyH_take (i := 12) (v := .bool false) rfl (by kernel_rfl) (by kernel_rfl) (by kernel_rfl) (fun _ _ _ h => h) ?hy S1 ?_
  case hy => exact .inl ⟨by kernel_rfl, fun w hS => by simp [execOp, go_sem, Act.eval, Act.put]⟩
  refine wpAnyH_take (i := 13) (v := undef) rfl (by kernel_rfl) (by kernel_rfl) (by kernel_rfl) (fun _ _ _ h => h) ?hy S1 ?_
  case hy => exact .inr ⟨by kernel_rfl, rfl⟩
  refine wpAnyH_take (i := 14) (v := undef) rfl (by kernel_rfl) (by kernel_rfl) (by kernel_rfl) (fun _ _ _ h => h) ?hy S1 ?_
  case hy => exact .inr ⟨by kernel_rfl, rfl⟩
  refine wpAnyH_take (i := 15) (v := undef) rfl (by kernel_rfl) (by kernel_rfl) (by kernel_rfl) (fun _ _ _ h => h) ?hy S1 ?_
  case hy => exact .inr ⟨by kernel_rfl, rfl⟩
  refine wpAnyH_take (i := 16) (v := undef) rfl (by kernel_rfl) (by kernel_rfl) (by kernel_rfl) (fun _ _ _ h => h) ?hy S1 ?_
  case hy => exact .inr ⟨by kernel_rfl, rfl⟩
  refine wpAnyH_take (i := 17) (v := undef) rfl (by kernel_rfl) (by kernel_rfl) (by kernel_rfl) (fun _ _ _ h => h) ?hy S1 ?_
  case hy => exact .inr ⟨by kernel_rfl, rfl⟩
  refine wpAnyH_take (i := 18) (v := .bool false) rfl (by kernel_rfl) (by kernel_rfl) (by kernel_rfl) (fun _ _ _ h => h) ?hy S1 ?_
  case hy => exact .inl ⟨by kernel_rfl, fun w hS => by simp [execOp, go_sem, Act.eval, Act.put]⟩
  refine wpAnyH_take (i := 19) (v := .bool false) rfl (by kernel_rfl) (by kernel_rfl) (by kernel_rfl) (fun _ _ _ h => h) ?hy S1 ?_
  case hy => exact .inl ⟨by kernel_rfl, fun w hS => by simp [execOp, go_sem, Act.eval, Act.put]⟩
  refine wpAnyH_done (by kernel_rfl) ?_ _
  rename_i Q K hK
  refine hK _ _ ?_
  refine wp_ret ?_
  change bodyPost Try.prog Try.f33 (fun e W' => e = Ending.returned (.bool false) ∧ Below W.heap.size W W') Exit.ret _ _
  refine bodyPost_ret (v := .bool false) (by kernel_rfl) (by kernel_rfl) ?_
  exact ⟨rfl, bthen HW.out ((Below.refl _ _).drew)⟩

structure S33 (W : World) (x y : Bk) (w : World) : Prop where
  b1 : Boxed W.heap.size (W.heap.size + 1) x y w
  bl : Below W.heap.size W w
theorem S33.below {W : World} {x y : Bk} {w w' : World} (h : S33 W x y w) (hb : Below w.heap.size w w') : S33 W x y w' := ⟨h.b1.below hb, bthen h.bl hb⟩
set_option maxRecDepth 100000 in
set_option maxHeartbeats 2000000 in
theorem same1_eq (x y : Bk) (hx : x.Ok) (hy : y.Ok) (W : World) (hd : x.d = y.d) (hl : (x.l == y.l) = true) : Calls Try.prog 33 #[.agg (bcells x).toArray, .agg (bcells y).toArray] W fun e W' => e = .returned (.bool (decide (x.now = y.now))) ∧ Below W.heap.size W W' := by
  have hdf : decide (x.d = y.d) = true := decide_eq_true hd
  have hq : ∀ w, (binOp .eql 67 (.agg (v8 x.d).toArray) (.agg (v8 y.d).toArray)).run Try.prog w = .ok (.bool true) w := fun w => by rw [eql67 hx.d hy.d w, hdf]
  have HL := Lib.hid hl
  have HX := Lib.hid hx
  have HY := Lib.hid hy
  have HD := Lib.hid hdf
  obtain ⟨bx, hbx⟩ : ∃ bx, bx = bcells x := ⟨_, rfl⟩
  obtain ⟨by', hby⟩ : ∃ by', by' = bcells y := ⟨_, rfl⟩
  rw [← hbx, ← hby]
  have HBX := Lib.hid hbx
  have HBY := Lib.hid hby
  clear hl hd hdf hx hy hbx hby hq
  go_enter Try.func33, Try.ntmps33
  go_wp2_with (fail)
  refine region_two ?_
  intro W2 hA hB hbw
  rw [HBX.out] at hA
  rw [HBY.out] at hB
  have S0 : Boxed W.heap.size (W.heap.size + 1) x y W2 := ⟨hA, hB⟩
  have HW := Lib.hid hbw
  clear hA hB hbw
  refine wp_region_held (S := fun w' => S33 W x y w') (by kernel_rfl) ?_
  have S1 : S33 W x y { W2 with drawn := W2.drawn + 1 } := ⟨S0.drew, bthen HW.out ((Below.refl _ _).drew)⟩
  refine wpAnyH_take (i := 0) (v := .pointer (some ⟨W.heap.size, 0, none⟩)) rfl (by kernel_rfl) (by kernel_rfl) (by kernel_rfl) (fun _ _ _ h => h) ?hy S1 ?_
  case hy => exact .inl ⟨by kernel_rfl, fun w hS => by simp [execOp, go_sem, Act.eval, Act.put]⟩
  refine wpAnyH_take (i := 1) (v := .agg (v8 x.d).toArray) rfl (by kernel_rfl) (by kernel_rfl) (by kernel_rfl) (fun _ _ _ h => h) ?hy S1 ?_
  case hy => exact yieldsIf_load_mid rfl 67 (.tmp 5) rfl W.heap.size 0 rfl (v8 x.d) _ (fun w hS => (box_facts hS.b1.b1 HX.out).2.2) Try.underlying67 rfl (by rw [v8_len, HX.out.d.len]; exact size67)
  refine wpAnyH_take (i := 2) (v := .pointer (some ⟨(W.heap.size + 1), 0, none⟩)) rfl (by kernel_rfl) (by kernel_rfl) (by kernel_rfl) (fun _ _ _ h => h) ?hy S1 ?_
  case hy => exact .inl ⟨by kernel_rfl, fun w hS => by simp [execOp, go_sem, Act.eval, Act.put]⟩
  refine wpAnyH_take (i := 3) (v := .agg (v8 y.d).toArray) rfl (by kernel_rfl) (by kernel_rfl) (by kernel_rfl) (fun _ _ _ h => h) ?hy S1 ?_
  case hy => exact yieldsIf_load_mid rfl 67 (.tmp 7) rfl (W.heap.size + 1) 0 rfl (v8 y.d) _ (fun w hS => (box_facts hS.b1.b2 HY.out).2.2) Try.underlying67 rfl (by rw [v8_len, HY.out.d.len]; exact size67)
  refine wpAnyH_take (i := 4) (v := .bool true) rfl (by kernel_rfl) (by kernel_rfl) (by kernel_rfl) (fun _ _ _ h => h) ?hy S1 ?_
  case hy => exact .inl ⟨by kernel_rfl, fun w hS => by have e1 := take64 HX.out.d; have e2 := take64 HY.out.d; have e3 := eq65 HX.out.d HY.out.d 9997 w; rw [HD.out] at e3; simp [execOp, go_sem, Act.eval, Act.put, e1, e2, e3]⟩
  refine wpAnyH_take (i := 5) (v := .bool true) rfl (by kernel_rfl) (by kernel_rfl) (by kernel_rfl) (fun _ _ _ h => h) ?hy S1 ?_
  case hy => exact .inl ⟨by kernel_rfl, fun w hS => by simp [execOp, go_sem, Act.eval, Act.put]⟩
  refine wpAnyH_take (i := 6) (v := .pointer (some ⟨W.heap.size, 128, none⟩)) rfl (by kernel_rfl) (by kernel_rfl) (by kernel_rfl) (fun _ _ _ h => h) ?hy S1 ?_
  case hy => exact .inl ⟨by kernel_rfl, fun w hS => by simp [execOp, go_sem, Act.eval, Act.put]⟩
  refine wpAnyH_take (i := 7) (v := .bool x.l) rfl (by kernel_rfl) (by kernel_rfl) (by kernel_rfl) (fun _ _ _ h => h) ?hy S1 ?_
  case hy => exact .inl ⟨by kernel_rfl, fun w hS => by have e1 := (box_facts hS.b1.b1 HX.out).1; simp [execOp, go_sem, Act.eval, Act.put, e1]⟩
  refine wpAnyH_take (i := 8) (v := .pointer (some ⟨(W.heap.size + 1), 128, none⟩)) rfl (by kernel_rfl) (by kernel_rfl) (by kernel_rfl) (fun _ _ _ h => h) ?hy S1 ?_
  case hy => exact .inl ⟨by kernel_rfl, fun w hS => by simp [execOp, go_sem, Act.eval, Act.put]⟩
  refine wpAnyH_take (i := 9) (v := .bool y.l) rfl (by kernel_rfl) (by kernel_rfl) (by kernel_rfl) (fun _ _ _ h => h) ?hy S1 ?_
  case hy => exact .inl ⟨by kernel_rfl, fun w hS => by have e1 := (box_facts hS.b1.b2 HY.out).1; simp [execOp, go_sem, Act.eval, Act.put, e1]⟩
  refine wpAnyH_take (i := 10) (v := .bool true) rfl (by kernel_rfl) (by kernel_rfl) (by kernel_rfl) (fun _ _ _ h => h) ?hy S1 ?_
  case hy => exact .inl ⟨by kernel_rfl, fun w hS => by have e1 := HL.out; simp [execOp, go_sem, Act.eval, Act.put, e1]⟩
  refine wpAnyH_take (i := 11) (v := .bool true) rfl (by kernel_rfl) (by kernel_rfl) (by kernel_rfl) (fun _ _ _ h => h) ?hy S1 ?_
  case hy => exact .inl ⟨by kernel_rfl, fun w hS => by simp [execOp, go_sem, Act.eval, Act.put]⟩
  refine wpAnyH_take (i := 12) (v := .bool true) rfl (by kernel_rfl) (by kernel_rfl) (by kernel_rfl) (fun _ _ _ h => h) ?hy S1 ?_
  case hy => exact .inl ⟨by kernel_rfl, fun w hS => by simp [execOp, go_sem, Act.eval, Act.put]⟩
  refine wpAnyH_take (i := 13) (v := .agg (bcells x).toArray) rfl (by kernel_rfl) (by kernel_rfl) (by kernel_rfl) (fun _ _ _ h => h) ?hy S1 ?_
  case hy => exact yieldsIf_load_mid (by kernel_rfl) 69 (.tmp 2) rfl W.heap.size 0 (by kernel_rfl) (bcells x) _ (fun w hS => box_all hS.b1.b1) Try.underlying69 rfl (by rw [bcells_len HX.out]; exact size69)
  refine wpAnyH_take (i := 15) (v := .agg (bcells y).toArray) rfl (by kernel_rfl) (by kernel_rfl) (by kernel_rfl) (fun _ _ _ h => h) ?hy S1 ?_
  case hy => exact yieldsIf_load_mid (by kernel_rfl) 69 (.tmp 3) rfl (W.heap.size + 1) 0 (by kernel_rfl) (bcells y) _ (fun w hS => box_all hS.b1.b2) Try.underlying69 rfl (by rw [bcells_len HY.out]; exact size69)
  simp only [Act.put, List.setIfInBounds_toArray, List.set_cons_zero, List.set_cons_succ]
  refine any_call 14 19 34 #[.agg (bcells x).toArray] (by kernel_rfl) (by kernel_rfl) (by kernel_rfl) (by kernel_rfl) (by kernel_rfl) ?_
  refine (now_calls x HX.out _).mono ?_
  rintro e14 w14 ⟨rfl, hb14⟩
  have S2 := S1.below hb14
  refine ⟨_, rfl, S2, ?_⟩
  try simp only [Act.put, List.setIfInBounds_toArray, List.set_cons_zero, List.set_cons_succ]
  refine any_call 16 21 34 #[.agg (bcells y).toArray] (by kernel_rfl) (by kernel_rfl) (by kernel_rfl) (by kernel_rfl) (by kernel_rfl) ?_
  refine (now_calls y HY.out _).mono ?_
  rintro e16 w16 ⟨rfl, hb16⟩
  have SS := S2.below hb16
  refine ⟨_, rfl, SS, ?_⟩
  try simp only [Act.put, List.setIfInBounds_toArray, List.set_cons_zero, List.set_cons_succ]
  refine wpAnyH_take (i := 17) (v := .bool (decide (x.now = y.now))) rfl (by kernel_rfl) (by kernel_rfl) (by kernel_rfl) (fun _ _ _ h => h) ?hy SS ?_
  case hy => exact .inl ⟨by kernel_rfl, fun w hS => by have e3 := eq65 HX.out.now HY.out.now 9998 w; simp [execOp, go_sem, Act.eval, Act.put, e3]⟩
  refine wpAnyH_take (i := 18) (v := .bool (decide (x.now = y.now))) rfl (by kernel_rfl) (by kernel_rfl) (by kernel_rfl) (fun _ _ _ h => h) ?hy SS ?_
  case hy => exact .inl ⟨by kernel_rfl, fun w hS => by simp [execOp, go_sem, Act.eval, Act.put]⟩
  refine wpAnyH_take (i := 19) (v := .bool (decide (x.now = y.now))) rfl (by kernel_rfl) (by kernel_rfl) (by kernel_rfl) (fun _ _ _ h => h) ?hy SS ?_
  case hy => exact .inl ⟨by kernel_rfl, fun w hS => by simp [execOp, go_sem, Act.eval, Act.put]⟩
  refine wpAnyH_done (by kernel_rfl) ?_ _
  rename_i Q K hK
  refine hK _ _ ?_
  refine wp_ret ?_
  change bodyPost Try.prog Try.f33 (fun e W' => e = Ending.returned (.bool (decide (x.now = y.now))) ∧ Below W.heap.size W W') Exit.ret _ _
  refine bodyPost_ret (v := .bool (decide (x.now = y.now))) (by kernel_rfl) (by kernel_rfl) ?_
  exact ⟨rfl, SS.bl⟩

end Go.Proofs.Ytbojokjommmebaa.MoSame
