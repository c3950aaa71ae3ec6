/- The state of play: a set and its row. -/
import Derived.Test.YtlmkhapejiippaaDoorBiSame
namespace Go.Proofs.YtlmkhapejiippaaDoor.BiState
set_option linter.unusedSimpArgs false
set_option linter.unusedVariables false
open Go.RowKit Go.Proofs.YtlmkhapejiippaaDoorW.PrintWords Go.Proofs.YtlmkhapejiippaaDoorW.PrintLast Go.Proofs.YtlmkhapejiippaaDoorW.PrintMore Go.Proofs.YtlmkhapejiippaaDoor.PBitsPlays Go.Proofs.YtlmkhapejiippaaDoor.BiPop Go.Proofs.YtlmkhapejiippaaDoor.BiPure Go.Proofs.YtlmkhapejiippaaDoor.BiRef Go.Proofs.YtlmkhapejiippaaDoor.BiCore Go.Proofs.YtlmkhapejiippaaDoor.BiHas Go.Proofs.YtlmkhapejiippaaDoor.BiSeek Go.Proofs.YtlmkhapejiippaaDoor.BiNew Go.Proofs.YtlmkhapejiippaaDoor.BiAll Go.Proofs.YtlmkhapejiippaaDoor.BiList Go.Proofs.YtlmkhapejiippaaDoor.BiSame

theorem below_own {W0 W W' : World} {lb : Nat} (hb : Below W0.heap.size W0 W) (hg : W.grownBy W' (some lb)) (hl : W0.heap.size ≤ lb) : Below W0.heap.size W0 W' where
  os := hg.os.trans hb.os
  tape := hg.tape.trans hb.tape
  output := hg.output.trans hb.output
  size := Nat.le_trans hb.size hg.size
  block := fun k hk => (hg.block k (Nat.lt_of_lt_of_le hk hb.size) (by intro h; injection h with h; omega)).trans (hb.block k hk)

/-- A set, and a row beside it. -/
structure St (W0 w W : World) (sb lb n : Nat) (ws us : List Nat) (v : Value) : Prop where
  set : SetAt W sb lb true n ws
  row : Kd.R Kd.bool 4 W W0.heap.size (fun k => k ≠ lb) v (row n us)
  b0 : Below W0.heap.size W0 W
  grown : w.grownBy W (some lb)
  lb0 : W0.heap.size ≤ lb
  tab : TabAt 0 Lib.deBruijn64tab W0

section
variable {W0 w W W' : World} {sb lb n : Nat} {ws us : List Nat} {v : Value}
theorem St.below (h : St W0 w W sb lb n ws us v) (hb : Below W.heap.size W W') : St W0 w W' sb lb n ws us v where
  set := h.set.below hb
  row := Kd.R_below h.row hb
  b0 := bthen h.b0 (hb.mono h.b0.size |> fun x => hb)
  grown := h.grown.trans ((bgrown hb).but _)
  lb0 := h.lb0
  tab := h.tab
theorem St.changed {ws' : List Nat} (h : St W0 w W sb lb n ws us v) (hs : SetAt W' sb lb true n ws') (hg : W.grownBy W' (some lb)) : St W0 w W' sb lb n ws' us v where
  set := hs
  row := Kd.R_grown h.row hg (fun k hk e => hk (by injection e))
  b0 := below_own h.b0 hg h.lb0
  grown := h.grown.trans hg
  lb0 := h.lb0
  tab := h.tab
theorem St.renew {us' : List Nat} {v' : Value} {ok : Nat → Prop} (h : St W0 w W sb lb n ws us v) (hr : Kd.R Kd.bool 4 W' W.heap.size ok v' (BiPure.row n us')) (hb : Below W.heap.size W W') : St W0 w W' sb lb n ws us' v' where
  set := h.set.below hb
  row := by
    have hl := h.set.lb_lt
    exact Kd.R_lower (Kd.R_mono (Kd.R_bound hr) (fun k hk => by have := hk.2.1; omega)) h.b0.size
  b0 := bthen h.b0 hb
  grown := h.grown.trans ((bgrown hb).but _)
  lb0 := h.lb0
  tab := h.tab
theorem St.tabAt (h : St W0 w W sb lb n ws us v) : TabAt 0 Lib.deBruijn64tab W := tab_below h.tab h.b0
theorem St.form (h : St W0 w W sb lb n ws us v) : ∃ A c, v = .slice A n c ∧ n ≤ c := by
  obtain ⟨A, c, e, h1, _⟩ := Kd.R_reads h.row
  rw [row_len] at e h1
  exact ⟨A, c, e, h1⟩
theorem St.reads {A : Option Addr} {c : Nat} (h : St W0 w W sb lb n ws us (.slice A n c)) : n ≤ c ∧ Kd.C Kd.bool W A (BiPure.row n us).length (BiPure.row n us) := by
  obtain ⟨_, h1, h2⟩ := RC h.row
  rw [row_len] at h1
  exact ⟨h1, h2⟩
theorem St.cell {A : Option Addr} {c : Nat} (h : St W0 w W sb lb n ws us (.slice A n c)) (i : Int) (h0 : 0 ≤ i) (h1 : i < n) : ∃ ad, A = some ad ∧ W.cell? (ad.add i.toNat) = some (.bool (bit us i.toNat)) := by
  have := h.reads.2
  obtain ⟨ad, e, hx⟩ := Kd.at_bool this i h0 (by rw [row_len]; exact h1)
  refine ⟨ad, e, ?_⟩
  obtain ⟨k, rfl⟩ := Int.eq_ofNat_of_zero_le h0
  rw [row_get n us k (by omega)] at hx
  exact hx

/-! ### the calls -/
theorem c10 {A : Option Addr} {c : Nat} (h : St W0 w W sb lb n ws ws (.slice A n c)) (i : Int) : Calls Tryd.prog 10 #[.pointer (some ⟨sb, 0, none⟩), .slice A n c, .int .i64 i] W fun e W' => e = .returned (.bool true) ∧ St W0 w W' sb lb n ws ws (.slice A n c) := by
  have hr := h.reads
  have := same_calls (l := BiPure.row n ws) A c i (by rw [row_len]; exact h.set) h.tabAt hr.2 (by rw [row_len]; exact hr.1) (by rw [row_len])
  rw [row_len] at this
  exact this.mono fun e W' hh => ⟨hh.1, h.below hh.2⟩
theorem c16y (h : St W0 w W sb lb n ws us v) (i : Int) (hin : 0 ≤ i ∧ i < (n : Int)) (hb : hasB n ws i = false) : Calls Tryd.prog 16 #[.pointer (some ⟨sb, 0, none⟩), .int .i64 i] W fun e W' => e = .returned (.bool true) ∧ St W0 w W' sb lb n (putW ws i.toNat) us v :=
  (put_yes h.set i hin hb).mono fun e W' hh => ⟨hh.1, h.changed hh.2.1 hh.2.2⟩
theorem c16n (h : St W0 w W sb lb n ws us v) (i : Int) (hin : ¬(0 ≤ i ∧ i < (n : Int) ∧ hasB n ws i = false)) : Calls Tryd.prog 16 #[.pointer (some ⟨sb, 0, none⟩), .int .i64 i] W fun e W' => e = .returned (.bool false) ∧ St W0 w W' sb lb n ws us v :=
  (put_no h.set i hin).mono fun e W' hh => ⟨hh.1, h.below (below_same hh.2)⟩
theorem c17y (h : St W0 w W sb lb n ws us v) (i : Int) (hb : hasB n ws i = true) : Calls Tryd.prog 17 #[.pointer (some ⟨sb, 0, none⟩), .int .i64 i] W fun e W' => e = .returned (.bool true) ∧ St W0 w W' sb lb n (dropW ws i.toNat) us v :=
  (drop_yes h.set i hb).mono fun e W' hh => ⟨hh.1, h.changed hh.2.1 hh.2.2⟩
theorem c17n (h : St W0 w W sb lb n ws us v) (i : Int) (hb : hasB n ws i = false) : Calls Tryd.prog 17 #[.pointer (some ⟨sb, 0, none⟩), .int .i64 i] W fun e W' => e = .returned (.bool false) ∧ St W0 w W' sb lb n ws us v :=
  (drop_no h.set i hb).mono fun e W' hh => ⟨hh.1, h.below (below_same hh.2)⟩
theorem c13 (h : St W0 w W sb lb n ws us v) : Calls Tryd.prog 13 #[.pointer (some ⟨sb, 0, none⟩)] W fun e W' => (∃ x, e = .returned x) ∧ St W0 w W' sb lb n (List.replicate ws.length 0) us v :=
  (clear_calls h.set).mono fun e W' hh => ⟨hh.1, h.changed hh.2.1 hh.2.2⟩
theorem c22 {A : Option Addr} {c : Nat} (h : St W0 w W sb lb n ws us (.slice A n c)) (i : Int) : Calls Tryd.prog 22 #[.slice A n c, .int .i64 i] W fun e W' => e = .returned (.bool (hasB n us i)) ∧ St W0 w W' sb lb n ws us (.slice A n c) := by
  have hr := h.reads
  have := springhouseref06_Has.calls A c (BiPure.row n us) i _ W hr.2 (by rw [row_len]; exact hr.1) (ref_has i)
  rw [row_len] at this
  exact this.mono fun e W' hh => ⟨hh.1, h.below hh.2.below⟩
def SetPost (W0 w : World) (sb lb n : Nat) (ws us : List Nat) (e : Ending) (W' : World) : Prop := ∃ A c, e = .returned (.slice A n c) ∧ St W0 w W' sb lb n ws us (.slice A n c)
theorem c21 {us' : List Nat} {A : Option Addr} {c : Nat} (h : St W0 w W sb lb n ws us (.slice A n c)) (i : Int) (b : Bool) (hs : springhouseref06_Set.f (BiPure.row n us) i b = some (BiPure.row n us')) : Calls Tryd.prog 21 #[.slice A n c, .int .i64 i, .bool b] W (SetPost W0 w sb lb n ws us') := by
  have hr := h.reads
  have := springhouseref06_Set.calls A c (BiPure.row n us) i b _ W hr.2 (by rw [row_len]; exact hr.1) hs
  rw [row_len] at this
  refine this.mono fun e W' ⟨v', he, h1, h2⟩ => ?_
  have hn := h.renew h1 h2
  obtain ⟨A', c', e', _⟩ := hn.form
  exact ⟨A', c', by rw [he, e'], by rw [← e']; exact hn⟩
theorem info4' : (Tryd.prog.info? 4).map (fun i => (i.zero, i.size, i.bytes)) = some (some (.bool false), 1, 1) := by kernel_rfl
theorem run_row (n : Nat) (hn : n ≤ 4096) (W : World) : (Instr.makeSlice 27 (.int .i64 (n : Int)) (.int .i64 (n : Int))).run Tryd.prog W = .ok (.slice (some ⟨W.heap.size, 0, none⟩) n n) (W.alloc (.cells (madeCells #[.bool false] n) 4)) := by
  obtain ⟨i, hi, h1⟩ := Option.map_eq_some_iff.1 info4'
  simp only [Prod.mk.injEq] at h1
  have := run_make (P := Tryd.prog) W 27 4 i (.bool false) Tryd.underlying27 hi h1.1 .i64 .i64 (n : Int) (n : Int) (by omega) (Int.le_refl _) (by rw [h1.2.2]; omega) (by omega)
  rw [this, h1.2.1]; simp [Value.cells]
theorem row_made (n : Nat) (hn : n ≤ 4096) (W : World) : Kd.R Kd.bool 4 (W.alloc (.cells (madeCells #[.bool false] n) 4)) W.heap.size (fun _ => True) (.slice (some ⟨W.heap.size, 0, none⟩) n n) (BiPure.row n (List.replicate ((n + 63) / 64) 0)) := by
  rw [zero_row]
  refine Kd.R_of_own ⟨by simp [encs], .inr ⟨W.heap.size, n, madeCells #[.bool false] n, by simp, Nat.le_refl _, alloc_at _ _, by simp, by unfold maxLen; omega, by simp [size_madeCells], ?_⟩⟩ (fun _ _ => trivial)
  apply List.ext_getElem?
  intro i
  rw [List.getElem?_take]
  by_cases hi : i < n
  · have h1 : i % 1 = 0 := by omega
    simp [madeCells, encs, hi, h1, List.getElem?_replicate]
  · simp [encs, hi]
end
end Go.Proofs.YtlmkhapejiippaaDoor.BiState
