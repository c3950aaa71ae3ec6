/- A set in memory; the small methods' walks. -/
import Derived.Test.YtlmkhapejiippaaDoorBiRef
import Derived.Shelf.Spec.TrailingZeros
import Derived.Lib.Hide
import Derived.WalkSpells
import Derived.OpenShut
import Derived.Deep.RegionHeld3
import Derived.Deep.QuietTactic
import Derived.BigQuiet
namespace Go.Proofs.YtlmkhapejiippaaDoor.BiCore
set_option linter.unusedSimpArgs false
set_option linter.unusedVariables false
open Go.RowKit Go.Proofs.YtlmkhapejiippaaDoorW.PrintWords Go.Proofs.YtlmkhapejiippaaDoorW.PrintLast Go.Proofs.YtlmkhapejiippaaDoorW.PrintMore Go.Proofs.YtlmkhapejiippaaDoor.PBitsPlays Go.Proofs.YtlmkhapejiippaaDoor.BiPop Go.Proofs.YtlmkhapejiippaaDoor.BiPure Go.Proofs.YtlmkhapejiippaaDoor.BiRef

theorem bdrew {B : Nat} {W w' : World} (h : Below B W w') (n : Nat) : Below B W (w'.drewN n) := by
  induction n with
  | zero => exact h
  | succ n ih => exact ih.drew
theorem bthen {a b c : World} (h : Below a.heap.size a b) (h' : Below b.heap.size b c) : Below a.heap.size a c := h.trans (h'.mono h.size)
theorem bgrown {W w1 : World} (hb : Below W.heap.size W w1) : W.grownBy w1 none := ⟨hb.os, hb.tape, hb.output, hb.size, fun i hi _ => hb.block i hi⟩
theorem cell_lt {w : World} {p : Addr} {v : Value} (h : w.cell? p = some v) : p.block < w.heap.size := by
  apply Classical.byContradiction
  intro hn
  have : w.heap[p.block]? = none := by simp; omega
  simp [World.cell?, this] at h
theorem cell_kept {w w' : World} {lb : Nat} (hg : w.grownBy w' (some lb)) {p : Addr} {v : Value} (h : w.cell? p = some v) (hp : p.block ≠ lb) : w'.cell? p = some v := by
  rw [← h]
  exact World.cell?_of_block (w := w) (hg.block p.block (cell_lt h) (by simpa using hp))

/-- A set at sb, its words at lb. -/
def SetAt (w : World) (sb lb : Nat) (mk : Bool) (n : Nat) (ws : List Nat) : Prop :=
  Ok n ws ∧ sb ≠ lb ∧ ∃ A c, w.cell? ⟨sb, 0, none⟩ = some (.slice A ws.length c) ∧ w.cell? ⟨sb, 1, none⟩ = some (.int .i64 (n : Int)) ∧ w.cell? ⟨sb, 2, none⟩ = some (.bool mk) ∧ ws.length ≤ c ∧ c ≤ maxLen ∧
    ((A = none ∧ ws.length = 0 ∧ mk = false) ∨ (A = some ⟨lb, 0, none⟩ ∧ ∃ cur, w.heap[lb]? = some (.cells cur 51 (0, 0)) ∧ ws.length ≤ cur.size ∧ ∀ i, i < ws.length → cur[i]? = some (.int .u64 ((ws.getD i 0 : Nat) : Int))))
section
variable {w w' : World} {sb lb n : Nat} {mk : Bool} {ws : List Nat}
theorem blk_lt {w : World} {b : Nat} {o} (h : w.heap[b]? = some o) : b < w.heap.size := by
  apply Classical.byContradiction
  intro hn
  have : w.heap[b]? = none := by simp; omega
  rw [this] at h; cases h
theorem SetAt.grown (h : SetAt w sb lb mk n ws) {k : Nat} (hk1 : sb ≠ k) (hk2 : lb ≠ k) (hg : w.grownBy w' (some k)) : SetAt w' sb lb mk n ws := by
  obtain ⟨h1, h2, A, c, c0, c1, c2, h3, h4, h5⟩ := h
  refine ⟨h1, h2, A, c, cell_kept hg c0 hk1, cell_kept hg c1 hk1, cell_kept hg c2 hk1, h3, h4, h5.imp_right fun ⟨hA, cur, hb, hs, hc⟩ => ?_⟩
  exact ⟨hA, cur, by rw [hg.block lb (blk_lt hb) (by simpa using hk2)]; exact hb, hs, hc⟩
theorem SetAt.below (h : SetAt w sb lb mk n ws) (hg : Below w.heap.size w w') : SetAt w' sb lb mk n ws := by
  obtain ⟨h1, h2, A, c, c0, c1, c2, h3, h4, h5⟩ := h
  refine ⟨h1, h2, A, c, by rw [hg.cell (cell_lt c0)]; exact c0, by rw [hg.cell (cell_lt c1)]; exact c1, by rw [hg.cell (cell_lt c2)]; exact c2, h3, h4, h5.imp_right fun ⟨hA, cur, hb, hs, hc⟩ => ?_⟩
  exact ⟨hA, cur, by rw [hg.block lb (blk_lt hb)]; exact hb, hs, hc⟩
theorem SetAt.drewN (h : SetAt w sb lb mk n ws) (k : Nat) : SetAt (w.drewN k) sb lb mk n ws := h.below (bdrew (Below.refl _ _) k)
theorem SetAt.lb_lt (h : SetAt w sb lb true n ws) : lb < w.heap.size := by
  obtain ⟨h1, h2, A, c, c0, c1, c2, h3, h4, h5⟩ := h
  rcases h5 with ⟨_, _, h0⟩ | ⟨hA, cur, hb, hs, hc⟩
  · cases h0
  · exact BiCore.blk_lt hb
theorem SetAt.sb_lt (h : SetAt w sb lb mk n ws) : sb < w.heap.size := by
  obtain ⟨h1, h2, A, c, c0, _⟩ := h
  exact cell_lt c0
/-- The word at an index. -/
theorem SetAt.word (h : SetAt w sb lb mk n ws) : ∃ A c, w.cell? ⟨sb, 0, none⟩ = some (.slice A ws.length c) ∧ w.cell? ⟨sb, 1, none⟩ = some (.int .i64 (n : Int)) ∧ w.cell? ⟨sb, 2, none⟩ = some (.bool mk) ∧ ws.length ≤ c ∧
    ∀ i, i < ws.length → A = some ⟨lb, 0, none⟩ ∧ w.cell? ⟨lb, i, none⟩ = some (.int .u64 ((ws.getD i 0 : Nat) : Int)) ∧ w.frozen? ⟨lb, i, none⟩ = false := by
  obtain ⟨h1, h2, A, c, c0, c1, c2, h3, h4, h5⟩ := h
  refine ⟨A, c, c0, c1, c2, h3, fun i hi => ?_⟩
  rcases h5 with ⟨_, h0, _⟩ | ⟨hA, cur, hb, hs, hc⟩
  · omega
  refine ⟨hA, ?_, ?_⟩
  · rw [cell_of_row w lb i cur 51 (0, 0) hb]; exact hc i hi
  · exact blk_frozen hb _
theorem SetAt.put (h : SetAt w sb lb mk n ws) (i x : Nat) (hi : i < ws.length) (hok : Ok n (ws.set i x)) : SetAt (w.setCell ⟨lb, i, none⟩ (.int .u64 (x : Int))) sb lb mk n (ws.set i x) ∧ w.grownBy (w.setCell ⟨lb, i, none⟩ (.int .u64 (x : Int))) (some lb) := by
  obtain ⟨h1, h2, A, c, c0, c1, c2, h3, h4, h5⟩ := h
  rcases h5 with ⟨_, h0, _⟩ | ⟨hA, cur, hb, hs, hc⟩
  · omega
  have hg : w.grownBy (w.setCells lb i [.int .u64 (x : Int)]) (some lb) := by
    obtain ⟨s1, s2, s3, s4⟩ := setCells_same lb [.int .u64 (x : Int)] i w
    exact ⟨s1, s2, s3, by rw [s4]; exact Nat.le_refl _, fun k _ hk => setCells_far _ _ k (fun he => hk (by rw [he]))⟩
  obtain ⟨cur', e1, e2, e3⟩ := setCells_row [.int .u64 (x : Int)] i w cur hb (by simp; omega)
  refine ⟨⟨hok, h2, A, c, ?_, cell_kept hg c1 h2, cell_kept hg c2 h2, by rw [List.length_set]; exact h3, h4, .inr ⟨hA, cur', e1, by rw [List.length_set, e2]; exact hs, fun j hj => ?_⟩⟩, hg⟩
  · rw [List.length_set]; exact cell_kept hg c0 h2
  · rw [List.length_set] at hj
    have hl := seg_get cur.toList [.int .u64 (x : Int)] i (by simp; omega) j
    rw [← e3] at hl
    rw [← Array.getElem?_toList, hl]
    rw [List.getD_eq_getElem?_getD, List.getElem?_set]
    by_cases c1 : j < i
    · rw [if_pos c1, if_neg (by omega), Array.getElem?_toList, hc j hj, List.getD_eq_getElem?_getD]
    · rw [if_neg c1]
      by_cases c2 : i = j
      · subst c2
        rw [if_pos (by simp), if_pos rfl, if_pos hi]; simp
      · rw [if_neg (by simp; omega), if_neg c2, Array.getElem?_toList, hc j hj, List.getD_eq_getElem?_getD]

set_option maxRecDepth 100000 in
theorem room_nil (i : Int) (w : World) : Calls Tryd.prog 30 #[.pointer none, .int .i64 i] w fun e w' => e = .returned (.bool false) ∧ w' = w := by
  go_enter Tryd.func30, Tryd.ntmps30
  go_wp2
  go_ret
  exact ⟨rfl, rfl⟩
set_option maxRecDepth 100000 in
theorem room_calls (h : SetAt w sb lb mk n ws) (i : Int) : Calls Tryd.prog 30 #[.pointer (some ⟨sb, 0, none⟩), .int .i64 i] w fun e w' => e = .returned (.bool (decide (0 ≤ i) && decide (i < (n : Int)))) ∧ w' = w := by
  obtain ⟨A, c, c0, c1, c2, h3, h5⟩ := h.word
  clear h c0 c2 h3 h5
  by_cases p1 : 0 ≤ i
  · have q1 := decide_eq_true p1
    by_cases p2 : i < (n : Int)
    · have q2 := decide_eq_true p2
      go_enter Tryd.func30, Tryd.ntmps30
      go_wp2
      go_ret
      exact ⟨by simp [*], rfl⟩
    · have q2 := decide_eq_false p2
      go_enter Tryd.func30, Tryd.ntmps30
      go_wp2
      go_ret
      exact ⟨by simp [*], rfl⟩
  · have q1 := decide_eq_false p1
    go_enter Tryd.func30, Tryd.ntmps30
    go_wp2
    go_ret
    exact ⟨by simp [*], rfl⟩
set_option maxRecDepth 100000 in
theorem len_nil (w : World) : Calls Tryd.prog 11 #[.pointer none] w fun e w' => e = .returned (.int .i64 0) ∧ w' = w := by
  go_enter Tryd.func11, Tryd.ntmps11
  go_wp2
  go_ret
  exact ⟨rfl, rfl⟩
set_option maxRecDepth 100000 in
theorem len_calls (h : SetAt w sb lb mk n ws) : Calls Tryd.prog 11 #[.pointer (some ⟨sb, 0, none⟩)] w fun e w' => e = .returned (.int .i64 (n : Int)) ∧ w' = w := by
  obtain ⟨A, c, c0, c1, c2, h3, h5⟩ := h.word
  clear h c0 c2 h3 h5
  go_enter Tryd.func11, Tryd.ntmps11
  go_wp2
  go_ret
  exact ⟨rfl, rfl⟩
end
end Go.Proofs.YtlmkhapejiippaaDoor.BiCore
