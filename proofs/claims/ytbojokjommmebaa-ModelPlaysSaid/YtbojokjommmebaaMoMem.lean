/- An array of blocks in memory; the frame. -/
import Derived.Test.YtbojokjommmebaaPModelPlaysx1
import Derived.Test.YtbojokjommmebaaShelf
import Derived.Lib.Hide
import Derived.WalkSpells
import Derived.OpenShut
import Derived.Deep.MidRow
import Derived.Deep.WholeRow
import Derived.Deep.RegionHeld3
import Derived.Deep.QuietTactic
import Derived.BigQuiet
namespace Go.Proofs.Ytbojokjommmebaa.MoMem
set_option linter.unusedSimpArgs false
set_option linter.unusedVariables false
open Go.RowKit Go.Proofs.YtbojokjommmebaaW.PrintWords Go.Proofs.YtbojokjommmebaaW.PrintLast Go.Proofs.YtbojokjommmebaaW.PrintMore

/-! ### the frame -/
/-- All but the blocks of S, and what is new, is as it was. -/
structure Fr (W W' : World) (S : Nat → Prop) : Prop where
  os : W'.os = W.os
  tape : W'.tape = W.tape
  output : W'.output = W.output
  size : W.heap.size ≤ W'.heap.size
  block : ∀ k, k < W.heap.size → ¬ S k → W'.heap[k]? = W.heap[k]?
section
variable {W W' W2 W0 : World} {S S' : Nat → Prop}
theorem Fr.refl (W : World) (S : Nat → Prop) : Fr W W S := ⟨rfl, rfl, rfl, Nat.le_refl _, fun _ _ _ => rfl⟩
theorem Fr.trans (h : Fr W W' S) (h' : Fr W' W2 S') (hs : ∀ k, S' k → S k ∨ W.heap.size ≤ k) : Fr W W2 S where
  os := h'.os.trans h.os
  tape := h'.tape.trans h.tape
  output := h'.output.trans h.output
  size := Nat.le_trans h.size h'.size
  block := fun k hk hn => (h'.block k (Nat.lt_of_lt_of_le hk h.size) (fun h2 => (hs k h2).elim hn (fun h3 => by omega))).trans (h.block k hk hn)
theorem Fr.of_below (h : Below W.heap.size W W') (S : Nat → Prop) : Fr W W' S := ⟨h.os, h.tape, h.output, h.size, fun k hk _ => h.block k hk⟩
theorem Fr.mono (h : Fr W W' S) (hs : ∀ k, S k → S' k) : Fr W W' S' := ⟨h.os, h.tape, h.output, h.size, fun k hk hn => h.block k hk (fun hh => hn (hs k hh))⟩
theorem Fr.then_below (h : Fr W W' S) (hb : Below W'.heap.size W' W2) : Fr W W2 S := h.trans (Fr.of_below hb (fun _ => False)) (fun _ hk => hk.elim)
theorem Fr.below (h : Fr W W' S) (hb : Below W0.heap.size W0 W) (hs : ∀ k, S k → W0.heap.size ≤ k) : Below W0.heap.size W0 W' where
  os := h.os.trans hb.os
  tape := h.tape.trans hb.tape
  output := h.output.trans hb.output
  size := Nat.le_trans hb.size h.size
  block := fun k hk => (h.block k (Nat.lt_of_lt_of_le hk hb.size) (fun h2 => by have := hs k h2; omega)).trans (hb.block k hk)
theorem Fr.setCells (W : World) (b o : Nat) (vs : List Value) : Fr W (W.setCells b o vs) (fun k => k = b) := by
  obtain ⟨s1, s2, s3, s4⟩ := setCells_same b vs o W
  exact ⟨s1, s2, s3, by rw [s4]; exact Nat.le_refl _, fun k _ hk => setCells_far _ _ k hk⟩
theorem blk_in {b : Nat} {o} (h : W.heap[b]? = some o) : b < W.heap.size := by
  apply Classical.byContradiction
  intro hn
  have : W.heap[b]? = none := by simp; omega
  rw [this] at h; cases h
theorem Fr.at {b : Nat} {o} (h : Fr W W' S) (hb : W.heap[b]? = some o) (hn : ¬ S b) : W'.heap[b]? = some o := by rw [h.block b (blk_in hb) hn]; exact hb
theorem bdrew {B : Nat} {W w' : World} (h : Below B W w') (n : Nat) : Below B W (w'.drewN n) := by
  induction n with
  | zero => exact h
  | succ n ih => exact ih.drew
theorem bthen {a b c : World} (h : Below a.heap.size a b) (h' : Below b.heap.size b c) : Below a.heap.size a c := h.trans (h'.mono h.size)
theorem alloc_at (w : World) (o : Obj) : (w.alloc o).heap[w.heap.size]? = some o := Array.getElem?_push_size
theorem cell_lt {w : World} {p : Addr} {v : Value} (h : w.cell? p = some v) : p.block < w.heap.size := by
  apply Classical.byContradiction
  intro hn
  have : w.heap[p.block]? = none := by simp; omega
  simp [World.cell?, this] at h
end

/-! ### blocks -/
structure Bk where
  d : List Int
  s : List Int
  l : Bool
def Bk.now (b : Bk) : List Int := if b.l = true then b.s else b.d
def z64 : List Int := List.replicate 64 0
def zb : Bk := ⟨z64, z64, false⟩
def Bk.settle (b : Bk) : Bk := if b.l = true then ⟨b.s, b.s, false⟩ else b
def byte (x : Int) : Prop := 0 ≤ x ∧ x < 256
structure Sec (l : List Int) : Prop where
  len : l.length = 64
  byte : ∀ x ∈ l, byte x
structure Bk.Ok (b : Bk) : Prop where
  d : Sec b.d
  s : Sec b.s
theorem sec_z64 : Sec z64 := ⟨by simp [z64], fun x hx => by rw [List.eq_of_mem_replicate hx]; exact ⟨by omega, by omega⟩⟩
theorem zb_ok : zb.Ok := ⟨sec_z64, sec_z64⟩
theorem Bk.Ok.now {b : Bk} (h : b.Ok) : Sec b.now := by unfold Bk.now; split; exact h.s; exact h.d
theorem Bk.Ok.settle {b : Bk} (h : b.Ok) : b.settle.Ok := by unfold Bk.settle; split; exact ⟨h.s, h.s⟩; exact h
/-- A sector's cells. -/
def v8 (l : List Int) : List Value := l.map (Value.int .u8)
theorem v8_len (l : List Int) : (v8 l).length = l.length := by simp [v8]
theorem v8_one (l : List Int) : ∀ v ∈ v8 l, v.oneCell' = true := by
  intro v hv
  obtain ⟨x, _, rfl⟩ := List.mem_map.1 hv
  rfl
def bcells (b : Bk) : List Value := v8 b.d ++ (v8 b.s ++ [.bool b.l])
theorem bcells_len {b : Bk} (h : b.Ok) : (bcells b).length = 129 := by simp [bcells, v8_len, h.d.len, h.s.len]
theorem bcells_d {b : Bk} (h : b.Ok) (j : Nat) (hj : j < 64) : (bcells b)[j]? = (v8 b.d)[j]? := by
  unfold bcells
  rw [List.getElem?_append_left (by rw [v8_len, h.d.len]; exact hj)]
theorem bcells_s {b : Bk} (h : b.Ok) (j : Nat) (hj : j < 64) : (bcells b)[64 + j]? = (v8 b.s)[j]? := by
  unfold bcells
  rw [List.getElem?_append_right (by rw [v8_len, h.d.len]; omega), v8_len, h.d.len, show 64 + j - 64 = j from by omega, List.getElem?_append_left (by rw [v8_len, h.s.len]; exact hj)]
theorem bcells_l {b : Bk} (h : b.Ok) : (bcells b)[128]? = some (.bool b.l) := by
  unfold bcells
  rw [List.getElem?_append_right (by rw [v8_len, h.d.len]; omega), v8_len, h.d.len, List.getElem?_append_right (by rw [v8_len, h.s.len]; omega), v8_len, h.s.len]; rfl

/-- An array at ab, its blocks at lb. -/
structure ArrAt (W : World) (ab lb : Nat) (bs : List Bk) : Prop where
  ne : ab ≠ lb
  few : bs.length ≤ 512
  hd : ∃ c, bs.length ≤ c ∧ c ≤ maxLen ∧ W.heap[ab]? = some (.cells #[.slice (some ⟨lb, 0, none⟩) bs.length c, .bool true] 58 (0, 0))
  row : ∃ cur, W.heap[lb]? = some (.cells cur 69 (0, 0)) ∧ bs.length * 129 ≤ cur.size ∧ ∀ i, i < bs.length → (bs.getD i zb).Ok ∧ ∀ j, j < 129 → cur[i * 129 + j]? = (bcells (bs.getD i zb))[j]?
section
variable {W W' : World} {ab lb : Nat} {bs : List Bk} {S : Nat → Prop}
theorem ArrAt.fr (h : ArrAt W ab lb bs) (hf : Fr W W' S) (h1 : ¬ S ab) (h2 : ¬ S lb) : ArrAt W' ab lb bs := by
  obtain ⟨c, hc1, hc2, hc3⟩ := h.hd
  obtain ⟨cur, hr1, hr2, hr3⟩ := h.row
  exact ⟨h.ne, h.few, ⟨c, hc1, hc2, hf.at hc3 h1⟩, ⟨cur, hf.at hr1 h2, hr2, hr3⟩⟩
theorem ArrAt.below (h : ArrAt W ab lb bs) (hb : Below W.heap.size W W') : ArrAt W' ab lb bs := h.fr (Fr.of_below hb (fun _ => False)) (fun h => h) (fun h => h)
theorem ArrAt.ok (h : ArrAt W ab lb bs) (i : Nat) : (bs.getD i zb).Ok := by
  obtain ⟨cur, hr1, hr2, hr3⟩ := h.row
  by_cases hi : i < bs.length
  · exact (hr3 i hi).1
  · rw [List.getD_eq_getElem?_getD, List.getElem?_eq_none (by omega)]; exact zb_ok
theorem ArrAt.ab_lt (h : ArrAt W ab lb bs) : ab < W.heap.size := by obtain ⟨c, _, _, hc⟩ := h.hd; exact blk_in hc
theorem ArrAt.lb_lt (h : ArrAt W ab lb bs) : lb < W.heap.size := by obtain ⟨c, hc, _⟩ := h.row; exact blk_in hc
theorem ArrAt.head (h : ArrAt W ab lb bs) : ∃ c, bs.length ≤ c ∧ W.cell? ⟨ab, 0, none⟩ = some (.slice (some ⟨lb, 0, none⟩) bs.length c) ∧ W.cell? ⟨ab, 1, none⟩ = some (.bool true) := by
  obtain ⟨c, hc1, hc2, hc3⟩ := h.hd
  exact ⟨c, hc1, by rw [cell_of_row W _ _ _ _ _ hc3]; rfl, by rw [cell_of_row W _ _ _ _ _ hc3]; rfl⟩
/-- The cells of block i. -/
theorem ArrAt.at (h : ArrAt W ab lb bs) (i : Nat) (hi : i < bs.length) : ∀ j, j < 129 → W.cell? ⟨lb, i * 129 + j, none⟩ = (bcells (bs.getD i zb))[j]? := by
  obtain ⟨cur, hr1, hr2, hr3⟩ := h.row
  intro j hj
  rw [cell_of_row W _ _ _ _ _ hr1]
  exact (hr3 i hi).2 j hj
theorem ArrAt.range (h : ArrAt W ab lb bs) (i : Nat) (hi : i < bs.length) : W.rangeAt lb (i * 129) (bcells (bs.getD i zb)) := by
  intro j v hv
  have hl := bcells_len (h.ok i)
  have hj := (List.getElem?_eq_some_iff.1 hv).1
  rw [h.at i hi j (by omega)]; exact hv
theorem ArrAt.range_d (h : ArrAt W ab lb bs) (i : Nat) (hi : i < bs.length) : W.rangeAt lb (i * 129) (v8 (bs.getD i zb).d) := by
  intro j v hv
  have hj : j < 64 := by have := (List.getElem?_eq_some_iff.1 hv).1; rw [v8_len, (h.ok i).d.len] at this; exact this
  rw [h.at i hi j (by omega), bcells_d (h.ok i) j hj]; exact hv
theorem ArrAt.range_s (h : ArrAt W ab lb bs) (i : Nat) (hi : i < bs.length) : W.rangeAt lb (i * 129 + 64) (v8 (bs.getD i zb).s) := by
  intro j v hv
  have hj : j < 64 := by have := (List.getElem?_eq_some_iff.1 hv).1; rw [v8_len, (h.ok i).s.len] at this; exact this
  rw [Nat.add_assoc, h.at i hi (64 + j) (by omega), bcells_s (h.ok i) j hj]; exact hv
theorem ArrAt.loose (h : ArrAt W ab lb bs) (i : Nat) (hi : i < bs.length) : W.cell? ⟨lb, i * 129 + 128, none⟩ = some (.bool (bs.getD i zb).l) := by
  rw [h.at i hi 128 (by omega), bcells_l (h.ok i)]
theorem ArrAt.froz (h : ArrAt W ab lb bs) (o : Nat) : W.frozen? ⟨lb, o, none⟩ = false := by
  obtain ⟨cur, hr1, hr2, hr3⟩ := h.row
  exact blk_frozen hr1 _
theorem ArrAt.there (h : ArrAt W ab lb bs) (i : Nat) (hi : i < bs.length) (o n : Nat) (hn : o + n ≤ 129) : W.there lb (i * 129 + o) n := by
  intro j hj
  refine ⟨?_, h.froz _⟩
  have hl := bcells_len (h.ok i)
  rw [Nat.add_assoc, h.at i hi (o + j) (by omega), List.getElem?_eq_getElem (by omega)]; rfl
/-- A run of cells of block i is written. -/
theorem ArrAt.put (h : ArrAt W ab lb bs) (i o : Nat) (seg : List Value) (b : Bk) (hi : i < bs.length) (hb : b.Ok) (ho : o + seg.length ≤ 129)
    (hseg : ∀ j, j < 129 → (bcells b)[j]? = if j < o then (bcells (bs.getD i zb))[j]? else if j < o + seg.length then seg[j - o]? else (bcells (bs.getD i zb))[j]?) :
    ArrAt (W.setCells lb (i * 129 + o) seg) ab lb (bs.set i b) := by
  have hf := Fr.setCells W lb (i * 129 + o) seg
  obtain ⟨c, hc1, hc2, hc3⟩ := h.hd
  obtain ⟨cur, hr1, hr2, hr3⟩ := h.row
  have hsz : i * 129 + o + seg.length ≤ cur.size := by
    have : (i + 1) * 129 ≤ bs.length * 129 := Nat.mul_le_mul_right _ hi
    omega
  obtain ⟨cur', e1, e2, e3⟩ := setCells_row seg (i * 129 + o) W cur hr1 hsz
  refine ⟨h.ne, by rw [List.length_set]; exact h.few, ⟨c, by rw [List.length_set]; exact hc1, hc2, by rw [List.length_set]; exact hf.at hc3 h.ne⟩, ⟨cur', e1, by rw [List.length_set, e2]; exact hr2, fun k hk => ?_⟩⟩
  rw [List.length_set] at hk
  have hget : (bs.set i b).getD k zb = if i = k then b else bs.getD k zb := by
    rw [List.getD_eq_getElem?_getD, List.getElem?_set]
    by_cases e : i = k
    · subst e; simp [hi]
    · rw [if_neg e, if_neg e, List.getD_eq_getElem?_getD]
  rw [hget]
  by_cases e : i = k
  · subst e
    rw [if_pos rfl]
    refine ⟨hb, fun j hj => ?_⟩
    rw [← Array.getElem?_toList, e3, seg_get cur.toList seg (i * 129 + o) (by simpa using hsz) (i * 129 + j), hseg j hj]
    by_cases c1 : j < o
    · rw [if_pos (by omega), if_pos c1, Array.getElem?_toList]; exact (hr3 i hi).2 j hj
    · rw [if_neg (by omega), if_neg c1]
      by_cases c2 : j < o + seg.length
      · rw [if_pos (by omega), if_pos c2]; congr 1; omega
      · rw [if_neg (by omega), if_neg c2, Array.getElem?_toList]; exact (hr3 i hi).2 j hj
  · rw [if_neg e]
    refine ⟨(hr3 k hk).1, fun j hj => ?_⟩
    rw [← Array.getElem?_toList, e3, seg_get cur.toList seg (i * 129 + o) (by simpa using hsz) (k * 129 + j)]
    by_cases c1 : k < i
    · rw [if_pos (by omega), Array.getElem?_toList]; exact (hr3 k hk).2 j hj
    · rw [if_neg (by omega), if_neg (by omega), Array.getElem?_toList]; exact (hr3 k hk).2 j hj
end
end Go.Proofs.Ytbojokjommmebaa.MoMem
