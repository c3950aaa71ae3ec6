/- The plain law of sets as rows of words; what the printed references answer. -/
import Derived.Test.YtlmkhapejiippaaDoorBiPop
import Derived.Lib.TrailingZeros
namespace Go.Proofs.YtlmkhapejiippaaDoor.BiPure
set_option linter.unusedSimpArgs false
set_option linter.unusedVariables false
open Go.RowKit Go.Proofs.YtlmkhapejiippaaDoorW.PrintWords Go.Proofs.YtlmkhapejiippaaDoorW.PrintLast Go.Proofs.YtlmkhapejiippaaDoorW.PrintMore Go.Proofs.YtlmkhapejiippaaDoor.PBitsPlays Go.Proofs.YtlmkhapejiippaaDoor.BiPop

def bit (ws : List Nat) (k : Nat) : Bool := (ws.getD (k / 64) 0).testBit (k % 64)
/-- A set for n numbers: its words, of which none bears a bit that is no number. -/
structure Ok (n : Nat) (ws : List Nat) : Prop where
  len : ws.length = (n + 63) / 64
  lt : ∀ x ∈ ws, x < 18446744073709551616
  high : ∀ k, n ≤ k → bit ws k = false
  few : n ≤ 4096
/-- The row of answers. -/
def row (n : Nat) (ws : List Nat) : List Bool := (List.range n).map (bit ws)
theorem row_len (n : Nat) (ws : List Nat) : (row n ws).length = n := by simp [row]
theorem row_get (n : Nat) (ws : List Nat) (k : Nat) (h : k < n) : rdOf false (row n ws) (k : Int) = bit ws k := by
  unfold rdOf row
  rw [Int.toNat_natCast, List.getD_eq_getElem?_getD, List.getElem?_map, List.getElem?_range h]; rfl
theorem get_lt {n : Nat} {ws : List Nat} (h : Ok n ws) (i : Nat) : ws.getD i 0 < 18446744073709551616 := by
  rw [List.getD_eq_getElem?_getD]
  cases hi : ws[i]? with
  | none => decide
  | some x => exact h.lt x (List.mem_of_getElem? hi)

/-! ### counting -/
theorem cb_filter : ∀ (m x : Nat), cb m x = ((List.range m).filter fun i => x.testBit i).length
  | 0, x => rfl
  | m + 1, x => by
    rw [List.range_succ_eq_map, List.filter_cons, List.filter_map]
    have ih := cb_filter m (x / 2)
    have e : ((fun i => x.testBit i) ∘ Nat.succ) = fun i => (x / 2).testBit i := by
      funext i; simp [Nat.testBit_succ]
    simp only [cb]
    rw [ih, e, Nat.testBit_zero]
    by_cases h : x % 2 = 1
    · simp [h]; omega
    · have : x % 2 = 0 := by omega
      simp [this]
def cbsum : List Nat → Nat
  | [] => 0
  | x :: r => cb 64 x + cbsum r
theorem bit_cons_lo (x : Nat) (r : List Nat) (k : Nat) (h : k < 64) : bit (x :: r) k = x.testBit k := by
  unfold bit
  rw [show k / 64 = 0 from by omega, show k % 64 = k from by omega]; rfl
theorem bit_cons_hi (x : Nat) (r : List Nat) (k : Nat) : bit (x :: r) (64 + k) = bit r k := by
  unfold bit
  rw [show (64 + k) / 64 = k / 64 + 1 from by omega, show (64 + k) % 64 = k % 64 from by omega]; rfl
theorem cbsum_is : ∀ ws : List Nat, cbsum ws = ((List.range (64 * ws.length)).filter (bit ws)).length
  | [] => rfl
  | x :: r => by
    simp only [cbsum, List.length_cons]
    rw [show 64 * (r.length + 1) = 64 + 64 * r.length from by omega, List.range_add, List.filter_append, List.length_append, cb_filter, cbsum_is r, List.filter_map, List.length_map]
    have e1 : (List.range 64).filter (bit (x :: r)) = (List.range 64).filter fun i => x.testBit i := List.filter_congr fun k hk => bit_cons_lo x r k (List.mem_range.1 hk)
    have e2 : (List.range (64 * r.length)).filter (bit (x :: r) ∘ fun k => 64 + k) = (List.range (64 * r.length)).filter (bit r) := List.filter_congr fun k _ => bit_cons_hi x r k
    rw [e1, e2]
theorem cbsum_row {n : Nat} {ws : List Nat} (h : Ok n ws) : cbsum ws = ((List.range n).filter (bit ws)).length := by
  rw [cbsum_is]
  have hl := h.len
  obtain ⟨d, hd⟩ : ∃ d, 64 * ws.length = n + d := ⟨64 * ws.length - n, by omega⟩
  rw [hd, List.range_add, List.filter_append, List.length_append, List.filter_map, List.length_map]
  have : (List.range d).filter (bit ws ∘ fun x => n + x) = [] := by
    rw [List.filter_eq_nil_iff]
    intro k _
    simp [h.high (n + k) (by omega)]
  rw [this]; rfl
theorem filter_le (n : Nat) (p : Nat → Bool) : ((List.range n).filter p).length ≤ n := by
  have := List.length_filter_le p (List.range n)
  simpa using this
theorem range_filter_succ (p : Nat → Bool) (k : Nat) : (List.range (k + 1)).filter p = (List.range k).filter p ++ (if p k = true then [k] else []) := by
  rw [List.range_succ, List.filter_append]
  congr 1
  by_cases h : p k = true <;> simp [h]

/-! ### seeking -/
/-- The least of so many numbers from one on of which the answer is b. -/
def nx (p : Nat → Bool) (b : Bool) : Nat → Nat → Option Nat
  | 0, _ => none
  | d + 1, s => if p s = b then some s else nx p b d (s + 1)
def ans : Option Nat → Int × Bool
  | none => (0, false)
  | some j => ((j : Int), true)
theorem nx_skip (p : Nat → Bool) (b : Bool) (n : Nat) : ∀ (d k : Nat), (∀ i, k ≤ i → i < k + d → i < n → p i ≠ b) → nx p b (n - k) k = nx p b (n - (k + d)) (k + d)
  | 0, k, _ => rfl
  | d + 1, k, h => by
    by_cases hk : k < n
    · rw [show n - k = (n - (k + 1)) + 1 from by omega]
      simp only [nx]
      rw [if_neg (h k (by omega) (by omega) hk), nx_skip p b n d (k + 1) (fun i h1 h2 h3 => h i (by omega) (by omega) h3), show k + 1 + d = k + (d + 1) from by omega]
    · rw [show n - k = 0 from by omega, show n - (k + (d + 1)) = 0 from by omega]; rfl
theorem nx_hit (p : Nat → Bool) (b : Bool) (n k : Nat) (hk : k < n) (h : p k = b) : nx p b (n - k) k = some k := by
  rw [show n - k = (n - (k + 1)) + 1 from by omega]
  simp only [nx]
  rw [if_pos h]
theorem nx_some (p : Nat → Bool) (b : Bool) : ∀ (d s j : Nat), nx p b d s = some j → s ≤ j ∧ j < s + d ∧ p j = b ∧ ∀ i, s ≤ i → i < j → p i ≠ b
  | 0, s, j, h => by simp [nx] at h
  | d + 1, s, j, h => by
    simp only [nx] at h
    by_cases c : p s = b
    · rw [if_pos c] at h
      obtain rfl := Option.some.inj h
      exact ⟨by omega, by omega, c, fun i h1 h2 => by omega⟩
    · rw [if_neg c] at h
      obtain ⟨h1, h2, h3, h4⟩ := nx_some p b d (s + 1) j h
      refine ⟨by omega, by omega, h3, fun i i1 i2 => ?_⟩
      by_cases e : i = s
      · subst e; exact c
      · exact h4 i (by omega) i2
theorem nx_none (p : Nat → Bool) (b : Bool) : ∀ (d s : Nat), nx p b d s = none → ∀ i, s ≤ i → i < s + d → p i ≠ b
  | 0, s, _ => fun i h1 h2 => by omega
  | d + 1, s, h => by
    simp only [nx] at h
    by_cases c : p s = b
    · rw [if_pos c] at h; cases h
    · rw [if_neg c] at h
      intro i h1 h2
      by_cases e : i = s
      · subst e; exact c
      · exact nx_none p b d (s + 1) h i (by omega) (by omega)
theorem filter_skip (p : Nat → Bool) : ∀ (d j : Nat), (∀ i, j ≤ i → i < j + d → p i = false) → (List.range (j + d)).filter p = (List.range j).filter p
  | 0, j, _ => rfl
  | d + 1, j, h => by
    rw [show j + (d + 1) = (j + d) + 1 from by omega, range_filter_succ, filter_skip p d j (fun i h1 h2 => h i h1 (by omega)), h (j + d) (by omega) (by omega)]
    simp
theorem filter_hit (p : Nat → Bool) (n j i : Nat) (h : nx p true (n - j) j = some i) : (List.range (i + 1)).filter p = (List.range j).filter p ++ [i] ∧ i < n ∧ j ≤ i := by
  obtain ⟨h1, h2, h3, h4⟩ := nx_some p true _ _ _ h
  refine ⟨?_, by omega, h1⟩
  rw [range_filter_succ, if_pos h3]
  congr 1
  have := filter_skip p (i - j) j (fun k k1 k2 => by simpa using h4 k k1 (by omega))
  rwa [show j + (i - j) = i from by omega] at this
theorem filter_end (p : Nat → Bool) (n j : Nat) (hj : j ≤ n) (h : nx p true (n - j) j = none) : (List.range n).filter p = (List.range j).filter p := by
  have := filter_skip p (n - j) j (fun k k1 k2 => by simpa using nx_none p true _ _ h k k1 (by omega))
  rwa [show j + (n - j) = n from by omega] at this

/-! ### a word, turned and moved -/
/-- What is looked at of a word. -/
def turned (b : Bool) (x : Nat) : Nat := if b = true then x else 18446744073709551615 - x
theorem turned_lt (b : Bool) (x : Nat) (h : x < 18446744073709551616) : turned b x < 18446744073709551616 := by unfold turned; split <;> omega
theorem turned_bit (b : Bool) (x i : Nat) (h : x < 18446744073709551616) (hi : i < 64) : (turned b x).testBit i = (x.testBit i == b) := by
  unfold turned
  cases b with
  | true => simp
  | false =>
    have := Nat.testBit_two_pow_sub_succ (n := 64) (x := x) h i
    have e : 18446744073709551615 - x = 2 ^ 64 - (x + 1) := by omega
    rw [if_neg (by decide), e, this]
    simp [hi]
theorem turned_big (b : Bool) (x i : Nat) (h : x < 18446744073709551616) (hi : 64 ≤ i) : (turned b x).testBit i = false := by
  apply Nat.testBit_lt_two_pow
  exact Nat.lt_of_lt_of_le (turned_lt b x h) (Nat.pow_le_pow_right (n := 2) (by decide) hi)
theorem moved_bit (y s i : Nat) : (y / 2 ^ s).testBit i = y.testBit (s + i) := by
  rw [Nat.testBit_div_two_pow, Nat.add_comm]
section
variable {n : Nat} {ws : List Nat}
theorem look_bit (h : Ok n ws) (b : Bool) (k j : Nat) (hj : j < 64 - k % 64) : ((turned b (ws.getD (k / 64) 0)) / 2 ^ (k % 64)).testBit j = (bit ws (k + j) == b) := by
  rw [moved_bit, turned_bit b _ _ (get_lt h _) (by omega)]
  unfold bit
  rw [show (k + j) / 64 = k / 64 from by omega, show (k + j) % 64 = k % 64 + j from by omega]
theorem look_big (h : Ok n ws) (b : Bool) (k j : Nat) (hj : 64 - k % 64 ≤ j) : ((turned b (ws.getD (k / 64) 0)) / 2 ^ (k % 64)).testBit j = false := by
  rw [moved_bit]
  exact turned_big b _ _ (get_lt h _) (by omega)
/-- Nothing in the rest of a word. -/
theorem look_none (h : Ok n ws) (b : Bool) (k : Nat) (hz : (turned b (ws.getD (k / 64) 0)) / 2 ^ (k % 64) = 0) :
    nx (bit ws) b (n - k) k = nx (bit ws) b (n - (k + (64 - k % 64))) (k + (64 - k % 64)) := by
  refine nx_skip _ _ _ _ _ fun i h1 h2 _ => ?_
  have := look_bit h b k (i - k) (by omega)
  rw [hz, Nat.zero_testBit, show k + (i - k) = i from by omega] at this
  intro e
  rw [e] at this
  simp at this
theorem ctz_bit (x : Nat) (h0 : x ≠ 0) (hx : x < 18446744073709551616) : x.testBit (Lib.ctz 64 x) = true ∧ (∀ j, j < Lib.ctz 64 x → x.testBit j = false) ∧ Lib.ctz 64 x < 64 := by
  obtain ⟨m, hm, hlt⟩ := Lib.ctzFrom_spec 64 x (by omega) hx
  have e : Lib.ctz 64 x = Lib.ctzFrom 64 x := by simp [Lib.ctz, h0]
  rw [e]
  generalize Lib.ctzFrom 64 x = t at hm hlt
  refine ⟨?_, fun j hj => ?_, hlt⟩
  · rw [hm, Nat.testBit_two_pow_mul]
    simp
  · rw [hm, Nat.testBit_two_pow_mul]
    simp; omega
/-- The first one in the rest of a word. -/
theorem look_some (h : Ok n ws) (b : Bool) (k : Nat) (hz : (turned b (ws.getD (k / 64) 0)) / 2 ^ (k % 64) ≠ 0) :
    nx (bit ws) b (n - k) k = nx (bit ws) b (n - (k + Lib.ctz 64 ((turned b (ws.getD (k / 64) 0)) / 2 ^ (k % 64)))) (k + Lib.ctz 64 ((turned b (ws.getD (k / 64) 0)) / 2 ^ (k % 64))) ∧
    bit ws (k + Lib.ctz 64 ((turned b (ws.getD (k / 64) 0)) / 2 ^ (k % 64))) = b ∧ Lib.ctz 64 ((turned b (ws.getD (k / 64) 0)) / 2 ^ (k % 64)) < 64 := by
  have hx : (turned b (ws.getD (k / 64) 0)) / 2 ^ (k % 64) < 18446744073709551616 := Nat.lt_of_le_of_lt (Nat.div_le_self _ _) (turned_lt b _ (get_lt h _))
  obtain ⟨c1, c2, c3⟩ := ctz_bit _ hz hx
  generalize ht : Lib.ctz 64 ((turned b (ws.getD (k / 64) 0)) / 2 ^ (k % 64)) = t at c1 c2 c3
  have hlt : t < 64 - k % 64 := by
    apply Classical.byContradiction
    intro hn
    rw [look_big h b k t (by omega)] at c1
    cases c1
  refine ⟨?_, ?_, c3⟩
  · refine nx_skip _ _ _ _ _ fun i h1 h2 _ => ?_
    have := look_bit h b k (i - k) (by omega)
    rw [c2 (i - k) (by omega), show k + (i - k) = i from by omega] at this
    intro e
    rw [e] at this
    simp at this
  · rw [look_bit h b k t hlt] at c1
    simpa using c1
end
end Go.Proofs.YtlmkhapejiippaaDoor.BiPure
