/- What the printed references answer of a set's row; and what putting in and taking out does to it. -/
import Derived.Test.YtlmkhapejiippaaDoorBiPure
namespace Go.Proofs.YtlmkhapejiippaaDoor.BiRef
set_option linter.unusedSimpArgs false
set_option linter.unusedVariables false
open Go.RowKit Go.Proofs.YtlmkhapejiippaaDoorW.PrintWords Go.Proofs.YtlmkhapejiippaaDoorW.PrintLast Go.Proofs.YtlmkhapejiippaaDoorW.PrintMore Go.Proofs.YtlmkhapejiippaaDoor.PBitsPlays Go.Proofs.YtlmkhapejiippaaDoor.BiPop Go.Proofs.YtlmkhapejiippaaDoor.BiPure

section
variable {n : Nat} {ws : List Nat}
theorem wnext (k : Nat) (h : k < 9000000000000000000) : wrap64 ((k : Int) + 1) = ((k + 1 : Nat) : Int) := by unfold wrap64; omega

def hasB (n : Nat) (ws : List Nat) (i : Int) : Bool := decide (0 ≤ i) && (decide (i < n) && bit ws i.toNat)
theorem ref_has (i : Int) : springhouseref06_Has.f (row n ws) i = some (hasB n ws i) := by
  unfold springhouseref06_Has.f hasB
  rw [row_len]
  by_cases c1 : i ≥ 0
  · rw [if_pos c1]
    by_cases c2 : i < (n : Int)
    · rw [if_pos c2, if_pos c1]
      obtain ⟨k, rfl⟩ := Int.eq_ofNat_of_zero_le c1
      rw [row_get n ws k (by omega)]
      simp; omega
    · rw [if_neg c2]; simp; omega
  · rw [if_neg c1]; simp; omega

theorem next_l0 (hn : n ≤ 4096) (b : Bool) : ∀ (d K k : Nat), k + d = n → d < K → springhouseref06_Next.l0 K (row n ws) b (k : Int) = some (ans (nx (bit ws) b d k))
  | 0, K, k, hk, hK => by
    obtain ⟨K, rfl⟩ : ∃ m, K = m + 1 := ⟨K - 1, by omega⟩
    simp only [springhouseref06_Next.l0]
    rw [row_len, if_neg (by omega)]; rfl
  | d + 1, K, k, hk, hK => by
    obtain ⟨K, rfl⟩ : ∃ m, K = m + 1 := ⟨K - 1, by omega⟩
    simp only [springhouseref06_Next.l0]
    rw [row_len, if_pos (by omega), if_pos (by omega), row_get n ws k (by omega)]
    simp only [nx]
    by_cases c : bit ws k = b
    · rw [if_pos (by simpa using c), if_pos c]; rfl
    · rw [if_neg (by simpa using c), if_neg c, wnext k (by omega)]
      exact next_l0 hn b d K (k + 1) (by omega) (by omega)
theorem next_big (b : Bool) (k K : Nat) (h : n ≤ k) : springhouseref06_Next.l0 (K + 1) (row n ws) b (k : Int) = some (0, false) := by
  simp only [springhouseref06_Next.l0]
  rw [row_len, if_neg (by omega)]
/-- Where a search begins. -/
def from0 (i : Int) : Nat := i.toNat
theorem ref_next (hn : n ≤ 4096) (i : Int) (b : Bool) : springhouseref06_Next.f 5000 (row n ws) i b = some (ans (nx (bit ws) b (n - i.toNat) i.toNat)) := by
  unfold springhouseref06_Next.f
  rw [show mx i 0 = (i.toNat : Int) from by unfold mx; split <;> omega]
  by_cases c : i.toNat ≤ n
  · exact next_l0 hn b (n - i.toNat) 5000 i.toNat (by omega) (by omega)
  · rw [show n - i.toNat = 0 from by omega]
    exact next_big b i.toNat 4999 (by omega)

theorem count_l0 (hn : n ≤ 4096) : ∀ (d K k : Nat), k + d = n → d < K → springhouseref06_Count.l0 K (row n ws) ((((List.range k).filter (bit ws)).length : Nat) : Int) (k : Int) = some ((((List.range n).filter (bit ws)).length : Nat) : Int)
  | 0, K, k, hk, hK => by
    obtain ⟨K, rfl⟩ : ∃ m, K = m + 1 := ⟨K - 1, by omega⟩
    simp only [springhouseref06_Count.l0]
    rw [row_len, if_neg (by omega), show k = n from by omega]
  | d + 1, K, k, hk, hK => by
    obtain ⟨K, rfl⟩ : ∃ m, K = m + 1 := ⟨K - 1, by omega⟩
    simp only [springhouseref06_Count.l0]
    have ih := count_l0 hn d K (k + 1) (by omega) (by omega)
    rw [range_filter_succ, List.length_append] at ih
    rw [row_len, if_pos (by omega), if_pos (by omega), row_get n ws k (by omega), wnext k (by omega)]
    have hle := filter_le k (bit ws)
    by_cases c : bit ws k = true
    · rw [if_pos c] at ih ⊢
      rw [wnext _ (by omega)]
      exact ih
    · rw [if_neg c] at ih ⊢
      exact ih
theorem ref_count (hn : n ≤ 4096) : springhouseref06_Count.f 5000 (row n ws) = some ((((List.range n).filter (bit ws)).length : Nat) : Int) := by
  unfold springhouseref06_Count.f
  exact count_l0 hn n 5000 0 (by omega) (by omega)

/-- Those in it. -/
def posl (n : Nat) (ws : List Nat) : List Int := ((List.range n).filter (bit ws)).map fun k : Nat => (k : Int)
theorem posl_succ (k : Nat) : posl (k + 1) ws = posl k ws ++ (if bit ws k = true then [(k : Int)] else []) := by
  unfold posl
  rw [range_filter_succ, List.map_append]
  congr 1
  split <;> rfl
theorem posl_len (k : Nat) : (posl k ws).length ≤ k := by
  unfold posl
  rw [List.length_map]; exact filter_le k _
theorem all_l0 (hn : n ≤ 4096) : ∀ (d K k : Nat), k + d = n → d < K → springhouseref06_All.l0 K (row n ws) (posl k ws) (k : Int) = some (posl n ws)
  | 0, K, k, hk, hK => by
    obtain ⟨K, rfl⟩ : ∃ m, K = m + 1 := ⟨K - 1, by omega⟩
    simp only [springhouseref06_All.l0]
    rw [row_len, if_neg (by omega), show k = n from by omega]
  | d + 1, K, k, hk, hK => by
    obtain ⟨K, rfl⟩ : ∃ m, K = m + 1 := ⟨K - 1, by omega⟩
    simp only [springhouseref06_All.l0]
    have ih := all_l0 hn d K (k + 1) (by omega) (by omega)
    rw [posl_succ] at ih
    have hle := posl_len (ws := ws) k
    rw [row_len, if_pos (by omega), if_pos (by omega), row_get n ws k (by omega), wnext k (by omega)]
    by_cases c : bit ws k = true
    · rw [if_pos c] at ih ⊢
      rw [if_pos (by omega)]
      exact ih
    · rw [if_neg c, List.append_nil] at ih
      rw [if_neg c]
      exact ih
theorem ref_all (hn : n ≤ 4096) : springhouseref06_All.f 5000 (row n ws) = some (posl n ws) := by
  unfold springhouseref06_All.f
  exact all_l0 hn n 5000 0 (by omega) (by omega)

theorem same_l0 (l : List Int) (hl : l.length ≤ 4096) : ∀ (d K i : Nat), i + d = l.length → d < K → springhouseref05_Same.l0 K l l (i : Int) = some true
  | 0, K, i, hi, hK => by
    obtain ⟨K, rfl⟩ : ∃ m, K = m + 1 := ⟨K - 1, by omega⟩
    simp only [springhouseref05_Same.l0]
    rw [if_neg (by omega)]
  | d + 1, K, i, hi, hK => by
    obtain ⟨K, rfl⟩ : ∃ m, K = m + 1 := ⟨K - 1, by omega⟩
    simp only [springhouseref05_Same.l0]
    rw [if_pos (by omega), if_pos (by omega), if_pos (by omega), if_pos trivial, wnext i (by omega)]
    exact same_l0 l hl d K (i + 1) (by omega) (by omega)
theorem same_self (l : List Int) (hl : l.length ≤ 4096) : springhouseref05_Same.f 5000 l l = some true := by
  unfold springhouseref05_Same.f
  rw [if_pos rfl]
  exact same_l0 l hl l.length 5000 0 (by omega) (by omega)

/-! ### putting in, taking out -/
def putW (ws : List Nat) (i : Nat) : List Nat := ws.set (i / 64) (ws.getD (i / 64) 0 ||| 2 ^ (i % 64))
def dropW (ws : List Nat) (i : Nat) : List Nat := ws.set (i / 64) (ws.getD (i / 64) 0 &&& (18446744073709551615 - 2 ^ (i % 64)))
theorem pow_lt (j : Nat) (h : j < 64) : 2 ^ j < 18446744073709551616 := Nat.pow_lt_pow_right (a := 2) (by decide) h
theorem bit_set (ws : List Nat) (j x k : Nat) (h : j < ws.length) : bit (ws.set j x) k = if k / 64 = j then x.testBit (k % 64) else bit ws k := by
  unfold bit
  rw [List.getD_eq_getElem?_getD, List.getElem?_set]
  by_cases c : j = k / 64
  · rw [if_pos c, if_pos h, if_pos c.symm]; rfl
  · rw [if_neg c, if_neg (fun e => c e.symm), List.getD_eq_getElem?_getD]
theorem put_bit (h : Ok n ws) (i k : Nat) (hi : i < n) : bit (putW ws i) k = (decide (k = i) || bit ws k) := by
  have hl := h.len
  unfold putW
  rw [bit_set _ _ _ _ (by omega)]
  by_cases c : k / 64 = i / 64
  · rw [if_pos c, Nat.testBit_or, Nat.testBit_two_pow]
    unfold bit
    rw [c]
    by_cases e : k = i
    · subst e; simp
    · have : ¬ i % 64 = k % 64 := by omega
      simp [this, e]
  · rw [if_neg c]
    have : ¬ k = i := fun e => c (by rw [e])
    simp [this]
theorem drop_bit (h : Ok n ws) (i k : Nat) (hi : i < n) : bit (dropW ws i) k = (!decide (k = i) && bit ws k) := by
  have hl := h.len
  have hp := pow_lt (i % 64) (by omega)
  unfold dropW
  rw [bit_set _ _ _ _ (by omega)]
  by_cases c : k / 64 = i / 64
  · have e1 : 18446744073709551615 - 2 ^ (i % 64) = 2 ^ 64 - (2 ^ (i % 64) + 1) := by omega
    rw [if_pos c, Nat.testBit_and, e1, Nat.testBit_two_pow_sub_succ (n := 64) hp, Nat.testBit_two_pow]
    unfold bit
    rw [c]
    have h64 : k % 64 < 64 := by omega
    by_cases e : k = i
    · subst e; simp
    · have : ¬ i % 64 = k % 64 := by omega
      simp [this, e, h64]
  · rw [if_neg c]
    have : ¬ k = i := fun e => c (by rw [e])
    simp [this]
theorem mem_set {x y : Nat} {j : Nat} (h : x ∈ ws.set j y) : x = y ∨ x ∈ ws := by
  rcases List.mem_or_eq_of_mem_set h with h | h
  · exact .inr h
  · exact .inl h
theorem put_ok (h : Ok n ws) (i : Nat) (hi : i < n) : Ok n (putW ws i) where
  len := by unfold putW; rw [List.length_set]; exact h.len
  lt := by
    intro x hx
    rcases mem_set hx with rfl | hx
    · exact Nat.or_lt_two_pow (n := 64) (get_lt h _) (pow_lt _ (by omega))
    · exact h.lt x hx
  high := fun k hk => by rw [put_bit h i k hi, h.high k hk]; simp; omega
  few := h.few
theorem drop_ok (h : Ok n ws) (i : Nat) (hi : i < n) : Ok n (dropW ws i) where
  len := by unfold dropW; rw [List.length_set]; exact h.len
  lt := by
    intro x hx
    rcases mem_set hx with rfl | hx
    · exact Nat.lt_of_le_of_lt Nat.and_le_left (get_lt h _)
    · exact h.lt x hx
  high := fun k hk => by rw [drop_bit h i k hi, h.high k hk]; simp
  few := h.few
theorem row_ext {l : List Bool} {ws' : List Nat} (hl : l.length = n) (h : ∀ k, k < n → l[k]? = some (bit ws' k)) : row n ws' = l := by
  apply List.ext_getElem?
  intro k
  by_cases hk : k < n
  · rw [h k hk]
    unfold row
    rw [List.getElem?_map, List.getElem?_range hk]; rfl
  · rw [List.getElem?_eq_none (by rw [row_len]; omega), List.getElem?_eq_none (by omega)]
theorem row_at (k : Nat) (h : k < n) : (row n ws)[k]? = some (bit ws k) := by
  unfold row
  rw [List.getElem?_map, List.getElem?_range h]; rfl
theorem put_row (h : Ok n ws) (i : Nat) (hi : i < n) : row n (putW ws i) = (row n ws).set i true := by
  refine row_ext (by rw [List.length_set, row_len]) fun k hk => ?_
  rw [put_bit h i k hi, List.getElem?_set, row_len]
  by_cases c : i = k
  · subst c; simp [hi]
  · have : ¬ k = i := fun e => c e.symm
    rw [if_neg c, row_at k hk]; simp [this]
theorem drop_row (h : Ok n ws) (i : Nat) (hi : i < n) : row n (dropW ws i) = (row n ws).set i false := by
  refine row_ext (by rw [List.length_set, row_len]) fun k hk => ?_
  rw [drop_bit h i k hi, List.getElem?_set, row_len]
  by_cases c : i = k
  · subst c; simp [hi]
  · have : ¬ k = i := fun e => c e.symm
    rw [if_neg c, row_at k hk]; simp [this]
theorem ref_set (hn : n ≤ 4096) (i : Int) (b : Bool) : springhouseref06_Set.f (row n ws) i b = some (if 0 ≤ i ∧ i < n then (row n ws).set i.toNat b else row n ws) := by
  unfold springhouseref06_Set.f
  simp only [Option.bind_some, List.nil_append, List.length_nil, row_len]
  rw [if_pos (by omega)]
  by_cases c1 : i ≥ 0
  · rw [if_pos c1]
    by_cases c2 : i < (n : Int)
    · rw [if_pos c2, if_pos c1, if_pos c2, if_pos ⟨c1, c2⟩]
    · rw [if_neg c2, if_neg (fun h => c2 h.2)]
  · rw [if_neg c1, if_neg (fun h => c1 h.1)]

/-! ### an empty set -/
theorem zero_ok (n : Nat) (hn : n ≤ 4096) : Ok n (List.replicate ((n + 63) / 64) 0) where
  len := by simp
  lt := by intro x hx; rw [List.eq_of_mem_replicate hx]; decide
  high := fun k _ => by
    unfold bit
    rw [List.getD_eq_getElem?_getD, List.getElem?_replicate]
    split <;> simp
  few := hn
theorem zero_row (n : Nat) : row n (List.replicate ((n + 63) / 64) 0) = List.replicate n false := by
  refine row_ext (by simp) fun k hk => ?_
  rw [List.getElem?_replicate, if_pos hk]
  unfold bit
  rw [List.getD_eq_getElem?_getD, List.getElem?_replicate]
  split <;> simp
end
end Go.Proofs.YtlmkhapejiippaaDoor.BiRef
