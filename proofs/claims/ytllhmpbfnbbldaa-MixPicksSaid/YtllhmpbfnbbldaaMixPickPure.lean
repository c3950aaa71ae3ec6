/- The plain law of the places that are picked; no conditions but that the numbers fit. -/
import Derived.Test.YtllhmpbfnbbldaaMixUndo
namespace Go.Proofs.Ytllhmpbfnbbldaa.MixPickPure
open Go.RowKit Go.Proofs.YtllhmpbfnbbldaaW.PrintWords Go.Proofs.YtllhmpbfnbbldaaW.PrintLast Go.Proofs.YtllhmpbfnbbldaaW.PrintMore
open Go.Proofs.Ytllhmpbfnbbldaa.PMixPicks Go.Proofs.Ytllhmpbfnbbldaa.MixPure

/-- The place that is picked. -/
def pk (s n k most : Int) : Int := if most < 1 then 0 else wrap64 (Int.tmod (ofN (IntKind.u64.wrap (s + IntKind.u64.wrap k)).toNat n.toNat) (IntKind.u64.wrap most))

theorem wrap_nonneg (x : Int) : 0 ≤ IntKind.u64.wrap x := by rw [IntKind.wrap_u64]; omega
theorem wrap_some (most : Int) (h1 : ¬ most < 1) (h2 : most ≤ 9223372036854775807) : IntKind.u64.wrap most = most := by rw [IntKind.wrap_u64]; omega

theorem pick_is (s n k most : Int) (hn : 0 ≤ n) (h2 : most ≤ 9223372036854775807) : mix_Pick.f s n k most = some (pk s n k most) := by
  unfold mix_Pick.f pk
  by_cases h : most < 1
  · rw [if_pos h, if_pos h]
  · rw [if_neg h, if_neg h]
    have := Of_is (IntKind.u64.wrap (s + IntKind.u64.wrap k)).toNat n.toNat
    rw [Int.toNat_of_nonneg hn, Int.toNat_of_nonneg (wrap_nonneg _)] at this
    rw [this, Option.bind_some, if_neg (by rw [wrap_some most h h2]; omega)]
theorem rpick_is (K : Nat) (hK : 31 < K) (s n k most : Int) (hn : 0 ≤ n) (h2 : most ≤ 9223372036854775807) : springhouseref05_Pick.f K s n k most = some (pk s n k most) := by
  unfold springhouseref05_Pick.f pk
  by_cases h : most < 1
  · rw [if_pos h, if_pos h]
  · rw [if_neg h, if_neg h]
    have := rOf_is K (IntKind.u64.wrap (s + IntKind.u64.wrap k)).toNat n.toNat hK
    rw [Int.toNat_of_nonneg hn, Int.toNat_of_nonneg (wrap_nonneg _)] at this
    rw [this, Option.bind_some, if_neg (by rw [wrap_some most h h2]; omega)]

theorem pk_range (s n k most : Int) (h2 : most ≤ 9223372036854775807) : 0 ≤ pk s n k most ∧ (1 ≤ most → pk s n k most < most) := by
  unfold pk
  by_cases h : most < 1
  · rw [if_pos h]; omega
  · rw [if_neg h, wrap_some most h h2, Int.tmod_eq_emod_of_nonneg (Int.natCast_nonneg _)]
    have a := Int.emod_nonneg (ofN (IntKind.u64.wrap (s + IntKind.u64.wrap k)).toNat n.toNat : Int) (show most ≠ 0 by omega)
    have b := Int.emod_lt_of_pos (ofN (IntKind.u64.wrap (s + IntKind.u64.wrap k)).toNat n.toNat : Int) (show 0 < most by omega)
    generalize (ofN (IntKind.u64.wrap (s + IntKind.u64.wrap k)).toNat n.toNat : Int) % most = z at a b ⊢
    unfold wrap64
    omega

/-- The first so many places from the k-th on. -/
def pks (s n most : Int) : Nat → Nat → List Int
  | 0, _ => []
  | d + 1, k => pk s n k most :: pks s n most d (k + 1)
theorem pks_len (s n most : Int) : ∀ d k, (pks s n most d k).length = d
  | 0, _ => rfl
  | d + 1, k => by simp [pks, pks_len s n most d (k + 1)]

theorem wrap_next (k : Nat) (h : k ≤ 64) : wrap64 ((k : Int) + 1) = ((k + 1 : Nat) : Int) := by unfold wrap64; omega

theorem all_l0 (s n most : Int) (hn : 0 ≤ n) (h2 : most ≤ 9223372036854775807) (top : Nat) (htop : top ≤ 64) (d : Nat) : ∀ (K k : Nat) (l : List Int), k + d = top → d < K → l.length = k →
    mix_All.l0 K s n most l (top : Int) (k : Int) = some (l ++ pks s n most d k) := by
  induction d with
  | zero =>
    intro K k l hk hK hl
    obtain ⟨K, rfl⟩ : ∃ m, K = m + 1 := ⟨K - 1, by omega⟩
    simp only [mix_All.l0]
    rw [if_neg (by omega)]; simp [pks]
  | succ d ih =>
    intro K k l hk hK hl
    obtain ⟨K, rfl⟩ : ∃ m, K = m + 1 := ⟨K - 1, by omega⟩
    simp only [mix_All.l0]
    rw [if_pos (by omega), pick_is s n k most hn h2, Option.bind_some, if_pos (by omega), wrap_next k (by omega), ih K (k + 1) _ (by omega) (by omega) (by simp [hl])]
    simp [pks]
theorem rall_l0 (s n many most : Int) (hn : 0 ≤ n) (h2 : most ≤ 9223372036854775807) (top : Nat) (htop : top ≤ 64) (hmany : (top : Int) = mn (mx many 0) 64) (d : Nat) : ∀ (K k : Nat) (l : List Int), k + d = top → d + 32 < K → l.length = k →
    springhouseref05_All.l0 K s n many most l (k : Int) = some (l ++ pks s n most d k) := by
  unfold mn mx at hmany
  induction d with
  | zero =>
    intro K k l hk hK hl
    obtain ⟨K, rfl⟩ : ∃ m, K = m + 1 := ⟨K - 1, by omega⟩
    simp only [springhouseref05_All.l0]
    by_cases c : (k : Int) < many
    · rw [if_pos c, if_neg (by split at hmany <;> split at hmany <;> omega)]; simp [pks]
    · rw [if_neg c]; simp [pks]
  | succ d ih =>
    intro K k l hk hK hl
    obtain ⟨K, rfl⟩ : ∃ m, K = m + 1 := ⟨K - 1, by omega⟩
    simp only [springhouseref05_All.l0]
    rw [if_pos (by split at hmany <;> split at hmany <;> omega), if_pos (by omega), rpick_is K (by omega) s n k most hn h2, Option.bind_some, if_pos (by omega), wrap_next k (by omega), ih K (k + 1) _ (by omega) (by omega) (by simp [hl])]
    simp [pks]

theorem all_both (s n many most : Int) (hn : 0 ≤ n) (h2 : most ≤ 9223372036854775807) : ∃ l, mix_All.f 100 s n many most = some l ∧ springhouseref05_All.f 100 s n many most = some l ∧ l.length ≤ 64 := by
  obtain ⟨top, htop⟩ := Int.eq_ofNat_of_zero_le (show 0 ≤ mn (mx many 0) 64 from by unfold mn mx; split <;> split <;> omega)
  have h64 : top ≤ 64 := by unfold mn mx at htop; split at htop <;> split at htop <;> omega
  refine ⟨pks s n most top 0, ?_, ?_, by rw [pks_len]; exact h64⟩
  · unfold mix_All.f
    rw [htop]
    exact all_l0 s n most hn h2 top h64 top 100 0 [] (by omega) (by omega) rfl
  · unfold springhouseref05_All.f
    exact rall_l0 s n many most hn h2 top h64 htop.symm top 100 0 [] (by omega) (by omega) rfl

theorem same_l0 (l : List Int) (hl : l.length ≤ 64) (d : Nat) : ∀ (K i : Nat), i + d = l.length → d < K → springhouseref05_Same.l0 K l l (i : Int) = some true := by
  induction d with
  | zero =>
    intro K i hi hK
    obtain ⟨K, rfl⟩ : ∃ m, K = m + 1 := ⟨K - 1, by omega⟩
    simp only [springhouseref05_Same.l0]
    rw [if_neg (by omega)]
  | succ d ih =>
    intro K i hi hK
    obtain ⟨K, rfl⟩ : ∃ m, K = m + 1 := ⟨K - 1, by omega⟩
    simp only [springhouseref05_Same.l0]
    rw [if_pos (by omega), if_pos (by omega), if_pos (by omega), if_pos trivial, wrap_next i (by omega)]
    exact ih K (i + 1) (by omega) (by omega)
theorem same_self (l : List Int) (hl : l.length ≤ 64) : springhouseref05_Same.f 65 l l = some true := by
  unfold springhouseref05_Same.f
  rw [if_pos rfl]
  exact same_l0 l hl l.length 65 0 (by omega) (by omega)
end Go.Proofs.Ytllhmpbfnbbldaa.MixPickPure
