/- The plain arithmetic of mix: what the printed functions answer, as numbers; no conditions but that the numbers fit. -/
import Derived.Test.YtllhmpbfnbbldaaPMixPicksx1
namespace Go.Proofs.Ytllhmpbfnbbldaa.MixPure
open Go.RowKit Go.Proofs.YtllhmpbfnbbldaaW.PrintWords Go.Proofs.YtllhmpbfnbbldaaW.PrintLast Go.Proofs.YtllhmpbfnbbldaaW.PrintMore
open Go.Proofs.Ytllhmpbfnbbldaa.PMixPicks

def ov (x b : Nat) : Nat := x ^^^ (x >>> b)

theorem shr_lt (x b : Nat) (h : x < 18446744073709551616) : x >>> b < 18446744073709551616 := by
  rw [Nat.shiftRight_eq_div_pow]
  exact Nat.lt_of_le_of_lt (Nat.div_le_self _ _) h
theorem xor_lt (x y : Nat) (hx : x < 18446744073709551616) (hy : y < 18446744073709551616) : x ^^^ y < 18446744073709551616 := Nat.xor_lt_two_pow (n := 64) hx hy
theorem ov_lt (x b : Nat) (h : x < 18446744073709551616) : ov x b < 18446744073709551616 := xor_lt _ _ h (shr_lt _ _ h)

theorem big_bit (x i : Nat) (h : x < 18446744073709551616) (hi : 64 ≤ i) : x.testBit i = false := by
  apply Nat.testBit_lt_two_pow
  exact Nat.lt_of_lt_of_le h (Nat.pow_le_pow_right (n := 2) (by decide) hi)

/-- What undoes it, where thrice the way leads out of the word. -/
def off (x b : Nat) : Nat := x ^^^ ((x ^^^ (x >>> b)) >>> b)
theorem off_lt (x b : Nat) (h : x < 18446744073709551616) : off x b < 18446744073709551616 := xor_lt _ _ h (shr_lt _ _ (ov_lt _ _ h))

theorem off_ov (x b : Nat) (h : x < 18446744073709551616) (hb : 64 ≤ 3 * b) : off (ov x b) b = x := by
  apply Nat.eq_of_testBit_eq
  intro i
  simp only [off, ov, Nat.testBit_xor, Nat.testBit_shiftRight]
  rw [big_bit x (b + (b + (b + i))) h (by omega)]
  cases x.testBit i <;> cases x.testBit (b + i) <;> cases x.testBit (b + (b + i)) <;> rfl
theorem ov_off (x b : Nat) (h : x < 18446744073709551616) (hb : 64 ≤ 3 * b) : ov (off x b) b = x := by
  apply Nat.eq_of_testBit_eq
  intro i
  simp only [off, ov, Nat.testBit_xor, Nat.testBit_shiftRight]
  rw [big_bit x (b + (b + (b + i))) h (by omega)]
  cases x.testBit i <;> cases x.testBit (b + i) <;> cases x.testBit (b + (b + i)) <;> rfl

/-- What a seed makes of a number; and back. -/
def ofN (s n : Nat) : Nat := ov (ov (ov ((n + 11400714819323198485 * s % 18446744073709551616) % 18446744073709551616) 30 * 13787848793156543929 % 18446744073709551616) 27 * 10723151780598845931 % 18446744073709551616) 31
def backN (s x : Nat) : Nat :=
  (off (off (off x 31 * 3573116690164977347 % 18446744073709551616) 27 * 10871156337175269513 % 18446744073709551616) 30 + (18446744073709551616 - 11400714819323198485 * s % 18446744073709551616)) % 18446744073709551616
theorem ofN_lt (s n : Nat) : ofN s n < 18446744073709551616 := ov_lt _ _ (Nat.mod_lt _ (by decide))
theorem backN_lt (s n : Nat) : backN s n < 18446744073709551616 := Nat.mod_lt _ (by decide)

theorem mul_back (x a b : Nat) (hx : x < 18446744073709551616) (h : a * b % 18446744073709551616 = 1) : (x * a % 18446744073709551616) * b % 18446744073709551616 = x := by
  rw [Nat.mul_mod, Nat.mod_mod, ← Nat.mul_mod, Nat.mul_assoc, Nat.mul_mod, h, Nat.mul_one, Nat.mod_mod, Nat.mod_eq_of_lt hx]

theorem back_of (s n : Nat) (hn : n < 18446744073709551616) : backN s (ofN s n) = n := by
  unfold backN ofN
  rw [off_ov _ 31 (Nat.mod_lt _ (by decide)) (by decide), mul_back _ _ _ (ov_lt _ _ (Nat.mod_lt _ (by decide))) (by decide),
    off_ov _ 27 (Nat.mod_lt _ (by decide)) (by decide), mul_back _ _ _ (ov_lt _ _ (Nat.mod_lt _ (by decide))) (by decide),
    off_ov _ 30 (Nat.mod_lt _ (by decide)) (by decide)]
  have h1 : 11400714819323198485 * s % 18446744073709551616 < 18446744073709551616 := Nat.mod_lt _ (by decide)
  generalize 11400714819323198485 * s % 18446744073709551616 = g at h1 ⊢
  omega
theorem of_back (s x : Nat) (hx : x < 18446744073709551616) : ofN s (backN s x) = x := by
  unfold backN ofN
  have h1 : 11400714819323198485 * s % 18446744073709551616 < 18446744073709551616 := Nat.mod_lt _ (by decide)
  generalize 11400714819323198485 * s % 18446744073709551616 = g at h1 ⊢
  have h0 : off (off (off x 31 * 3573116690164977347 % 18446744073709551616) 27 * 10871156337175269513 % 18446744073709551616) 30 < 18446744073709551616 := off_lt _ _ (Nat.mod_lt _ (by decide))
  have h2 : ((off (off (off x 31 * 3573116690164977347 % 18446744073709551616) 27 * 10871156337175269513 % 18446744073709551616) 30 + (18446744073709551616 - g)) % 18446744073709551616 + g) % 18446744073709551616 = off (off (off x 31 * 3573116690164977347 % 18446744073709551616) 27 * 10871156337175269513 % 18446744073709551616) 30 := by
    generalize off (off (off x 31 * 3573116690164977347 % 18446744073709551616) 27 * 10871156337175269513 % 18446744073709551616) 30 = y at h0 ⊢
    omega
  rw [h2, ov_off _ 30 (Nat.mod_lt _ (by decide)) (by decide), mul_back _ _ _ (off_lt _ _ (Nat.mod_lt _ (by decide))) (by decide),
    ov_off _ 27 (Nat.mod_lt _ (by decide)) (by decide), mul_back _ _ _ (off_lt _ _ hx) (by decide), ov_off _ 31 hx (by decide)]

/-! ### the printed functions answer so -/
theorem wrap_nat (n : Nat) : IntKind.u64.wrap (n : Int) = ((n % 18446744073709551616 : Nat) : Int) := by
  rw [IntKind.wrap_u64]; omega
theorem shr_nat (x b : Nat) (hb : b ≤ 64) : shr .u64 (x : Int) (b : Int) = ((x >>> b : Nat) : Int) := by
  unfold shr
  rw [Int.toNat_natCast, Nat.min_eq_left (by simpa [IntKind.bits] using hb), Nat.shiftRight_eq_div_pow]
  simp
theorem over_is (x b : Nat) (hx : x < 18446744073709551616) (hb : b ≤ 64) : mix_over.f (x : Int) (b : Int) = some ((ov x b : Nat) : Int) := by
  unfold mix_over.f
  rw [if_pos (by omega), shr_nat x b hb, bits_xor_u64_nat _ _ hx (shr_lt _ _ hx)]; rfl
theorem wrapF (y : Nat) : IntKind.u64.wrap ((y : Int) * 13787848793156543929) = ((y * 13787848793156543929 % 18446744073709551616 : Nat) : Int) := by rw [IntKind.wrap_u64]; omega
theorem wrapS (y : Nat) : IntKind.u64.wrap ((y : Int) * 10723151780598845931) = ((y * 10723151780598845931 % 18446744073709551616 : Nat) : Int) := by rw [IntKind.wrap_u64]; omega
theorem wrapF' (y : Nat) : IntKind.u64.wrap (13787848793156543929 * (y : Int)) = ((y * 13787848793156543929 % 18446744073709551616 : Nat) : Int) := by rw [IntKind.wrap_u64]; omega
theorem wrapS' (y : Nat) : IntKind.u64.wrap (10723151780598845931 * (y : Int)) = ((y * 10723151780598845931 % 18446744073709551616 : Nat) : Int) := by rw [IntKind.wrap_u64]; omega
theorem wrapG (s n : Nat) : IntKind.u64.wrap ((n : Int) + IntKind.u64.wrap (11400714819323198485 * (s : Int))) = (((n + 11400714819323198485 * s % 18446744073709551616) % 18446744073709551616 : Nat) : Int) := by rw [IntKind.wrap_u64, IntKind.wrap_u64]; omega
theorem over30 (x : Nat) (hx : x < 18446744073709551616) : mix_over.f (x : Int) 30 = some ((ov x 30 : Nat) : Int) := over_is x 30 hx (by decide)
theorem over27 (x : Nat) (hx : x < 18446744073709551616) : mix_over.f (x : Int) 27 = some ((ov x 27 : Nat) : Int) := over_is x 27 hx (by decide)
theorem over31 (x : Nat) (hx : x < 18446744073709551616) : mix_over.f (x : Int) 31 = some ((ov x 31 : Nat) : Int) := over_is x 31 hx (by decide)
theorem Of_is (s n : Nat) : mix_Of.f (s : Int) (n : Int) = some ((ofN s n : Nat) : Int) := by
  unfold mix_Of.f
  rw [wrapG, over30 _ (Nat.mod_lt _ (by decide)), Option.bind_some, wrapF, over27 _ (Nat.mod_lt _ (by decide)), Option.bind_some, wrapS, over31 _ (Nat.mod_lt _ (by decide)), Option.bind_some]
  rfl

theorem half_l0 (d : Nat) : ∀ (k : Nat) (x y b i : Nat), x < 18446744073709551616 → y < 18446744073709551616 → b ≤ 64 → i + d = b → d < k →
    springhouseref05_half.l0 k (x : Int) (b : Int) (y : Int) (i : Int) = some ((x ^^^ (y >>> d) : Nat) : Int) := by
  induction d with
  | zero =>
    intro k x y b i hx hy hb hi hk
    obtain ⟨k, rfl⟩ : ∃ m, k = m + 1 := ⟨k - 1, by omega⟩
    simp only [springhouseref05_half.l0]
    rw [if_neg (by omega), bits_xor_u64_nat _ _ hx hy]; rfl
  | succ d ih =>
    intro k x y b i hx hy hb hi hk
    obtain ⟨k, rfl⟩ : ∃ m, k = m + 1 := ⟨k - 1, by omega⟩
    simp only [springhouseref05_half.l0]
    rw [if_pos (by omega)]
    rw [show IntKind.u64.wrap (Int.tdiv (y : Int) 2) = ((y / 2 : Nat) : Int) from by rw [Int.tdiv_eq_ediv_of_nonneg (by omega), IntKind.wrap_u64]; omega]
    rw [show wrap64 ((i : Int) + 1) = ((i + 1 : Nat) : Int) from by unfold wrap64; omega]
    rw [ih k x (y / 2) b (i + 1) hx (by omega) hb (by omega) (by omega)]
    congr 3
    rw [show d + 1 = 1 + d from by omega, Nat.shiftRight_add]; rfl
theorem half_is (k x b : Nat) (hx : x < 18446744073709551616) (hb : b ≤ 64) (hk : b < k) : springhouseref05_half.f k (x : Int) (b : Int) = some ((ov x b : Nat) : Int) := by
  unfold springhouseref05_half.f
  exact half_l0 b k x x b 0 hx hx hb (by omega) hk
theorem half30 (k x : Nat) (hk : 31 < k) (hx : x < 18446744073709551616) : springhouseref05_half.f k (x : Int) 30 = some ((ov x 30 : Nat) : Int) := half_is k x 30 hx (by decide) (by omega)
theorem half27 (k x : Nat) (hk : 31 < k) (hx : x < 18446744073709551616) : springhouseref05_half.f k (x : Int) 27 = some ((ov x 27 : Nat) : Int) := half_is k x 27 hx (by decide) (by omega)
theorem half31 (k x : Nat) (hk : 31 < k) (hx : x < 18446744073709551616) : springhouseref05_half.f k (x : Int) 31 = some ((ov x 31 : Nat) : Int) := half_is k x 31 hx (by decide) (by omega)
theorem rOf_is (k s n : Nat) (hk : 31 < k) : springhouseref05_Of.f k (s : Int) (n : Int) = some ((ofN s n : Nat) : Int) := by
  unfold springhouseref05_Of.f
  rw [wrapG, half30 k _ hk (Nat.mod_lt _ (by decide)), Option.bind_some, wrapF', half27 k _ hk (Nat.mod_lt _ (by decide)), Option.bind_some, wrapS', half31 k _ hk (Nat.mod_lt _ (by decide)), Option.bind_some]
  rfl

theorem off_is (k x b : Nat) (hx : x < 18446744073709551616) (hb : b < 64) (h2 : 2 * b < 64) (h3 : 64 ≤ 3 * b) (hk : 3 < k) : mix_off.f k (x : Int) (b : Int) = some ((off x b : Nat) : Int) := by
  obtain ⟨k, rfl⟩ : ∃ m, k = m + 3 := ⟨k - 3, by omega⟩
  unfold mix_off.f
  simp only [mix_off.l0]
  rw [if_pos (by omega), if_pos (by omega), show wrap64 ((b : Int) + (b : Int)) = ((2 * b : Nat) : Int) from by unfold wrap64; omega, if_pos (by omega), if_pos (by omega),
    show wrap64 (((2 * b : Nat) : Int) + (b : Int)) = ((3 * b : Nat) : Int) from by unfold wrap64; omega, if_neg (by omega), shr_nat x b (by omega), bits_xor_u64_nat _ _ hx (shr_lt _ _ hx), shr_nat _ b (by omega), bits_xor_u64_nat _ _ hx (shr_lt _ _ (xor_lt _ _ hx (shr_lt _ _ hx)))]
  rfl
end Go.Proofs.Ytllhmpbfnbbldaa.MixPure
