/- The plain arithmetic of counting bits; no program in sight. -/
import Derived.Test.YtlmkhapejiippaaDoorPBitsPlaysx1
namespace Go.Proofs.YtlmkhapejiippaaDoor.BiPop
set_option linter.unusedSimpArgs false
set_option linter.unusedVariables false

/-- How many of the lowest m bits are set. -/
def cb : Nat → Nat → Nat
  | 0, _ => 0
  | m + 1, x => x % 2 + cb m (x / 2)
/-- A number of its octets, the lowest first. -/
def val : List Nat → Nat
  | [] => 0
  | b :: r => b + 256 * val r

theorem and_cons (a m r s : Nat) (ha : a < 256) (hm : m < 256) : (a + 256 * r) &&& (m + 256 * s) = (a &&& m) + 256 * (r &&& s) := by
  have h1 : ((a + 256 * r) &&& (m + 256 * s)) % 2 ^ 8 = (a &&& m) := by
    rw [Nat.and_mod_two_pow]
    congr 1 <;> omega
  have h2 : ((a + 256 * r) &&& (m + 256 * s)) / 2 ^ 8 = (r &&& s) := by
    rw [Nat.and_div_two_pow]
    congr 1 <;> omega
  omega

def small (l : List Nat) : Prop := ∀ b ∈ l, b < 256
theorem val_lt : ∀ (l : List Nat), small l → val l < 256 ^ l.length
  | [], _ => by simp [val]
  | b :: r, h => by
    have h1 := h b (by simp)
    have h2 := val_lt r (fun x hx => h x (by simp [hx]))
    simp only [val, List.length_cons, Nat.pow_succ]
    omega
theorem and_const (c : Nat) (hc : c < 256) : ∀ (l : List Nat), small l → val l &&& val (l.map fun _ => c) = val (l.map fun b => b &&& c)
  | [], _ => by simp [val]
  | b :: r, h => by
    simp only [List.map_cons, val]
    rw [and_cons _ _ _ _ (h b (by simp)) hc, and_const c hc r (fun x hx => h x (by simp [hx]))]
theorem half_and : ∀ (l : List Nat), small l → (val l / 2) &&& val (l.map fun _ => 85) = val (l.map fun b => (b / 2) &&& 85)
  | [], _ => by simp [val]
  | b :: r, h => by
    have hb := h b (by simp)
    simp only [List.map_cons, val]
    rw [show (b + 256 * val r) / 2 = (b / 2 + 128 * (val r % 2)) + 256 * (val r / 2) from by omega, and_cons _ _ _ _ (by omega) (by decide), half_and r (fun x hx => h x (by simp [hx]))]
    congr 1
    have : ∀ b, b < 256 → ∀ t, t < 2 → (b / 2 + 128 * t) &&& 85 = (b / 2) &&& 85 := by decide +kernel
    exact this b hb _ (by omega)
theorem quarter_and : ∀ (l : List Nat), small l → (val l / 4) &&& val (l.map fun _ => 51) = val (l.map fun b => (b / 4) &&& 51)
  | [], _ => by simp [val]
  | b :: r, h => by
    have hb := h b (by simp)
    simp only [List.map_cons, val]
    rw [show (b + 256 * val r) / 4 = (b / 4 + 64 * (val r % 4)) + 256 * (val r / 4) from by omega, and_cons _ _ _ _ (by omega) (by decide), quarter_and r (fun x hx => h x (by simp [hx]))]
    congr 1
    have : ∀ b, b < 256 → ∀ t, t < 4 → (b / 4 + 64 * t) &&& 51 = (b / 4) &&& 51 := by decide +kernel
    exact this b hb _ (by omega)
theorem val_add (f g : Nat → Nat) : ∀ l : List Nat, val (l.map f) + val (l.map g) = val (l.map fun b => f b + g b)
  | [] => rfl
  | b :: r => by
    simp only [List.map_cons, val]
    have := val_add f g r
    omega
/-- Both nibbles hold no more than four. -/
def nib (l : List Nat) : Prop := ∀ b ∈ l, b % 16 ≤ 4 ∧ b / 16 ≤ 4
theorem nib_low : ∀ l : List Nat, nib l → val l % 16 ≤ 4
  | [], _ => by simp [val]
  | b :: r, h => by
    have := h b (by simp)
    simp only [val]
    omega
theorem nib_and : ∀ (l : List Nat), nib l → (val l / 16 + val l) &&& val (l.map fun _ => 15) = val (l.map fun b => (b / 16 + b) &&& 15)
  | [], _ => by simp [val]
  | b :: r, h => by
    have hb := h b (by simp)
    have hr : nib r := fun x hx => h x (by simp [hx])
    have hl := nib_low r hr
    simp only [List.map_cons, val]
    rw [show (b + 256 * val r) / 16 + (b + 256 * val r) = (b / 16 + b + 16 * (val r % 16)) + 256 * (val r / 16 + val r) from by omega, and_cons _ _ _ _ (by omega) (by decide), nib_and r hr]
    congr 1
    have : ∀ b, b < 69 → ∀ t, t < 5 → (b / 16 + b + 16 * t) &&& 15 = (b / 16 + b) &&& 15 := by decide +kernel
    exact this b (by omega) _ (by omega)

def f1 (b : Nat) : Nat := ((b / 2) &&& 85) + (b &&& 85)
def f2 (b : Nat) : Nat := ((b / 4) &&& 51) + (b &&& 51)
def f3 (b : Nat) : Nat := (b / 16 + b) &&& 15
theorem f1_lt : ∀ b, b < 256 → f1 b < 256 := by decide +kernel
theorem f2_lt : ∀ b, b < 256 → f2 b < 256 := by decide +kernel
theorem f2_nib : ∀ b, b < 256 → f2 (f1 b) % 16 ≤ 4 ∧ f2 (f1 b) / 16 ≤ 4 := by decide +kernel
theorem f3_is : ∀ b, b < 256 → f3 (f2 (f1 b)) = cb 8 b := by decide +kernel
theorem cb8_le : ∀ b, b < 256 → cb 8 b ≤ 8 := by decide +kernel

theorem cb_add (m v : Nat) : ∀ (d b : Nat), b < 2 ^ d → cb (d + m) (b + 2 ^ d * v) = cb d b + cb m v
  | 0, b, h => by
    have : b = 0 := by simpa using h
    subst this
    simp [cb]
  | d + 1, b, h => by
    rw [show d + 1 + m = (d + m) + 1 from by omega]
    simp only [cb]
    rw [Nat.pow_succ] at h ⊢
    rw [show (b + 2 ^ d * 2 * v) / 2 = b / 2 + 2 ^ d * v from by rw [Nat.mul_assoc, Nat.mul_comm (2 ^ d), Nat.mul_assoc]; rw [Nat.mul_comm v]; omega, cb_add m v d (b / 2) (by omega)]
    rw [show (b + 2 ^ d * 2 * v) % 2 = b % 2 from by rw [Nat.mul_assoc, Nat.mul_comm (2 ^ d), Nat.mul_assoc]; omega]
    omega

/-! ### the printed formula -/
open Go.RowKit Go.Proofs.YtlmkhapejiippaaDoorW.PrintWords Go.Proofs.YtlmkhapejiippaaDoorW.PrintLast Go.Proofs.YtlmkhapejiippaaDoorW.PrintMore Go.Proofs.YtlmkhapejiippaaDoor.PBitsPlays

def s1 (x : Nat) : Nat := (x / 2 &&& 6148914691236517205) + (x &&& 6148914691236517205)
def s2 (x : Nat) : Nat := (x / 4 &&& 3689348814741910323) + (x &&& 3689348814741910323)
def s3 (x : Nat) : Nat := (x / 16 + x) &&& 1085102592571150095

theorem and_int (a c : Nat) (ha : a < 18446744073709551616) (hc : c < 18446744073709551616) : Go.bits .and .u64 (a : Int) (c : Int) = ((a &&& c : Nat) : Int) := bits_and_u64_nat a c ha hc
theorem and_lt (a c : Nat) (hc : c < 18446744073709551616) : a &&& c < 18446744073709551616 := Nat.lt_of_le_of_lt Nat.and_le_right hc
theorem e1_is (x : Nat) (hx : x < 18446744073709551616) : IntKind.u64.wrap ((Go.bits .and .u64 ((x : Int) / 2) 6148914691236517205) + (Go.bits .and .u64 (x : Int) 6148914691236517205)) = ((s1 x : Nat) : Int) := by
  have h1 := and_int (x / 2) 6148914691236517205 (by omega) (by decide)
  have h2 := and_int x 6148914691236517205 hx (by decide)
  have l1 : x / 2 &&& 6148914691236517205 ≤ 6148914691236517205 := Nat.and_le_right
  have l2 : x &&& 6148914691236517205 ≤ 6148914691236517205 := Nat.and_le_right
  rw [show ((x : Int) / 2) = ((x / 2 : Nat) : Int) from by omega]
  have e1 : Go.bits .and .u64 ((x / 2 : Nat) : Int) 6148914691236517205 = ((x / 2 &&& 6148914691236517205 : Nat) : Int) := h1
  have e2 : Go.bits .and .u64 (x : Int) 6148914691236517205 = ((x &&& 6148914691236517205 : Nat) : Int) := h2
  rw [e1, e2, IntKind.wrap_u64]
  unfold s1
  omega
theorem e2_is (x : Nat) (hx : x < 18446744073709551616) : IntKind.u64.wrap ((Go.bits .and .u64 ((x : Int) / 4) 3689348814741910323) + (Go.bits .and .u64 (x : Int) 3689348814741910323)) = ((s2 x : Nat) : Int) := by
  have h1 := and_int (x / 4) 3689348814741910323 (by omega) (by decide)
  have h2 := and_int x 3689348814741910323 hx (by decide)
  have l1 : x / 4 &&& 3689348814741910323 ≤ 3689348814741910323 := Nat.and_le_right
  have l2 : x &&& 3689348814741910323 ≤ 3689348814741910323 := Nat.and_le_right
  rw [show ((x : Int) / 4) = ((x / 4 : Nat) : Int) from by omega]
  have e1 : Go.bits .and .u64 ((x / 4 : Nat) : Int) 3689348814741910323 = ((x / 4 &&& 3689348814741910323 : Nat) : Int) := h1
  have e2 : Go.bits .and .u64 (x : Int) 3689348814741910323 = ((x &&& 3689348814741910323 : Nat) : Int) := h2
  rw [e1, e2, IntKind.wrap_u64]
  unfold s2
  omega
theorem e3_is (x : Nat) (hx : x / 16 + x < 18446744073709551616) : Go.bits .and .u64 (IntKind.u64.wrap (((x : Int) / 16) + (x : Int))) 1085102592571150095 = ((s3 x : Nat) : Int) := by
  rw [show IntKind.u64.wrap (((x : Int) / 16) + (x : Int)) = ((x / 16 + x : Nat) : Int) from by rw [IntKind.wrap_u64]; omega]
  exact and_int (x / 16 + x) 1085102592571150095 hx (by decide)
theorem e7_is (y : Nat) (hy : y < 9223372036854775808) : Go.bits .and .i64 (wrap64 (y : Int)) 127 = ((y % 128 : Nat) : Int) := by
  rw [show wrap64 (y : Int) = (y : Int) from by unfold wrap64; omega]
  show IntKind.i64.wrap ((BitVec.ofInt 64 (y : Int) &&& BitVec.ofInt 64 ((127 : Nat) : Int)).toNat : Int) = _
  have h1 : (BitVec.ofInt 64 (y : Int)).toNat = y := by
    rw [BitVec.ofInt_natCast, BitVec.toNat_ofNat]; exact Nat.mod_eq_of_lt (by omega)
  have h2 : (BitVec.ofInt 64 ((127 : Nat) : Int)).toNat = 127 := by decide
  rw [BitVec.toNat_and, h1, h2, show y &&& 127 = y % 128 from Nat.and_two_pow_sub_one_eq_mod y 7]
  have : y % 128 < 128 := Nat.mod_lt _ (by decide)
  simp [IntKind.wrap, IntKind.bits, IntKind.signed]
  omega

theorem list8 {l : List Nat} (h8 : l.length = 8) : ∃ a b c d e f g i, l = [a, b, c, d, e, f, g, i] := by
  match l, h8 with
  | [a, b, c, d, e, f, g, i], _ => exact ⟨a, b, c, d, e, f, g, i, rfl⟩
theorem k85 : val [85, 85, 85, 85, 85, 85, 85, 85] = 6148914691236517205 := by decide +kernel
theorem k51 : val [51, 51, 51, 51, 51, 51, 51, 51] = 3689348814741910323 := by decide +kernel
theorem k15 : val [15, 15, 15, 15, 15, 15, 15, 15] = 1085102592571150095 := by decide +kernel
theorem k1 : val [1, 1, 1, 1, 1, 1, 1, 1] = 72340172838076673 := by decide +kernel
theorem const8 (c : Nat) {l : List Nat} (h8 : l.length = 8) : (l.map fun _ => c) = [c, c, c, c, c, c, c, c] := by
  obtain ⟨a, b, c', d, e, f, g, i, rfl⟩ := list8 h8
  rfl
theorem step1 (l : List Nat) (h : small l) (h8 : l.length = 8) : s1 (val l) = val (l.map f1) := by
  unfold s1
  rw [← k85, ← const8 85 h8, half_and _ h, and_const 85 (by decide) _ h, val_add]; rfl
theorem step2 (l : List Nat) (h : small l) (h8 : l.length = 8) : s2 (val l) = val (l.map f2) := by
  unfold s2
  rw [← k51, ← const8 51 h8, quarter_and _ h, and_const 51 (by decide) _ h, val_add]; rfl
theorem step3 (l : List Nat) (h : nib l) (h8 : l.length = 8) : s3 (val l) = val (l.map f3) := by
  unfold s3
  rw [← k15, ← const8 15 h8, nib_and _ h]; rfl
theorem val_lt8 (l : List Nat) (h : small l) (h8 : l.length = 8) : val l < 18446744073709551616 := by
  have := val_lt l h
  rw [h8] at this
  exact Nat.lt_of_lt_of_eq this (by decide +kernel)
theorem val_le (c : Nat) : ∀ l : List Nat, (∀ b ∈ l, b ≤ c) → val l ≤ c * val (l.map fun _ => 1)
  | [], _ => by simp [val]
  | b :: r, h => by
    have h1 := h b (by simp)
    have h2 := val_le c r (fun x hx => h x (by simp [hx]))
    simp only [List.map_cons, val]
    rw [Nat.mul_add, Nat.mul_one, ← Nat.mul_assoc, Nat.mul_comm c 256, Nat.mul_assoc]
    omega
theorem val_nib (l : List Nat) (h : nib l) (h8 : l.length = 8) : val l < 9000000000000000000 := by
  have := val_le 68 l (fun b hb => by have := h b hb; omega)
  rw [const8 1 h8, k1] at this
  omega

theorem split8 (x : Nat) (hx : x < 18446744073709551616) : ∃ l : List Nat, l.length = 8 ∧ small l ∧ x = val l :=
  ⟨[x % 256, x / 256 % 256, x / 65536 % 256, x / 16777216 % 256, x / 4294967296 % 256, x / 1099511627776 % 256, x / 281474976710656 % 256, x / 72057594037927936], rfl, by intro y hy; simp at hy; omega, by simp only [val]; omega⟩

/-- The octets' counts, added up by folding. -/
theorem fold8 (a b c d e f g i : Nat) (ha : a ≤ 8) (hb : b ≤ 8) (hc : c ≤ 8) (hd : d ≤ 8) (he : e ≤ 8) (hf : f ≤ 8) (hg : g ≤ 8) (hi : i ≤ 8) (v v4 v5 v6 : Nat) (hv : v = val [a, b, c, d, e, f, g, i])
    (h4 : v4 = v + v / 256) (h5 : v5 = v4 + v4 / 65536) (h6 : v6 = v5 + v5 / 4294967296) : v6 < 9000000000000000000 ∧ v6 % 128 = a + (b + (c + (d + (e + (f + (g + (i + 0))))))) := by
  simp only [val] at hv
  have q4 : v / 256 = b + 256 * (c + 256 * (d + 256 * (e + 256 * (f + 256 * (g + 256 * (i + 256 * 0)))))) := by omega
  have e4 : v4 = (a + b) + 256 * ((b + c) + 256 * ((c + d) + 256 * ((d + e) + 256 * ((e + f) + 256 * ((f + g) + 256 * ((g + i) + 256 * i)))))) := by omega
  clear h4 q4 hv
  have q5 : v4 / 65536 = (c + d) + 256 * ((d + e) + 256 * ((e + f) + 256 * ((f + g) + 256 * ((g + i) + 256 * i)))) := by omega
  have e5 : v5 = (a + b + c + d) + 256 * ((b + c + d + e) + 256 * ((c + d + e + f) + 256 * ((d + e + f + g) + 256 * ((e + f + g + i) + 256 * ((f + g + i) + 256 * ((g + i) + 256 * i)))))) := by omega
  clear h5 q5 e4
  have q6 : v5 / 4294967296 = (e + f + g + i) + 256 * ((f + g + i) + 256 * ((g + i) + 256 * i)) := by omega
  omega

theorem cb64 (a b c d e f g i : Nat) (ha : a < 256) (hb : b < 256) (hc : c < 256) (hd : d < 256) (he : e < 256) (hf : f < 256) (hg : g < 256) (hi : i < 256) : cb 64 (val [a, b, c, d, e, f, g, i]) = cb 8 a + (cb 8 b + (cb 8 c + (cb 8 d + (cb 8 e + (cb 8 f + (cb 8 g + (cb 8 i + 0))))))) := by
  have w (m b v : Nat) (h : b < 256) : cb (8 + m) (b + 256 * v) = cb 8 b + cb m v := cb_add m v 8 b h
  simp only [val]
  have h1 := w 56 a (b + 256 * (c + 256 * (d + 256 * (e + 256 * (f + 256 * (g + 256 * (i + 256 * 0))))))) ha
  have h2 := w 48 b (c + 256 * (d + 256 * (e + 256 * (f + 256 * (g + 256 * (i + 256 * 0)))))) hb
  have h3 := w 40 c (d + 256 * (e + 256 * (f + 256 * (g + 256 * (i + 256 * 0))))) hc
  have h4 := w 32 d (e + 256 * (f + 256 * (g + 256 * (i + 256 * 0)))) hd
  have h5 := w 24 e (f + 256 * (g + 256 * (i + 256 * 0))) he
  have h6 := w 16 f (g + 256 * (i + 256 * 0)) hf
  have h7 := w 8 g (i + 256 * 0) hg
  have h8 := w 0 i 0 hi
  rw [h1, h2, h3, h4, h5, h6, h7, h8]; rfl

theorem wrapN (n : Nat) (h : n < 18446744073709551616) : IntKind.u64.wrap (n : Int) = (n : Int) := by rw [IntKind.wrap_u64]; omega

/-- How many bits a word has. -/
theorem ones_is (x : Nat) (hx : x < 18446744073709551616) : bits_OnesCount64.f (x : Int) = some ((cb 64 x : Nat) : Int) := by
  obtain ⟨l, h8, hs, rfl⟩ := split8 x hx
  have m1 : (l.map f1).length = 8 := by rw [List.length_map]; exact h8
  have m2 : ((l.map f1).map f2).length = 8 := by rw [List.length_map]; exact m1
  have hs1 : small (l.map f1) := by
    intro y hy
    obtain ⟨z, hz, rfl⟩ := List.mem_map.1 hy
    exact f1_lt z (hs z hz)
  have hn : nib ((l.map f1).map f2) := by
    intro y hy
    rw [List.map_map] at hy
    obtain ⟨z, hz, rfl⟩ := List.mem_map.1 hy
    exact f2_nib z (hs z hz)
  have q1 := step1 _ hs h8
  have q2 := step2 _ hs1 m1
  have q3 := step3 _ hn m2
  have l1 : s1 (val l) < 18446744073709551616 := by rw [q1]; exact val_lt8 _ hs1 m1
  have l2 : s2 (s1 (val l)) < 9000000000000000000 := by rw [q1, q2]; exact val_nib _ hn m2
  have q : s3 (s2 (s1 (val l))) = val (l.map (cb 8)) := by
    rw [q1, q2, q3, List.map_map, List.map_map]
    congr 1
    exact List.map_congr_left fun b hb => f3_is b (hs b hb)
  obtain ⟨a, b, c, d, e, f, g, i, rfl⟩ := list8 h8
  have sa := hs a (by simp)
  have sb := hs b (by simp)
  have sc := hs c (by simp)
  have sd := hs d (by simp)
  have se := hs e (by simp)
  have sf := hs f (by simp)
  have sg := hs g (by simp)
  have si := hs i (by simp)
  obtain ⟨v, hv⟩ : ∃ v, v = val [cb 8 a, cb 8 b, cb 8 c, cb 8 d, cb 8 e, cb 8 f, cb 8 g, cb 8 i] := ⟨_, rfl⟩
  obtain ⟨v4, h4⟩ : ∃ v4, v4 = v + v / 256 := ⟨_, rfl⟩
  obtain ⟨v5, h5⟩ : ∃ v5, v5 = v4 + v4 / 65536 := ⟨_, rfl⟩
  obtain ⟨v6, h6⟩ : ∃ v6, v6 = v5 + v5 / 4294967296 := ⟨_, rfl⟩
  obtain ⟨b6, hsum⟩ := fold8 _ _ _ _ _ _ _ _ (cb8_le a sa) (cb8_le b sb) (cb8_le c sc) (cb8_le d sd) (cb8_le e se) (cb8_le f sf) (cb8_le g sg) (cb8_le i si) v v4 v5 v6 hv h4 h5 h6
  unfold bits_OnesCount64.f
  rw [e1_is _ hx, e2_is _ l1, e3_is _ (by omega), q, show val ([a, b, c, d, e, f, g, i].map (cb 8)) = v from hv.symm]
  rw [show ((v : Int) + (v : Int) / 256) = ((v4 : Nat) : Int) from by omega, wrapN v4 (by omega)]
  rw [show ((v4 : Int) + (v4 : Int) / 65536) = ((v5 : Nat) : Int) from by omega, wrapN v5 (by omega)]
  rw [show ((v5 : Int) + (v5 : Int) / 4294967296) = ((v6 : Nat) : Int) from by omega, wrapN v6 (by omega)]
  rw [e7_is v6 (by omega), hsum, cb64 a b c d e f g i sa sb sc sd se sf sg si]
end Go.Proofs.YtlmkhapejiippaaDoor.BiPop
