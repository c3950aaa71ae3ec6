/- Has, Put, Drop. -/
import Derived.Test.YtlmkhapejiippaaDoorBiCore
namespace Go.Proofs.YtlmkhapejiippaaDoor.BiHas
set_option linter.unusedSimpArgs false
set_option linter.unusedVariables false
open Go.RowKit Go.Proofs.YtlmkhapejiippaaDoorW.PrintWords Go.Proofs.YtlmkhapejiippaaDoorW.PrintLast Go.Proofs.YtlmkhapejiippaaDoorW.PrintMore Go.Proofs.YtlmkhapejiippaaDoor.PBitsPlays Go.Proofs.YtlmkhapejiippaaDoor.BiPop Go.Proofs.YtlmkhapejiippaaDoor.BiPure Go.Proofs.YtlmkhapejiippaaDoor.BiRef Go.Proofs.YtlmkhapejiippaaDoor.BiCore
theorem and1 (x s : Nat) (hx : x < 18446744073709551616) : (bits BinOp.and IntKind.u64 ((x : Int) / 2 ^ s) 1 == 1) = (x / 2 ^ s % 2 == 1) := by
  have e : (x : Int) / 2 ^ s = ((x / 2 ^ s : Nat) : Int) := by simp
  have e1 : (1 : Int) = ((1 : Nat) : Int) := rfl
  rw [e, e1, bits_and_u64_nat _ _ (Nat.lt_of_le_of_lt (Nat.div_le_self _ _) hx) (by omega), Nat.and_one_is_mod]
  generalize x / 2 ^ s % 2 = y
  rw [Bool.eq_iff_iff]
  simp; omega
theorem pw (s : Nat) (hs : s < 64) : IntKind.u64.wrap ((2 : Int) ^ s) = ((2 ^ s : Nat) : Int) := by
  have := pow_lt s hs
  rw [IntKind.wrap_u64, show ((2 : Int) ^ s) = ((2 ^ s : Nat) : Int) from by simp]
  generalize 2 ^ s = y at *
  omega
theorem orv (x s : Nat) (hs : s < 64) (hx : x < 18446744073709551616) : bits BinOp.or IntKind.u64 (x : Int) (IntKind.u64.wrap (2 ^ s)) = ((x ||| 2 ^ s : Nat) : Int) := by
  rw [pw s hs]
  exact bits_or_u64_nat x _ hx (pow_lt s hs)
theorem andn (x s : Nat) (hs : s < 64) (hx : x < 18446744073709551616) : bits BinOp.andNot IntKind.u64 (x : Int) (IntKind.u64.wrap (2 ^ s)) = ((x &&& (18446744073709551615 - 2 ^ s) : Nat) : Int) := by
  rw [pw s hs]
  have hp := pow_lt s hs
  have hx' : x &&& (18446744073709551615 - 2 ^ s) < 18446744073709551616 := Nat.lt_of_le_of_lt Nat.and_le_left hx
  have h1 : (BitVec.ofInt 64 (x : Int)).toNat = x := by
    rw [BitVec.ofInt_natCast, BitVec.toNat_ofNat]; exact Nat.mod_eq_of_lt (by omega)
  have h2 : (BitVec.ofInt 64 ((2 ^ s : Nat) : Int)).toNat = 2 ^ s := by
    rw [BitVec.ofInt_natCast, BitVec.toNat_ofNat]; exact Nat.mod_eq_of_lt (by omega)
  show IntKind.u64.wrap ((BitVec.ofInt 64 (x : Int) &&& ~~~ BitVec.ofInt 64 ((2 ^ s : Nat) : Int)).toNat : Int) = _
  rw [BitVec.toNat_and, BitVec.toNat_not, h1, h2, IntKind.wrap_u64]
  rw [show 2 ^ 64 - 1 - 2 ^ s = 18446744073709551615 - 2 ^ s from by omega]
  omega
section
variable {w w' : World} {sb lb n : Nat} {mk : Bool} {ws : List Nat}

set_option maxRecDepth 100000 in
theorem has_calls (h : SetAt w sb lb mk n ws) (i : Int) : Calls Tryd.prog 18 #[.pointer (some ⟨sb, 0, none⟩), .int .i64 i] w fun e w' => e = .returned (.bool (hasB n ws i)) ∧ w' = w := by
  have HR := room_calls h i
  by_cases hin : 0 ≤ i ∧ i < (n : Int)
  · obtain ⟨k, rfl⟩ := Int.eq_ofNat_of_zero_le hin.1
    have hk : k < n := by omega
    have hb : hasB n ws (k : Int) = bit ws k := by unfold hasB; simp; omega
    have hr : (decide (0 ≤ (k : Int)) && decide ((k : Int) < (n : Int))) = true := by simp; omega
    rw [hr] at HR
    rw [hb]
    have hl := h.1.len
    have hf := h.1.few
    obtain ⟨A, c, c0, c1, c2, h3, h5⟩ := h.word
    obtain ⟨rfl, x0, x1⟩ := h5 (k / 64) (by omega)
    have hgl := get_lt h.1 (k / 64)
    clear h c1 c2 h5 hin hr hb
    have HRR := Lib.hid HR
    have hlk : k / 64 < ws.length := by omega
    have hb : bit ws k = ((ws.getD (k / 64) 0) / 2 ^ (k % 64) % 2 == 1) := by
      unfold bit
      rw [Nat.testBit_eq_decide_div_mod_eq]; rfl
    rw [hb]
    clear hb HR
    generalize ws.getD (k / 64) 0 = x at *
    generalize ws.length = L at *
    go_enter Tryd.func18, Tryd.ntmps18
    go_wp2_with (go_at_call 30; refine HRR.out.mono ?_; rintro _ _ ⟨rfl, rfl⟩)
    rw [← and1 x (k % 64) hgl]
    go_ret
    exact ⟨rfl, rfl⟩
  · have hb : hasB n ws i = false := by unfold hasB; simp; omega
    have hr : (decide (0 ≤ i) && decide (i < (n : Int))) = false := by simp; omega
    rw [hr] at HR
    rw [hb]
    clear h hin hr hb
    go_enter Tryd.func18, Tryd.ntmps18
    go_wp2_with (go_at_call 30; refine HR.mono ?_; rintro _ _ ⟨rfl, rfl⟩)
    go_ret
    exact ⟨rfl, rfl⟩

theorem has_in {i : Int} (h : hasB n ws i = true) : 0 ≤ i ∧ i < (n : Int) ∧ bit ws i.toNat = true := by
  unfold hasB at h
  simpa using h
set_option maxRecDepth 100000 in
theorem put_yes (h : SetAt w sb lb mk n ws) (i : Int) (hin : 0 ≤ i ∧ i < (n : Int)) (hb : hasB n ws i = false) : Calls Tryd.prog 16 #[.pointer (some ⟨sb, 0, none⟩), .int .i64 i] w fun e w' =>
    e = .returned (.bool true) ∧ SetAt w' sb lb mk n (putW ws i.toNat) ∧ w.grownBy w' (some lb) := by
  have HR := room_calls h i
  have HH := has_calls h i
  have hr : (decide (0 ≤ i) && decide (i < (n : Int))) = true := by simp; omega
  rw [hr] at HR
  rw [hb] at HH
  obtain ⟨k, rfl⟩ := Int.eq_ofNat_of_zero_le hin.1
  have hk : k < n := by omega
  have hl := h.1.len
  have hf := h.1.few
  obtain ⟨A, c, c0, c1, c2, h3, h5⟩ := h.word
  obtain ⟨rfl, x0, x1⟩ := h5 (k / 64) (by omega)
  have hgl := get_lt h.1 (k / 64)
  have hlk : k / 64 < ws.length := by omega
  have HS := Lib.hid h
  have HO := Lib.hid (put_ok h.1 k hk)
  clear h c1 c2 h5 hin hr hb
  rw [Int.toNat_natCast]
  have HRR := Lib.hid HR
  have HHH := Lib.hid HH
  clear HR HH
  unfold putW at *
  generalize ws.getD (k / 64) 0 = x at *
  have HL := Lib.hid hlk
  generalize ws.length = L at hl h3 hlk c0
  go_enter Tryd.func16, Tryd.ntmps16
  go_wp2_with (first | (go_at_call 30; refine HRR.out.mono ?_; rintro _ _ ⟨rfl, rfl⟩) | (go_at_call 18; refine HHH.out.mono ?_; rintro _ _ ⟨rfl, rfl⟩))
  have e := orv x (k % 64) (by omega) hgl
  go_region
  obtain ⟨z1, z2⟩ := HS.out.put (k / 64) (x ||| 2 ^ (k % 64)) HL.out HO.out
  go_wp2
  go_ret
  exact ⟨rfl, z1.below ((Below.refl _ _).drew), z2.trans (bgrown ((Below.refl _ _).drew) |>.but _)⟩
set_option maxRecDepth 100000 in
theorem put_no (h : SetAt w sb lb mk n ws) (i : Int) (hin : ¬(0 ≤ i ∧ i < (n : Int) ∧ hasB n ws i = false)) : Calls Tryd.prog 16 #[.pointer (some ⟨sb, 0, none⟩), .int .i64 i] w fun e w' => e = .returned (.bool false) ∧ w' = w := by
  have HR := room_calls h i
  have HH := has_calls h i
  by_cases hr : 0 ≤ i ∧ i < (n : Int)
  · have hb' : hasB n ws i = true := by
      cases hh : hasB n ws i with
      | true => rfl
      | false => exact absurd ⟨hr.1, hr.2, hh⟩ hin
    have hr : (decide (0 ≤ i) && decide (i < (n : Int))) = true := by simp; omega
    rw [hr] at HR
    rw [hb'] at HH
    clear h hin hr hb'
    go_enter Tryd.func16, Tryd.ntmps16
    go_wp2_with (first | (go_at_call 30; refine HR.mono ?_; rintro _ _ ⟨rfl, rfl⟩) | (go_at_call 18; refine HH.mono ?_; rintro _ _ ⟨rfl, rfl⟩))
    go_ret
    exact ⟨rfl, rfl⟩
  · have hr : (decide (0 ≤ i) && decide (i < (n : Int))) = false := by simp; omega
    rw [hr] at HR
    clear h hin hr HH
    go_enter Tryd.func16, Tryd.ntmps16
    go_wp2_with (go_at_call 30; refine HR.mono ?_; rintro _ _ ⟨rfl, rfl⟩)
    go_ret
    exact ⟨rfl, rfl⟩
set_option maxRecDepth 100000 in
theorem drop_yes (h : SetAt w sb lb mk n ws) (i : Int) (hb : hasB n ws i = true) : Calls Tryd.prog 17 #[.pointer (some ⟨sb, 0, none⟩), .int .i64 i] w fun e w' =>
    e = .returned (.bool true) ∧ SetAt w' sb lb mk n (dropW ws i.toNat) ∧ w.grownBy w' (some lb) := by
  have hin := has_in hb
  have HH := has_calls h i
  rw [hb] at HH
  obtain ⟨k, rfl⟩ := Int.eq_ofNat_of_zero_le hin.1
  have hk : k < n := by omega
  have hl := h.1.len
  have hf := h.1.few
  obtain ⟨A, c, c0, c1, c2, h3, h5⟩ := h.word
  obtain ⟨rfl, x0, x1⟩ := h5 (k / 64) (by omega)
  have hgl := get_lt h.1 (k / 64)
  have hlk : k / 64 < ws.length := by omega
  have HS := Lib.hid h
  have HO := Lib.hid (drop_ok h.1 k hk)
  clear h c1 c2 h5 hin hb
  rw [Int.toNat_natCast]
  have HHH := Lib.hid HH
  clear HH
  unfold dropW at *
  generalize ws.getD (k / 64) 0 = x at *
  have HL := Lib.hid hlk
  generalize ws.length = L at hl h3 hlk c0
  go_enter Tryd.func17, Tryd.ntmps17
  go_wp2_with (go_at_call 18; refine HHH.out.mono ?_; rintro _ _ ⟨rfl, rfl⟩)
  have e := andn x (k % 64) (by omega) hgl
  go_region
  obtain ⟨z1, z2⟩ := HS.out.put (k / 64) (x &&& (18446744073709551615 - 2 ^ (k % 64))) HL.out HO.out
  go_wp2
  go_ret
  exact ⟨rfl, z1.below ((Below.refl _ _).drew), z2.trans (bgrown ((Below.refl _ _).drew) |>.but _)⟩
set_option maxRecDepth 100000 in
theorem drop_no (h : SetAt w sb lb mk n ws) (i : Int) (hb : hasB n ws i = false) : Calls Tryd.prog 17 #[.pointer (some ⟨sb, 0, none⟩), .int .i64 i] w fun e w' => e = .returned (.bool false) ∧ w' = w := by
  have HH := has_calls h i
  rw [hb] at HH
  clear h hb
  go_enter Tryd.func17, Tryd.ntmps17
  go_wp2_with (go_at_call 18; refine HH.mono ?_; rintro _ _ ⟨rfl, rfl⟩)
  go_ret
  exact ⟨rfl, rfl⟩
end
end Go.Proofs.YtlmkhapejiippaaDoor.BiHas
