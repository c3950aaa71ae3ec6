/- TrailingZeros64, seek, Next, Free. -/
import Derived.Test.YtlmkhapejiippaaDoorBiHas
namespace Go.Proofs.YtlmkhapejiippaaDoor.BiSeek
set_option linter.unusedSimpArgs false
set_option linter.unusedVariables false
open Go.RowKit Go.Proofs.YtlmkhapejiippaaDoorW.PrintWords Go.Proofs.YtlmkhapejiippaaDoorW.PrintLast Go.Proofs.YtlmkhapejiippaaDoorW.PrintMore Go.Proofs.YtlmkhapejiippaaDoor.PBitsPlays Go.Proofs.YtlmkhapejiippaaDoor.BiPop Go.Proofs.YtlmkhapejiippaaDoor.BiPure Go.Proofs.YtlmkhapejiippaaDoor.BiRef Go.Proofs.YtlmkhapejiippaaDoor.BiCore

set_option maxRecDepth 100000 in
set_option maxHeartbeats 1000000 in
theorem tz_core (x k idx : Nat) (w : World) (hx0 : ((x : Int) == 0) = false)
    (key : IntKind.u64.wrap (bits BinOp.and IntKind.u64 (x : Int) (IntKind.u64.wrap (-(x : Int))) * 285870213051353865) / 288230376151711744 = (idx : Int))
    (hi : idx < 64) (hk : k < 64) (hcell : w.cell? ⟨0, idx, none⟩ = some (.int .u8 k)) :
    Calls Tryd.prog 31 #[.int .u64 x] w fun e w' => e = .returned (.int .i64 k) ∧ w' = w := by
  go_enter Tryd.func31, Tryd.ntmps31
  go_wp2_with (simp only [key])
  go_ret
  exact ⟨rfl, rfl⟩
theorem tz_zero (w : World) :
    Calls Tryd.prog 31 #[.int .u64 0] w fun e w' => e = .returned (.int .i64 64) ∧ w' = w := by
  go_enter Tryd.func31, Tryd.ntmps31
  go_wp2
  go_ret
  exact ⟨rfl, rfl⟩
theorem tz_calls (x : Nat) (hx : x < 18446744073709551616) (w : World) (hT : TabAt 0 Lib.deBruijn64tab w) :
    Calls Tryd.prog 31 #[.int .u64 x] w fun e w' => e = .returned (.int .i64 (Lib.ctz 64 x)) ∧ w' = w := by
  by_cases hx0 : x = 0
  · subst hx0
    exact tz_zero w
  · obtain ⟨hlow, hk⟩ := Lib.lowest_bit 64 x hx0 hx
    obtain ⟨hi, htab⟩ := Lib.deBruijn64_at _ hk
    have hcell := hT _ hi
    rw [htab] at hcell
    exact tz_core x _ _ w (by simp; omega) (tz64_key x _ hx hx0 hlow) hi hk hcell

theorem notw (x : Nat) (hx : x < 18446744073709551616) : bits BinOp.xor IntKind.u64 (if IntKind.u64.signed = true then -1 else IntKind.u64.max) (x : Int) = ((18446744073709551615 - x : Nat) : Int) := by
  have e : (if IntKind.u64.signed = true then (-1 : Int) else IntKind.u64.max) = ((18446744073709551615 : Nat) : Int) := by decide +kernel
  rw [e, bits_xor_u64_nat _ _ (by decide +kernel) hx]
  congr 1
  apply Nat.eq_of_testBit_eq
  intro i
  have h1 := Nat.testBit_two_pow_sub_one 64 i
  have h2 := Nat.testBit_two_pow_sub_succ (n := 64) (x := x) hx i
  have e1 : (18446744073709551615 : Nat) = 2 ^ 64 - 1 := by decide +kernel
  have e2 : 18446744073709551615 - x = 2 ^ 64 - (x + 1) := by omega
  rw [Nat.testBit_xor, e2, h2, e1, h1]
  by_cases c : i < 64
  · simp [c]
  · have h3 : x.testBit i = false := by
      apply Nat.testBit_lt_two_pow
      exact Nat.lt_of_lt_of_le hx (Nat.pow_le_pow_right (n := 2) (by decide) (Nat.le_of_not_lt c))
    simp [c, h3]
section
variable {w w' : World} {sb lb n : Nat} {mk : Bool} {ws : List Nat}

set_option maxRecDepth 100000 in
theorem seek_nil (i : Int) (b : Bool) (w : World) : Calls Tryd.prog 29 #[.pointer none, .int .i64 i, .bool b] w fun e w' => e = .returned (.tuple #[.int .i64 0, .bool false]) ∧ w' = w := by
  go_enter Tryd.func29, Tryd.ntmps29
  go_wp2
  go_ret2
  exact ⟨rfl, rfl⟩
set_option maxRecDepth 100000 in
set_option maxHeartbeats 1000000 in
theorem seek_true (h : SetAt w sb lb mk n ws) (hT : TabAt 0 Lib.deBruijn64tab w) (i : Int) : Calls Tryd.prog 29 #[.pointer (some ⟨sb, 0, none⟩), .int .i64 i, .bool true] w fun e w' =>
    e = .returned (.tuple #[.int .i64 (ans (nx (bit ws) true (n - i.toNat) i.toNat)).1, .bool (ans (nx (bit ws) true (n - i.toNat) i.toNat)).2]) ∧ w' = w := by
  have hmx : (i < 0 → i.toNat = 0) ∧ (¬ i < 0 → i = (i.toNat : Int)) := by omega
  have HM := Lib.hid hmx
  clear hmx
  generalize i.toNat = s at *
  obtain ⟨r, hr⟩ : ∃ r, r = nx (bit ws) true (n - s) s := ⟨_, rfl⟩
  rw [← hr]
  have HR := Lib.hid hr
  clear hr
  obtain ⟨A, c, c0, c1, c2, h3, h5⟩ := h.word
  have HH := Lib.hid h
  have H5 := Lib.hid h5
  have HT := Lib.hid hT
  have hn := h.1.few
  clear h h5 c2 hT
  go_enter Tryd.func29, Tryd.ntmps29
  go_wp2
  all_goals
    go_loop [8] (fun v8 => ∃ k : Nat, v8 = .int .i64 (k : Int) ∧ Hid (r = nx (bit ws) true (n - k) k)) (fun v8 => ((n : Int) - intOf v8).toNat)
    case atStart => first | exact ⟨s, by rw [HM.out.1 (by assumption)]; rfl, HR⟩ | exact ⟨s, by rw [← HM.out.2 (by omega)], HR⟩
    case round =>
      obtain ⟨k, rfl, HK⟩ := hrel
      by_cases hlt : k < n
      · have hl := HH.out.1.len
        have hkl : k / 64 < ws.length := by omega
        obtain ⟨rfl, x0, _⟩ := H5.out (k / 64) hkl
        have hx := get_lt HH.out.1 (k / 64)
        have HLN := Lib.hid (look_none HH.out.1 true k)
        have HLS := Lib.hid (look_some HH.out.1 true k)
        clear hl
        generalize ws.getD (k / 64) 0 = x at *
        have ht : turned true x = x := rfl
        rw [ht] at HLN HLS
        clear ht
        by_cases hz : x / 2 ^ (k % 64) = 0
        · have hyi : ((x : Nat) : Int) / 2 ^ (k % 64) = 0 := by
            have : ((x / 2 ^ (k % 64) : Nat) : Int) = 0 := by rw [hz]; rfl
            rw [← this]; simp
          have HLN2 := Lib.hid (HLN.out hz)
          clear HLS HLN hz
          go_wp2_with (fail)
          go_round
          case rel => exact ⟨k + (64 - k % 64), by congr 1; omega, by rw [HK.out]; exact HLN2.out⟩
          case measure => simp [intOf]; omega
        · obtain ⟨y, hy⟩ : ∃ y, y = x / 2 ^ (k % 64) := ⟨_, rfl⟩
          rw [← hy] at hz HLN HLS
          have hyi : ((x : Nat) : Int) / 2 ^ (k % 64) = (y : Int) := by rw [hy]; simp
          have hyx : y < 18446744073709551616 := by rw [hy]; exact Nat.lt_of_le_of_lt (Nat.div_le_self _ _) hx
          clear hy
          have HLS2 := Lib.hid (HLS.out hz)
          have hy0 : ((y : Int) == 0) = false := by simp; omega
          have hT3 := (HLS2.out).2.2
          have HTZ := Lib.hid (tz_calls y hyx w HT.out)
          clear HLS HLN hz
          generalize Lib.ctz 64 y = t at *
          by_cases ho : k + t < n
          · go_wp2_with (go_at_call 31; refine HTZ.out.mono ?_; rintro _ _ ⟨rfl, rfl⟩)
            have hr : r = some (k + t) := by rw [HK.out, HLS2.out.1, nx_hit _ _ _ _ ho HLS2.out.2.1]
            go_ret2
            exact ⟨by rw [hr]; simp [ans], rfl⟩
          · go_wp2_with (go_at_call 31; refine HTZ.out.mono ?_; rintro _ _ ⟨rfl, rfl⟩)
            go_round
            case rel => exact ⟨k + t, by congr 1, by rw [HK.out]; exact HLS2.out.1⟩
            case measure => simp [intOf]; omega
      · go_wp2_with (fail)
        have hr : r = none := by rw [HK.out, show n - k = 0 from by omega]; rfl
        go_ret2
        exact ⟨by rw [hr]; simp [ans], rfl⟩
set_option maxRecDepth 100000 in
set_option maxHeartbeats 1000000 in
theorem seek_false (h : SetAt w sb lb mk n ws) (hT : TabAt 0 Lib.deBruijn64tab w) (i : Int) : Calls Tryd.prog 29 #[.pointer (some ⟨sb, 0, none⟩), .int .i64 i, .bool false] w fun e w' =>
    e = .returned (.tuple #[.int .i64 (ans (nx (bit ws) false (n - i.toNat) i.toNat)).1, .bool (ans (nx (bit ws) false (n - i.toNat) i.toNat)).2]) ∧ w' = w := by
  have hmx : (i < 0 → i.toNat = 0) ∧ (¬ i < 0 → i = (i.toNat : Int)) := by omega
  have HM := Lib.hid hmx
  clear hmx
  generalize i.toNat = s at *
  obtain ⟨r, hr⟩ : ∃ r, r = nx (bit ws) false (n - s) s := ⟨_, rfl⟩
  rw [← hr]
  have HR := Lib.hid hr
  clear hr
  obtain ⟨A, c, c0, c1, c2, h3, h5⟩ := h.word
  have HH := Lib.hid h
  have H5 := Lib.hid h5
  have HT := Lib.hid hT
  have hn := h.1.few
  clear h h5 c2 hT
  go_enter Tryd.func29, Tryd.ntmps29
  go_wp2
  all_goals
    go_loop [8] (fun v8 => ∃ k : Nat, v8 = .int .i64 (k : Int) ∧ Hid (r = nx (bit ws) false (n - k) k)) (fun v8 => ((n : Int) - intOf v8).toNat)
    case atStart => first | exact ⟨s, by rw [HM.out.1 (by assumption)]; rfl, HR⟩ | exact ⟨s, by rw [← HM.out.2 (by omega)], HR⟩
    case round =>
      obtain ⟨k, rfl, HK⟩ := hrel
      by_cases hlt : k < n
      · have hl := HH.out.1.len
        have hkl : k / 64 < ws.length := by omega
        obtain ⟨rfl, x0, _⟩ := H5.out (k / 64) hkl
        have hx := get_lt HH.out.1 (k / 64)
        have HLN := Lib.hid (look_none HH.out.1 false k)
        have HLS := Lib.hid (look_some HH.out.1 false k)
        clear hl
        generalize ws.getD (k / 64) 0 = x at *
        have ht : turned false x = 18446744073709551615 - x := rfl
        rw [ht] at HLN HLS
        clear ht
        have hxz := notw x hx
        have hz2 : 18446744073709551615 - x < 18446744073709551616 := by omega
        generalize 18446744073709551615 - x = z at *
        by_cases hz : z / 2 ^ (k % 64) = 0
        · have hyi : ((z : Nat) : Int) / 2 ^ (k % 64) = 0 := by
            have : ((z / 2 ^ (k % 64) : Nat) : Int) = 0 := by rw [hz]; rfl
            rw [← this]; simp
          have HLN2 := Lib.hid (HLN.out hz)
          clear HLS HLN hz
          go_wp2_with (fail)
          go_round
          case rel => exact ⟨k + (64 - k % 64), by congr 1; omega, by rw [HK.out]; exact HLN2.out⟩
          case measure => simp [intOf]; omega
        · obtain ⟨y, hy⟩ : ∃ y, y = z / 2 ^ (k % 64) := ⟨_, rfl⟩
          rw [← hy] at hz HLN HLS
          have hyi : ((z : Nat) : Int) / 2 ^ (k % 64) = (y : Int) := by rw [hy]; simp
          have hyx : y < 18446744073709551616 := by rw [hy]; exact Nat.lt_of_le_of_lt (Nat.div_le_self _ _) hz2
          clear hy
          have HLS2 := Lib.hid (HLS.out hz)
          have hy0 : ((y : Int) == 0) = false := by simp; omega
          have hT3 := (HLS2.out).2.2
          have HTZ := Lib.hid (tz_calls y hyx w HT.out)
          clear HLS HLN hz
          generalize Lib.ctz 64 y = t at *
          by_cases ho : k + t < n
          · go_wp2_with (go_at_call 31; refine HTZ.out.mono ?_; rintro _ _ ⟨rfl, rfl⟩)
            have hr : r = some (k + t) := by rw [HK.out, HLS2.out.1, nx_hit _ _ _ _ ho HLS2.out.2.1]
            go_ret2
            exact ⟨by rw [hr]; simp [ans], rfl⟩
          · go_wp2_with (go_at_call 31; refine HTZ.out.mono ?_; rintro _ _ ⟨rfl, rfl⟩)
            go_round
            case rel => exact ⟨k + t, by congr 1, by rw [HK.out]; exact HLS2.out.1⟩
            case measure => simp [intOf]; omega
      · go_wp2_with (fail)
        have hr : r = none := by rw [HK.out, show n - k = 0 from by omega]; rfl
        go_ret2
        exact ⟨by rw [hr]; simp [ans], rfl⟩

/-- Seeking. -/
theorem seek_calls (h : SetAt w sb lb mk n ws) (hT : TabAt 0 Lib.deBruijn64tab w) (i : Int) (b : Bool) : Calls Tryd.prog 29 #[.pointer (some ⟨sb, 0, none⟩), .int .i64 i, .bool b] w fun e w' =>
    e = .returned (.tuple #[.int .i64 (ans (nx (bit ws) b (n - i.toNat) i.toNat)).1, .bool (ans (nx (bit ws) b (n - i.toNat) i.toNat)).2]) ∧ w' = w := by
  cases b
  · exact seek_false h hT i
  · exact seek_true h hT i
theorem next_calls (h : SetAt w sb lb mk n ws) (hT : TabAt 0 Lib.deBruijn64tab w) (i : Int) : Calls Tryd.prog 14 #[.pointer (some ⟨sb, 0, none⟩), .int .i64 i] w fun e w' =>
    e = .returned (.tuple #[.int .i64 (ans (nx (bit ws) true (n - i.toNat) i.toNat)).1, .bool (ans (nx (bit ws) true (n - i.toNat) i.toNat)).2]) ∧ w' = w := by
  have HS := seek_calls h hT i true
  clear hT h
  generalize ans (nx (bit ws) true (n - i.toNat) i.toNat) = r at *
  go_enter Tryd.func14, Tryd.ntmps14
  go_wp2_with (go_at_call 29; refine HS.mono ?_; rintro _ _ ⟨rfl, rfl⟩)
  go_ret2
  exact ⟨rfl, rfl⟩
theorem free_calls (h : SetAt w sb lb mk n ws) (hT : TabAt 0 Lib.deBruijn64tab w) (i : Int) : Calls Tryd.prog 15 #[.pointer (some ⟨sb, 0, none⟩), .int .i64 i] w fun e w' =>
    e = .returned (.tuple #[.int .i64 (ans (nx (bit ws) false (n - i.toNat) i.toNat)).1, .bool (ans (nx (bit ws) false (n - i.toNat) i.toNat)).2]) ∧ w' = w := by
  have HS := seek_calls h hT i false
  clear hT h
  generalize ans (nx (bit ws) false (n - i.toNat) i.toNat) = r at *
  go_enter Tryd.func15, Tryd.ntmps15
  go_wp2_with (go_at_call 29; refine HS.mono ?_; rintro _ _ ⟨rfl, rfl⟩)
  go_ret2
  exact ⟨rfl, rfl⟩
theorem next_nil (i : Int) (w : World) : Calls Tryd.prog 14 #[.pointer none, .int .i64 i] w fun e w' => e = .returned (.tuple #[.int .i64 0, .bool false]) ∧ w' = w := by
  have HS := seek_nil i true w
  go_enter Tryd.func14, Tryd.ntmps14
  go_wp2_with (go_at_call 29; refine HS.mono ?_; rintro _ _ ⟨rfl, rfl⟩)
  go_ret2
  exact ⟨rfl, rfl⟩
theorem free_nil (i : Int) (w : World) : Calls Tryd.prog 15 #[.pointer none, .int .i64 i] w fun e w' => e = .returned (.tuple #[.int .i64 0, .bool false]) ∧ w' = w := by
  have HS := seek_nil i false w
  go_enter Tryd.func15, Tryd.ntmps15
  go_wp2_with (go_at_call 29; refine HS.mono ?_; rintro _ _ ⟨rfl, rfl⟩)
  go_ret2
  exact ⟨rfl, rfl⟩
end
end Go.Proofs.YtlmkhapejiippaaDoor.BiSeek
