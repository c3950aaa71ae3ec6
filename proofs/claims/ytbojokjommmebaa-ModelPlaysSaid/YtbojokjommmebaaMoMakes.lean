/- ModelMakes: which arrays there are. -/
import Derived.Test.YtbojokjommmebaaMoAwake
namespace Go.Proofs.Ytbojokjommmebaa.MoMakes
set_option linter.unusedSimpArgs false
set_option linter.unusedVariables false
open Go.RowKit Go.Proofs.YtbojokjommmebaaW.PrintWords Go.Proofs.YtbojokjommmebaaW.PrintLast Go.Proofs.YtbojokjommmebaaW.PrintMore Go.Proofs.Ytbojokjommmebaa.PModelPlays Go.Proofs.Ytbojokjommmebaa.MoMem Go.Proofs.Ytbojokjommmebaa.MoGo Go.Proofs.Ytbojokjommmebaa.MoNow Go.Proofs.Ytbojokjommmebaa.MoRead Go.Proofs.Ytbojokjommmebaa.MoPut Go.Proofs.Ytbojokjommmebaa.MoWrite Go.Proofs.Ytbojokjommmebaa.MoLoose Go.Proofs.Ytbojokjommmebaa.MoNew Go.Proofs.Ytbojokjommmebaa.MoCrash Go.Proofs.Ytbojokjommmebaa.MoEq Go.Proofs.Ytbojokjommmebaa.MoSame Go.Proofs.Ytbojokjommmebaa.MoCmp Go.Proofs.Ytbojokjommmebaa.MoFill Go.Proofs.Ytbojokjommmebaa.MoReg Go.Proofs.Ytbojokjommmebaa.MoAwake
/-- An odd array, and what was ahead. -/
structure Odd (w W : World) (g : Nat) : Prop where
  c : W.cell? ⟨g, 1, none⟩ = some (.bool false)
  bl : Below w.heap.size w W
theorem Odd.of {w W : World} (h : Below w.heap.size w W) (o : Array Value) (ho : o[1]? = some (.bool false)) : Odd w (W.alloc (.cells o 58)) W.heap.size := by
  refine ⟨?_, h.alloc h.size _⟩
  rw [cell_of_row _ _ _ _ _ _ (alloc_at W (.cells o 58))]; exact ho
theorem crash_at {p : Option Addr} {W : World} (hp : Calls Try.prog 31 #[.pointer p] W fun e W' => e = .returned (.bool false) ∧ W' = W) (v : Value) : Calls Try.prog 23 #[.pointer p, v] W fun e W' => e = .returned (.tuple #[.pointer none, .int .i64 2]) ∧ W' = W := by
  have HR := Lib.hid hp
  clear hp
  go_enter Try.func23, Try.ntmps23
  go_wp2_with (go_at_call 31; refine HR.out.mono ?_; rintro _ _ ⟨rfl, rfl⟩)
  go_ret2
  exact ⟨rfl, rfl⟩
set_option maxRecDepth 100000 in
set_option maxHeartbeats 4000000 in
theorem makes_calls (n lba : Int) (w : World) : Calls Try.prog 5 #[.int .i64 n, .int .i64 lba] w (AwPost w) := by
  by_cases hn : 0 ≤ n ∧ n ≤ 512
  · obtain ⟨k, rfl⟩ := Int.eq_ofNat_of_zero_le hn.1
    have hk : k ≤ 512 := by omega
    have HN := Lib.hid (new_calls k hk w)
    have h0 : (0 : Int) ≤ (k : Int) := by omega
    have h1 : (k : Int) ≤ 512 := by omega
    clear hn
    go_enter Try.func5, Try.ntmps5
    go_wp2_with (first
      | (go_at_call 7; refine HN.out.mono ?_; rintro _ W ⟨ab, lb, rfl, ha, h2, h3, hb⟩; have HB := Lib.hid hb; clear ha h2 h3 hb HN))
    have HO := Lib.hid (Odd.of HB.out #[.slice none 0 0, .bool false] rfl)
    obtain ⟨W2, hW2⟩ : ∃ W2, W2 = W.alloc (.cells #[.slice none 0 0, .bool false] 58) := ⟨_, rfl⟩
    obtain ⟨g, hg⟩ : ∃ g, g = W.heap.size := ⟨_, rfl⟩
    rw [← hW2, ← hg] at HO ⊢
    clear hW2 hg
    refine (read_nil lba _).mono ?_
    rintro _ W3 ⟨rfl, hw⟩
    replace hw := hw.symm
    subst hw
    go_wp2_with (first
      | (go_at_call 23; ((with_reducible refine (crash_at (real_is false HO.out.c) _).mono ?_); rintro _ W3 ⟨rfl, hw⟩; replace hw := hw.symm; subst hw))
      | (go_at_call 9; ((with_reducible refine (write_nil _ _ _).mono ?_); rintro _ W3 ⟨rfl, hw⟩; replace hw := hw.symm; subst hw))
      | (go_at_call 17; ((with_reducible refine (trim_odd _ _ HO.out.c).mono ?_); rintro _ W3 ⟨rfl, hw⟩; replace hw := hw.symm; subst hw))
      | (go_at_call 19; ((with_reducible refine (flush_nil _).mono ?_); rintro _ W3 ⟨rfl, hw⟩; replace hw := hw.symm; subst hw))
      | (go_at_call 26; ((with_reducible refine (loose_nil _).mono ?_); rintro _ W3 ⟨rfl, hw⟩; replace hw := hw.symm; subst hw))
      | (go_at_call 26; ((with_reducible refine (loose_odd HO.out.c).mono ?_); rintro _ W3 ⟨rfl, hw⟩; replace hw := hw.symm; subst hw))
      | (go_at_call 12; ((with_reducible refine (same_none none (some ⟨g, 0, none⟩) _ (real_nil _) (real_is false HO.out.c)).mono ?_); rintro _ W3 ⟨rfl, hw⟩; replace hw := hw.symm; subst hw))
      | (go_at_call 14; ((with_reducible refine (awake_calls _).mono ?_); rintro _ W3 ⟨rfl, hb3⟩; have H3 := Lib.hid (bthen HO.out.bl hb3); clear hb3)))
    go_ret
    exact ⟨rfl, H3.out⟩
  · have HN := Lib.hid (new_bad n (by omega) w)
    by_cases h0 : n < 0
    · clear hn
      go_enter Try.func5, Try.ntmps5
      go_wp2_with (first
        | (go_at_call 7; refine HN.out.mono ?_; rintro _ W ⟨rfl, hw⟩; replace hw := hw.symm; subst hw; have HB := Lib.hid (Below.refl w.heap.size w); clear HN))
      have HO := Lib.hid (Odd.of HB.out #[.slice none 0 0, .bool false] rfl)
      obtain ⟨W2, hW2⟩ : ∃ W2, W2 = w.alloc (.cells #[.slice none 0 0, .bool false] 58) := ⟨_, rfl⟩
      obtain ⟨g, hg⟩ : ∃ g, g = w.heap.size := ⟨_, rfl⟩
      rw [← hW2, ← hg] at HO ⊢
      clear hW2 hg
      refine (read_nil lba _).mono ?_
      rintro _ W3 ⟨rfl, hw⟩
      replace hw := hw.symm
      subst hw
      go_wp2_with (first
        | (go_at_call 23; ((with_reducible refine (crash_at (real_is false HO.out.c) _).mono ?_); rintro _ W3 ⟨rfl, hw⟩; replace hw := hw.symm; subst hw))
        | (go_at_call 9; ((with_reducible refine (write_nil _ _ _).mono ?_); rintro _ W3 ⟨rfl, hw⟩; replace hw := hw.symm; subst hw))
        | (go_at_call 17; ((with_reducible refine (trim_odd _ _ HO.out.c).mono ?_); rintro _ W3 ⟨rfl, hw⟩; replace hw := hw.symm; subst hw))
        | (go_at_call 19; ((with_reducible refine (flush_nil _).mono ?_); rintro _ W3 ⟨rfl, hw⟩; replace hw := hw.symm; subst hw))
        | (go_at_call 26; ((with_reducible refine (loose_nil _).mono ?_); rintro _ W3 ⟨rfl, hw⟩; replace hw := hw.symm; subst hw))
        | (go_at_call 26; ((with_reducible refine (loose_odd HO.out.c).mono ?_); rintro _ W3 ⟨rfl, hw⟩; replace hw := hw.symm; subst hw))
        | (go_at_call 12; ((with_reducible refine (same_none none (some ⟨g, 0, none⟩) _ (real_nil _) (real_is false HO.out.c)).mono ?_); rintro _ W3 ⟨rfl, hw⟩; replace hw := hw.symm; subst hw))
        | (go_at_call 14; ((with_reducible refine (awake_calls _).mono ?_); rintro _ W3 ⟨rfl, hb3⟩; have H3 := Lib.hid (bthen HO.out.bl hb3); clear hb3)))
      go_ret
      exact ⟨rfl, H3.out⟩
    · have h1 : 512 < n := by omega
      have h2 : 0 ≤ n := by omega
      clear hn h0
      go_enter Try.func5, Try.ntmps5
      go_wp2_with (first
        | (go_at_call 7; refine HN.out.mono ?_; rintro _ W ⟨rfl, hw⟩; replace hw := hw.symm; subst hw; have HB := Lib.hid (Below.refl w.heap.size w); clear HN))
      have HO := Lib.hid (Odd.of HB.out #[.slice none 0 0, .bool false] rfl)
      obtain ⟨W2, hW2⟩ : ∃ W2, W2 = w.alloc (.cells #[.slice none 0 0, .bool false] 58) := ⟨_, rfl⟩
      obtain ⟨g, hg⟩ : ∃ g, g = w.heap.size := ⟨_, rfl⟩
      rw [← hW2, ← hg] at HO ⊢
      clear hW2 hg
      refine (read_nil lba _).mono ?_
      rintro _ W3 ⟨rfl, hw⟩
      replace hw := hw.symm
      subst hw
      go_wp2_with (first
        | (go_at_call 23; ((with_reducible refine (crash_at (real_is false HO.out.c) _).mono ?_); rintro _ W3 ⟨rfl, hw⟩; replace hw := hw.symm; subst hw))
        | (go_at_call 9; ((with_reducible refine (write_nil _ _ _).mono ?_); rintro _ W3 ⟨rfl, hw⟩; replace hw := hw.symm; subst hw))
        | (go_at_call 17; ((with_reducible refine (trim_odd _ _ HO.out.c).mono ?_); rintro _ W3 ⟨rfl, hw⟩; replace hw := hw.symm; subst hw))
        | (go_at_call 19; ((with_reducible refine (flush_nil _).mono ?_); rintro _ W3 ⟨rfl, hw⟩; replace hw := hw.symm; subst hw))
        | (go_at_call 26; ((with_reducible refine (loose_nil _).mono ?_); rintro _ W3 ⟨rfl, hw⟩; replace hw := hw.symm; subst hw))
        | (go_at_call 26; ((with_reducible refine (loose_odd HO.out.c).mono ?_); rintro _ W3 ⟨rfl, hw⟩; replace hw := hw.symm; subst hw))
        | (go_at_call 12; ((with_reducible refine (same_none none (some ⟨g, 0, none⟩) _ (real_nil _) (real_is false HO.out.c)).mono ?_); rintro _ W3 ⟨rfl, hw⟩; replace hw := hw.symm; subst hw))
        | (go_at_call 14; ((with_reducible refine (awake_calls _).mono ?_); rintro _ W3 ⟨rfl, hb3⟩; have H3 := Lib.hid (bthen HO.out.bl hb3); clear hb3)))
      go_ret
      exact ⟨rfl, H3.out⟩

end Go.Proofs.Ytbojokjommmebaa.MoMakes
