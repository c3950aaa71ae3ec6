/- Write, Trim, Loose. -/
import Derived.Test.YtbojokjommmebaaMoPut
namespace Go.Proofs.Ytbojokjommmebaa.MoWrite
set_option linter.unusedSimpArgs false
set_option linter.unusedVariables false
open Go.RowKit Go.Proofs.YtbojokjommmebaaW.PrintWords Go.Proofs.YtbojokjommmebaaW.PrintLast Go.Proofs.YtbojokjommmebaaW.PrintMore Go.Proofs.Ytbojokjommmebaa.MoMem Go.Proofs.Ytbojokjommmebaa.MoGo Go.Proofs.Ytbojokjommmebaa.MoNow Go.Proofs.Ytbojokjommmebaa.MoRead Go.Proofs.Ytbojokjommmebaa.MoPut
section
variable {W W' : World} {ab lb : Nat} {bs : List Bk} {S : Nat → Prop}
theorem write_nil (lba : Int) (v : Value) (W : World) : Calls Try.prog 9 #[.pointer none, .int .i64 lba, v] W fun e W' => e = .returned (.int .i64 2) ∧ W' = W := by
  have HR := ready_nil lba 1 W
  go_enter Try.func9, Try.ntmps9
  go_wp2_with (go_at_call 28; refine HR.mono ?_; rintro _ _ ⟨rfl, rfl⟩)
  go_ret
  exact ⟨rfl, rfl⟩
theorem write_out (h : ArrAt W ab lb bs) (lba : Int) (v : Value) (ho : ¬(0 ≤ lba ∧ lba < (bs.length : Int))) : Calls Try.prog 9 #[.pointer (some ⟨ab, 0, none⟩), .int .i64 lba, v] W fun e W' => e = .returned (.int .i64 3) ∧ W' = W := by
  have HR := ready_calls h lba 1
  rw [ready_out ho] at HR
  clear h ho
  go_enter Try.func9, Try.ntmps9
  go_wp2_with (go_at_call 28; refine HR.mono ?_; rintro _ _ ⟨rfl, rfl⟩)
  go_ret
  exact ⟨rfl, rfl⟩
theorem write_len (h : ArrAt W ab lb bs) (k : Nat) (hk : k < bs.length) (A : Option Addr) (n c : Nat) (hn : n ≠ 64) (hmx : n ≤ 9223372036854775807) : Calls Try.prog 9 #[.pointer (some ⟨ab, 0, none⟩), .int .i64 (k : Int), .slice A n c] W fun e W' => e = .returned (.int .i64 1) ∧ W' = W := by
  have HR := ready_calls h (k : Int) 1
  rw [ready_in hk] at HR
  have hne : ((n : Int) == 64) = false := by simp; omega
  clear h hk hn
  go_enter Try.func9, Try.ntmps9
  go_wp2_with (go_at_call 28; refine HR.mono ?_; rintro _ _ ⟨rfl, rfl⟩)
  go_ret
  exact ⟨rfl, rfl⟩
theorem write_ok (h : ArrAt W ab lb bs) (k : Nat) (hk : k < bs.length) (A : Option Addr) (c : Nat) (x : List Int) (hx : Sec x) (hr : Kd.C (Kd.int .u8) W A x.length x) (hA : ∀ ad, A = some ad → ad.block ≠ lb) :
    Calls Try.prog 9 #[.pointer (some ⟨ab, 0, none⟩), .int .i64 (k : Int), .slice A 64 c] W fun e W' => e = .returned (.int .i64 0) ∧ ArrAt W' ab lb (putL bs k x 1) ∧ Fr W W' (fun k => k = lb) := by
  have HR := ready_calls h (k : Int) 1
  rw [ready_in hk] at HR
  have HP := Lib.hid (put_calls h k 1 (by omega) A c x hx hr hA)
  clear h hk hx hr hA
  go_enter Try.func9, Try.ntmps9
  go_wp2_with (first
    | (go_at_call 28; refine HR.mono ?_; rintro _ W2 ⟨rfl, hw⟩; replace hw := hw.symm; subst hw)
    | (go_at_call 29; refine HP.out.mono ?_; rintro _ W2 ⟨⟨vv, rfl⟩, h1, h2⟩; have H1 := Lib.hid (And.intro h1 h2); clear h1 h2))
  go_ret
  exact ⟨rfl, H1.out.1, H1.out.2⟩
theorem trim_odd (lba n : Int) (hc : W.cell? ⟨ab, 1, none⟩ = some (.bool false)) : Calls Try.prog 17 #[.pointer (some ⟨ab, 0, none⟩), .int .i64 lba, .int .i64 n] W fun e W' => e = .returned (.int .i64 2) ∧ W' = W := by
  have HR := ready_odd lba n hc
  clear hc
  go_enter Try.func17, Try.ntmps17
  go_wp2_with (go_at_call 28; refine HR.mono ?_; rintro _ _ ⟨rfl, rfl⟩)
  go_ret
  exact ⟨rfl, rfl⟩
theorem trim_out (h : ArrAt W ab lb bs) (lba n : Int) (ho : readyE bs.length lba n = 3) : Calls Try.prog 17 #[.pointer (some ⟨ab, 0, none⟩), .int .i64 lba, .int .i64 n] W fun e W' => e = .returned (.int .i64 3) ∧ W' = W := by
  have HR := ready_calls h lba n
  rw [ho] at HR
  clear h ho
  go_enter Try.func17, Try.ntmps17
  go_wp2_with (go_at_call 28; refine HR.mono ?_; rintro _ _ ⟨rfl, rfl⟩)
  go_ret
  exact ⟨rfl, rfl⟩
theorem z64_row (W : World) : Kd.C (Kd.int .u8) (W.alloc (.cells (v8 z64).toArray 5)) (some ⟨W.heap.size, 0, none⟩) z64.length z64 := by
  have ho : (W.alloc (.cells (v8 z64).toArray 5)).ownsRow W.heap.size 5 1 (.slice (some ⟨W.heap.size, 0, none⟩) 64 64) z64.length (encs (Value.int .u8) z64) :=
    ⟨by simp [encs], .inr ⟨W.heap.size, 64, _, by rfl, Nat.le_refl _, alloc_at _ _, by simp [z64], by unfold maxLen; omega, by simp [v8_len, z64], by simp only [v8, encs, Nat.mul_one]; exact List.take_of_length_le (by simp)⟩⟩
  obtain ⟨A, c, e, h1, h2⟩ := Kd.R_reads (Kd.R_of_own (ok := fun _ => True) (h1 := fun _ => rfl) ho (fun _ _ => trivial))
  injection e with e1 e2 e3
  rw [← e1] at h2
  exact h2
theorem run_z64 (W : World) : (Instr.makeSlice 33 (.int .i64 64) (.int .i64 64)).run Try.prog W = .ok (.slice (some ⟨W.heap.size, 0, none⟩) 64 64) (W.alloc (.cells (v8 z64).toArray 5)) := by
  obtain ⟨i, hi, h1⟩ := Option.map_eq_some_iff.1 info5'
  simp only [Prod.mk.injEq] at h1
  have := run_make (P := Try.prog) W 33 5 i (.int .u8 0) Try.underlying33 hi h1.1 .i64 .i64 64 64 (by omega) (Int.le_refl _) (by rw [h1.2.2]; omega) (by omega)
  rw [this, h1.2.1]
  have e : madeCells (Value.int .u8 0).cells (Int.toNat 64 * 1) = (v8 z64).toArray := by kernel_rfl
  rw [e]; rfl
theorem trim_ok (h : ArrAt W ab lb bs) (k n : Nat) (hn : readyE bs.length k n = 0) :
    Calls Try.prog 17 #[.pointer (some ⟨ab, 0, none⟩), .int .i64 (k : Int), .int .i64 (n : Int)] W fun e W' => e = .returned (.int .i64 0) ∧ ArrAt W' ab lb (putL bs k z64 n) ∧ Fr W W' (fun k => k = lb) := by
  have HR := ready_calls h (k : Int) (n : Int)
  rw [hn] at HR
  have hkn : k + n ≤ bs.length := by unfold readyE at hn; split at hn <;> omega
  have hlt := h.lb_lt
  have hb : Below W.heap.size W (W.alloc (.cells (v8 z64).toArray 5)) := (Below.refl _ _).alloc (Nat.le_refl _) _
  have HP := Lib.hid (put_calls (h.below hb) k n hkn (some ⟨W.heap.size, 0, none⟩) 64 z64 sec_z64 (z64_row W) (fun ad e => by injection e with e; rw [← e]; show W.heap.size ≠ lb; omega))
  have HFB := Lib.hid (Fr.of_below hb (fun k => k = lb))
  have hmk := run_z64
  clear h hn hkn hlt hb
  go_enter Try.func17, Try.ntmps17
  go_wp2_with (first
    | (go_at_call 28; refine HR.mono ?_; rintro _ W2 ⟨rfl, hw⟩; replace hw := hw.symm; subst hw)
    | (go_at_call 29; refine HP.out.mono ?_; rintro _ W2 ⟨⟨vv, rfl⟩, h1, h2⟩; have H1 := Lib.hid (And.intro h1 (HFB.out.trans h2 (fun k hk => .inl hk))); clear h1 h2))
  go_ret
  exact ⟨rfl, H1.out.1, H1.out.2⟩
end
end Go.Proofs.Ytbojokjommmebaa.MoWrite
