/- The walks of mix.undoer, mix.Back and the law's awake; no conditions. -/
import Derived.Test.YtllhmpbfnbbldaaMixPure
import Derived.Lib.Hide
namespace Go.Proofs.Ytllhmpbfnbbldaa.MixUndo
open Go.RowKit Go.Proofs.YtllhmpbfnbbldaaW.PrintWords Go.Proofs.YtllhmpbfnbbldaaW.PrintLast Go.Proofs.YtllhmpbfnbbldaaW.PrintMore
open Go.Proofs.Ytllhmpbfnbbldaa.PMixPicks Go.Proofs.Ytllhmpbfnbbldaa.MixPure

def stepU (b n : Int) : Int := IntKind.u64.wrap (n * IntKind.u64.wrap (2 - IntKind.u64.wrap (b * n)))

theorem step_calls (an ab : Addr) (n b : Int) (w : World) (hn : w.cell? an = some (.int .u64 n)) (hb : w.cell? ab = some (.int .u64 b)) (hf : w.frozen? an = false) :
    Calls Try.prog 35 #[.pointer (some an), .pointer (some ab)] w fun e w' => e = .returned (.tuple #[]) ∧ w' = w.setCell an (.int .u64 (stepU b n)) := by
  go_enter Try.func35, Try.ntmps35
  go_wp2
  go_end0
  exact ⟨rfl, rfl⟩

def iterU (b : Int) : Nat → Int
  | 0 => b
  | k + 1 => stepU b (iterU b k)

set_option maxRecDepth 100000 in
theorem undoer_calls (b : Int) (w : World) :
    Calls Try.prog 31 #[.int .u64 b] w fun e w' => e = .returned (.int .u64 (iterU b 6)) ∧ Below w.heap.size w w' := by
  have hmf : ∀ (fn : Fn) (first cap : Array Value) (w : World), (Instr.makeFunc fn first cap).run Try.prog w = .ok (.func fn first cap) w := fun _ _ _ _ => rfl
  go_enter Try.func31, Try.ntmps31
  go_wp2
  go_loopw [7] (fun i wr => ∃ k : Nat, k ≤ 6 ∧ i = .int .i64 k ∧ wr = (w.alloc (.cells #[.int .u64 b] 22)).alloc (.cells #[.int .u64 (iterU b k)] 22)) (fun i _ => 6 - (intOf i).toNat)
  case atStart => exact ⟨0, by omega, rfl, rfl⟩
  case round =>
    obtain ⟨k, hk, rfl, rfl⟩ := hrel
    have HS := Lib.hid (show stepU b (iterU b k) = iterU b (k + 1) from rfl)
    go_wp2_with (go_at_call 35; refine (step_calls _ _ (iterU b k) b _ ?_ ?_ ?_).mono ?_)
    · simp
    · simp
    · simp
    · rintro e w' ⟨rfl, rfl⟩
      go_wp2
      rw [HS.out]
      go_roundw
      case rel => exact ⟨k + 1, by omega, by go_num, rfl⟩
      case measure => simp [intOf]; omega
    · obtain rfl : k = 6 := by omega
      go_ret
      exact ⟨rfl, ((Below.refl _ _).alloc (Nat.le_refl _) _).alloc (by simp) _⟩

theorem below_drewN {B : Nat} {W w' : World} (h : Below B W w') (n : Nat) : Below B W (w'.drewN n) := by
  induction n with
  | zero => exact h
  | succ n ih => exact ih.drew
/-- A call behind others. -/
theorem below_then {a b c : World} (h : Below a.heap.size a b) (h' : Below b.heap.size b c) : Below a.heap.size a c := h.trans (h'.mono h.size)

theorem iterS : iterU 10723151780598845931 6 = 3573116690164977347 := by decide +kernel
theorem iterF : iterU 13787848793156543929 6 = 10871156337175269513 := by decide +kernel
theorem undoS (w : World) : Calls Try.prog 31 #[.int .u64 10723151780598845931] w fun e w' => e = .returned (.int .u64 3573116690164977347) ∧ Below w.heap.size w w' := by
  have h := undoer_calls 10723151780598845931 w
  rw [iterS] at h; exact h
theorem undoF (w : World) : Calls Try.prog 31 #[.int .u64 13787848793156543929] w fun e w' => e = .returned (.int .u64 10871156337175269513) ∧ Below w.heap.size w w' := by
  have h := undoer_calls 13787848793156543929 w
  rw [iterF] at h; exact h
theorem offAt (x b : Nat) (hx : x < 18446744073709551616) (h2 : 2 * b < 64) (h3 : 64 ≤ 3 * b) (w : World) :
    Calls Try.prog 30 #[.int .u64 (x : Int), .int .i64 (b : Int)] w fun e w' => e = .returned (.int .u64 ((off x b : Nat) : Int)) ∧ Drawn0 w w' :=
  mix_off.calls 4 _ _ _ w (off_is 4 x b hx (by omega) h2 h3 (by omega))

theorem wrapIS (y : Nat) : IntKind.u64.wrap ((y : Int) * 3573116690164977347) = ((y * 3573116690164977347 % 18446744073709551616 : Nat) : Int) := by rw [IntKind.wrap_u64]; omega
theorem wrapIF (y : Nat) : IntKind.u64.wrap ((y : Int) * 10871156337175269513) = ((y * 10871156337175269513 % 18446744073709551616 : Nat) : Int) := by rw [IntKind.wrap_u64]; omega
theorem wrapIG (y s : Nat) : IntKind.u64.wrap ((y : Int) - IntKind.u64.wrap (11400714819323198485 * (s : Int))) = (((y + (18446744073709551616 - 11400714819323198485 * s % 18446744073709551616)) % 18446744073709551616 : Nat) : Int) := by
  rw [IntKind.wrap_u64, IntKind.wrap_u64]; omega
theorem ret_u64 {a b : Int} (h : a = b) : Ending.returned (.int .u64 a) = .returned (.int .u64 b) := by rw [h]

set_option maxRecDepth 100000 in
theorem back_calls (s x : Nat) (hx : x < 18446744073709551616) (w : World) :
    Calls Try.prog 13 #[.int .u64 (s : Int), .int .u64 (x : Int)] w fun e w' => e = .returned (.int .u64 ((backN s x : Nat) : Int)) ∧ Below w.heap.size w w' := by
  go_enter Try.func13, Try.ntmps13
  go_wp2_with fail
  refine (offAt x 31 hx (by decide) (by decide) _).mono ?_
  rintro e w' ⟨rfl, ⟨nd, rfl⟩⟩
  go_wp2_with fail
  refine (undoS _).mono ?_
  rintro e w1 ⟨rfl, hg1⟩
  go_wp2_with fail
  rw [wrapIS]
  refine (offAt _ 27 (Nat.mod_lt _ (by decide)) (by decide) (by decide) _).mono ?_
  rintro e w' ⟨rfl, ⟨nd2, rfl⟩⟩
  go_wp2_with fail
  refine (undoF _).mono ?_
  rintro e w2 ⟨rfl, hg2⟩
  go_wp2_with fail
  rw [wrapIF]
  refine (offAt _ 30 (Nat.mod_lt _ (by decide)) (by decide) (by decide) _).mono ?_
  rintro e w' ⟨rfl, ⟨nd3, rfl⟩⟩
  go_wp2_with fail
  go_ret
  exact ⟨ret_u64 (wrapIG _ _), below_drewN (below_then (below_drewN (below_then (below_drewN (Below.refl _ _) _) hg1) _) hg2) _⟩

theorem ofAt (s n : Nat) (w : World) : Calls Try.prog 10 #[.int .u64 (s : Int), .int .u64 (n : Int)] w fun e w' => e = .returned (.int .u64 ((ofN s n : Nat) : Int)) ∧ Drawn0 w w' :=
  mix_Of.calls _ _ _ w (Of_is s n)
theorem rOfAt (s n : Nat) (w : World) : Calls Try.prog 11 #[.int .u64 (s : Int), .int .u64 (n : Int)] w fun e w' => e = .returned (.int .u64 ((ofN s n : Nat) : Int)) ∧ Drawn0 w w' :=
  springhouseref05_Of.calls 32 _ _ _ w (rOf_is 32 s n (by decide))

/-- Numbers of the page's example, by name. -/
def c1 : Nat := ofN 0 1
def c2 : Nat := ofN 7 99
theorem aw1 (w : World) : Calls Try.prog 10 #[.int .u64 0, .int .u64 0] w fun e w' => e = .returned (.int .u64 0) ∧ Drawn0 w w' := by
  have h := ofAt 0 0 w
  rw [show ofN 0 0 = 0 from by decide +kernel] at h
  exact h
theorem aw2 (w : World) : Calls Try.prog 10 #[.int .u64 0, .int .u64 1] w fun e w' => e = .returned (.int .u64 c1) ∧ Drawn0 w w' := ofAt 0 1 w
theorem aw3 (w : World) : Calls Try.prog 11 #[.int .u64 0, .int .u64 1] w fun e w' => e = .returned (.int .u64 c1) ∧ Drawn0 w w' := rOfAt 0 1 w
theorem aw4 (w : World) : Calls Try.prog 11 #[.int .u64 7, .int .u64 99] w fun e w' => e = .returned (.int .u64 c2) ∧ Drawn0 w w' := rOfAt 7 99 w
theorem aw5 (w : World) : Calls Try.prog 13 #[.int .u64 7, .int .u64 c2] w fun e w' => e = .returned (.int .u64 99) ∧ Below w.heap.size w w' := by
  have h := back_calls 7 c2 (ofN_lt _ _) w
  rw [show backN 7 c2 = 99 from back_of 7 99 (by decide)] at h
  exact h
theorem aw6 (w : World) : Calls Try.prog 17 #[.int .u64 1, .int .u64 2, .int .i64 3, .int .i64 4] w fun e w' => ∃ (A : Option Addr) (c : Nat), e = .returned (.slice A 3 c) ∧ Below w.heap.size w w' := by
  obtain ⟨l, hl, hn⟩ : ∃ l, mix_All.f 5 1 2 3 4 = some l ∧ l.length = 3 := by
    refine ⟨((mix_All.f 5 1 2 3 4).getD []), ?_, ?_⟩ <;> decide +kernel
  refine (mix_All.calls 5 1 2 3 4 l w hl).mono ?_
  rintro e w' ⟨v, rfl, hR, hb⟩
  obtain ⟨A, c, rfl⟩ := Kd.R_slice hR
  rw [hn]
  exact ⟨A, c, rfl, hb⟩

set_option maxRecDepth 100000 in
/-- The page's example. -/
theorem awake_calls (w : World) : Calls Try.prog 12 #[] w fun e w' => e = .returned (.bool true) ∧ Below w.heap.size w w' := by
  go_enter Try.func12, Try.ntmps12
  go_wp2_with fail
  refine (aw1 _).mono ?_
  rintro e w1 ⟨rfl, ⟨n1, rfl⟩⟩
  go_wp2_with fail
  refine (aw2 _).mono ?_
  rintro e w1 ⟨rfl, ⟨n2, rfl⟩⟩
  go_wp2_with fail
  refine (aw3 _).mono ?_
  rintro e w1 ⟨rfl, ⟨n3, rfl⟩⟩
  go_wp2_with fail
  refine (aw4 _).mono ?_
  rintro e w1 ⟨rfl, ⟨n4, rfl⟩⟩
  go_wp2_with fail
  refine (aw5 _).mono ?_
  rintro e w5 ⟨rfl, hb5⟩
  go_wp2_with fail
  refine (aw6 _).mono ?_
  rintro e w6 ⟨A, c, rfl, hb6⟩
  go_wp2_with fail
  go_ret
  refine ⟨rfl, below_then (below_then ?_ hb5) hb6⟩
  repeat (first | exact Below.refl _ _ | apply below_drewN)
end Go.Proofs.Ytllhmpbfnbbldaa.MixUndo
