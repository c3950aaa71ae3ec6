/- The reference: Same. -/
import Derived.Test.YtbojokjommmebaaMoRefNew
namespace Go.Proofs.Ytbojokjommmebaa.MoRefSame
set_option linter.unusedSimpArgs false
set_option linter.unusedVariables false
open Go.RowKit Go.Proofs.YtbojokjommmebaaW.PrintWords Go.Proofs.YtbojokjommmebaaW.PrintLast Go.Proofs.YtbojokjommmebaaW.PrintMore Go.Proofs.Ytbojokjommmebaa.PModelPlays Go.Proofs.Ytbojokjommmebaa.MoMem Go.Proofs.Ytbojokjommmebaa.MoGo Go.Proofs.Ytbojokjommmebaa.MoPut Go.Proofs.Ytbojokjommmebaa.MoWrite Go.Proofs.Ytbojokjommmebaa.MoLoose Go.Proofs.Ytbojokjommmebaa.MoReg Go.Proofs.Ytbojokjommmebaa.MoPure Go.Proofs.Ytbojokjommmebaa.MoRefMem Go.Proofs.Ytbojokjommmebaa.MoRefPut Go.Proofs.Ytbojokjommmebaa.MoRefWrite Go.Proofs.Ytbojokjommmebaa.MoRefTrim Go.Proofs.Ytbojokjommmebaa.MoRefRows Go.Proofs.Ytbojokjommmebaa.MoRefNew
section
variable {w : World} {ev : Operand → Value} {o : Oper}
theorem exec_loadS (ty : TypeId) (x : Operand) (p : Addr) (A : Option Addr) (n c : Nat) (hu : ∀ w, (isAgg ty).run Try.prog w = .ok false w) (ho : o.op = .load ty x) (hx : ev x = .pointer (some p)) (hc : w.cell? p = some (.slice A n c)) : (execOp ev o).run Try.prog w = .ok (.value (.slice A n c)) w := by
  unfold execOp
  simp [ho, hx, Instr.loadAt, Instr.sureAddr, Sem.run_bind, Sem.run_pure, go_sem, hc, hu]
theorem exec_loadV (ty : TypeId) (x : Operand) (p : Addr) (v : Value) (hu : ∀ w, (isAgg ty).run Try.prog w = .ok false w) (ho : o.op = .load ty x) (hx : ev x = .pointer (some p)) (hc : w.cell? p = some v) : (execOp ev o).run Try.prog w = .ok (.value v) w := by
  unfold execOp
  simp [ho, hx, Instr.loadAt, Instr.sureAddr, Sem.run_bind, Sem.run_pure, go_sem, hc, hu]
theorem exec_idx43 (x ix : Operand) (g n c k : Nat) (ho : o.op = .indexAddr 43 x ix) (hx : ev x = .slice (some ⟨g, 0, none⟩) n c) (hi : ev ix = .int .i64 (k : Int)) (hk : k < n) : (execOp ev o).run Try.prog w = .ok (.value (.pointer (some ⟨g, k, none⟩))) w := by
  have h1 : ¬ ((k : Int) < 0) := by omega
  have h2 : (k : Int) < n := by omega
  have he : Try.prog.elem 43 = 9 := by kernel_rfl
  have hs : (Go.sizeOf 9).run Try.prog w = .ok 1 w := by kernel_rfl
  unfold execOp
  simp [ho, hx, hi, go_sem, Try.underlying43, h1, h2, he, hs, Addr.add]
  exact fun e => e.symm
theorem exec_idx44 (x ix : Operand) (g n c k : Nat) (ho : o.op = .indexAddr 44 x ix) (hx : ev x = .slice (some ⟨g, 0, none⟩) n c) (hi : ev ix = .int .i64 (k : Int)) (hk : k < n) : (execOp ev o).run Try.prog w = .ok (.value (.pointer (some ⟨g, k, none⟩))) w := by
  have h1 : ¬ ((k : Int) < 0) := by omega
  have h2 : (k : Int) < n := by omega
  have he : Try.prog.elem 44 = 4 := by kernel_rfl
  have hs : (Go.sizeOf 4).run Try.prog w = .ok 1 w := by kernel_rfl
  unfold execOp
  simp [ho, hx, hi, go_sem, Try.underlying44, h1, h2, he, hs, Addr.add]
  exact fun e => e.symm
theorem exec_strneq (t ty : TypeId) (x y : Operand) (b c : ByteArray) (ho : o.op = .binOp .neq t x y ty) (hx : ev x = .string b) (hy : ev y = .string c) (r : Bool) (hr : (b.toList != c.toList) = r) :
    (execOp ev o).run Try.prog w = .ok (.value (.bool r)) w := by
  unfold execOp
  simp [ho, hx, hy, eqGuard, go_sem, ← hr, bne]
theorem exec_boolneq (x y : Operand) (b c : Bool) (ho : o.op = .binOp .neq 4 x y 4) (hx : ev x = .bool b) (hy : ev y = .bool c) (r : Bool) (hr : (b != c) = r) :
    (execOp ev o).run Try.prog w = .ok (.value (.bool r)) w := by
  unfold execOp
  simp [ho, hx, hy, eqGuard, go_sem, ← hr, bne]
end
def r1 (x y : Bk) : Bool := !((strOfNums x.d).toList != (strOfNums y.d).toList) && (!((strOfNums x.now).toList != (strOfNums y.now).toList) && !(x.l != y.l))
def rK (xs ys : List Bk) (k : Nat) : Bool := (List.range k).all fun i => r1 (xs.getD i zb) (ys.getD i zb)
def rEq (xs ys : List Bk) : Bool := decide (xs.length = ys.length) && rK xs ys xs.length
theorem rK_succ (xs ys : List Bk) (k : Nat) : rK xs ys (k + 1) = (rK xs ys k && r1 (xs.getD k zb) (ys.getD k zb)) := by
  unfold rK
  rw [List.range_succ, List.all_append]; simp
theorem rK_false {xs ys : List Bk} {k n : Nat} (hk : k < n) (h : r1 (xs.getD k zb) (ys.getD k zb) = false) : rK xs ys n = false := by
  unfold rK
  rw [List.all_eq_false]
  exact ⟨k, List.mem_range.2 hk, by rw [h]; simp⟩
section
variable {W W' : World} {b1 b2 ra rb : Nat} {Z Y : Nat → Prop} {xs ys : List Bk}
set_option maxRecDepth 100000 in
theorem rsame_ne (h : RefE W b1 Z ra xs) (h' : RefE W b2 Y rb ys) (hl : xs.length ≠ ys.length) : Calls Try.prog 13 #[.pointer (some ⟨ra, 0, none⟩), .pointer (some ⟨rb, 0, none⟩)] W fun e W' => e = .returned (.bool false) ∧ Below W.heap.size W W' := by
  obtain ⟨A, c, c0, hc⟩ := refE_c0 h
  obtain ⟨B, d, d0, hd⟩ := refE_c0 h'
  have hf := h.few
  have hf2 := h'.few
  generalize xs.length = n at *
  generalize ys.length = m at *
  have hne : ((n : Int) == (m : Int)) = false := by simp; omega
  have hne2 : ((n : Int) != (m : Int)) = true := by simp; omega
  clear h h' hl
  go_enter Try.func13, Try.ntmps13
  go_wp2_with (fail)
  go_quiet (fail)
  go_wp2_with (fail)
  go_ret
  exact ⟨rfl, bdrew (Below.refl _ _) _⟩
set_option maxRecDepth 100000 in
set_option maxHeartbeats 8000000 in
theorem rsame_eq (h : RefE W b1 Z ra xs) (h' : RefE W b2 Y rb ys) (hl : xs.length = ys.length) : Calls Try.prog 13 #[.pointer (some ⟨ra, 0, none⟩), .pointer (some ⟨rb, 0, none⟩)] W fun e W' => e = .returned (.bool (rK xs ys xs.length)) ∧ Below W.heap.size W W' := by
  obtain ⟨A, c, c0, hc⟩ := refE_c0 h
  obtain ⟨B, d, d0, hd⟩ := refE_c0 h'
  have hf := h.few
  have HH := Lib.hid h
  have HH2 := Lib.hid h'
  rw [← hl] at d0 hd
  obtain ⟨L, hL⟩ : ∃ L, L = xs.length := ⟨_, rfl⟩
  have hL2 : L = ys.length := hL.trans hl
  rw [← hL] at c0 hc d0 hd hf ⊢
  have HL := Lib.hid hL
  have HL2 := Lib.hid hL2
  clear h h' hL hL2 hl
  go_enter Try.func13, Try.ntmps13
  go_wp2_with (fail)
  go_quiet (fail)
  go_wp2_with (fail)
  clear c0 d0
  go_loopw [5] (fun v5 wr => ∃ (k : Nat), v5 = .int .i64 (k : Int) ∧ k ≤ L ∧ Hid (rK xs ys k = true) ∧ Hid (Below W.heap.size W wr)) (fun v5 _ => ((L : Int) - intOf v5).toNat)
  case atStart => exact ⟨0, rfl, by omega, Lib.hid (by simp [rK]), Lib.hid (bdrew (Below.refl _ _) _)⟩
  case round =>
    obtain ⟨k, rfl, hk, HK, HB⟩ := hrel
    have ha := HH.out.below HB.out
    have ha2 := HH2.out.below HB.out
    obtain ⟨A, c, c0, hc, _⟩ := refE_d ha
    rw [← HL.out] at c0 hc
    by_cases hlt : k < L
    · clear c0 hc
      obtain ⟨A0, c0, p0, pc0, q0⟩ := refE_d ha
      obtain ⟨A1, c1, p1, pc1, q1⟩ := refE_s ha
      obtain ⟨A2, c2, p2, pc2, q2⟩ := refE_l ha
      obtain ⟨B0, d0, t0, td0, u0⟩ := refE_d ha2
      obtain ⟨B1, d1, t1, td1, u1⟩ := refE_s ha2
      obtain ⟨B2, d2, t2, td2, u2⟩ := refE_l ha2
      rw [← HL.out] at p0 p1 p2 pc0 q0 q1 q2
      rw [← HL2.out] at t0 t1 t2 u0 u1 u2
      obtain ⟨g0, rfl, x0⟩ := q0 k hlt
      obtain ⟨g1, rfl, x1⟩ := q1 k hlt
      obtain ⟨g2, rfl, x2⟩ := q2 k hlt
      obtain ⟨h0, rfl, y0⟩ := u0 k hlt
      obtain ⟨h1, rfl, y1⟩ := u1 k hlt
      obtain ⟨h2, rfl, y2⟩ := u2 k hlt
      have hsu := rK_succ xs ys k
      have hfa := @rK_false xs ys k L hlt
      rw [HK.out, Bool.true_and] at hsu
      generalize xs.getD k zb = x at *
      generalize ys.getD k zb = y at *
      have cc := p0
      have hcc := pc0
      have A0 := Lib.hid p0
      have A1 := Lib.hid p1
      have A2 := Lib.hid p2
      have B0 := Lib.hid t0
      have B1 := Lib.hid t1
      have B2 := Lib.hid t2
      have X0 := Lib.hid x0
      have X1 := Lib.hid x1
      have X2 := Lib.hid x2
      have Y0 := Lib.hid y0
      have Y1 := Lib.hid y1
      have Y2 := Lib.hid y2
      clear p0 p1 p2 t0 t1 t2 x0 x1 x2 y0 y1 y2 pc0 pc1 pc2 td0 td1 td2 q0 q1 q2 u0 u1 u2 ha ha2
      cases e0 : ((strOfNums x.d).toList != (strOfNums y.d).toList) with
      | true =>
        have Q0 := Lib.hid e0
        have HE := Lib.hid (hfa (by unfold r1; rw [e0] <;> rfl))
        clear hsu hfa e0
        go_wp2_with (fail)
        clear cc
        refine wp_region_held (S := fun w' => Below wr.heap.size wr w') (by kernel_rfl) ?_
        have SS : Below wr.heap.size wr { wr with drawn := wr.drawn + 1 } := (Below.refl _ _).drew
        refine take 0 26 (.pointer (some ⟨ra, 0, none⟩)) (by kernel_rfl) (by kernel_rfl) (by kernel_rfl) (by kernel_rfl) (by kernel_rfl) (fun _ _ _ h => h) (by kernel_rfl) (fun _ _ => by kernel_rfl) SS ?_
        refine take 1 27 (.pointer (some ⟨ra, 0, none⟩)) (by kernel_rfl) (by kernel_rfl) (by kernel_rfl) (by kernel_rfl) (by kernel_rfl) (fun _ _ _ h => h) (by kernel_rfl) (fun _ _ => by kernel_rfl) SS ?_
        refine take 2 28 (.pointer (some ⟨ra, 0, none⟩)) (by kernel_rfl) (by kernel_rfl) (by kernel_rfl) (by kernel_rfl) (by kernel_rfl) (fun _ _ _ h => h) (by kernel_rfl) (fun _ _ => by kernel_rfl) SS ?_
        refine take 3 29 (.slice (some ⟨g0, 0, none⟩) L c0) (by kernel_rfl) (by kernel_rfl) (by kernel_rfl) (by kernel_rfl) (by kernel_rfl) (fun _ _ _ h => h) (by kernel_rfl) (fun w' hS => exec_loadS 43 (.tmp 28) ⟨ra, 0, none⟩ (some ⟨g0, 0, none⟩) L c0 (fun _ => by kernel_rfl) (by kernel_rfl) (by kernel_rfl) ((hS.cell (cell_lt A0.out)).trans A0.out)) SS ?_
        refine take 4 30 (.int .i64 (k : Int)) (by kernel_rfl) (by kernel_rfl) (by kernel_rfl) (by kernel_rfl) (by kernel_rfl) (fun _ _ _ h => h) (by kernel_rfl) (fun _ _ => by kernel_rfl) SS ?_
        refine take 5 31 (.pointer (some ⟨g0, k, none⟩)) (by kernel_rfl) (by kernel_rfl) (by kernel_rfl) (by kernel_rfl) (by kernel_rfl) (fun _ _ _ h => h) (by kernel_rfl) (fun w' hS => exec_idx43 (.tmp 29) (.tmp 30) g0 L c0 k (by kernel_rfl) (by kernel_rfl) (by kernel_rfl) hlt) SS ?_
        refine take 6 32 (.string (strOfNums x.d)) (by kernel_rfl) (by kernel_rfl) (by kernel_rfl) (by kernel_rfl) (by kernel_rfl) (fun _ _ _ h => h) (by kernel_rfl) (fun w' hS => exec_loadV 9 (.tmp 31) ⟨g0, k, none⟩ _ (fun _ => by kernel_rfl) (by kernel_rfl) (by kernel_rfl) ((hS.cell (cell_lt X0.out)).trans X0.out)) SS ?_
        refine take 7 33 (.pointer (some ⟨rb, 0, none⟩)) (by kernel_rfl) (by kernel_rfl) (by kernel_rfl) (by kernel_rfl) (by kernel_rfl) (fun _ _ _ h => h) (by kernel_rfl) (fun _ _ => by kernel_rfl) SS ?_
        refine take 8 34 (.pointer (some ⟨rb, 0, none⟩)) (by kernel_rfl) (by kernel_rfl) (by kernel_rfl) (by kernel_rfl) (by kernel_rfl) (fun _ _ _ h => h) (by kernel_rfl) (fun _ _ => by kernel_rfl) SS ?_
        refine take 9 35 (.pointer (some ⟨rb, 0, none⟩)) (by kernel_rfl) (by kernel_rfl) (by kernel_rfl) (by kernel_rfl) (by kernel_rfl) (fun _ _ _ h => h) (by kernel_rfl) (fun _ _ => by kernel_rfl) SS ?_
        refine take 10 36 (.slice (some ⟨h0, 0, none⟩) L d0) (by kernel_rfl) (by kernel_rfl) (by kernel_rfl) (by kernel_rfl) (by kernel_rfl) (fun _ _ _ h => h) (by kernel_rfl) (fun w' hS => exec_loadS 43 (.tmp 35) ⟨rb, 0, none⟩ (some ⟨h0, 0, none⟩) L d0 (fun _ => by kernel_rfl) (by kernel_rfl) (by kernel_rfl) ((hS.cell (cell_lt B0.out)).trans B0.out)) SS ?_
        refine take 11 37 (.int .i64 (k : Int)) (by kernel_rfl) (by kernel_rfl) (by kernel_rfl) (by kernel_rfl) (by kernel_rfl) (fun _ _ _ h => h) (by kernel_rfl) (fun _ _ => by kernel_rfl) SS ?_
        refine take 12 38 (.pointer (some ⟨h0, k, none⟩)) (by kernel_rfl) (by kernel_rfl) (by kernel_rfl) (by kernel_rfl) (by kernel_rfl) (fun _ _ _ h => h) (by kernel_rfl) (fun w' hS => exec_idx43 (.tmp 36) (.tmp 37) h0 L d0 k (by kernel_rfl) (by kernel_rfl) (by kernel_rfl) hlt) SS ?_
        refine take 13 39 (.string (strOfNums y.d)) (by kernel_rfl) (by kernel_rfl) (by kernel_rfl) (by kernel_rfl) (by kernel_rfl) (fun _ _ _ h => h) (by kernel_rfl) (fun w' hS => exec_loadV 9 (.tmp 38) ⟨h0, k, none⟩ _ (fun _ => by kernel_rfl) (by kernel_rfl) (by kernel_rfl) ((hS.cell (cell_lt Y0.out)).trans Y0.out)) SS ?_
        refine take 14 40 (.bool true) (by kernel_rfl) (by kernel_rfl) (by kernel_rfl) (by kernel_rfl) (by kernel_rfl) (fun _ _ _ h => h) (by kernel_rfl) (fun w' hS => exec_strneq 9 9 (.tmp 32) (.tmp 39) (strOfNums x.d) (strOfNums y.d) (by kernel_rfl) (by kernel_rfl) (by kernel_rfl) true Q0.out) SS ?_
        refine take 15 41 (.bool true) (by kernel_rfl) (by kernel_rfl) (by kernel_rfl) (by kernel_rfl) (by kernel_rfl) (fun _ _ _ h => h) (by kernel_rfl) (fun _ _ => by kernel_rfl) SS ?_
        refine off 16 42 (by kernel_rfl) (by kernel_rfl) (by kernel_rfl) (by kernel_rfl) (by kernel_rfl) (fun _ _ _ h => h) (by kernel_rfl) SS ?_
        refine off 17 43 (by kernel_rfl) (by kernel_rfl) (by kernel_rfl) (by kernel_rfl) (by kernel_rfl) (fun _ _ _ h => h) (by kernel_rfl) SS ?_
        refine off 18 44 (by kernel_rfl) (by kernel_rfl) (by kernel_rfl) (by kernel_rfl) (by kernel_rfl) (fun _ _ _ h => h) (by kernel_rfl) SS ?_
        refine off 19 45 (by kernel_rfl) (by kernel_rfl) (by kernel_rfl) (by kernel_rfl) (by kernel_rfl) (fun _ _ _ h => h) (by kernel_rfl) SS ?_
        refine off 20 46 (by kernel_rfl) (by kernel_rfl) (by kernel_rfl) (by kernel_rfl) (by kernel_rfl) (fun _ _ _ h => h) (by kernel_rfl) SS ?_
        refine off 21 47 (by kernel_rfl) (by kernel_rfl) (by kernel_rfl) (by kernel_rfl) (by kernel_rfl) (fun _ _ _ h => h) (by kernel_rfl) SS ?_
        refine off 22 48 (by kernel_rfl) (by kernel_rfl) (by kernel_rfl) (by kernel_rfl) (by kernel_rfl) (fun _ _ _ h => h) (by kernel_rfl) SS ?_
        refine off 23 49 (by kernel_rfl) (by kernel_rfl) (by kernel_rfl) (by kernel_rfl) (by kernel_rfl) (fun _ _ _ h => h) (by kernel_rfl) SS ?_
        refine off 24 50 (by kernel_rfl) (by kernel_rfl) (by kernel_rfl) (by kernel_rfl) (by kernel_rfl) (fun _ _ _ h => h) (by kernel_rfl) SS ?_
        refine off 25 51 (by kernel_rfl) (by kernel_rfl) (by kernel_rfl) (by kernel_rfl) (by kernel_rfl) (fun _ _ _ h => h) (by kernel_rfl) SS ?_
        refine off 26 52 (by kernel_rfl) (by kernel_rfl) (by kernel_rfl) (by kernel_rfl) (by kernel_rfl) (fun _ _ _ h => h) (by kernel_rfl) SS ?_
        refine off 27 53 (by kernel_rfl) (by kernel_rfl) (by kernel_rfl) (by kernel_rfl) (by kernel_rfl) (fun _ _ _ h => h) (by kernel_rfl) SS ?_
        refine off 28 54 (by kernel_rfl) (by kernel_rfl) (by kernel_rfl) (by kernel_rfl) (by kernel_rfl) (fun _ _ _ h => h) (by kernel_rfl) SS ?_
        refine off 29 55 (by kernel_rfl) (by kernel_rfl) (by kernel_rfl) (by kernel_rfl) (by kernel_rfl) (fun _ _ _ h => h) (by kernel_rfl) SS ?_
        refine off 30 56 (by kernel_rfl) (by kernel_rfl) (by kernel_rfl) (by kernel_rfl) (by kernel_rfl) (fun _ _ _ h => h) (by kernel_rfl) SS ?_
        refine take 31 57 (.bool true) (by kernel_rfl) (by kernel_rfl) (by kernel_rfl) (by kernel_rfl) (by kernel_rfl) (fun _ _ _ h => h) (by kernel_rfl) (fun _ _ => by kernel_rfl) SS ?_
        refine take 32 58 (.bool true) (by kernel_rfl) (by kernel_rfl) (by kernel_rfl) (by kernel_rfl) (by kernel_rfl) (fun _ _ _ h => h) (by kernel_rfl) (fun _ _ => by kernel_rfl) SS ?_
        refine off 33 59 (by kernel_rfl) (by kernel_rfl) (by kernel_rfl) (by kernel_rfl) (by kernel_rfl) (fun _ _ _ h => h) (by kernel_rfl) SS ?_
        refine off 34 60 (by kernel_rfl) (by kernel_rfl) (by kernel_rfl) (by kernel_rfl) (by kernel_rfl) (fun _ _ _ h => h) (by kernel_rfl) SS ?_
        refine off 35 61 (by kernel_rfl) (by kernel_rfl) (by kernel_rfl) (by kernel_rfl) (by kernel_rfl) (fun _ _ _ h => h) (by kernel_rfl) SS ?_
        refine off 36 62 (by kernel_rfl) (by kernel_rfl) (by kernel_rfl) (by kernel_rfl) (by kernel_rfl) (fun _ _ _ h => h) (by kernel_rfl) SS ?_
        refine off 37 63 (by kernel_rfl) (by kernel_rfl) (by kernel_rfl) (by kernel_rfl) (by kernel_rfl) (fun _ _ _ h => h) (by kernel_rfl) SS ?_
        refine off 38 64 (by kernel_rfl) (by kernel_rfl) (by kernel_rfl) (by kernel_rfl) (by kernel_rfl) (fun _ _ _ h => h) (by kernel_rfl) SS ?_
        refine off 39 65 (by kernel_rfl) (by kernel_rfl) (by kernel_rfl) (by kernel_rfl) (by kernel_rfl) (fun _ _ _ h => h) (by kernel_rfl) SS ?_
        refine off 40 66 (by kernel_rfl) (by kernel_rfl) (by kernel_rfl) (by kernel_rfl) (by kernel_rfl) (fun _ _ _ h => h) (by kernel_rfl) SS ?_
        refine off 41 67 (by kernel_rfl) (by kernel_rfl) (by kernel_rfl) (by kernel_rfl) (by kernel_rfl) (fun _ _ _ h => h) (by kernel_rfl) SS ?_
        refine off 42 68 (by kernel_rfl) (by kernel_rfl) (by kernel_rfl) (by kernel_rfl) (by kernel_rfl) (fun _ _ _ h => h) (by kernel_rfl) SS ?_
        refine off 43 69 (by kernel_rfl) (by kernel_rfl) (by kernel_rfl) (by kernel_rfl) (by kernel_rfl) (fun _ _ _ h => h) (by kernel_rfl) SS ?_
        refine off 44 70 (by kernel_rfl) (by kernel_rfl) (by kernel_rfl) (by kernel_rfl) (by kernel_rfl) (fun _ _ _ h => h) (by kernel_rfl) SS ?_
        refine off 45 71 (by kernel_rfl) (by kernel_rfl) (by kernel_rfl) (by kernel_rfl) (by kernel_rfl) (fun _ _ _ h => h) (by kernel_rfl) SS ?_
        refine off 46 72 (by kernel_rfl) (by kernel_rfl) (by kernel_rfl) (by kernel_rfl) (by kernel_rfl) (fun _ _ _ h => h) (by kernel_rfl) SS ?_
        refine off 47 73 (by kernel_rfl) (by kernel_rfl) (by kernel_rfl) (by kernel_rfl) (by kernel_rfl) (fun _ _ _ h => h) (by kernel_rfl) SS ?_
        refine take 48 74 (.bool true) (by kernel_rfl) (by kernel_rfl) (by kernel_rfl) (by kernel_rfl) (by kernel_rfl) (fun _ _ _ h => h) (by kernel_rfl) (fun _ _ => by kernel_rfl) SS ?_
        try simp only [Act.put, List.setIfInBounds_toArray, List.set_cons_zero, List.set_cons_succ]
        refine wpAnyH_done (by kernel_rfl) ?_ _
        have HB2 := Lib.hid (bthen HB.out SS)
        clear SS
        go_wp2_with (fail)
        go_ret
        rw [HE.out]
        exact ⟨rfl, HB2.out⟩
      | false =>
        have Q0 := Lib.hid e0
        cases e1 : ((strOfNums x.now).toList != (strOfNums y.now).toList) with
        | true =>
          have Q1 := Lib.hid e1
          have HE := Lib.hid (hfa (by unfold r1; rw [e0, e1] <;> rfl))
          clear hsu hfa e0 e1
          go_wp2_with (fail)
          clear cc
          refine wp_region_held (S := fun w' => Below wr.heap.size wr w') (by kernel_rfl) ?_
          have SS : Below wr.heap.size wr { wr with drawn := wr.drawn + 1 } := (Below.refl _ _).drew
          refine take 0 26 (.pointer (some ⟨ra, 0, none⟩)) (by kernel_rfl) (by kernel_rfl) (by kernel_rfl) (by kernel_rfl) (by kernel_rfl) (fun _ _ _ h => h) (by kernel_rfl) (fun _ _ => by kernel_rfl) SS ?_
          refine take 1 27 (.pointer (some ⟨ra, 0, none⟩)) (by kernel_rfl) (by kernel_rfl) (by kernel_rfl) (by kernel_rfl) (by kernel_rfl) (fun _ _ _ h => h) (by kernel_rfl) (fun _ _ => by kernel_rfl) SS ?_
          refine take 2 28 (.pointer (some ⟨ra, 0, none⟩)) (by kernel_rfl) (by kernel_rfl) (by kernel_rfl) (by kernel_rfl) (by kernel_rfl) (fun _ _ _ h => h) (by kernel_rfl) (fun _ _ => by kernel_rfl) SS ?_
          refine take 3 29 (.slice (some ⟨g0, 0, none⟩) L c0) (by kernel_rfl) (by kernel_rfl) (by kernel_rfl) (by kernel_rfl) (by kernel_rfl) (fun _ _ _ h => h) (by kernel_rfl) (fun w' hS => exec_loadS 43 (.tmp 28) ⟨ra, 0, none⟩ (some ⟨g0, 0, none⟩) L c0 (fun _ => by kernel_rfl) (by kernel_rfl) (by kernel_rfl) ((hS.cell (cell_lt A0.out)).trans A0.out)) SS ?_
          refine take 4 30 (.int .i64 (k : Int)) (by kernel_rfl) (by kernel_rfl) (by kernel_rfl) (by kernel_rfl) (by kernel_rfl) (fun _ _ _ h => h) (by kernel_rfl) (fun _ _ => by kernel_rfl) SS ?_
          refine take 5 31 (.pointer (some ⟨g0, k, none⟩)) (by kernel_rfl) (by kernel_rfl) (by kernel_rfl) (by kernel_rfl) (by kernel_rfl) (fun _ _ _ h => h) (by kernel_rfl) (fun w' hS => exec_idx43 (.tmp 29) (.tmp 30) g0 L c0 k (by kernel_rfl) (by kernel_rfl) (by kernel_rfl) hlt) SS ?_
          refine take 6 32 (.string (strOfNums x.d)) (by kernel_rfl) (by kernel_rfl) (by kernel_rfl) (by kernel_rfl) (by kernel_rfl) (fun _ _ _ h => h) (by kernel_rfl) (fun w' hS => exec_loadV 9 (.tmp 31) ⟨g0, k, none⟩ _ (fun _ => by kernel_rfl) (by kernel_rfl) (by kernel_rfl) ((hS.cell (cell_lt X0.out)).trans X0.out)) SS ?_
          refine take 7 33 (.pointer (some ⟨rb, 0, none⟩)) (by kernel_rfl) (by kernel_rfl) (by kernel_rfl) (by kernel_rfl) (by kernel_rfl) (fun _ _ _ h => h) (by kernel_rfl) (fun _ _ => by kernel_rfl) SS ?_
          refine take 8 34 (.pointer (some ⟨rb, 0, none⟩)) (by kernel_rfl) (by kernel_rfl) (by kernel_rfl) (by kernel_rfl) (by kernel_rfl) (fun _ _ _ h => h) (by kernel_rfl) (fun _ _ => by kernel_rfl) SS ?_
          refine take 9 35 (.pointer (some ⟨rb, 0, none⟩)) (by kernel_rfl) (by kernel_rfl) (by kernel_rfl) (by kernel_rfl) (by kernel_rfl) (fun _ _ _ h => h) (by kernel_rfl) (fun _ _ => by kernel_rfl) SS ?_
          refine take 10 36 (.slice (some ⟨h0, 0, none⟩) L d0) (by kernel_rfl) (by kernel_rfl) (by kernel_rfl) (by kernel_rfl) (by kernel_rfl) (fun _ _ _ h => h) (by kernel_rfl) (fun w' hS => exec_loadS 43 (.tmp 35) ⟨rb, 0, none⟩ (some ⟨h0, 0, none⟩) L d0 (fun _ => by kernel_rfl) (by kernel_rfl) (by kernel_rfl) ((hS.cell (cell_lt B0.out)).trans B0.out)) SS ?_
          refine take 11 37 (.int .i64 (k : Int)) (by kernel_rfl) (by kernel_rfl) (by kernel_rfl) (by kernel_rfl) (by kernel_rfl) (fun _ _ _ h => h) (by kernel_rfl) (fun _ _ => by kernel_rfl) SS ?_
          refine take 12 38 (.pointer (some ⟨h0, k, none⟩)) (by kernel_rfl) (by kernel_rfl) (by kernel_rfl) (by kernel_rfl) (by kernel_rfl) (fun _ _ _ h => h) (by kernel_rfl) (fun w' hS => exec_idx43 (.tmp 36) (.tmp 37) h0 L d0 k (by kernel_rfl) (by kernel_rfl) (by kernel_rfl) hlt) SS ?_
          refine take 13 39 (.string (strOfNums y.d)) (by kernel_rfl) (by kernel_rfl) (by kernel_rfl) (by kernel_rfl) (by kernel_rfl) (fun _ _ _ h => h) (by kernel_rfl) (fun w' hS => exec_loadV 9 (.tmp 38) ⟨h0, k, none⟩ _ (fun _ => by kernel_rfl) (by kernel_rfl) (by kernel_rfl) ((hS.cell (cell_lt Y0.out)).trans Y0.out)) SS ?_
          refine take 14 40 (.bool false) (by kernel_rfl) (by kernel_rfl) (by kernel_rfl) (by kernel_rfl) (by kernel_rfl) (fun _ _ _ h => h) (by kernel_rfl) (fun w' hS => exec_strneq 9 9 (.tmp 32) (.tmp 39) (strOfNums x.d) (strOfNums y.d) (by kernel_rfl) (by kernel_rfl) (by kernel_rfl) false Q0.out) SS ?_
          refine take 15 41 (.bool false) (by kernel_rfl) (by kernel_rfl) (by kernel_rfl) (by kernel_rfl) (by kernel_rfl) (fun _ _ _ h => h) (by kernel_rfl) (fun _ _ => by kernel_rfl) SS ?_
          refine take 16 42 (.pointer (some ⟨ra, 0, none⟩)) (by kernel_rfl) (by kernel_rfl) (by kernel_rfl) (by kernel_rfl) (by kernel_rfl) (fun _ _ _ h => h) (by kernel_rfl) (fun _ _ => by kernel_rfl) SS ?_
          refine take 17 43 (.pointer (some ⟨ra, 0, none⟩)) (by kernel_rfl) (by kernel_rfl) (by kernel_rfl) (by kernel_rfl) (by kernel_rfl) (fun _ _ _ h => h) (by kernel_rfl) (fun _ _ => by kernel_rfl) SS ?_
          refine take 18 44 (.pointer (some ⟨ra, 1, none⟩)) (by kernel_rfl) (by kernel_rfl) (by kernel_rfl) (by kernel_rfl) (by kernel_rfl) (fun _ _ _ h => h) (by kernel_rfl) (fun _ _ => by kernel_rfl) SS ?_
          refine take 19 45 (.slice (some ⟨g1, 0, none⟩) L c1) (by kernel_rfl) (by kernel_rfl) (by kernel_rfl) (by kernel_rfl) (by kernel_rfl) (fun _ _ _ h => h) (by kernel_rfl) (fun w' hS => exec_loadS 43 (.tmp 44) ⟨ra, 1, none⟩ (some ⟨g1, 0, none⟩) L c1 (fun _ => by kernel_rfl) (by kernel_rfl) (by kernel_rfl) ((hS.cell (cell_lt A1.out)).trans A1.out)) SS ?_
          refine take 20 46 (.int .i64 (k : Int)) (by kernel_rfl) (by kernel_rfl) (by kernel_rfl) (by kernel_rfl) (by kernel_rfl) (fun _ _ _ h => h) (by kernel_rfl) (fun _ _ => by kernel_rfl) SS ?_
          refine take 21 47 (.pointer (some ⟨g1, k, none⟩)) (by kernel_rfl) (by kernel_rfl) (by kernel_rfl) (by kernel_rfl) (by kernel_rfl) (fun _ _ _ h => h) (by kernel_rfl) (fun w' hS => exec_idx43 (.tmp 45) (.tmp 46) g1 L c1 k (by kernel_rfl) (by kernel_rfl) (by kernel_rfl) hlt) SS ?_
          refine take 22 48 (.string (strOfNums x.now)) (by kernel_rfl) (by kernel_rfl) (by kernel_rfl) (by kernel_rfl) (by kernel_rfl) (fun _ _ _ h => h) (by kernel_rfl) (fun w' hS => exec_loadV 9 (.tmp 47) ⟨g1, k, none⟩ _ (fun _ => by kernel_rfl) (by kernel_rfl) (by kernel_rfl) ((hS.cell (cell_lt X1.out)).trans X1.out)) SS ?_
          refine take 23 49 (.pointer (some ⟨rb, 0, none⟩)) (by kernel_rfl) (by kernel_rfl) (by kernel_rfl) (by kernel_rfl) (by kernel_rfl) (fun _ _ _ h => h) (by kernel_rfl) (fun _ _ => by kernel_rfl) SS ?_
          refine take 24 50 (.pointer (some ⟨rb, 0, none⟩)) (by kernel_rfl) (by kernel_rfl) (by kernel_rfl) (by kernel_rfl) (by kernel_rfl) (fun _ _ _ h => h) (by kernel_rfl) (fun _ _ => by kernel_rfl) SS ?_
          refine take 25 51 (.pointer (some ⟨rb, 1, none⟩)) (by kernel_rfl) (by kernel_rfl) (by kernel_rfl) (by kernel_rfl) (by kernel_rfl) (fun _ _ _ h => h) (by kernel_rfl) (fun _ _ => by kernel_rfl) SS ?_
          refine take 26 52 (.slice (some ⟨h1, 0, none⟩) L d1) (by kernel_rfl) (by kernel_rfl) (by kernel_rfl) (by kernel_rfl) (by kernel_rfl) (fun _ _ _ h => h) (by kernel_rfl) (fun w' hS => exec_loadS 43 (.tmp 51) ⟨rb, 1, none⟩ (some ⟨h1, 0, none⟩) L d1 (fun _ => by kernel_rfl) (by kernel_rfl) (by kernel_rfl) ((hS.cell (cell_lt B1.out)).trans B1.out)) SS ?_
          refine take 27 53 (.int .i64 (k : Int)) (by kernel_rfl) (by kernel_rfl) (by kernel_rfl) (by kernel_rfl) (by kernel_rfl) (fun _ _ _ h => h) (by kernel_rfl) (fun _ _ => by kernel_rfl) SS ?_
          refine take 28 54 (.pointer (some ⟨h1, k, none⟩)) (by kernel_rfl) (by kernel_rfl) (by kernel_rfl) (by kernel_rfl) (by kernel_rfl) (fun _ _ _ h => h) (by kernel_rfl) (fun w' hS => exec_idx43 (.tmp 52) (.tmp 53) h1 L d1 k (by kernel_rfl) (by kernel_rfl) (by kernel_rfl) hlt) SS ?_
          refine take 29 55 (.string (strOfNums y.now)) (by kernel_rfl) (by kernel_rfl) (by kernel_rfl) (by kernel_rfl) (by kernel_rfl) (fun _ _ _ h => h) (by kernel_rfl) (fun w' hS => exec_loadV 9 (.tmp 54) ⟨h1, k, none⟩ _ (fun _ => by kernel_rfl) (by kernel_rfl) (by kernel_rfl) ((hS.cell (cell_lt Y1.out)).trans Y1.out)) SS ?_
          refine take 30 56 (.bool true) (by kernel_rfl) (by kernel_rfl) (by kernel_rfl) (by kernel_rfl) (by kernel_rfl) (fun _ _ _ h => h) (by kernel_rfl) (fun w' hS => exec_strneq 9 9 (.tmp 48) (.tmp 55) (strOfNums x.now) (strOfNums y.now) (by kernel_rfl) (by kernel_rfl) (by kernel_rfl) true Q1.out) SS ?_
          refine take 31 57 (.bool true) (by kernel_rfl) (by kernel_rfl) (by kernel_rfl) (by kernel_rfl) (by kernel_rfl) (fun _ _ _ h => h) (by kernel_rfl) (fun _ _ => by kernel_rfl) SS ?_
          refine take 32 58 (.bool true) (by kernel_rfl) (by kernel_rfl) (by kernel_rfl) (by kernel_rfl) (by kernel_rfl) (fun _ _ _ h => h) (by kernel_rfl) (fun _ _ => by kernel_rfl) SS ?_
          refine off 33 59 (by kernel_rfl) (by kernel_rfl) (by kernel_rfl) (by kernel_rfl) (by kernel_rfl) (fun _ _ _ h => h) (by kernel_rfl) SS ?_
          refine off 34 60 (by kernel_rfl) (by kernel_rfl) (by kernel_rfl) (by kernel_rfl) (by kernel_rfl) (fun _ _ _ h => h) (by kernel_rfl) SS ?_
          refine off 35 61 (by kernel_rfl) (by kernel_rfl) (by kernel_rfl) (by kernel_rfl) (by kernel_rfl) (fun _ _ _ h => h) (by kernel_rfl) SS ?_
          refine off 36 62 (by kernel_rfl) (by kernel_rfl) (by kernel_rfl) (by kernel_rfl) (by kernel_rfl) (fun _ _ _ h => h) (by kernel_rfl) SS ?_
          refine off 37 63 (by kernel_rfl) (by kernel_rfl) (by kernel_rfl) (by kernel_rfl) (by kernel_rfl) (fun _ _ _ h => h) (by kernel_rfl) SS ?_
          refine off 38 64 (by kernel_rfl) (by kernel_rfl) (by kernel_rfl) (by kernel_rfl) (by kernel_rfl) (fun _ _ _ h => h) (by kernel_rfl) SS ?_
          refine off 39 65 (by kernel_rfl) (by kernel_rfl) (by kernel_rfl) (by kernel_rfl) (by kernel_rfl) (fun _ _ _ h => h) (by kernel_rfl) SS ?_
          refine off 40 66 (by kernel_rfl) (by kernel_rfl) (by kernel_rfl) (by kernel_rfl) (by kernel_rfl) (fun _ _ _ h => h) (by kernel_rfl) SS ?_
          refine off 41 67 (by kernel_rfl) (by kernel_rfl) (by kernel_rfl) (by kernel_rfl) (by kernel_rfl) (fun _ _ _ h => h) (by kernel_rfl) SS ?_
          refine off 42 68 (by kernel_rfl) (by kernel_rfl) (by kernel_rfl) (by kernel_rfl) (by kernel_rfl) (fun _ _ _ h => h) (by kernel_rfl) SS ?_
          refine off 43 69 (by kernel_rfl) (by kernel_rfl) (by kernel_rfl) (by kernel_rfl) (by kernel_rfl) (fun _ _ _ h => h) (by kernel_rfl) SS ?_
          refine off 44 70 (by kernel_rfl) (by kernel_rfl) (by kernel_rfl) (by kernel_rfl) (by kernel_rfl) (fun _ _ _ h => h) (by kernel_rfl) SS ?_
          refine off 45 71 (by kernel_rfl) (by kernel_rfl) (by kernel_rfl) (by kernel_rfl) (by kernel_rfl) (fun _ _ _ h => h) (by kernel_rfl) SS ?_
          refine off 46 72 (by kernel_rfl) (by kernel_rfl) (by kernel_rfl) (by kernel_rfl) (by kernel_rfl) (fun _ _ _ h => h) (by kernel_rfl) SS ?_
          refine off 47 73 (by kernel_rfl) (by kernel_rfl) (by kernel_rfl) (by kernel_rfl) (by kernel_rfl) (fun _ _ _ h => h) (by kernel_rfl) SS ?_
          refine take 48 74 (.bool true) (by kernel_rfl) (by kernel_rfl) (by kernel_rfl) (by kernel_rfl) (by kernel_rfl) (fun _ _ _ h => h) (by kernel_rfl) (fun _ _ => by kernel_rfl) SS ?_
          try simp only [Act.put, List.setIfInBounds_toArray, List.set_cons_zero, List.set_cons_succ]
          refine wpAnyH_done (by kernel_rfl) ?_ _
          have HB2 := Lib.hid (bthen HB.out SS)
          clear SS
          go_wp2_with (fail)
          go_ret
          rw [HE.out]
          exact ⟨rfl, HB2.out⟩
        | false =>
          have Q1 := Lib.hid e1
          cases e2 : (x.l != y.l) with
          | true =>
            have Q2 := Lib.hid e2
            have HE := Lib.hid (hfa (by unfold r1; rw [e0, e1, e2] <;> rfl))
            clear hsu hfa e0 e1 e2
            go_wp2_with (fail)
            clear cc
            refine wp_region_held (S := fun w' => Below wr.heap.size wr w') (by kernel_rfl) ?_
            have SS : Below wr.heap.size wr { wr with drawn := wr.drawn + 1 } := (Below.refl _ _).drew
            refine take 0 26 (.pointer (some ⟨ra, 0, none⟩)) (by kernel_rfl) (by kernel_rfl) (by kernel_rfl) (by kernel_rfl) (by kernel_rfl) (fun _ _ _ h => h) (by kernel_rfl) (fun _ _ => by kernel_rfl) SS ?_
            refine take 1 27 (.pointer (some ⟨ra, 0, none⟩)) (by kernel_rfl) (by kernel_rfl) (by kernel_rfl) (by kernel_rfl) (by kernel_rfl) (fun _ _ _ h => h) (by kernel_rfl) (fun _ _ => by kernel_rfl) SS ?_
            refine take 2 28 (.pointer (some ⟨ra, 0, none⟩)) (by kernel_rfl) (by kernel_rfl) (by kernel_rfl) (by kernel_rfl) (by kernel_rfl) (fun _ _ _ h => h) (by kernel_rfl) (fun _ _ => by kernel_rfl) SS ?_
            refine take 3 29 (.slice (some ⟨g0, 0, none⟩) L c0) (by kernel_rfl) (by kernel_rfl) (by kernel_rfl) (by kernel_rfl) (by kernel_rfl) (fun _ _ _ h => h) (by kernel_rfl) (fun w' hS => exec_loadS 43 (.tmp 28) ⟨ra, 0, none⟩ (some ⟨g0, 0, none⟩) L c0 (fun _ => by kernel_rfl) (by kernel_rfl) (by kernel_rfl) ((hS.cell (cell_lt A0.out)).trans A0.out)) SS ?_
            refine take 4 30 (.int .i64 (k : Int)) (by kernel_rfl) (by kernel_rfl) (by kernel_rfl) (by kernel_rfl) (by kernel_rfl) (fun _ _ _ h => h) (by kernel_rfl) (fun _ _ => by kernel_rfl) SS ?_
            refine take 5 31 (.pointer (some ⟨g0, k, none⟩)) (by kernel_rfl) (by kernel_rfl) (by kernel_rfl) (by kernel_rfl) (by kernel_rfl) (fun _ _ _ h => h) (by kernel_rfl) (fun w' hS => exec_idx43 (.tmp 29) (.tmp 30) g0 L c0 k (by kernel_rfl) (by kernel_rfl) (by kernel_rfl) hlt) SS ?_
            refine take 6 32 (.string (strOfNums x.d)) (by kernel_rfl) (by kernel_rfl) (by kernel_rfl) (by kernel_rfl) (by kernel_rfl) (fun _ _ _ h => h) (by kernel_rfl) (fun w' hS => exec_loadV 9 (.tmp 31) ⟨g0, k, none⟩ _ (fun _ => by kernel_rfl) (by kernel_rfl) (by kernel_rfl) ((hS.cell (cell_lt X0.out)).trans X0.out)) SS ?_
            refine take 7 33 (.pointer (some ⟨rb, 0, none⟩)) (by kernel_rfl) (by kernel_rfl) (by kernel_rfl) (by kernel_rfl) (by kernel_rfl) (fun _ _ _ h => h) (by kernel_rfl) (fun _ _ => by kernel_rfl) SS ?_
            refine take 8 34 (.pointer (some ⟨rb, 0, none⟩)) (by kernel_rfl) (by kernel_rfl) (by kernel_rfl) (by kernel_rfl) (by kernel_rfl) (fun _ _ _ h => h) (by kernel_rfl) (fun _ _ => by kernel_rfl) SS ?_
            refine take 9 35 (.pointer (some ⟨rb, 0, none⟩)) (by kernel_rfl) (by kernel_rfl) (by kernel_rfl) (by kernel_rfl) (by kernel_rfl) (fun _ _ _ h => h) (by kernel_rfl) (fun _ _ => by kernel_rfl) SS ?_
            refine take 10 36 (.slice (some ⟨h0, 0, none⟩) L d0) (by kernel_rfl) (by kernel_rfl) (by kernel_rfl) (by kernel_rfl) (by kernel_rfl) (fun _ _ _ h => h) (by kernel_rfl) (fun w' hS => exec_loadS 43 (.tmp 35) ⟨rb, 0, none⟩ (some ⟨h0, 0, none⟩) L d0 (fun _ => by kernel_rfl) (by kernel_rfl) (by kernel_rfl) ((hS.cell (cell_lt B0.out)).trans B0.out)) SS ?_
            refine take 11 37 (.int .i64 (k : Int)) (by kernel_rfl) (by kernel_rfl) (by kernel_rfl) (by kernel_rfl) (by kernel_rfl) (fun _ _ _ h => h) (by kernel_rfl) (fun _ _ => by kernel_rfl) SS ?_
            refine take 12 38 (.pointer (some ⟨h0, k, none⟩)) (by kernel_rfl) (by kernel_rfl) (by kernel_rfl) (by kernel_rfl) (by kernel_rfl) (fun _ _ _ h => h) (by kernel_rfl) (fun w' hS => exec_idx43 (.tmp 36) (.tmp 37) h0 L d0 k (by kernel_rfl) (by kernel_rfl) (by kernel_rfl) hlt) SS ?_
            refine take 13 39 (.string (strOfNums y.d)) (by kernel_rfl) (by kernel_rfl) (by kernel_rfl) (by kernel_rfl) (by kernel_rfl) (fun _ _ _ h => h) (by kernel_rfl) (fun w' hS => exec_loadV 9 (.tmp 38) ⟨h0, k, none⟩ _ (fun _ => by kernel_rfl) (by kernel_rfl) (by kernel_rfl) ((hS.cell (cell_lt Y0.out)).trans Y0.out)) SS ?_
            refine take 14 40 (.bool false) (by kernel_rfl) (by kernel_rfl) (by kernel_rfl) (by kernel_rfl) (by kernel_rfl) (fun _ _ _ h => h) (by kernel_rfl) (fun w' hS => exec_strneq 9 9 (.tmp 32) (.tmp 39) (strOfNums x.d) (strOfNums y.d) (by kernel_rfl) (by kernel_rfl) (by kernel_rfl) false Q0.out) SS ?_
            refine take 15 41 (.bool false) (by kernel_rfl) (by kernel_rfl) (by kernel_rfl) (by kernel_rfl) (by kernel_rfl) (fun _ _ _ h => h) (by kernel_rfl) (fun _ _ => by kernel_rfl) SS ?_
            refine take 16 42 (.pointer (some ⟨ra, 0, none⟩)) (by kernel_rfl) (by kernel_rfl) (by kernel_rfl) (by kernel_rfl) (by kernel_rfl) (fun _ _ _ h => h) (by kernel_rfl) (fun _ _ => by kernel_rfl) SS ?_
            refine take 17 43 (.pointer (some ⟨ra, 0, none⟩)) (by kernel_rfl) (by kernel_rfl) (by kernel_rfl) (by kernel_rfl) (by kernel_rfl) (fun _ _ _ h => h) (by kernel_rfl) (fun _ _ => by kernel_rfl) SS ?_
            refine take 18 44 (.pointer (some ⟨ra, 1, none⟩)) (by kernel_rfl) (by kernel_rfl) (by kernel_rfl) (by kernel_rfl) (by kernel_rfl) (fun _ _ _ h => h) (by kernel_rfl) (fun _ _ => by kernel_rfl) SS ?_
            refine take 19 45 (.slice (some ⟨g1, 0, none⟩) L c1) (by kernel_rfl) (by kernel_rfl) (by kernel_rfl) (by kernel_rfl) (by kernel_rfl) (fun _ _ _ h => h) (by kernel_rfl) (fun w' hS => exec_loadS 43 (.tmp 44) ⟨ra, 1, none⟩ (some ⟨g1, 0, none⟩) L c1 (fun _ => by kernel_rfl) (by kernel_rfl) (by kernel_rfl) ((hS.cell (cell_lt A1.out)).trans A1.out)) SS ?_
            refine take 20 46 (.int .i64 (k : Int)) (by kernel_rfl) (by kernel_rfl) (by kernel_rfl) (by kernel_rfl) (by kernel_rfl) (fun _ _ _ h => h) (by kernel_rfl) (fun _ _ => by kernel_rfl) SS ?_
            refine take 21 47 (.pointer (some ⟨g1, k, none⟩)) (by kernel_rfl) (by kernel_rfl) (by kernel_rfl) (by kernel_rfl) (by kernel_rfl) (fun _ _ _ h => h) (by kernel_rfl) (fun w' hS => exec_idx43 (.tmp 45) (.tmp 46) g1 L c1 k (by kernel_rfl) (by kernel_rfl) (by kernel_rfl) hlt) SS ?_
            refine take 22 48 (.string (strOfNums x.now)) (by kernel_rfl) (by kernel_rfl) (by kernel_rfl) (by kernel_rfl) (by kernel_rfl) (fun _ _ _ h => h) (by kernel_rfl) (fun w' hS => exec_loadV 9 (.tmp 47) ⟨g1, k, none⟩ _ (fun _ => by kernel_rfl) (by kernel_rfl) (by kernel_rfl) ((hS.cell (cell_lt X1.out)).trans X1.out)) SS ?_
            refine take 23 49 (.pointer (some ⟨rb, 0, none⟩)) (by kernel_rfl) (by kernel_rfl) (by kernel_rfl) (by kernel_rfl) (by kernel_rfl) (fun _ _ _ h => h) (by kernel_rfl) (fun _ _ => by kernel_rfl) SS ?_
            refine take 24 50 (.pointer (some ⟨rb, 0, none⟩)) (by kernel_rfl) (by kernel_rfl) (by kernel_rfl) (by kernel_rfl) (by kernel_rfl) (fun _ _ _ h => h) (by kernel_rfl) (fun _ _ => by kernel_rfl) SS ?_
            refine take 25 51 (.pointer (some ⟨rb, 1, none⟩)) (by kernel_rfl) (by kernel_rfl) (by kernel_rfl) (by kernel_rfl) (by kernel_rfl) (fun _ _ _ h => h) (by kernel_rfl) (fun _ _ => by kernel_rfl) SS ?_
            refine take 26 52 (.slice (some ⟨h1, 0, none⟩) L d1) (by kernel_rfl) (by kernel_rfl) (by kernel_rfl) (by kernel_rfl) (by kernel_rfl) (fun _ _ _ h => h) (by kernel_rfl) (fun w' hS => exec_loadS 43 (.tmp 51) ⟨rb, 1, none⟩ (some ⟨h1, 0, none⟩) L d1 (fun _ => by kernel_rfl) (by kernel_rfl) (by kernel_rfl) ((hS.cell (cell_lt B1.out)).trans B1.out)) SS ?_
            refine take 27 53 (.int .i64 (k : Int)) (by kernel_rfl) (by kernel_rfl) (by kernel_rfl) (by kernel_rfl) (by kernel_rfl) (fun _ _ _ h => h) (by kernel_rfl) (fun _ _ => by kernel_rfl) SS ?_
            refine take 28 54 (.pointer (some ⟨h1, k, none⟩)) (by kernel_rfl) (by kernel_rfl) (by kernel_rfl) (by kernel_rfl) (by kernel_rfl) (fun _ _ _ h => h) (by kernel_rfl) (fun w' hS => exec_idx43 (.tmp 52) (.tmp 53) h1 L d1 k (by kernel_rfl) (by kernel_rfl) (by kernel_rfl) hlt) SS ?_
            refine take 29 55 (.string (strOfNums y.now)) (by kernel_rfl) (by kernel_rfl) (by kernel_rfl) (by kernel_rfl) (by kernel_rfl) (fun _ _ _ h => h) (by kernel_rfl) (fun w' hS => exec_loadV 9 (.tmp 54) ⟨h1, k, none⟩ _ (fun _ => by kernel_rfl) (by kernel_rfl) (by kernel_rfl) ((hS.cell (cell_lt Y1.out)).trans Y1.out)) SS ?_
            refine take 30 56 (.bool false) (by kernel_rfl) (by kernel_rfl) (by kernel_rfl) (by kernel_rfl) (by kernel_rfl) (fun _ _ _ h => h) (by kernel_rfl) (fun w' hS => exec_strneq 9 9 (.tmp 48) (.tmp 55) (strOfNums x.now) (strOfNums y.now) (by kernel_rfl) (by kernel_rfl) (by kernel_rfl) false Q1.out) SS ?_
            refine take 31 57 (.bool false) (by kernel_rfl) (by kernel_rfl) (by kernel_rfl) (by kernel_rfl) (by kernel_rfl) (fun _ _ _ h => h) (by kernel_rfl) (fun _ _ => by kernel_rfl) SS ?_
            refine take 32 58 (.bool false) (by kernel_rfl) (by kernel_rfl) (by kernel_rfl) (by kernel_rfl) (by kernel_rfl) (fun _ _ _ h => h) (by kernel_rfl) (fun _ _ => by kernel_rfl) SS ?_
            refine take 33 59 (.pointer (some ⟨ra, 0, none⟩)) (by kernel_rfl) (by kernel_rfl) (by kernel_rfl) (by kernel_rfl) (by kernel_rfl) (fun _ _ _ h => h) (by kernel_rfl) (fun _ _ => by kernel_rfl) SS ?_
            refine take 34 60 (.pointer (some ⟨ra, 0, none⟩)) (by kernel_rfl) (by kernel_rfl) (by kernel_rfl) (by kernel_rfl) (by kernel_rfl) (fun _ _ _ h => h) (by kernel_rfl) (fun _ _ => by kernel_rfl) SS ?_
            refine take 35 61 (.pointer (some ⟨ra, 2, none⟩)) (by kernel_rfl) (by kernel_rfl) (by kernel_rfl) (by kernel_rfl) (by kernel_rfl) (fun _ _ _ h => h) (by kernel_rfl) (fun _ _ => by kernel_rfl) SS ?_
            refine take 36 62 (.slice (some ⟨g2, 0, none⟩) L c2) (by kernel_rfl) (by kernel_rfl) (by kernel_rfl) (by kernel_rfl) (by kernel_rfl) (fun _ _ _ h => h) (by kernel_rfl) (fun w' hS => exec_loadS 44 (.tmp 61) ⟨ra, 2, none⟩ (some ⟨g2, 0, none⟩) L c2 (fun _ => by kernel_rfl) (by kernel_rfl) (by kernel_rfl) ((hS.cell (cell_lt A2.out)).trans A2.out)) SS ?_
            refine take 37 63 (.int .i64 (k : Int)) (by kernel_rfl) (by kernel_rfl) (by kernel_rfl) (by kernel_rfl) (by kernel_rfl) (fun _ _ _ h => h) (by kernel_rfl) (fun _ _ => by kernel_rfl) SS ?_
            refine take 38 64 (.pointer (some ⟨g2, k, none⟩)) (by kernel_rfl) (by kernel_rfl) (by kernel_rfl) (by kernel_rfl) (by kernel_rfl) (fun _ _ _ h => h) (by kernel_rfl) (fun w' hS => exec_idx44 (.tmp 62) (.tmp 63) g2 L c2 k (by kernel_rfl) (by kernel_rfl) (by kernel_rfl) hlt) SS ?_
            refine take 39 65 (.bool x.l) (by kernel_rfl) (by kernel_rfl) (by kernel_rfl) (by kernel_rfl) (by kernel_rfl) (fun _ _ _ h => h) (by kernel_rfl) (fun w' hS => exec_loadV 4 (.tmp 64) ⟨g2, k, none⟩ _ (fun _ => by kernel_rfl) (by kernel_rfl) (by kernel_rfl) ((hS.cell (cell_lt X2.out)).trans X2.out)) SS ?_
            refine take 40 66 (.pointer (some ⟨rb, 0, none⟩)) (by kernel_rfl) (by kernel_rfl) (by kernel_rfl) (by kernel_rfl) (by kernel_rfl) (fun _ _ _ h => h) (by kernel_rfl) (fun _ _ => by kernel_rfl) SS ?_
            refine take 41 67 (.pointer (some ⟨rb, 0, none⟩)) (by kernel_rfl) (by kernel_rfl) (by kernel_rfl) (by kernel_rfl) (by kernel_rfl) (fun _ _ _ h => h) (by kernel_rfl) (fun _ _ => by kernel_rfl) SS ?_
            refine take 42 68 (.pointer (some ⟨rb, 2, none⟩)) (by kernel_rfl) (by kernel_rfl) (by kernel_rfl) (by kernel_rfl) (by kernel_rfl) (fun _ _ _ h => h) (by kernel_rfl) (fun _ _ => by kernel_rfl) SS ?_
            refine take 43 69 (.slice (some ⟨h2, 0, none⟩) L d2) (by kernel_rfl) (by kernel_rfl) (by kernel_rfl) (by kernel_rfl) (by kernel_rfl) (fun _ _ _ h => h) (by kernel_rfl) (fun w' hS => exec_loadS 44 (.tmp 68) ⟨rb, 2, none⟩ (some ⟨h2, 0, none⟩) L d2 (fun _ => by kernel_rfl) (by kernel_rfl) (by kernel_rfl) ((hS.cell (cell_lt B2.out)).trans B2.out)) SS ?_
            refine take 44 70 (.int .i64 (k : Int)) (by kernel_rfl) (by kernel_rfl) (by kernel_rfl) (by kernel_rfl) (by kernel_rfl) (fun _ _ _ h => h) (by kernel_rfl) (fun _ _ => by kernel_rfl) SS ?_
            refine take 45 71 (.pointer (some ⟨h2, k, none⟩)) (by kernel_rfl) (by kernel_rfl) (by kernel_rfl) (by kernel_rfl) (by kernel_rfl) (fun _ _ _ h => h) (by kernel_rfl) (fun w' hS => exec_idx44 (.tmp 69) (.tmp 70) h2 L d2 k (by kernel_rfl) (by kernel_rfl) (by kernel_rfl) hlt) SS ?_
            refine take 46 72 (.bool y.l) (by kernel_rfl) (by kernel_rfl) (by kernel_rfl) (by kernel_rfl) (by kernel_rfl) (fun _ _ _ h => h) (by kernel_rfl) (fun w' hS => exec_loadV 4 (.tmp 71) ⟨h2, k, none⟩ _ (fun _ => by kernel_rfl) (by kernel_rfl) (by kernel_rfl) ((hS.cell (cell_lt Y2.out)).trans Y2.out)) SS ?_
            refine take 47 73 (.bool true) (by kernel_rfl) (by kernel_rfl) (by kernel_rfl) (by kernel_rfl) (by kernel_rfl) (fun _ _ _ h => h) (by kernel_rfl) (fun w' hS => exec_boolneq (.tmp 65) (.tmp 72) x.l y.l (by kernel_rfl) (by kernel_rfl) (by kernel_rfl) true Q2.out) SS ?_
            refine take 48 74 (.bool true) (by kernel_rfl) (by kernel_rfl) (by kernel_rfl) (by kernel_rfl) (by kernel_rfl) (fun _ _ _ h => h) (by kernel_rfl) (fun _ _ => by kernel_rfl) SS ?_
            try simp only [Act.put, List.setIfInBounds_toArray, List.set_cons_zero, List.set_cons_succ]
            refine wpAnyH_done (by kernel_rfl) ?_ _
            have HB2 := Lib.hid (bthen HB.out SS)
            clear SS
            go_wp2_with (fail)
            go_ret
            rw [HE.out]
            exact ⟨rfl, HB2.out⟩
          | false =>
            have Q2 := Lib.hid e2
            have HE := Lib.hid (hsu.trans (by unfold r1; rw [e0, e1, e2] <;> rfl))
            clear hsu hfa e0 e1 e2
            go_wp2_with (fail)
            clear cc
            refine wp_region_held (S := fun w' => Below wr.heap.size wr w') (by kernel_rfl) ?_
            have SS : Below wr.heap.size wr { wr with drawn := wr.drawn + 1 } := (Below.refl _ _).drew
            refine take 0 26 (.pointer (some ⟨ra, 0, none⟩)) (by kernel_rfl) (by kernel_rfl) (by kernel_rfl) (by kernel_rfl) (by kernel_rfl) (fun _ _ _ h => h) (by kernel_rfl) (fun _ _ => by kernel_rfl) SS ?_
            refine take 1 27 (.pointer (some ⟨ra, 0, none⟩)) (by kernel_rfl) (by kernel_rfl) (by kernel_rfl) (by kernel_rfl) (by kernel_rfl) (fun _ _ _ h => h) (by kernel_rfl) (fun _ _ => by kernel_rfl) SS ?_
            refine take 2 28 (.pointer (some ⟨ra, 0, none⟩)) (by kernel_rfl) (by kernel_rfl) (by kernel_rfl) (by kernel_rfl) (by kernel_rfl) (fun _ _ _ h => h) (by kernel_rfl) (fun _ _ => by kernel_rfl) SS ?_
            refine take 3 29 (.slice (some ⟨g0, 0, none⟩) L c0) (by kernel_rfl) (by kernel_rfl) (by kernel_rfl) (by kernel_rfl) (by kernel_rfl) (fun _ _ _ h => h) (by kernel_rfl) (fun w' hS => exec_loadS 43 (.tmp 28) ⟨ra, 0, none⟩ (some ⟨g0, 0, none⟩) L c0 (fun _ => by kernel_rfl) (by kernel_rfl) (by kernel_rfl) ((hS.cell (cell_lt A0.out)).trans A0.out)) SS ?_
            refine take 4 30 (.int .i64 (k : Int)) (by kernel_rfl) (by kernel_rfl) (by kernel_rfl) (by kernel_rfl) (by kernel_rfl) (fun _ _ _ h => h) (by kernel_rfl) (fun _ _ => by kernel_rfl) SS ?_
            refine take 5 31 (.pointer (some ⟨g0, k, none⟩)) (by kernel_rfl) (by kernel_rfl) (by kernel_rfl) (by kernel_rfl) (by kernel_rfl) (fun _ _ _ h => h) (by kernel_rfl) (fun w' hS => exec_idx43 (.tmp 29) (.tmp 30) g0 L c0 k (by kernel_rfl) (by kernel_rfl) (by kernel_rfl) hlt) SS ?_
            refine take 6 32 (.string (strOfNums x.d)) (by kernel_rfl) (by kernel_rfl) (by kernel_rfl) (by kernel_rfl) (by kernel_rfl) (fun _ _ _ h => h) (by kernel_rfl) (fun w' hS => exec_loadV 9 (.tmp 31) ⟨g0, k, none⟩ _ (fun _ => by kernel_rfl) (by kernel_rfl) (by kernel_rfl) ((hS.cell (cell_lt X0.out)).trans X0.out)) SS ?_
            refine take 7 33 (.pointer (some ⟨rb, 0, none⟩)) (by kernel_rfl) (by kernel_rfl) (by kernel_rfl) (by kernel_rfl) (by kernel_rfl) (fun _ _ _ h => h) (by kernel_rfl) (fun _ _ => by kernel_rfl) SS ?_
            refine take 8 34 (.pointer (some ⟨rb, 0, none⟩)) (by kernel_rfl) (by kernel_rfl) (by kernel_rfl) (by kernel_rfl) (by kernel_rfl) (fun _ _ _ h => h) (by kernel_rfl) (fun _ _ => by kernel_rfl) SS ?_
            refine take 9 35 (.pointer (some ⟨rb, 0, none⟩)) (by kernel_rfl) (by kernel_rfl) (by kernel_rfl) (by kernel_rfl) (by kernel_rfl) (fun _ _ _ h => h) (by kernel_rfl) (fun _ _ => by kernel_rfl) SS ?_
            refine take 10 36 (.slice (some ⟨h0, 0, none⟩) L d0) (by kernel_rfl) (by kernel_rfl) (by kernel_rfl) (by kernel_rfl) (by kernel_rfl) (fun _ _ _ h => h) (by kernel_rfl) (fun w' hS => exec_loadS 43 (.tmp 35) ⟨rb, 0, none⟩ (some ⟨h0, 0, none⟩) L d0 (fun _ => by kernel_rfl) (by kernel_rfl) (by kernel_rfl) ((hS.cell (cell_lt B0.out)).trans B0.out)) SS ?_
            refine take 11 37 (.int .i64 (k : Int)) (by kernel_rfl) (by kernel_rfl) (by kernel_rfl) (by kernel_rfl) (by kernel_rfl) (fun _ _ _ h => h) (by kernel_rfl) (fun _ _ => by kernel_rfl) SS ?_
            refine take 12 38 (.pointer (some ⟨h0, k, none⟩)) (by kernel_rfl) (by kernel_rfl) (by kernel_rfl) (by kernel_rfl) (by kernel_rfl) (fun _ _ _ h => h) (by kernel_rfl) (fun w' hS => exec_idx43 (.tmp 36) (.tmp 37) h0 L d0 k (by kernel_rfl) (by kernel_rfl) (by kernel_rfl) hlt) SS ?_
            refine take 13 39 (.string (strOfNums y.d)) (by kernel_rfl) (by kernel_rfl) (by kernel_rfl) (by kernel_rfl) (by kernel_rfl) (fun _ _ _ h => h) (by kernel_rfl) (fun w' hS => exec_loadV 9 (.tmp 38) ⟨h0, k, none⟩ _ (fun _ => by kernel_rfl) (by kernel_rfl) (by kernel_rfl) ((hS.cell (cell_lt Y0.out)).trans Y0.out)) SS ?_
            refine take 14 40 (.bool false) (by kernel_rfl) (by kernel_rfl) (by kernel_rfl) (by kernel_rfl) (by kernel_rfl) (fun _ _ _ h => h) (by kernel_rfl) (fun w' hS => exec_strneq 9 9 (.tmp 32) (.tmp 39) (strOfNums x.d) (strOfNums y.d) (by kernel_rfl) (by kernel_rfl) (by kernel_rfl) false Q0.out) SS ?_
            refine take 15 41 (.bool false) (by kernel_rfl) (by kernel_rfl) (by kernel_rfl) (by kernel_rfl) (by kernel_rfl) (fun _ _ _ h => h) (by kernel_rfl) (fun _ _ => by kernel_rfl) SS ?_
            refine take 16 42 (.pointer (some ⟨ra, 0, none⟩)) (by kernel_rfl) (by kernel_rfl) (by kernel_rfl) (by kernel_rfl) (by kernel_rfl) (fun _ _ _ h => h) (by kernel_rfl) (fun _ _ => by kernel_rfl) SS ?_
            refine take 17 43 (.pointer (some ⟨ra, 0, none⟩)) (by kernel_rfl) (by kernel_rfl) (by kernel_rfl) (by kernel_rfl) (by kernel_rfl) (fun _ _ _ h => h) (by kernel_rfl) (fun _ _ => by kernel_rfl) SS ?_
            refine take 18 44 (.pointer (some ⟨ra, 1, none⟩)) (by kernel_rfl) (by kernel_rfl) (by kernel_rfl) (by kernel_rfl) (by kernel_rfl) (fun _ _ _ h => h) (by kernel_rfl) (fun _ _ => by kernel_rfl) SS ?_
            refine take 19 45 (.slice (some ⟨g1, 0, none⟩) L c1) (by kernel_rfl) (by kernel_rfl) (by kernel_rfl) (by kernel_rfl) (by kernel_rfl) (fun _ _ _ h => h) (by kernel_rfl) (fun w' hS => exec_loadS 43 (.tmp 44) ⟨ra, 1, none⟩ (some ⟨g1, 0, none⟩) L c1 (fun _ => by kernel_rfl) (by kernel_rfl) (by kernel_rfl) ((hS.cell (cell_lt A1.out)).trans A1.out)) SS ?_
            refine take 20 46 (.int .i64 (k : Int)) (by kernel_rfl) (by kernel_rfl) (by kernel_rfl) (by kernel_rfl) (by kernel_rfl) (fun _ _ _ h => h) (by kernel_rfl) (fun _ _ => by kernel_rfl) SS ?_
            refine take 21 47 (.pointer (some ⟨g1, k, none⟩)) (by kernel_rfl) (by kernel_rfl) (by kernel_rfl) (by kernel_rfl) (by kernel_rfl) (fun _ _ _ h => h) (by kernel_rfl) (fun w' hS => exec_idx43 (.tmp 45) (.tmp 46) g1 L c1 k (by kernel_rfl) (by kernel_rfl) (by kernel_rfl) hlt) SS ?_
            refine take 22 48 (.string (strOfNums x.now)) (by kernel_rfl) (by kernel_rfl) (by kernel_rfl) (by kernel_rfl) (by kernel_rfl) (fun _ _ _ h => h) (by kernel_rfl) (fun w' hS => exec_loadV 9 (.tmp 47) ⟨g1, k, none⟩ _ (fun _ => by kernel_rfl) (by kernel_rfl) (by kernel_rfl) ((hS.cell (cell_lt X1.out)).trans X1.out)) SS ?_
            refine take 23 49 (.pointer (some ⟨rb, 0, none⟩)) (by kernel_rfl) (by kernel_rfl) (by kernel_rfl) (by kernel_rfl) (by kernel_rfl) (fun _ _ _ h => h) (by kernel_rfl) (fun _ _ => by kernel_rfl) SS ?_
            refine take 24 50 (.pointer (some ⟨rb, 0, none⟩)) (by kernel_rfl) (by kernel_rfl) (by kernel_rfl) (by kernel_rfl) (by kernel_rfl) (fun _ _ _ h => h) (by kernel_rfl) (fun _ _ => by kernel_rfl) SS ?_
            refine take 25 51 (.pointer (some ⟨rb, 1, none⟩)) (by kernel_rfl) (by kernel_rfl) (by kernel_rfl) (by kernel_rfl) (by kernel_rfl) (fun _ _ _ h => h) (by kernel_rfl) (fun _ _ => by kernel_rfl) SS ?_
            refine take 26 52 (.slice (some ⟨h1, 0, none⟩) L d1) (by kernel_rfl) (by kernel_rfl) (by kernel_rfl) (by kernel_rfl) (by kernel_rfl) (fun _ _ _ h => h) (by kernel_rfl) (fun w' hS => exec_loadS 43 (.tmp 51) ⟨rb, 1, none⟩ (some ⟨h1, 0, none⟩) L d1 (fun _ => by kernel_rfl) (by kernel_rfl) (by kernel_rfl) ((hS.cell (cell_lt B1.out)).trans B1.out)) SS ?_
            refine take 27 53 (.int .i64 (k : Int)) (by kernel_rfl) (by kernel_rfl) (by kernel_rfl) (by kernel_rfl) (by kernel_rfl) (fun _ _ _ h => h) (by kernel_rfl) (fun _ _ => by kernel_rfl) SS ?_
            refine take 28 54 (.pointer (some ⟨h1, k, none⟩)) (by kernel_rfl) (by kernel_rfl) (by kernel_rfl) (by kernel_rfl) (by kernel_rfl) (fun _ _ _ h => h) (by kernel_rfl) (fun w' hS => exec_idx43 (.tmp 52) (.tmp 53) h1 L d1 k (by kernel_rfl) (by kernel_rfl) (by kernel_rfl) hlt) SS ?_
            refine take 29 55 (.string (strOfNums y.now)) (by kernel_rfl) (by kernel_rfl) (by kernel_rfl) (by kernel_rfl) (by kernel_rfl) (fun _ _ _ h => h) (by kernel_rfl) (fun w' hS => exec_loadV 9 (.tmp 54) ⟨h1, k, none⟩ _ (fun _ => by kernel_rfl) (by kernel_rfl) (by kernel_rfl) ((hS.cell (cell_lt Y1.out)).trans Y1.out)) SS ?_
            refine take 30 56 (.bool false) (by kernel_rfl) (by kernel_rfl) (by kernel_rfl) (by kernel_rfl) (by kernel_rfl) (fun _ _ _ h => h) (by kernel_rfl) (fun w' hS => exec_strneq 9 9 (.tmp 48) (.tmp 55) (strOfNums x.now) (strOfNums y.now) (by kernel_rfl) (by kernel_rfl) (by kernel_rfl) false Q1.out) SS ?_
            refine take 31 57 (.bool false) (by kernel_rfl) (by kernel_rfl) (by kernel_rfl) (by kernel_rfl) (by kernel_rfl) (fun _ _ _ h => h) (by kernel_rfl) (fun _ _ => by kernel_rfl) SS ?_
            refine take 32 58 (.bool false) (by kernel_rfl) (by kernel_rfl) (by kernel_rfl) (by kernel_rfl) (by kernel_rfl) (fun _ _ _ h => h) (by kernel_rfl) (fun _ _ => by kernel_rfl) SS ?_
            refine take 33 59 (.pointer (some ⟨ra, 0, none⟩)) (by kernel_rfl) (by kernel_rfl) (by kernel_rfl) (by kernel_rfl) (by kernel_rfl) (fun _ _ _ h => h) (by kernel_rfl) (fun _ _ => by kernel_rfl) SS ?_
            refine take 34 60 (.pointer (some ⟨ra, 0, none⟩)) (by kernel_rfl) (by kernel_rfl) (by kernel_rfl) (by kernel_rfl) (by kernel_rfl) (fun _ _ _ h => h) (by kernel_rfl) (fun _ _ => by kernel_rfl) SS ?_
            refine take 35 61 (.pointer (some ⟨ra, 2, none⟩)) (by kernel_rfl) (by kernel_rfl) (by kernel_rfl) (by kernel_rfl) (by kernel_rfl) (fun _ _ _ h => h) (by kernel_rfl) (fun _ _ => by kernel_rfl) SS ?_
            refine take 36 62 (.slice (some ⟨g2, 0, none⟩) L c2) (by kernel_rfl) (by kernel_rfl) (by kernel_rfl) (by kernel_rfl) (by kernel_rfl) (fun _ _ _ h => h) (by kernel_rfl) (fun w' hS => exec_loadS 44 (.tmp 61) ⟨ra, 2, none⟩ (some ⟨g2, 0, none⟩) L c2 (fun _ => by kernel_rfl) (by kernel_rfl) (by kernel_rfl) ((hS.cell (cell_lt A2.out)).trans A2.out)) SS ?_
            refine take 37 63 (.int .i64 (k : Int)) (by kernel_rfl) (by kernel_rfl) (by kernel_rfl) (by kernel_rfl) (by kernel_rfl) (fun _ _ _ h => h) (by kernel_rfl) (fun _ _ => by kernel_rfl) SS ?_
            refine take 38 64 (.pointer (some ⟨g2, k, none⟩)) (by kernel_rfl) (by kernel_rfl) (by kernel_rfl) (by kernel_rfl) (by kernel_rfl) (fun _ _ _ h => h) (by kernel_rfl) (fun w' hS => exec_idx44 (.tmp 62) (.tmp 63) g2 L c2 k (by kernel_rfl) (by kernel_rfl) (by kernel_rfl) hlt) SS ?_
            refine take 39 65 (.bool x.l) (by kernel_rfl) (by kernel_rfl) (by kernel_rfl) (by kernel_rfl) (by kernel_rfl) (fun _ _ _ h => h) (by kernel_rfl) (fun w' hS => exec_loadV 4 (.tmp 64) ⟨g2, k, none⟩ _ (fun _ => by kernel_rfl) (by kernel_rfl) (by kernel_rfl) ((hS.cell (cell_lt X2.out)).trans X2.out)) SS ?_
            refine take 40 66 (.pointer (some ⟨rb, 0, none⟩)) (by kernel_rfl) (by kernel_rfl) (by kernel_rfl) (by kernel_rfl) (by kernel_rfl) (fun _ _ _ h => h) (by kernel_rfl) (fun _ _ => by kernel_rfl) SS ?_
            refine take 41 67 (.pointer (some ⟨rb, 0, none⟩)) (by kernel_rfl) (by kernel_rfl) (by kernel_rfl) (by kernel_rfl) (by kernel_rfl) (fun _ _ _ h => h) (by kernel_rfl) (fun _ _ => by kernel_rfl) SS ?_
            refine take 42 68 (.pointer (some ⟨rb, 2, none⟩)) (by kernel_rfl) (by kernel_rfl) (by kernel_rfl) (by kernel_rfl) (by kernel_rfl) (fun _ _ _ h => h) (by kernel_rfl) (fun _ _ => by kernel_rfl) SS ?_
            refine take 43 69 (.slice (some ⟨h2, 0, none⟩) L d2) (by kernel_rfl) (by kernel_rfl) (by kernel_rfl) (by kernel_rfl) (by kernel_rfl) (fun _ _ _ h => h) (by kernel_rfl) (fun w' hS => exec_loadS 44 (.tmp 68) ⟨rb, 2, none⟩ (some ⟨h2, 0, none⟩) L d2 (fun _ => by kernel_rfl) (by kernel_rfl) (by kernel_rfl) ((hS.cell (cell_lt B2.out)).trans B2.out)) SS ?_
            refine take 44 70 (.int .i64 (k : Int)) (by kernel_rfl) (by kernel_rfl) (by kernel_rfl) (by kernel_rfl) (by kernel_rfl) (fun _ _ _ h => h) (by kernel_rfl) (fun _ _ => by kernel_rfl) SS ?_
            refine take 45 71 (.pointer (some ⟨h2, k, none⟩)) (by kernel_rfl) (by kernel_rfl) (by kernel_rfl) (by kernel_rfl) (by kernel_rfl) (fun _ _ _ h => h) (by kernel_rfl) (fun w' hS => exec_idx44 (.tmp 69) (.tmp 70) h2 L d2 k (by kernel_rfl) (by kernel_rfl) (by kernel_rfl) hlt) SS ?_
            refine take 46 72 (.bool y.l) (by kernel_rfl) (by kernel_rfl) (by kernel_rfl) (by kernel_rfl) (by kernel_rfl) (fun _ _ _ h => h) (by kernel_rfl) (fun w' hS => exec_loadV 4 (.tmp 71) ⟨h2, k, none⟩ _ (fun _ => by kernel_rfl) (by kernel_rfl) (by kernel_rfl) ((hS.cell (cell_lt Y2.out)).trans Y2.out)) SS ?_
            refine take 47 73 (.bool false) (by kernel_rfl) (by kernel_rfl) (by kernel_rfl) (by kernel_rfl) (by kernel_rfl) (fun _ _ _ h => h) (by kernel_rfl) (fun w' hS => exec_boolneq (.tmp 65) (.tmp 72) x.l y.l (by kernel_rfl) (by kernel_rfl) (by kernel_rfl) false Q2.out) SS ?_
            refine take 48 74 (.bool false) (by kernel_rfl) (by kernel_rfl) (by kernel_rfl) (by kernel_rfl) (by kernel_rfl) (fun _ _ _ h => h) (by kernel_rfl) (fun _ _ => by kernel_rfl) SS ?_
            try simp only [Act.put, List.setIfInBounds_toArray, List.set_cons_zero, List.set_cons_succ]
            refine wpAnyH_done (by kernel_rfl) ?_ _
            have HB2 := Lib.hid (bthen HB.out SS)
            clear SS
            go_wp2_with (fail)
            go_roundw
            case rel => exact ⟨k + 1, rfl, by omega, HE, HB2⟩
            case measure => simp [intOf]; omega
    · have hge : ¬ ((k : Int) < (L : Int)) := by omega
      obtain rfl : k = L := by omega
      clear hlt
      go_wp2_with (fail)
      go_ret
      rw [HK.out]
      exact ⟨rfl, HB.out⟩
theorem rsame_calls (h : RefE W b1 Z ra xs) (h' : RefE W b2 Y rb ys) : Calls Try.prog 13 #[.pointer (some ⟨ra, 0, none⟩), .pointer (some ⟨rb, 0, none⟩)] W fun e W' => e = .returned (.bool (rEq xs ys)) ∧ Below W.heap.size W W' := by
  unfold rEq
  by_cases hl : xs.length = ys.length
  · rw [decide_eq_true hl, Bool.true_and]; exact rsame_eq h h' hl
  · rw [decide_eq_false hl, Bool.false_and]; exact rsame_ne h h' hl
end
end Go.Proofs.Ytbojokjommmebaa.MoRefSame
