/- ModelKeeps. -/
import Derived.Test.YtbojokjommmebaaMoActs
import Derived.Test.YtbojokjommmebaaMoMakes
import Derived.Test.YtbojokjommmebaaMoPure
namespace Go.Proofs.Ytbojokjommmebaa.MoKeeps
set_option linter.unusedSimpArgs false
set_option linter.unusedVariables false
open Go.RowKit Go.Proofs.YtbojokjommmebaaW.PrintWords Go.Proofs.YtbojokjommmebaaW.PrintLast Go.Proofs.YtbojokjommmebaaW.PrintMore Go.Proofs.Ytbojokjommmebaa.PModelPlays Go.Proofs.Ytbojokjommmebaa.MoMem Go.Proofs.Ytbojokjommmebaa.MoGo Go.Proofs.Ytbojokjommmebaa.MoNow Go.Proofs.Ytbojokjommmebaa.MoRead Go.Proofs.Ytbojokjommmebaa.MoPut Go.Proofs.Ytbojokjommmebaa.MoWrite Go.Proofs.Ytbojokjommmebaa.MoLoose Go.Proofs.Ytbojokjommmebaa.MoNew Go.Proofs.Ytbojokjommmebaa.MoCrash Go.Proofs.Ytbojokjommmebaa.MoEq Go.Proofs.Ytbojokjommmebaa.MoSame Go.Proofs.Ytbojokjommmebaa.MoCmp Go.Proofs.Ytbojokjommmebaa.MoFill Go.Proofs.Ytbojokjommmebaa.MoReg Go.Proofs.Ytbojokjommmebaa.MoAwake Go.Proofs.Ytbojokjommmebaa.MoActs Go.Proofs.Ytbojokjommmebaa.MoMakes Go.Proofs.Ytbojokjommmebaa.MoPure
section
variable {w : World} {ev : Operand → Value} {o : Oper}
theorem exec_act (x ix : Operand) (ad : Addr) (n c k : Nat) (ho : o.op = .indexAddr 22 x ix) (hx : ev x = .slice (some ad) n c) (hi : ev ix = .int .i64 (k : Int)) (hk : k < n) : (execOp ev o).run Try.prog w = .ok (.value (.pointer (some (ad.add (k * 6))))) w := by
  have h1 : ¬ ((k : Int) < 0) := by omega
  have h2 : (k : Int) < n := by omega
  have he : Try.prog.elem 22 = 32 := by kernel_rfl
  have hs : (Go.sizeOf 32).run Try.prog w = .ok 6 w := by kernel_rfl
  unfold execOp
  simp [ho, hx, hi, go_sem, Try.underlying22, h1, h2, he, hs]
theorem exec_load3 (x : Operand) (p : Addr) (v : Int) (ho : o.op = .load 3 x) (hx : ev x = .pointer (some p)) (hc : w.cell? p = some (.int .i64 v)) : (execOp ev o).run Try.prog w = .ok (.value (.int .i64 v)) w := by
  unfold execOp
  simp [ho, hx, Instr.loadAt, Instr.sureAddr, Sem.run_bind, Sem.run_pure, go_sem, hc, Try.underlying3]
theorem exec_load5 (x : Operand) (p : Addr) (v : Int) (ho : o.op = .load 5 x) (hx : ev x = .pointer (some p)) (hc : w.cell? p = some (.int .u8 v)) : (execOp ev o).run Try.prog w = .ok (.value (.int .u8 v)) w := by
  unfold execOp
  simp [ho, hx, Instr.loadAt, Instr.sureAddr, Sem.run_bind, Sem.run_pure, go_sem, hc, Try.underlying5]
end
-- the walk
section
variable {w : World} {ev : Operand → Value} {o : Oper}
theorem exec_gtr3 (x y : Operand) (a b : Int) {r : Bool} (ho : o.op = .binOp .gtr 3 x y 3) (hx : ev x = .int .i64 a) (hy : ev y = .int .i64 b) (hr : decide (b < a) = r) : (execOp ev o).run Try.prog w = .ok (.value (.bool r)) w := by
  unfold execOp
  simp [ho, hx, hy, eqGuard, go_sem, ← hr]
theorem exec_neq3 (x y : Operand) (a b : Int) {r : Bool} (ho : o.op = .binOp .neq 3 x y 3) (hx : ev x = .int .i64 a) (hy : ev y = .int .i64 b) (hr : (a != b) = r) : (execOp ev o).run Try.prog w = .ok (.value (.bool r)) w := by
  unfold execOp
  simp [ho, hx, hy, eqGuard, go_sem, ← hr]
end
theorem ar_alloc {w W : World} {ab lb : Nat} {bs : List Bk} (h : Ar w W ab lb bs) (o : Obj) : Ar w (W.alloc o) ab lb bs := h.below ((Below.refl _ _).alloc (Nat.le_refl _) _)
theorem ints_onex (x : Int) (A : Option Addr) (c : Nat) (B : Option Addr) (W : World) (h0 : Kd.C (Kd.int .i64) W A [x].length [x]) (hc : [x].length ≤ c) (h1 : Kd.C (Kd.int .i64) W B [x].length [x]) :
    Calls Try.prog 27 #[.slice A 1 c, .slice B 1 1] W fun e W' => e = .returned (.bool true) ∧ Below W.heap.size W W' := by
  have := ints_same A c [x] B 1 [x] W h0 hc h1 (by simp)
  rw [decide_eq_true rfl] at this
  exact this
structure Rk (w W : World) (ab lb nb mb : Nat) (bs : List Bk) (A B : Option Addr) (l : List Int) : Prop where
  ar : Ar w W ab lb bs
  br : Ar w W nb mb bs
  ca : Kd.C (Kd.int .u8) W A l.length l
  cb : Kd.C (Kd.int .u8) W B l.length l
theorem Rk.below {w W W' : World} {ab lb nb mb : Nat} {bs : List Bk} {A B : Option Addr} {l : List Int} (h : Rk w W ab lb nb mb bs A B l) (hb : Below W.heap.size W W') : Rk w W' ab lb nb mb bs A B l :=
  ⟨h.ar.below hb, h.br.below hb, Kd.C_below h.ca hb, Kd.C_below h.cb hb⟩
theorem kept_bytes {W W' : World} {lb base : Nat} {v : Value} {l : List Int} (h : Kd.R (Kd.int .u8) 5 W base (fun _ => True) v l) (hf : Fr W W' (fun k => k = lb)) (hl : lb < base) : Kd.R (Kd.int .u8) 5 W' base (fun _ => True) v l :=
  Kd.R_mono (Kd.R_move (Kd.R_bound h) (fun k hk => hf.block k hk.2.2.1 (fun e => by have := hk.2.1; omega))) (fun _ _ => trivial)
set_option maxRecDepth 100000 in
set_option maxHeartbeats 16000000 in
theorem keeps_calls (w : World) (m : Nat) (hm : m < 256) (A : Option Addr) (c : Nat) (acts : List S32) (ha : Kd.C k32 w A acts.length acts) (hc : acts.length ≤ c) (hfl : ∀ i, i < acts.length → byte (rdA acts i).fl) (lba f : Int) (hf : byte f) :
    Calls Try.prog 6 #[.int .u8 (m : Int), .slice A acts.length c, .int .i64 lba, .int .u8 f] w (AwPost w) := by
  obtain ⟨n, hn⟩ : ∃ n, n = 1 + m % 20 := ⟨_, rfl⟩
  have hn1 : 1 ≤ n := by omega
  have hn2 : n ≤ 20 := by omega
  have HN := Lib.hid (new_calls n (by omega) w)
  have HA := Lib.hid ha
  have HFL := Lib.hid hfl
  have HF := Lib.hid hf
  have hmx := Kd.C_max ha
  have hne : (1 : Int) + (m : Int) % 20 = (n : Int) := by omega
  have HE := Lib.hid hne
  clear ha hfl hf hn hne
  go_enter Try.func6, Try.ntmps6
  go_wp2_with (fail)
  rw [HE.out]
  refine HN.out.mono ?_
  rintro _ W ⟨ab, lb, rfl, ha, h2, h3, hb⟩
  have HAR0 := Lib.hid (show Ar w W ab lb (List.replicate n zb) from ⟨ha, h3, h2, hb⟩)
  clear ha h2 h3 hb HN HE
  go_wp2_with (fail)
  go_loopw [12] (fun v12 wr => ∃ (k : Nat) (bs : List Bk), v12 = .int .i64 (k : Int) ∧ k ≤ acts.length ∧ Hid (bs.length = n) ∧ Hid (Ar w wr ab lb bs)) (fun v12 _ => ((acts.length : Int) - intOf v12).toNat)
  case atStart => exact ⟨0, _, rfl, by omega, Lib.hid (by simp), HAR0⟩
  case round =>
    clear HAR0
    obtain ⟨k, bs, rfl, hk, HLEN, HAR⟩ := hrel
    by_cases hlt : k < acts.length ∧ k < 30
    · obtain ⟨hk1, hk2⟩ := hlt
      obtain ⟨ad, B, cB, rfl, x0, x1, x2, x3, x4, x5, x6, x7⟩ := at_act HA.out k hk1
      have y0 := (HAR.out.bl.cell (cell_lt x0)).trans x0
      have hby := HFL.out k hk1
      clear x0 x3 x5 x6 x7
      generalize rdA acts k = a at *
      obtain ⟨kd, al, an, asz, afl, akept⟩ := a
      simp only at y0 x1 x2 x4 hby
      have X1 := Lib.hid x1
      have X2 := Lib.hid x2
      have X4 := Lib.hid x4
      have HBY := Lib.hid hby
      clear x1 x2 x4 hby
      by_cases k1 : kd = 1
      · subst k1
        by_cases hin : 0 ≤ al ∧ al < (n : Int)
        · obtain ⟨j, rfl⟩ := Int.eq_ofNat_of_zero_le hin.1
          have hj : j < n := by omega
          clear hin
          go_wp2_with (fail)
          clear y0
          refine wp_region_held (S := fun w' => Below w.heap.size w w') (by kernel_rfl) ?_
          have AR : Ar w { wr with drawn := wr.drawn + 1 } ab lb bs := HAR.out.below ((Below.refl _ _).drew)
          have SS : Below w.heap.size w { wr with drawn := wr.drawn + 1 } := AR.bl
          clear HAR
          refine take 0 53 (.pointer (some ⟨ab, 0, none⟩)) (by kernel_rfl) (by kernel_rfl) (by kernel_rfl) (by kernel_rfl) (by kernel_rfl) (fun _ _ _ h => h) (by kernel_rfl) (fun _ _ => by kernel_rfl) SS ?_
          refine take 1 54 (.slice (some ad) acts.length c) (by kernel_rfl) (by kernel_rfl) (by kernel_rfl) (by kernel_rfl) (by kernel_rfl) (fun _ _ _ h => h) (by kernel_rfl) (fun _ _ => by kernel_rfl) SS ?_
          refine take 2 55 (.int .i64 (k : Int)) (by kernel_rfl) (by kernel_rfl) (by kernel_rfl) (by kernel_rfl) (by kernel_rfl) (fun _ _ _ h => h) (by kernel_rfl) (fun _ _ => by kernel_rfl) SS ?_
          refine take 3 56 (.pointer (some (ad.add (k * 6)))) (by kernel_rfl) (by kernel_rfl) (by kernel_rfl) (by kernel_rfl) (by kernel_rfl) (fun _ _ _ h => h) (by kernel_rfl) (fun w' hS => exec_act (.tmp 54) (.tmp 55) ad acts.length c k (by kernel_rfl) (by kernel_rfl) (by kernel_rfl) hk1) SS ?_
          refine take 4 57 (.pointer (some ⟨(ad.add (k * 6)).block, (ad.add (k * 6)).off + 1, none⟩)) (by kernel_rfl) (by kernel_rfl) (by kernel_rfl) (by kernel_rfl) (by kernel_rfl) (fun _ _ _ h => h) (by kernel_rfl) (fun _ _ => by kernel_rfl) SS ?_
          refine take 5 58 (.int .i64 (j : Int)) (by kernel_rfl) (by kernel_rfl) (by kernel_rfl) (by kernel_rfl) (by kernel_rfl) (fun _ _ _ h => h) (by kernel_rfl) (fun w' hS => exec_load3 (.tmp 57) ⟨(ad.add (k * 6)).block, (ad.add (k * 6)).off + 1, none⟩ (j : Int) (by kernel_rfl) (by kernel_rfl) ((hS.cell (cell_lt X1.out)).trans X1.out)) SS ?_
          refine take 6 59 (.slice (some ad) acts.length c) (by kernel_rfl) (by kernel_rfl) (by kernel_rfl) (by kernel_rfl) (by kernel_rfl) (fun _ _ _ h => h) (by kernel_rfl) (fun _ _ => by kernel_rfl) SS ?_
          refine take 7 60 (.int .i64 (k : Int)) (by kernel_rfl) (by kernel_rfl) (by kernel_rfl) (by kernel_rfl) (by kernel_rfl) (fun _ _ _ h => h) (by kernel_rfl) (fun _ _ => by kernel_rfl) SS ?_
          refine take 8 61 (.pointer (some (ad.add (k * 6)))) (by kernel_rfl) (by kernel_rfl) (by kernel_rfl) (by kernel_rfl) (by kernel_rfl) (fun _ _ _ h => h) (by kernel_rfl) (fun w' hS => exec_act (.tmp 59) (.tmp 60) ad acts.length c k (by kernel_rfl) (by kernel_rfl) (by kernel_rfl) hk1) SS ?_
          refine take 9 62 (.pointer (some ⟨(ad.add (k * 6)).block, (ad.add (k * 6)).off + 4, none⟩)) (by kernel_rfl) (by kernel_rfl) (by kernel_rfl) (by kernel_rfl) (by kernel_rfl) (fun _ _ _ h => h) (by kernel_rfl) (fun _ _ => by kernel_rfl) SS ?_
          refine take 10 63 (.int .u8 afl) (by kernel_rfl) (by kernel_rfl) (by kernel_rfl) (by kernel_rfl) (by kernel_rfl) (fun _ _ _ h => h) (by kernel_rfl) (fun w' hS => exec_load5 (.tmp 62) ⟨(ad.add (k * 6)).block, (ad.add (k * 6)).off + 4, none⟩ afl (by kernel_rfl) (by kernel_rfl) ((hS.cell (cell_lt X4.out)).trans X4.out)) SS ?_
          try simp only [Act.put, List.setIfInBounds_toArray, List.set_cons_zero, List.set_cons_succ]
          refine any_call 11 64 10 #[.int .u8 afl, .int .i64 0] (by kernel_rfl) (by kernel_rfl) (by kernel_rfl) (by kernel_rfl) (by kernel_rfl) ?_
          refine (fill_calls afl 0 _).mono ?_
          rintro _ W6 ⟨v6, rfl, hr6, hb6⟩
          have hl6 := AR.arr.lb_lt
          replace AR := AR.below hb6
          replace SS := AR.bl
          have HR6 := Lib.hid hr6
          clear hr6 hb6
          refine ⟨_, rfl, SS, ?_⟩
          try simp only [Act.put, List.setIfInBounds_toArray, List.set_cons_zero, List.set_cons_succ]
          try simp only [Act.put, List.setIfInBounds_toArray, List.set_cons_zero, List.set_cons_succ]
          refine any_call 12 65 9 #[.pointer (some ⟨ab, 0, none⟩), .int .i64 (j : Int), v6] (by kernel_rfl) (by kernel_rfl) (by kernel_rfl) (by kernel_rfl) (by kernel_rfl) ?_
          refine (aw_write AR j (by rw [HLEN.out]; exact hj) (fillL afl 0) (fill_sec afl HBY.out) HR6.out hl6).mono ?_
          rintro _ W7 ⟨rfl, h7⟩
          replace AR := h7
          replace SS := AR.bl
          clear h7 HR6 hl6
          refine ⟨_, rfl, SS, ?_⟩
          try simp only [Act.put, List.setIfInBounds_toArray, List.set_cons_zero, List.set_cons_succ]
          refine take 13 66 (.bool true) (by kernel_rfl) (by kernel_rfl) (by kernel_rfl) (by kernel_rfl) (by kernel_rfl) (fun _ _ _ h => h) (by kernel_rfl) (fun _ _ => by kernel_rfl) SS ?_
          refine take 14 67 (.bool true) (by kernel_rfl) (by kernel_rfl) (by kernel_rfl) (by kernel_rfl) (by kernel_rfl) (fun _ _ _ h => h) (by kernel_rfl) (fun _ _ => by kernel_rfl) SS ?_
          refine take 15 68 (.pointer (some ⟨ab, 0, none⟩)) (by kernel_rfl) (by kernel_rfl) (by kernel_rfl) (by kernel_rfl) (by kernel_rfl) (fun _ _ _ h => h) (by kernel_rfl) (fun _ _ => by kernel_rfl) SS ?_
          refine take 17 70 (.slice (some ad) acts.length c) (by kernel_rfl) (by kernel_rfl) (by kernel_rfl) (by kernel_rfl) (by kernel_rfl) (fun _ _ _ h => h) (by kernel_rfl) (fun _ _ => by kernel_rfl) SS ?_
          refine take 18 71 (.int .i64 (k : Int)) (by kernel_rfl) (by kernel_rfl) (by kernel_rfl) (by kernel_rfl) (by kernel_rfl) (fun _ _ _ h => h) (by kernel_rfl) (fun _ _ => by kernel_rfl) SS ?_
          refine take 19 72 (.pointer (some (ad.add (k * 6)))) (by kernel_rfl) (by kernel_rfl) (by kernel_rfl) (by kernel_rfl) (by kernel_rfl) (fun _ _ _ h => h) (by kernel_rfl) (fun w' hS => exec_act (.tmp 70) (.tmp 71) ad acts.length c k (by kernel_rfl) (by kernel_rfl) (by kernel_rfl) hk1) SS ?_
          refine take 20 73 (.pointer (some ⟨(ad.add (k * 6)).block, (ad.add (k * 6)).off + 1, none⟩)) (by kernel_rfl) (by kernel_rfl) (by kernel_rfl) (by kernel_rfl) (by kernel_rfl) (fun _ _ _ h => h) (by kernel_rfl) (fun _ _ => by kernel_rfl) SS ?_
          refine take 21 74 (.int .i64 (j : Int)) (by kernel_rfl) (by kernel_rfl) (by kernel_rfl) (by kernel_rfl) (by kernel_rfl) (fun _ _ _ h => h) (by kernel_rfl) (fun w' hS => exec_load3 (.tmp 73) ⟨(ad.add (k * 6)).block, (ad.add (k * 6)).off + 1, none⟩ (j : Int) (by kernel_rfl) (by kernel_rfl) ((hS.cell (cell_lt X1.out)).trans X1.out)) SS ?_
          try simp only [Act.put, List.setIfInBounds_toArray, List.set_cons_zero, List.set_cons_succ]
          refine wpAnyH_ready (rs := [16, 22]) (by kernel_rfl) (by simp) (all_call 16 69 26 #[.pointer (some ⟨ab, 0, none⟩)] (by kernel_rfl) (by kernel_rfl) (by kernel_rfl) (by kernel_rfl) ?c1 (all_step 22 75 (.slice (some ⟨W7.heap.size, 0, none⟩) 1 1) (by kernel_rfl) (by kernel_rfl) (by kernel_rfl) (by kernel_rfl) ((ar_alloc AR (.cells #[.int .i64 (j : Int)] 3)).bl) ?c2 AllReadyH.nil))
          case c1 =>
            refine (loose_calls AR.arr).mono ?_
            rintro _ W8 ⟨v8, rfl, hr8, hb8⟩
            replace AR := AR.below hb8
            replace SS := AR.bl
            rw [putL_len, loose_one bs j _ (by rw [HLEN.out]; exact hj)] at hr8
            obtain ⟨A8, c8, rfl, hlen8, hc8⟩ := Kd.R_reads hr8
            refine ⟨_, rfl, SS, ?_⟩
            try simp only [Act.put, List.setIfInBounds_toArray, List.set_cons_zero, List.set_cons_succ]
            try simp only [Act.put, List.setIfInBounds_toArray, List.set_cons_zero, List.set_cons_succ]
            refine any_step 22 75 (.slice (some ⟨W8.heap.size, 0, none⟩) 1 1) (by kernel_rfl) (by kernel_rfl) (by kernel_rfl) (by kernel_rfl) (by kernel_rfl) ((ar_alloc AR (.cells #[.int .i64 (j : Int)] 3)).bl) ?_
            try simp only [Act.put, List.setIfInBounds_toArray, List.set_cons_zero, List.set_cons_succ]
            replace AR := ar_alloc AR (.cells #[.int .i64 (j : Int)] 3)
            replace SS := AR.bl
            try simp only [Act.put, List.setIfInBounds_toArray, List.set_cons_zero, List.set_cons_succ]
            refine any_call 23 76 27 #[.slice A8 1 c8, .slice (some ⟨W8.heap.size, 0, none⟩) 1 1] (by kernel_rfl) (by kernel_rfl) (by kernel_rfl) (by kernel_rfl) (by kernel_rfl) ?_
            refine (ints_onex (j : Int) A8 c8 _ _ (Kd.C_below hc8 ((Below.refl _ _).alloc (Nat.le_refl _) _)) hlen8 (one_int _ (j : Int))).mono ?_
            rintro _ W9 ⟨rfl, hb9⟩
            replace AR := AR.below hb9
            replace SS := AR.bl
            refine ⟨_, rfl, SS, ?_⟩
            try simp only [Act.put, List.setIfInBounds_toArray, List.set_cons_zero, List.set_cons_succ]
            refine take 24 77 (.bool false) (by kernel_rfl) (by kernel_rfl) (by kernel_rfl) (by kernel_rfl) (by kernel_rfl) (fun _ _ _ h => h) (by kernel_rfl) (fun _ _ => by kernel_rfl) SS ?_
            refine take 25 78 (.bool false) (by kernel_rfl) (by kernel_rfl) (by kernel_rfl) (by kernel_rfl) (by kernel_rfl) (fun _ _ _ h => h) (by kernel_rfl) (fun _ _ => by kernel_rfl) SS ?_
            try simp only [Act.put, List.setIfInBounds_toArray, List.set_cons_zero, List.set_cons_succ]
            refine wpAnyH_done (by kernel_rfl) ?_ _
            have HAR := Lib.hid AR
            clear AR SS
            go_wp2_with (fail)
            go_roundw
            case rel => exact ⟨k + 1, putL bs j (fillL afl 0) 1, rfl, by omega, Lib.hid ((putL_len _ _ _ _).trans HLEN.out), HAR⟩
            case measure => simp [intOf]; omega
          case c2 =>
            replace AR := ar_alloc AR (.cells #[.int .i64 (j : Int)] 3)
            replace SS := AR.bl
            try simp only [Act.put, List.setIfInBounds_toArray, List.set_cons_zero, List.set_cons_succ]
            try simp only [Act.put, List.setIfInBounds_toArray, List.set_cons_zero, List.set_cons_succ]
            refine any_call 16 69 26 #[.pointer (some ⟨ab, 0, none⟩)] (by kernel_rfl) (by kernel_rfl) (by kernel_rfl) (by kernel_rfl) (by kernel_rfl) ?_
            refine (loose_calls AR.arr).mono ?_
            rintro _ W8 ⟨v8, rfl, hr8, hb8⟩
            replace AR := AR.below hb8
            replace SS := AR.bl
            rw [putL_len, loose_one bs j _ (by rw [HLEN.out]; exact hj)] at hr8
            obtain ⟨A8, c8, rfl, hlen8, hc8⟩ := Kd.R_reads hr8
            refine ⟨_, rfl, SS, ?_⟩
            try simp only [Act.put, List.setIfInBounds_toArray, List.set_cons_zero, List.set_cons_succ]
            try simp only [Act.put, List.setIfInBounds_toArray, List.set_cons_zero, List.set_cons_succ]
            refine any_call 23 76 27 #[.slice A8 1 c8, .slice (some ⟨W7.heap.size, 0, none⟩) 1 1] (by kernel_rfl) (by kernel_rfl) (by kernel_rfl) (by kernel_rfl) (by kernel_rfl) ?_
            refine (ints_onex (j : Int) A8 c8 _ _ (hc8) hlen8 (Kd.C_below (one_int _ (j : Int)) hb8)).mono ?_
            rintro _ W9 ⟨rfl, hb9⟩
            replace AR := AR.below hb9
            replace SS := AR.bl
            refine ⟨_, rfl, SS, ?_⟩
            try simp only [Act.put, List.setIfInBounds_toArray, List.set_cons_zero, List.set_cons_succ]
            refine take 24 77 (.bool false) (by kernel_rfl) (by kernel_rfl) (by kernel_rfl) (by kernel_rfl) (by kernel_rfl) (fun _ _ _ h => h) (by kernel_rfl) (fun _ _ => by kernel_rfl) SS ?_
            refine take 25 78 (.bool false) (by kernel_rfl) (by kernel_rfl) (by kernel_rfl) (by kernel_rfl) (by kernel_rfl) (fun _ _ _ h => h) (by kernel_rfl) (fun _ _ => by kernel_rfl) SS ?_
            try simp only [Act.put, List.setIfInBounds_toArray, List.set_cons_zero, List.set_cons_succ]
            refine wpAnyH_done (by kernel_rfl) ?_ _
            have HAR := Lib.hid AR
            clear AR SS
            go_wp2_with (fail)
            go_roundw
            case rel => exact ⟨k + 1, putL bs j (fillL afl 0) 1, rfl, by omega, Lib.hid ((putL_len _ _ _ _).trans HLEN.out), HAR⟩
            case measure => simp [intOf]; omega
        · have HOUT := Lib.hid hin
          clear hin
          go_wp2_with (fail)
          clear y0
          refine wp_region_held (S := fun w' => Below w.heap.size w w') (by kernel_rfl) ?_
          have AR : Ar w { wr with drawn := wr.drawn + 1 } ab lb bs := HAR.out.below ((Below.refl _ _).drew)
          have SS : Below w.heap.size w { wr with drawn := wr.drawn + 1 } := AR.bl
          clear HAR
          refine take 0 53 (.pointer (some ⟨ab, 0, none⟩)) (by kernel_rfl) (by kernel_rfl) (by kernel_rfl) (by kernel_rfl) (by kernel_rfl) (fun _ _ _ h => h) (by kernel_rfl) (fun _ _ => by kernel_rfl) SS ?_
          refine take 1 54 (.slice (some ad) acts.length c) (by kernel_rfl) (by kernel_rfl) (by kernel_rfl) (by kernel_rfl) (by kernel_rfl) (fun _ _ _ h => h) (by kernel_rfl) (fun _ _ => by kernel_rfl) SS ?_
          refine take 2 55 (.int .i64 (k : Int)) (by kernel_rfl) (by kernel_rfl) (by kernel_rfl) (by kernel_rfl) (by kernel_rfl) (fun _ _ _ h => h) (by kernel_rfl) (fun _ _ => by kernel_rfl) SS ?_
          refine take 3 56 (.pointer (some (ad.add (k * 6)))) (by kernel_rfl) (by kernel_rfl) (by kernel_rfl) (by kernel_rfl) (by kernel_rfl) (fun _ _ _ h => h) (by kernel_rfl) (fun w' hS => exec_act (.tmp 54) (.tmp 55) ad acts.length c k (by kernel_rfl) (by kernel_rfl) (by kernel_rfl) hk1) SS ?_
          refine take 4 57 (.pointer (some ⟨(ad.add (k * 6)).block, (ad.add (k * 6)).off + 1, none⟩)) (by kernel_rfl) (by kernel_rfl) (by kernel_rfl) (by kernel_rfl) (by kernel_rfl) (fun _ _ _ h => h) (by kernel_rfl) (fun _ _ => by kernel_rfl) SS ?_
          refine take 5 58 (.int .i64 al) (by kernel_rfl) (by kernel_rfl) (by kernel_rfl) (by kernel_rfl) (by kernel_rfl) (fun _ _ _ h => h) (by kernel_rfl) (fun w' hS => exec_load3 (.tmp 57) ⟨(ad.add (k * 6)).block, (ad.add (k * 6)).off + 1, none⟩ al (by kernel_rfl) (by kernel_rfl) ((hS.cell (cell_lt X1.out)).trans X1.out)) SS ?_
          refine take 6 59 (.slice (some ad) acts.length c) (by kernel_rfl) (by kernel_rfl) (by kernel_rfl) (by kernel_rfl) (by kernel_rfl) (fun _ _ _ h => h) (by kernel_rfl) (fun _ _ => by kernel_rfl) SS ?_
          refine take 7 60 (.int .i64 (k : Int)) (by kernel_rfl) (by kernel_rfl) (by kernel_rfl) (by kernel_rfl) (by kernel_rfl) (fun _ _ _ h => h) (by kernel_rfl) (fun _ _ => by kernel_rfl) SS ?_
          refine take 8 61 (.pointer (some (ad.add (k * 6)))) (by kernel_rfl) (by kernel_rfl) (by kernel_rfl) (by kernel_rfl) (by kernel_rfl) (fun _ _ _ h => h) (by kernel_rfl) (fun w' hS => exec_act (.tmp 59) (.tmp 60) ad acts.length c k (by kernel_rfl) (by kernel_rfl) (by kernel_rfl) hk1) SS ?_
          refine take 9 62 (.pointer (some ⟨(ad.add (k * 6)).block, (ad.add (k * 6)).off + 4, none⟩)) (by kernel_rfl) (by kernel_rfl) (by kernel_rfl) (by kernel_rfl) (by kernel_rfl) (fun _ _ _ h => h) (by kernel_rfl) (fun _ _ => by kernel_rfl) SS ?_
          refine take 10 63 (.int .u8 afl) (by kernel_rfl) (by kernel_rfl) (by kernel_rfl) (by kernel_rfl) (by kernel_rfl) (fun _ _ _ h => h) (by kernel_rfl) (fun w' hS => exec_load5 (.tmp 62) ⟨(ad.add (k * 6)).block, (ad.add (k * 6)).off + 4, none⟩ afl (by kernel_rfl) (by kernel_rfl) ((hS.cell (cell_lt X4.out)).trans X4.out)) SS ?_
          try simp only [Act.put, List.setIfInBounds_toArray, List.set_cons_zero, List.set_cons_succ]
          refine any_call 11 64 10 #[.int .u8 afl, .int .i64 0] (by kernel_rfl) (by kernel_rfl) (by kernel_rfl) (by kernel_rfl) (by kernel_rfl) ?_
          refine (fill_calls afl 0 _).mono ?_
          rintro _ W6 ⟨v6, rfl, hr6, hb6⟩
          have hl6 := AR.arr.lb_lt
          replace AR := AR.below hb6
          replace SS := AR.bl
          have HR6 := Lib.hid hr6
          clear hr6 hb6
          refine ⟨_, rfl, SS, ?_⟩
          try simp only [Act.put, List.setIfInBounds_toArray, List.set_cons_zero, List.set_cons_succ]
          try simp only [Act.put, List.setIfInBounds_toArray, List.set_cons_zero, List.set_cons_succ]
          refine any_call 12 65 9 #[.pointer (some ⟨ab, 0, none⟩), .int .i64 al, v6] (by kernel_rfl) (by kernel_rfl) (by kernel_rfl) (by kernel_rfl) (by kernel_rfl) ?_
          refine (write_out AR.arr al v6 (by rw [HLEN.out]; exact HOUT.out)).mono ?_
          rintro _ W7 ⟨rfl, hw7⟩
          subst hw7
          refine ⟨_, rfl, SS, ?_⟩
          try simp only [Act.put, List.setIfInBounds_toArray, List.set_cons_zero, List.set_cons_succ]
          refine take 13 66 (.bool false) (by kernel_rfl) (by kernel_rfl) (by kernel_rfl) (by kernel_rfl) (by kernel_rfl) (fun _ _ _ h => h) (by kernel_rfl) (fun _ _ => by kernel_rfl) SS ?_
          refine take 14 67 (.bool false) (by kernel_rfl) (by kernel_rfl) (by kernel_rfl) (by kernel_rfl) (by kernel_rfl) (fun _ _ _ h => h) (by kernel_rfl) (fun _ _ => by kernel_rfl) SS ?_
          refine off 15 68 (by kernel_rfl) (by kernel_rfl) (by kernel_rfl) (by kernel_rfl) (by kernel_rfl) (fun _ _ _ h => h) (by kernel_rfl) SS ?_
          refine off 16 69 (by kernel_rfl) (by kernel_rfl) (by kernel_rfl) (by kernel_rfl) (by kernel_rfl) (fun _ _ _ h => h) (by kernel_rfl) SS ?_
          refine off 17 70 (by kernel_rfl) (by kernel_rfl) (by kernel_rfl) (by kernel_rfl) (by kernel_rfl) (fun _ _ _ h => h) (by kernel_rfl) SS ?_
          refine off 18 71 (by kernel_rfl) (by kernel_rfl) (by kernel_rfl) (by kernel_rfl) (by kernel_rfl) (fun _ _ _ h => h) (by kernel_rfl) SS ?_
          refine off 19 72 (by kernel_rfl) (by kernel_rfl) (by kernel_rfl) (by kernel_rfl) (by kernel_rfl) (fun _ _ _ h => h) (by kernel_rfl) SS ?_
          refine off 20 73 (by kernel_rfl) (by kernel_rfl) (by kernel_rfl) (by kernel_rfl) (by kernel_rfl) (fun _ _ _ h => h) (by kernel_rfl) SS ?_
          refine off 21 74 (by kernel_rfl) (by kernel_rfl) (by kernel_rfl) (by kernel_rfl) (by kernel_rfl) (fun _ _ _ h => h) (by kernel_rfl) SS ?_
          refine off 22 75 (by kernel_rfl) (by kernel_rfl) (by kernel_rfl) (by kernel_rfl) (by kernel_rfl) (fun _ _ _ h => h) (by kernel_rfl) SS ?_
          refine off 23 76 (by kernel_rfl) (by kernel_rfl) (by kernel_rfl) (by kernel_rfl) (by kernel_rfl) (fun _ _ _ h => h) (by kernel_rfl) SS ?_
          refine off 24 77 (by kernel_rfl) (by kernel_rfl) (by kernel_rfl) (by kernel_rfl) (by kernel_rfl) (fun _ _ _ h => h) (by kernel_rfl) SS ?_
          refine take 25 78 (.bool false) (by kernel_rfl) (by kernel_rfl) (by kernel_rfl) (by kernel_rfl) (by kernel_rfl) (fun _ _ _ h => h) (by kernel_rfl) (fun _ _ => by kernel_rfl) SS ?_
          try simp only [Act.put, List.setIfInBounds_toArray, List.set_cons_zero, List.set_cons_succ]
          refine wpAnyH_done (by kernel_rfl) ?_ _
          have HAR := Lib.hid AR
          clear AR SS
          go_wp2_with (fail)
          go_roundw
          case rel => exact ⟨k + 1, bs, rfl, by omega, Lib.hid (HLEN.out), HAR⟩
          case measure => simp [intOf]; omega
      · have e1 : (kd == 1) = false := by simp [k1]
        by_cases k2 : kd = 2
        · subst k2
          clear k1 e1
          by_cases hin : readyE n al an = 3
          · have HOUT := Lib.hid hin
            clear hin
            go_wp2_with (fail)
            clear y0
            refine wp_region_held (S := fun w' => Below w.heap.size w w') (by kernel_rfl) ?_
            have AR : Ar w { wr with drawn := wr.drawn + 1 } ab lb bs := HAR.out.below ((Below.refl _ _).drew)
            have SS : Below w.heap.size w { wr with drawn := wr.drawn + 1 } := AR.bl
            clear HAR
            refine take 0 81 (.pointer (some ⟨ab, 0, none⟩)) (by kernel_rfl) (by kernel_rfl) (by kernel_rfl) (by kernel_rfl) (by kernel_rfl) (fun _ _ _ h => h) (by kernel_rfl) (fun _ _ => by kernel_rfl) SS ?_
            refine take 1 82 (.slice (some ad) acts.length c) (by kernel_rfl) (by kernel_rfl) (by kernel_rfl) (by kernel_rfl) (by kernel_rfl) (fun _ _ _ h => h) (by kernel_rfl) (fun _ _ => by kernel_rfl) SS ?_
            refine take 2 83 (.int .i64 (k : Int)) (by kernel_rfl) (by kernel_rfl) (by kernel_rfl) (by kernel_rfl) (by kernel_rfl) (fun _ _ _ h => h) (by kernel_rfl) (fun _ _ => by kernel_rfl) SS ?_
            refine take 3 84 (.pointer (some (ad.add (k * 6)))) (by kernel_rfl) (by kernel_rfl) (by kernel_rfl) (by kernel_rfl) (by kernel_rfl) (fun _ _ _ h => h) (by kernel_rfl) (fun w' hS => exec_act (.tmp 82) (.tmp 83) ad acts.length c k (by kernel_rfl) (by kernel_rfl) (by kernel_rfl) hk1) SS ?_
            refine take 4 85 (.pointer (some ⟨(ad.add (k * 6)).block, (ad.add (k * 6)).off + 1, none⟩)) (by kernel_rfl) (by kernel_rfl) (by kernel_rfl) (by kernel_rfl) (by kernel_rfl) (fun _ _ _ h => h) (by kernel_rfl) (fun _ _ => by kernel_rfl) SS ?_
            refine take 5 86 (.int .i64 al) (by kernel_rfl) (by kernel_rfl) (by kernel_rfl) (by kernel_rfl) (by kernel_rfl) (fun _ _ _ h => h) (by kernel_rfl) (fun w' hS => exec_load3 (.tmp 85) ⟨(ad.add (k * 6)).block, (ad.add (k * 6)).off + 1, none⟩ al (by kernel_rfl) (by kernel_rfl) ((hS.cell (cell_lt X1.out)).trans X1.out)) SS ?_
            refine take 6 87 (.slice (some ad) acts.length c) (by kernel_rfl) (by kernel_rfl) (by kernel_rfl) (by kernel_rfl) (by kernel_rfl) (fun _ _ _ h => h) (by kernel_rfl) (fun _ _ => by kernel_rfl) SS ?_
            refine take 7 88 (.int .i64 (k : Int)) (by kernel_rfl) (by kernel_rfl) (by kernel_rfl) (by kernel_rfl) (by kernel_rfl) (fun _ _ _ h => h) (by kernel_rfl) (fun _ _ => by kernel_rfl) SS ?_
            refine take 8 89 (.pointer (some (ad.add (k * 6)))) (by kernel_rfl) (by kernel_rfl) (by kernel_rfl) (by kernel_rfl) (by kernel_rfl) (fun _ _ _ h => h) (by kernel_rfl) (fun w' hS => exec_act (.tmp 87) (.tmp 88) ad acts.length c k (by kernel_rfl) (by kernel_rfl) (by kernel_rfl) hk1) SS ?_
            refine take 9 90 (.pointer (some ⟨(ad.add (k * 6)).block, (ad.add (k * 6)).off + 2, none⟩)) (by kernel_rfl) (by kernel_rfl) (by kernel_rfl) (by kernel_rfl) (by kernel_rfl) (fun _ _ _ h => h) (by kernel_rfl) (fun _ _ => by kernel_rfl) SS ?_
            refine take 10 91 (.int .i64 an) (by kernel_rfl) (by kernel_rfl) (by kernel_rfl) (by kernel_rfl) (by kernel_rfl) (fun _ _ _ h => h) (by kernel_rfl) (fun w' hS => exec_load3 (.tmp 90) ⟨(ad.add (k * 6)).block, (ad.add (k * 6)).off + 2, none⟩ an (by kernel_rfl) (by kernel_rfl) ((hS.cell (cell_lt X2.out)).trans X2.out)) SS ?_
            try simp only [Act.put, List.setIfInBounds_toArray, List.set_cons_zero, List.set_cons_succ]
            refine any_call 11 92 17 #[.pointer (some ⟨ab, 0, none⟩), .int .i64 al, .int .i64 an] (by kernel_rfl) (by kernel_rfl) (by kernel_rfl) (by kernel_rfl) (by kernel_rfl) ?_
            refine (trim_out AR.arr al an (by rw [HLEN.out]; exact HOUT.out)).mono ?_
            rintro _ W7 ⟨rfl, hw7⟩
            subst hw7
            refine ⟨_, rfl, SS, ?_⟩
            try simp only [Act.put, List.setIfInBounds_toArray, List.set_cons_zero, List.set_cons_succ]
            refine take 12 93 (.bool false) (by kernel_rfl) (by kernel_rfl) (by kernel_rfl) (by kernel_rfl) (by kernel_rfl) (fun _ _ _ h => h) (by kernel_rfl) (fun _ _ => by kernel_rfl) SS ?_
            refine take 13 94 (.bool false) (by kernel_rfl) (by kernel_rfl) (by kernel_rfl) (by kernel_rfl) (by kernel_rfl) (fun _ _ _ h => h) (by kernel_rfl) (fun _ _ => by kernel_rfl) SS ?_
            refine off 14 95 (by kernel_rfl) (by kernel_rfl) (by kernel_rfl) (by kernel_rfl) (by kernel_rfl) (fun _ _ _ h => h) (by kernel_rfl) SS ?_
            refine off 15 96 (by kernel_rfl) (by kernel_rfl) (by kernel_rfl) (by kernel_rfl) (by kernel_rfl) (fun _ _ _ h => h) (by kernel_rfl) SS ?_
            refine off 16 97 (by kernel_rfl) (by kernel_rfl) (by kernel_rfl) (by kernel_rfl) (by kernel_rfl) (fun _ _ _ h => h) (by kernel_rfl) SS ?_
            refine off 17 98 (by kernel_rfl) (by kernel_rfl) (by kernel_rfl) (by kernel_rfl) (by kernel_rfl) (fun _ _ _ h => h) (by kernel_rfl) SS ?_
            refine off 18 99 (by kernel_rfl) (by kernel_rfl) (by kernel_rfl) (by kernel_rfl) (by kernel_rfl) (fun _ _ _ h => h) (by kernel_rfl) SS ?_
            refine off 19 100 (by kernel_rfl) (by kernel_rfl) (by kernel_rfl) (by kernel_rfl) (by kernel_rfl) (fun _ _ _ h => h) (by kernel_rfl) SS ?_
            refine take 20 101 (.bool false) (by kernel_rfl) (by kernel_rfl) (by kernel_rfl) (by kernel_rfl) (by kernel_rfl) (fun _ _ _ h => h) (by kernel_rfl) (fun _ _ => by kernel_rfl) SS ?_
            refine take 21 102 (.bool false) (by kernel_rfl) (by kernel_rfl) (by kernel_rfl) (by kernel_rfl) (by kernel_rfl) (fun _ _ _ h => h) (by kernel_rfl) (fun _ _ => by kernel_rfl) SS ?_
            refine off 22 103 (by kernel_rfl) (by kernel_rfl) (by kernel_rfl) (by kernel_rfl) (by kernel_rfl) (fun _ _ _ h => h) (by kernel_rfl) SS ?_
            refine off 23 104 (by kernel_rfl) (by kernel_rfl) (by kernel_rfl) (by kernel_rfl) (by kernel_rfl) (fun _ _ _ h => h) (by kernel_rfl) SS ?_
            refine off 24 105 (by kernel_rfl) (by kernel_rfl) (by kernel_rfl) (by kernel_rfl) (by kernel_rfl) (fun _ _ _ h => h) (by kernel_rfl) SS ?_
            refine off 25 106 (by kernel_rfl) (by kernel_rfl) (by kernel_rfl) (by kernel_rfl) (by kernel_rfl) (fun _ _ _ h => h) (by kernel_rfl) SS ?_
            refine off 26 107 (by kernel_rfl) (by kernel_rfl) (by kernel_rfl) (by kernel_rfl) (by kernel_rfl) (fun _ _ _ h => h) (by kernel_rfl) SS ?_
            refine off 27 108 (by kernel_rfl) (by kernel_rfl) (by kernel_rfl) (by kernel_rfl) (by kernel_rfl) (fun _ _ _ h => h) (by kernel_rfl) SS ?_
            refine off 28 109 (by kernel_rfl) (by kernel_rfl) (by kernel_rfl) (by kernel_rfl) (by kernel_rfl) (fun _ _ _ h => h) (by kernel_rfl) SS ?_
            refine off 29 110 (by kernel_rfl) (by kernel_rfl) (by kernel_rfl) (by kernel_rfl) (by kernel_rfl) (fun _ _ _ h => h) (by kernel_rfl) SS ?_
            refine off 30 111 (by kernel_rfl) (by kernel_rfl) (by kernel_rfl) (by kernel_rfl) (by kernel_rfl) (fun _ _ _ h => h) (by kernel_rfl) SS ?_
            refine take 31 112 (.bool false) (by kernel_rfl) (by kernel_rfl) (by kernel_rfl) (by kernel_rfl) (by kernel_rfl) (fun _ _ _ h => h) (by kernel_rfl) (fun _ _ => by kernel_rfl) SS ?_
            try simp only [Act.put, List.setIfInBounds_toArray, List.set_cons_zero, List.set_cons_succ]
            refine wpAnyH_done (by kernel_rfl) ?_ _
            have HAR := Lib.hid AR
            clear AR SS
            go_wp2_with (fail)
            go_roundw
            case rel => exact ⟨k + 1, bs, rfl, by omega, Lib.hid (HLEN.out), HAR⟩
            case measure => simp [intOf]; omega
          · have hin2 : readyE n al an = 0 := by unfold readyE at hin ⊢; split at hin <;> simp_all
            have hh : 0 ≤ al ∧ 0 ≤ an ∧ al < (n : Int) ∧ an ≤ (n : Int) - al := by unfold readyE at hin; split at hin <;> omega
            obtain ⟨j, rfl⟩ := Int.eq_ofNat_of_zero_le hh.1
            obtain ⟨q, rfl⟩ := Int.eq_ofNat_of_zero_le hh.2.1
            have hjq : j + q ≤ n := by omega
            have HIN := Lib.hid hin2
            clear hin hin2 hh
            by_cases hq : q = 0
            · have hq0 : ¬ (0 < q) := by omega
              clear hq
              go_wp2_with (fail)
              clear y0
              refine wp_region_held (S := fun w' => Below w.heap.size w w') (by kernel_rfl) ?_
              have AR : Ar w { wr with drawn := wr.drawn + 1 } ab lb bs := HAR.out.below ((Below.refl _ _).drew)
              have SS : Below w.heap.size w { wr with drawn := wr.drawn + 1 } := AR.bl
              clear HAR
              refine take 0 81 (.pointer (some ⟨ab, 0, none⟩)) (by kernel_rfl) (by kernel_rfl) (by kernel_rfl) (by kernel_rfl) (by kernel_rfl) (fun _ _ _ h => h) (by kernel_rfl) (fun _ _ => by kernel_rfl) SS ?_
              refine take 1 82 (.slice (some ad) acts.length c) (by kernel_rfl) (by kernel_rfl) (by kernel_rfl) (by kernel_rfl) (by kernel_rfl) (fun _ _ _ h => h) (by kernel_rfl) (fun _ _ => by kernel_rfl) SS ?_
              refine take 2 83 (.int .i64 (k : Int)) (by kernel_rfl) (by kernel_rfl) (by kernel_rfl) (by kernel_rfl) (by kernel_rfl) (fun _ _ _ h => h) (by kernel_rfl) (fun _ _ => by kernel_rfl) SS ?_
              refine take 3 84 (.pointer (some (ad.add (k * 6)))) (by kernel_rfl) (by kernel_rfl) (by kernel_rfl) (by kernel_rfl) (by kernel_rfl) (fun _ _ _ h => h) (by kernel_rfl) (fun w' hS => exec_act (.tmp 82) (.tmp 83) ad acts.length c k (by kernel_rfl) (by kernel_rfl) (by kernel_rfl) hk1) SS ?_
              refine take 4 85 (.pointer (some ⟨(ad.add (k * 6)).block, (ad.add (k * 6)).off + 1, none⟩)) (by kernel_rfl) (by kernel_rfl) (by kernel_rfl) (by kernel_rfl) (by kernel_rfl) (fun _ _ _ h => h) (by kernel_rfl) (fun _ _ => by kernel_rfl) SS ?_
              refine take 5 86 (.int .i64 (j : Int)) (by kernel_rfl) (by kernel_rfl) (by kernel_rfl) (by kernel_rfl) (by kernel_rfl) (fun _ _ _ h => h) (by kernel_rfl) (fun w' hS => exec_load3 (.tmp 85) ⟨(ad.add (k * 6)).block, (ad.add (k * 6)).off + 1, none⟩ (j : Int) (by kernel_rfl) (by kernel_rfl) ((hS.cell (cell_lt X1.out)).trans X1.out)) SS ?_
              refine take 6 87 (.slice (some ad) acts.length c) (by kernel_rfl) (by kernel_rfl) (by kernel_rfl) (by kernel_rfl) (by kernel_rfl) (fun _ _ _ h => h) (by kernel_rfl) (fun _ _ => by kernel_rfl) SS ?_
              refine take 7 88 (.int .i64 (k : Int)) (by kernel_rfl) (by kernel_rfl) (by kernel_rfl) (by kernel_rfl) (by kernel_rfl) (fun _ _ _ h => h) (by kernel_rfl) (fun _ _ => by kernel_rfl) SS ?_
              refine take 8 89 (.pointer (some (ad.add (k * 6)))) (by kernel_rfl) (by kernel_rfl) (by kernel_rfl) (by kernel_rfl) (by kernel_rfl) (fun _ _ _ h => h) (by kernel_rfl) (fun w' hS => exec_act (.tmp 87) (.tmp 88) ad acts.length c k (by kernel_rfl) (by kernel_rfl) (by kernel_rfl) hk1) SS ?_
              refine take 9 90 (.pointer (some ⟨(ad.add (k * 6)).block, (ad.add (k * 6)).off + 2, none⟩)) (by kernel_rfl) (by kernel_rfl) (by kernel_rfl) (by kernel_rfl) (by kernel_rfl) (fun _ _ _ h => h) (by kernel_rfl) (fun _ _ => by kernel_rfl) SS ?_
              refine take 10 91 (.int .i64 (q : Int)) (by kernel_rfl) (by kernel_rfl) (by kernel_rfl) (by kernel_rfl) (by kernel_rfl) (fun _ _ _ h => h) (by kernel_rfl) (fun w' hS => exec_load3 (.tmp 90) ⟨(ad.add (k * 6)).block, (ad.add (k * 6)).off + 2, none⟩ (q : Int) (by kernel_rfl) (by kernel_rfl) ((hS.cell (cell_lt X2.out)).trans X2.out)) SS ?_
              try simp only [Act.put, List.setIfInBounds_toArray, List.set_cons_zero, List.set_cons_succ]
              refine any_call 11 92 17 #[.pointer (some ⟨ab, 0, none⟩), .int .i64 (j : Int), .int .i64 (q : Int)] (by kernel_rfl) (by kernel_rfl) (by kernel_rfl) (by kernel_rfl) (by kernel_rfl) ?_
              refine (trim_ok AR.arr j q (by rw [HLEN.out]; exact HIN.out)).mono ?_
              rintro _ W7 ⟨rfl, h7, hf7⟩
              replace AR := AR.step h7 hf7
              replace SS := AR.bl
              clear h7 hf7
              refine ⟨_, rfl, SS, ?_⟩
              try simp only [Act.put, List.setIfInBounds_toArray, List.set_cons_zero, List.set_cons_succ]
              refine take 12 93 (.bool true) (by kernel_rfl) (by kernel_rfl) (by kernel_rfl) (by kernel_rfl) (by kernel_rfl) (fun _ _ _ h => h) (by kernel_rfl) (fun _ _ => by kernel_rfl) SS ?_
              refine take 13 94 (.bool true) (by kernel_rfl) (by kernel_rfl) (by kernel_rfl) (by kernel_rfl) (by kernel_rfl) (fun _ _ _ h => h) (by kernel_rfl) (fun _ _ => by kernel_rfl) SS ?_
              refine take 14 95 (.slice (some ad) acts.length c) (by kernel_rfl) (by kernel_rfl) (by kernel_rfl) (by kernel_rfl) (by kernel_rfl) (fun _ _ _ h => h) (by kernel_rfl) (fun _ _ => by kernel_rfl) SS ?_
              refine take 15 96 (.int .i64 (k : Int)) (by kernel_rfl) (by kernel_rfl) (by kernel_rfl) (by kernel_rfl) (by kernel_rfl) (fun _ _ _ h => h) (by kernel_rfl) (fun _ _ => by kernel_rfl) SS ?_
              refine take 16 97 (.pointer (some (ad.add (k * 6)))) (by kernel_rfl) (by kernel_rfl) (by kernel_rfl) (by kernel_rfl) (by kernel_rfl) (fun _ _ _ h => h) (by kernel_rfl) (fun w' hS => exec_act (.tmp 95) (.tmp 96) ad acts.length c k (by kernel_rfl) (by kernel_rfl) (by kernel_rfl) hk1) SS ?_
              refine take 17 98 (.pointer (some ⟨(ad.add (k * 6)).block, (ad.add (k * 6)).off + 2, none⟩)) (by kernel_rfl) (by kernel_rfl) (by kernel_rfl) (by kernel_rfl) (by kernel_rfl) (fun _ _ _ h => h) (by kernel_rfl) (fun _ _ => by kernel_rfl) SS ?_
              refine take 18 99 (.int .i64 (q : Int)) (by kernel_rfl) (by kernel_rfl) (by kernel_rfl) (by kernel_rfl) (by kernel_rfl) (fun _ _ _ h => h) (by kernel_rfl) (fun w' hS => exec_load3 (.tmp 98) ⟨(ad.add (k * 6)).block, (ad.add (k * 6)).off + 2, none⟩ (q : Int) (by kernel_rfl) (by kernel_rfl) ((hS.cell (cell_lt X2.out)).trans X2.out)) SS ?_
              refine take 19 100 (.bool false) (by kernel_rfl) (by kernel_rfl) (by kernel_rfl) (by kernel_rfl) (by kernel_rfl) (fun _ _ _ h => h) (by kernel_rfl) (fun w' hS => exec_gtr3 (.tmp 99) (.const (.int .i64 0)) (q : Int) 0 (by kernel_rfl) (by kernel_rfl) (by kernel_rfl) (by simp; omega)) SS ?_
              refine take 20 101 (.bool false) (by kernel_rfl) (by kernel_rfl) (by kernel_rfl) (by kernel_rfl) (by kernel_rfl) (fun _ _ _ h => h) (by kernel_rfl) (fun _ _ => by kernel_rfl) SS ?_
              refine take 21 102 (.bool false) (by kernel_rfl) (by kernel_rfl) (by kernel_rfl) (by kernel_rfl) (by kernel_rfl) (fun _ _ _ h => h) (by kernel_rfl) (fun _ _ => by kernel_rfl) SS ?_
              refine off 22 103 (by kernel_rfl) (by kernel_rfl) (by kernel_rfl) (by kernel_rfl) (by kernel_rfl) (fun _ _ _ h => h) (by kernel_rfl) SS ?_
              refine off 23 104 (by kernel_rfl) (by kernel_rfl) (by kernel_rfl) (by kernel_rfl) (by kernel_rfl) (fun _ _ _ h => h) (by kernel_rfl) SS ?_
              refine off 24 105 (by kernel_rfl) (by kernel_rfl) (by kernel_rfl) (by kernel_rfl) (by kernel_rfl) (fun _ _ _ h => h) (by kernel_rfl) SS ?_
              refine off 25 106 (by kernel_rfl) (by kernel_rfl) (by kernel_rfl) (by kernel_rfl) (by kernel_rfl) (fun _ _ _ h => h) (by kernel_rfl) SS ?_
              refine off 26 107 (by kernel_rfl) (by kernel_rfl) (by kernel_rfl) (by kernel_rfl) (by kernel_rfl) (fun _ _ _ h => h) (by kernel_rfl) SS ?_
              refine off 27 108 (by kernel_rfl) (by kernel_rfl) (by kernel_rfl) (by kernel_rfl) (by kernel_rfl) (fun _ _ _ h => h) (by kernel_rfl) SS ?_
              refine off 28 109 (by kernel_rfl) (by kernel_rfl) (by kernel_rfl) (by kernel_rfl) (by kernel_rfl) (fun _ _ _ h => h) (by kernel_rfl) SS ?_
              refine off 29 110 (by kernel_rfl) (by kernel_rfl) (by kernel_rfl) (by kernel_rfl) (by kernel_rfl) (fun _ _ _ h => h) (by kernel_rfl) SS ?_
              refine off 30 111 (by kernel_rfl) (by kernel_rfl) (by kernel_rfl) (by kernel_rfl) (by kernel_rfl) (fun _ _ _ h => h) (by kernel_rfl) SS ?_
              refine take 31 112 (.bool false) (by kernel_rfl) (by kernel_rfl) (by kernel_rfl) (by kernel_rfl) (by kernel_rfl) (fun _ _ _ h => h) (by kernel_rfl) (fun _ _ => by kernel_rfl) SS ?_
              try simp only [Act.put, List.setIfInBounds_toArray, List.set_cons_zero, List.set_cons_succ]
              refine wpAnyH_done (by kernel_rfl) ?_ _
              have HAR := Lib.hid AR
              clear AR SS
              go_wp2_with (fail)
              go_roundw
              case rel => exact ⟨k + 1, putL bs j z64 q, rfl, by omega, Lib.hid ((putL_len _ _ _ _).trans HLEN.out), HAR⟩
              case measure => simp [intOf]; omega
            · have hq0 : 0 < q := by omega
              clear hq
              go_wp2_with (fail)
              clear y0
              refine wp_region_held (S := fun w' => Below w.heap.size w w') (by kernel_rfl) ?_
              have AR : Ar w { wr with drawn := wr.drawn + 1 } ab lb bs := HAR.out.below ((Below.refl _ _).drew)
              have SS : Below w.heap.size w { wr with drawn := wr.drawn + 1 } := AR.bl
              clear HAR
              refine take 0 81 (.pointer (some ⟨ab, 0, none⟩)) (by kernel_rfl) (by kernel_rfl) (by kernel_rfl) (by kernel_rfl) (by kernel_rfl) (fun _ _ _ h => h) (by kernel_rfl) (fun _ _ => by kernel_rfl) SS ?_
              refine take 1 82 (.slice (some ad) acts.length c) (by kernel_rfl) (by kernel_rfl) (by kernel_rfl) (by kernel_rfl) (by kernel_rfl) (fun _ _ _ h => h) (by kernel_rfl) (fun _ _ => by kernel_rfl) SS ?_
              refine take 2 83 (.int .i64 (k : Int)) (by kernel_rfl) (by kernel_rfl) (by kernel_rfl) (by kernel_rfl) (by kernel_rfl) (fun _ _ _ h => h) (by kernel_rfl) (fun _ _ => by kernel_rfl) SS ?_
              refine take 3 84 (.pointer (some (ad.add (k * 6)))) (by kernel_rfl) (by kernel_rfl) (by kernel_rfl) (by kernel_rfl) (by kernel_rfl) (fun _ _ _ h => h) (by kernel_rfl) (fun w' hS => exec_act (.tmp 82) (.tmp 83) ad acts.length c k (by kernel_rfl) (by kernel_rfl) (by kernel_rfl) hk1) SS ?_
              refine take 4 85 (.pointer (some ⟨(ad.add (k * 6)).block, (ad.add (k * 6)).off + 1, none⟩)) (by kernel_rfl) (by kernel_rfl) (by kernel_rfl) (by kernel_rfl) (by kernel_rfl) (fun _ _ _ h => h) (by kernel_rfl) (fun _ _ => by kernel_rfl) SS ?_
              refine take 5 86 (.int .i64 (j : Int)) (by kernel_rfl) (by kernel_rfl) (by kernel_rfl) (by kernel_rfl) (by kernel_rfl) (fun _ _ _ h => h) (by kernel_rfl) (fun w' hS => exec_load3 (.tmp 85) ⟨(ad.add (k * 6)).block, (ad.add (k * 6)).off + 1, none⟩ (j : Int) (by kernel_rfl) (by kernel_rfl) ((hS.cell (cell_lt X1.out)).trans X1.out)) SS ?_
              refine take 6 87 (.slice (some ad) acts.length c) (by kernel_rfl) (by kernel_rfl) (by kernel_rfl) (by kernel_rfl) (by kernel_rfl) (fun _ _ _ h => h) (by kernel_rfl) (fun _ _ => by kernel_rfl) SS ?_
              refine take 7 88 (.int .i64 (k : Int)) (by kernel_rfl) (by kernel_rfl) (by kernel_rfl) (by kernel_rfl) (by kernel_rfl) (fun _ _ _ h => h) (by kernel_rfl) (fun _ _ => by kernel_rfl) SS ?_
              refine take 8 89 (.pointer (some (ad.add (k * 6)))) (by kernel_rfl) (by kernel_rfl) (by kernel_rfl) (by kernel_rfl) (by kernel_rfl) (fun _ _ _ h => h) (by kernel_rfl) (fun w' hS => exec_act (.tmp 87) (.tmp 88) ad acts.length c k (by kernel_rfl) (by kernel_rfl) (by kernel_rfl) hk1) SS ?_
              refine take 9 90 (.pointer (some ⟨(ad.add (k * 6)).block, (ad.add (k * 6)).off + 2, none⟩)) (by kernel_rfl) (by kernel_rfl) (by kernel_rfl) (by kernel_rfl) (by kernel_rfl) (fun _ _ _ h => h) (by kernel_rfl) (fun _ _ => by kernel_rfl) SS ?_
              refine take 10 91 (.int .i64 (q : Int)) (by kernel_rfl) (by kernel_rfl) (by kernel_rfl) (by kernel_rfl) (by kernel_rfl) (fun _ _ _ h => h) (by kernel_rfl) (fun w' hS => exec_load3 (.tmp 90) ⟨(ad.add (k * 6)).block, (ad.add (k * 6)).off + 2, none⟩ (q : Int) (by kernel_rfl) (by kernel_rfl) ((hS.cell (cell_lt X2.out)).trans X2.out)) SS ?_
              try simp only [Act.put, List.setIfInBounds_toArray, List.set_cons_zero, List.set_cons_succ]
              refine any_call 11 92 17 #[.pointer (some ⟨ab, 0, none⟩), .int .i64 (j : Int), .int .i64 (q : Int)] (by kernel_rfl) (by kernel_rfl) (by kernel_rfl) (by kernel_rfl) (by kernel_rfl) ?_
              refine (trim_ok AR.arr j q (by rw [HLEN.out]; exact HIN.out)).mono ?_
              rintro _ W7 ⟨rfl, h7, hf7⟩
              replace AR := AR.step h7 hf7
              replace SS := AR.bl
              clear h7 hf7
              refine ⟨_, rfl, SS, ?_⟩
              try simp only [Act.put, List.setIfInBounds_toArray, List.set_cons_zero, List.set_cons_succ]
              refine take 12 93 (.bool true) (by kernel_rfl) (by kernel_rfl) (by kernel_rfl) (by kernel_rfl) (by kernel_rfl) (fun _ _ _ h => h) (by kernel_rfl) (fun _ _ => by kernel_rfl) SS ?_
              refine take 13 94 (.bool true) (by kernel_rfl) (by kernel_rfl) (by kernel_rfl) (by kernel_rfl) (by kernel_rfl) (fun _ _ _ h => h) (by kernel_rfl) (fun _ _ => by kernel_rfl) SS ?_
              refine take 14 95 (.slice (some ad) acts.length c) (by kernel_rfl) (by kernel_rfl) (by kernel_rfl) (by kernel_rfl) (by kernel_rfl) (fun _ _ _ h => h) (by kernel_rfl) (fun _ _ => by kernel_rfl) SS ?_
              refine take 15 96 (.int .i64 (k : Int)) (by kernel_rfl) (by kernel_rfl) (by kernel_rfl) (by kernel_rfl) (by kernel_rfl) (fun _ _ _ h => h) (by kernel_rfl) (fun _ _ => by kernel_rfl) SS ?_
              refine take 16 97 (.pointer (some (ad.add (k * 6)))) (by kernel_rfl) (by kernel_rfl) (by kernel_rfl) (by kernel_rfl) (by kernel_rfl) (fun _ _ _ h => h) (by kernel_rfl) (fun w' hS => exec_act (.tmp 95) (.tmp 96) ad acts.length c k (by kernel_rfl) (by kernel_rfl) (by kernel_rfl) hk1) SS ?_
              refine take 17 98 (.pointer (some ⟨(ad.add (k * 6)).block, (ad.add (k * 6)).off + 2, none⟩)) (by kernel_rfl) (by kernel_rfl) (by kernel_rfl) (by kernel_rfl) (by kernel_rfl) (fun _ _ _ h => h) (by kernel_rfl) (fun _ _ => by kernel_rfl) SS ?_
              refine take 18 99 (.int .i64 (q : Int)) (by kernel_rfl) (by kernel_rfl) (by kernel_rfl) (by kernel_rfl) (by kernel_rfl) (fun _ _ _ h => h) (by kernel_rfl) (fun w' hS => exec_load3 (.tmp 98) ⟨(ad.add (k * 6)).block, (ad.add (k * 6)).off + 2, none⟩ (q : Int) (by kernel_rfl) (by kernel_rfl) ((hS.cell (cell_lt X2.out)).trans X2.out)) SS ?_
              refine take 19 100 (.bool true) (by kernel_rfl) (by kernel_rfl) (by kernel_rfl) (by kernel_rfl) (by kernel_rfl) (fun _ _ _ h => h) (by kernel_rfl) (fun w' hS => exec_gtr3 (.tmp 99) (.const (.int .i64 0)) (q : Int) 0 (by kernel_rfl) (by kernel_rfl) (by kernel_rfl) (by simp; omega)) SS ?_
              refine take 20 101 (.bool true) (by kernel_rfl) (by kernel_rfl) (by kernel_rfl) (by kernel_rfl) (by kernel_rfl) (fun _ _ _ h => h) (by kernel_rfl) (fun _ _ => by kernel_rfl) SS ?_
              refine take 21 102 (.bool true) (by kernel_rfl) (by kernel_rfl) (by kernel_rfl) (by kernel_rfl) (by kernel_rfl) (fun _ _ _ h => h) (by kernel_rfl) (fun _ _ => by kernel_rfl) SS ?_
              refine take 22 103 (.pointer (some ⟨ab, 0, none⟩)) (by kernel_rfl) (by kernel_rfl) (by kernel_rfl) (by kernel_rfl) (by kernel_rfl) (fun _ _ _ h => h) (by kernel_rfl) (fun _ _ => by kernel_rfl) SS ?_
              refine take 25 106 (.slice (some ad) acts.length c) (by kernel_rfl) (by kernel_rfl) (by kernel_rfl) (by kernel_rfl) (by kernel_rfl) (fun _ _ _ h => h) (by kernel_rfl) (fun _ _ => by kernel_rfl) SS ?_
              refine take 26 107 (.int .i64 (k : Int)) (by kernel_rfl) (by kernel_rfl) (by kernel_rfl) (by kernel_rfl) (by kernel_rfl) (fun _ _ _ h => h) (by kernel_rfl) (fun _ _ => by kernel_rfl) SS ?_
              refine take 27 108 (.pointer (some (ad.add (k * 6)))) (by kernel_rfl) (by kernel_rfl) (by kernel_rfl) (by kernel_rfl) (by kernel_rfl) (fun _ _ _ h => h) (by kernel_rfl) (fun w' hS => exec_act (.tmp 106) (.tmp 107) ad acts.length c k (by kernel_rfl) (by kernel_rfl) (by kernel_rfl) hk1) SS ?_
              refine take 28 109 (.pointer (some ⟨(ad.add (k * 6)).block, (ad.add (k * 6)).off + 2, none⟩)) (by kernel_rfl) (by kernel_rfl) (by kernel_rfl) (by kernel_rfl) (by kernel_rfl) (fun _ _ _ h => h) (by kernel_rfl) (fun _ _ => by kernel_rfl) SS ?_
              refine take 29 110 (.int .i64 (q : Int)) (by kernel_rfl) (by kernel_rfl) (by kernel_rfl) (by kernel_rfl) (by kernel_rfl) (fun _ _ _ h => h) (by kernel_rfl) (fun w' hS => exec_load3 (.tmp 109) ⟨(ad.add (k * 6)).block, (ad.add (k * 6)).off + 2, none⟩ (q : Int) (by kernel_rfl) (by kernel_rfl) ((hS.cell (cell_lt X2.out)).trans X2.out)) SS ?_
              try simp only [Act.put, List.setIfInBounds_toArray, List.set_cons_zero, List.set_cons_succ]
              refine any_call 23 104 26 #[.pointer (some ⟨ab, 0, none⟩)] (by kernel_rfl) (by kernel_rfl) (by kernel_rfl) (by kernel_rfl) (by kernel_rfl) ?_
              refine (loose_calls AR.arr).mono ?_
              rintro _ W8 ⟨v8, rfl, hr8, hb8⟩
              replace AR := AR.below hb8
              replace SS := AR.bl
              obtain ⟨A8, c8, rfl, hlen8, hc8⟩ := Kd.R_reads hr8
              rw [putL_len, loose_len bs j _ q hq0 (by rw [HLEN.out]; exact hjq)]
              clear hr8 hb8 hlen8 hc8
              refine ⟨_, rfl, SS, ?_⟩
              try simp only [Act.put, List.setIfInBounds_toArray, List.set_cons_zero, List.set_cons_succ]
              refine take 24 105 (.int .i64 (q : Int)) (by kernel_rfl) (by kernel_rfl) (by kernel_rfl) (by kernel_rfl) (by kernel_rfl) (fun _ _ _ h => h) (by kernel_rfl) (fun _ _ => by kernel_rfl) SS ?_
              refine take 30 111 (.bool false) (by kernel_rfl) (by kernel_rfl) (by kernel_rfl) (by kernel_rfl) (by kernel_rfl) (fun _ _ _ h => h) (by kernel_rfl) (fun w' hS => exec_neq3 (.tmp 105) (.tmp 110) (q : Int) (q : Int) (by kernel_rfl) (by kernel_rfl) (by kernel_rfl) (by simp)) SS ?_
              refine take 31 112 (.bool false) (by kernel_rfl) (by kernel_rfl) (by kernel_rfl) (by kernel_rfl) (by kernel_rfl) (fun _ _ _ h => h) (by kernel_rfl) (fun _ _ => by kernel_rfl) SS ?_
              try simp only [Act.put, List.setIfInBounds_toArray, List.set_cons_zero, List.set_cons_succ]
              refine wpAnyH_done (by kernel_rfl) ?_ _
              have HAR := Lib.hid AR
              clear AR SS
              go_wp2_with (fail)
              go_roundw
              case rel => exact ⟨k + 1, putL bs j z64 q, rfl, by omega, Lib.hid ((putL_len _ _ _ _).trans HLEN.out), HAR⟩
              case measure => simp [intOf]; omega
        · have e2 : (kd == 2) = false := by simp [k2]
          by_cases k3 : kd = 3
          · subst k3
            clear k1 k2 e1 e2
            go_wp2_with (go_at_call 19; refine (flush_calls HAR.out.arr).mono ?_; rintro _ W7 ⟨rfl, h7, hf7⟩; have n0 := Lib.hid (HAR.out.step h7 hf7); clear HAR h7 hf7; have HAR := n0; clear n0)
            go_roundw
            case rel => exact ⟨k + 1, _, rfl, by omega, Lib.hid ((List.length_map ..).trans HLEN.out), HAR⟩
            case measure => simp [intOf]; omega
          · have e3 : (kd == 3) = false := by simp [k3]
            clear k1 k2 k3
            go_wp2_with (fail)
            go_roundw
            case rel => exact ⟨k + 1, _, rfl, by omega, HLEN, HAR⟩
            case measure => simp [intOf]; omega
    · have HB0 := Lib.hid (fun W' (hb : Below wr.heap.size wr W') => bthen HAR.out.bl hb)
      by_cases hin : 0 ≤ lba ∧ lba < (n : Int)
      · obtain ⟨j, rfl⟩ := Int.eq_ofNat_of_zero_le hin.1
        have hj : j < n := by omega
        have hfs := fill_sec f HF.out
        clear hin HB0
        by_cases hk0 : k < acts.length
        · have hk2 : ¬ (k < 30) := fun h => hlt ⟨hk0, h⟩
          clear hlt
          go_wp2_with (fail)
          refine (fill_calls f 0 _).mono ?_
          rintro _ W6 ⟨v6, rfl, hr6, hb6⟩
          have HL6 := Lib.hid HAR.out.arr.lb_lt
          have n0 := Lib.hid (HAR.out.below hb6)
          have HR6 := Lib.hid hr6
          clear HAR hr6 hb6
          have HAR := n0
          clear n0
          go_wp2_with (fail)
          refine (aw_write HAR.out j (by rw [HLEN.out]; exact hj) (fillL f 0) hfs HR6.out HL6.out).mono ?_
          rintro _ W7 ⟨rfl, h7⟩
          obtain ⟨bs1, hbs1⟩ : ∃ bs1, bs1 = putL bs j (fillL f 0) 1 := ⟨_, rfl⟩
          have hl1 : j < bs1.length := by rw [hbs1, putL_len, HLEN.out]; exact hj
          have hnow : (bs1.getD j zb).now = fillL f 0 := by rw [hbs1]; exact put_now bs j _ (by rw [HLEN.out]; exact hj)
          rw [← hbs1] at h7
          have H7 := Lib.hid h7
          have HL1 := Lib.hid hl1
          have HNOW := Lib.hid hnow
          have HFS := Lib.hid hfs
          clear HAR HR6 HL6 h7 hbs1 hl1 hnow hfs HLEN
          go_wp2_with (fail)
          have hrd := read_ok H7.out.arr j HL1.out
          rw [HNOW.out] at hrd
          refine hrd.mono ?_
          rintro _ W8 ⟨v8, rfl, hr8, hb8⟩
          have H8 := Lib.hid (H7.out.below hb8)
          have HLL := Lib.hid H7.out.arr.lb_lt
          have HR8 := Lib.hid hr8
          clear hr8 hb8 hrd H7
          go_wp2_with (fail)
          refine (flush_calls H8.out.arr).mono ?_
          rintro _ W9 ⟨rfl, h9, hf9⟩
          have H9 := Lib.hid (H8.out.step h9 hf9)
          have HR9 := Lib.hid (kept_bytes HR8.out hf9 HLL.out)
          clear h9 hf9 HR8 H8 HLL
          go_wp2_with (fail)
          have hcr := crash_calls H9.out.arr none 0 [] (Kd.C_nil _ _) (Nat.le_refl _)
          rw [crash_flush, clr_flush] at hcr
          refine hcr.mono ?_
          rintro _ W10 ⟨nb, mb, rfl, h10, hn10, hm10, hb10⟩
          have H10 := Lib.hid (H9.out.below hb10)
          have H10n := Lib.hid (show Ar w W10 nb mb (bs1.map Bk.settle) from ⟨h10, Nat.le_trans H9.out.bl.size hm10, Nat.le_trans H9.out.bl.size hn10, bthen H9.out.bl hb10⟩)
          have HR10 := Lib.hid (Kd.R_below HR9.out hb10)
          clear hcr h10 hn10 hm10 hb10 H9 HR9
          go_wp2_with (fail)
          have hrd2 := read_ok H10n.out.arr j (by rw [List.length_map]; exact HL1.out)
          rw [getD_map _ _ _ HL1.out, settle_now, HNOW.out] at hrd2
          refine hrd2.mono ?_
          rintro _ W11 ⟨v11, rfl, hr11, hb11⟩
          obtain ⟨A8, c8, rfl, hl8, hc8⟩ := Kd.R_reads HR10.out
          obtain ⟨A11, c11, rfl, hl11, hc11⟩ := Kd.R_reads hr11
          have H11 := Lib.hid (show Rk w W11 ab lb nb mb (bs1.map Bk.settle) A8 A11 (fillL f 0) from ⟨H10.out.below hb11, H10n.out.below hb11, Kd.C_below hc8 hb11, hc11⟩)
          clear hrd2 hr11 hb11 hl8 hl11 hc8 hc11 HR10 H10 H10n HNOW HL1
          obtain ⟨bs2, hbs2⟩ : ∃ bs2, bs2 = bs1.map Bk.settle := ⟨_, rfl⟩
          rw [← hbs2] at H11
          obtain ⟨fl, hflq⟩ : ∃ fl, fl = fillL f 0 := ⟨_, rfl⟩
          rw [← hflq] at H11 ⊢
          have HFQ := Lib.hid hflq
          clear hbs2 hflq
          go_wp2_with (fail)
          refine wp_region_held (S := fun w' => Rk w w' ab lb nb mb bs2 A8 A11 fl) (by kernel_rfl) ?_
          have SS : Rk w { W11 with drawn := W11.drawn + 1 } ab lb nb mb bs2 A8 A11 fl := H11.out.below ((Below.refl _ _).drew)
          clear H11
          refine take 0 157 (.int .i64 0) (by kernel_rfl) (by kernel_rfl) (by kernel_rfl) (by kernel_rfl) (by kernel_rfl) (fun _ _ _ h => h) (by kernel_rfl) (fun _ _ => by kernel_rfl) SS ?_
          refine take 1 158 (.bool true) (by kernel_rfl) (by kernel_rfl) (by kernel_rfl) (by kernel_rfl) (by kernel_rfl) (fun _ _ _ h => h) (by kernel_rfl) (fun _ _ => by kernel_rfl) SS ?_
          refine take 2 159 (.bool true) (by kernel_rfl) (by kernel_rfl) (by kernel_rfl) (by kernel_rfl) (by kernel_rfl) (fun _ _ _ h => h) (by kernel_rfl) (fun _ _ => by kernel_rfl) SS ?_
          refine take 3 160 (.int .i64 0) (by kernel_rfl) (by kernel_rfl) (by kernel_rfl) (by kernel_rfl) (by kernel_rfl) (fun _ _ _ h => h) (by kernel_rfl) (fun _ _ => by kernel_rfl) SS ?_
          refine take 4 161 (.bool true) (by kernel_rfl) (by kernel_rfl) (by kernel_rfl) (by kernel_rfl) (by kernel_rfl) (fun _ _ _ h => h) (by kernel_rfl) (fun _ _ => by kernel_rfl) SS ?_
          refine take 5 162 (.bool true) (by kernel_rfl) (by kernel_rfl) (by kernel_rfl) (by kernel_rfl) (by kernel_rfl) (fun _ _ _ h => h) (by kernel_rfl) (fun _ _ => by kernel_rfl) SS ?_
          refine take 6 163 (.bool true) (by kernel_rfl) (by kernel_rfl) (by kernel_rfl) (by kernel_rfl) (by kernel_rfl) (fun _ _ _ h => h) (by kernel_rfl) (fun _ _ => by kernel_rfl) SS ?_
          refine take 7 164 (.int .i64 0) (by kernel_rfl) (by kernel_rfl) (by kernel_rfl) (by kernel_rfl) (by kernel_rfl) (fun _ _ _ h => h) (by kernel_rfl) (fun _ _ => by kernel_rfl) SS ?_
          refine take 8 165 (.bool true) (by kernel_rfl) (by kernel_rfl) (by kernel_rfl) (by kernel_rfl) (by kernel_rfl) (fun _ _ _ h => h) (by kernel_rfl) (fun _ _ => by kernel_rfl) SS ?_
          refine take 9 166 (.bool true) (by kernel_rfl) (by kernel_rfl) (by kernel_rfl) (by kernel_rfl) (by kernel_rfl) (fun _ _ _ h => h) (by kernel_rfl) (fun _ _ => by kernel_rfl) SS ?_
          refine take 10 167 (.bool true) (by kernel_rfl) (by kernel_rfl) (by kernel_rfl) (by kernel_rfl) (by kernel_rfl) (fun _ _ _ h => h) (by kernel_rfl) (fun _ _ => by kernel_rfl) SS ?_
          refine take 11 168 (.int .i64 0) (by kernel_rfl) (by kernel_rfl) (by kernel_rfl) (by kernel_rfl) (by kernel_rfl) (fun _ _ _ h => h) (by kernel_rfl) (fun _ _ => by kernel_rfl) SS ?_
          refine take 12 169 (.bool true) (by kernel_rfl) (by kernel_rfl) (by kernel_rfl) (by kernel_rfl) (by kernel_rfl) (fun _ _ _ h => h) (by kernel_rfl) (fun _ _ => by kernel_rfl) SS ?_
          refine take 13 170 (.bool true) (by kernel_rfl) (by kernel_rfl) (by kernel_rfl) (by kernel_rfl) (by kernel_rfl) (fun _ _ _ h => h) (by kernel_rfl) (fun _ _ => by kernel_rfl) SS ?_
          refine take 14 171 (.bool true) (by kernel_rfl) (by kernel_rfl) (by kernel_rfl) (by kernel_rfl) (by kernel_rfl) (fun _ _ _ h => h) (by kernel_rfl) (fun _ _ => by kernel_rfl) SS ?_
          refine take 15 172 (.int .i64 0) (by kernel_rfl) (by kernel_rfl) (by kernel_rfl) (by kernel_rfl) (by kernel_rfl) (fun _ _ _ h => h) (by kernel_rfl) (fun _ _ => by kernel_rfl) SS ?_
          refine take 16 173 (.bool true) (by kernel_rfl) (by kernel_rfl) (by kernel_rfl) (by kernel_rfl) (by kernel_rfl) (fun _ _ _ h => h) (by kernel_rfl) (fun _ _ => by kernel_rfl) SS ?_
          refine take 17 174 (.bool true) (by kernel_rfl) (by kernel_rfl) (by kernel_rfl) (by kernel_rfl) (by kernel_rfl) (fun _ _ _ h => h) (by kernel_rfl) (fun _ _ => by kernel_rfl) SS ?_
          refine take 18 175 (.bool true) (by kernel_rfl) (by kernel_rfl) (by kernel_rfl) (by kernel_rfl) (by kernel_rfl) (fun _ _ _ h => h) (by kernel_rfl) (fun _ _ => by kernel_rfl) SS ?_
          refine take 19 176 (.slice A8 fl.length c8) (by kernel_rfl) (by kernel_rfl) (by kernel_rfl) (by kernel_rfl) (by kernel_rfl) (fun _ _ _ h => h) (by kernel_rfl) (fun _ _ => by kernel_rfl) SS ?_
          refine take 20 177 (.string (strOfNums fl)) (by kernel_rfl) (by kernel_rfl) (by kernel_rfl) (by kernel_rfl) (by kernel_rfl) (fun _ _ _ h => h) (by kernel_rfl) (fun w' hS => exec_convert 33 9 (.tmp 176) (.slice A8 fl.length c8) (by kernel_rfl) (by kernel_rfl) (conv_bytes hS.ca)) SS ?_
          refine take 21 178 (.int .u8 f) (by kernel_rfl) (by kernel_rfl) (by kernel_rfl) (by kernel_rfl) (by kernel_rfl) (fun _ _ _ h => h) (by kernel_rfl) (fun _ _ => by kernel_rfl) SS ?_
          try simp only [Act.put, List.setIfInBounds_toArray, List.set_cons_zero, List.set_cons_succ]
          refine any_call 22 179 10 #[.int .u8 f, .int .i64 0] (by kernel_rfl) (by kernel_rfl) (by kernel_rfl) (by kernel_rfl) (by kernel_rfl) ?_
          refine (fill_calls f 0 _).mono ?_
          rintro _ W12 ⟨v12, rfl, hr12, hb12⟩
          replace SS := SS.below hb12
          rw [← HFQ.out] at hr12
          obtain ⟨A12, c12, rfl, hl12, hc12⟩ := Kd.R_reads hr12
          have e12 := conv_bytes (c := c12) hc12
          clear hr12 hb12 hc12 hl12
          refine ⟨_, rfl, SS, ?_⟩
          try simp only [Act.put, List.setIfInBounds_toArray, List.set_cons_zero, List.set_cons_succ]
          try simp only [Act.put, List.setIfInBounds_toArray, List.set_cons_zero, List.set_cons_succ]
          refine any_step 23 180 (.string (strOfNums fl)) (by kernel_rfl) (by kernel_rfl) (by kernel_rfl) (by kernel_rfl) (exec_convert 33 9 (.tmp 179) (.slice A12 fl.length c12) (by kernel_rfl) (by kernel_rfl) e12) (SS) ?_
          try simp only [Act.put, List.setIfInBounds_toArray, List.set_cons_zero, List.set_cons_succ]
          refine take 24 181 (.bool true) (by kernel_rfl) (by kernel_rfl) (by kernel_rfl) (by kernel_rfl) (by kernel_rfl) (fun _ _ _ h => h) (by kernel_rfl) (fun w' hS => exec_streq 9 9 (.tmp 177) (.tmp 180) (strOfNums fl) (strOfNums fl) (by kernel_rfl) (by kernel_rfl) (by kernel_rfl) true (by simp)) SS ?_
          refine take 25 182 (.bool true) (by kernel_rfl) (by kernel_rfl) (by kernel_rfl) (by kernel_rfl) (by kernel_rfl) (fun _ _ _ h => h) (by kernel_rfl) (fun _ _ => by kernel_rfl) SS ?_
          refine take 26 183 (.bool true) (by kernel_rfl) (by kernel_rfl) (by kernel_rfl) (by kernel_rfl) (by kernel_rfl) (fun _ _ _ h => h) (by kernel_rfl) (fun _ _ => by kernel_rfl) SS ?_
          refine take 27 184 (.slice A11 fl.length c11) (by kernel_rfl) (by kernel_rfl) (by kernel_rfl) (by kernel_rfl) (by kernel_rfl) (fun _ _ _ h => h) (by kernel_rfl) (fun _ _ => by kernel_rfl) SS ?_
          refine take 28 185 (.string (strOfNums fl)) (by kernel_rfl) (by kernel_rfl) (by kernel_rfl) (by kernel_rfl) (by kernel_rfl) (fun _ _ _ h => h) (by kernel_rfl) (fun w' hS => exec_convert 33 9 (.tmp 184) (.slice A11 fl.length c11) (by kernel_rfl) (by kernel_rfl) (conv_bytes hS.cb)) SS ?_
          refine take 29 186 (.slice A8 fl.length c8) (by kernel_rfl) (by kernel_rfl) (by kernel_rfl) (by kernel_rfl) (by kernel_rfl) (fun _ _ _ h => h) (by kernel_rfl) (fun _ _ => by kernel_rfl) SS ?_
          refine take 30 187 (.string (strOfNums fl)) (by kernel_rfl) (by kernel_rfl) (by kernel_rfl) (by kernel_rfl) (by kernel_rfl) (fun _ _ _ h => h) (by kernel_rfl) (fun w' hS => exec_convert 33 9 (.tmp 186) (.slice A8 fl.length c8) (by kernel_rfl) (by kernel_rfl) (conv_bytes hS.ca)) SS ?_
          refine take 31 188 (.bool true) (by kernel_rfl) (by kernel_rfl) (by kernel_rfl) (by kernel_rfl) (by kernel_rfl) (fun _ _ _ h => h) (by kernel_rfl) (fun w' hS => exec_streq 9 9 (.tmp 185) (.tmp 187) (strOfNums fl) (strOfNums fl) (by kernel_rfl) (by kernel_rfl) (by kernel_rfl) true (by simp)) SS ?_
          refine take 32 189 (.bool true) (by kernel_rfl) (by kernel_rfl) (by kernel_rfl) (by kernel_rfl) (by kernel_rfl) (fun _ _ _ h => h) (by kernel_rfl) (fun _ _ => by kernel_rfl) SS ?_
          refine take 33 190 (.bool true) (by kernel_rfl) (by kernel_rfl) (by kernel_rfl) (by kernel_rfl) (by kernel_rfl) (fun _ _ _ h => h) (by kernel_rfl) (fun _ _ => by kernel_rfl) SS ?_
          refine take 34 191 (.pointer (some ⟨ab, 0, none⟩)) (by kernel_rfl) (by kernel_rfl) (by kernel_rfl) (by kernel_rfl) (by kernel_rfl) (fun _ _ _ h => h) (by kernel_rfl) (fun _ _ => by kernel_rfl) SS ?_
          refine take 35 192 (.pointer (some ⟨nb, 0, none⟩)) (by kernel_rfl) (by kernel_rfl) (by kernel_rfl) (by kernel_rfl) (by kernel_rfl) (fun _ _ _ h => h) (by kernel_rfl) (fun _ _ => by kernel_rfl) SS ?_
          try simp only [Act.put, List.setIfInBounds_toArray, List.set_cons_zero, List.set_cons_succ]
          refine any_call 36 193 12 #[.pointer (some ⟨ab, 0, none⟩), .pointer (some ⟨nb, 0, none⟩)] (by kernel_rfl) (by kernel_rfl) (by kernel_rfl) (by kernel_rfl) (by kernel_rfl) ?_
          have hsm := same_calls SS.ar.arr SS.br.arr
          rw [eqL_refl] at hsm
          refine hsm.mono ?_
          rintro _ W13 ⟨rfl, hb13⟩
          replace SS := SS.below hb13
          clear hsm hb13
          refine ⟨_, rfl, SS, ?_⟩
          try simp only [Act.put, List.setIfInBounds_toArray, List.set_cons_zero, List.set_cons_succ]
          refine take 37 194 (.bool true) (by kernel_rfl) (by kernel_rfl) (by kernel_rfl) (by kernel_rfl) (by kernel_rfl) (fun _ _ _ h => h) (by kernel_rfl) (fun _ _ => by kernel_rfl) SS ?_
          refine take 38 195 (.bool true) (by kernel_rfl) (by kernel_rfl) (by kernel_rfl) (by kernel_rfl) (by kernel_rfl) (fun _ _ _ h => h) (by kernel_rfl) (fun _ _ => by kernel_rfl) SS ?_
          try simp only [Act.put, List.setIfInBounds_toArray, List.set_cons_zero, List.set_cons_succ]
          refine any_call 39 196 14 #[] (by kernel_rfl) (by kernel_rfl) (by kernel_rfl) (by kernel_rfl) (by kernel_rfl) ?_
          refine (awake_calls _).mono ?_
          rintro _ W14 ⟨rfl, hb14⟩
          replace SS := SS.below hb14
          clear hb14
          refine ⟨_, rfl, SS, ?_⟩
          try simp only [Act.put, List.setIfInBounds_toArray, List.set_cons_zero, List.set_cons_succ]
          refine take 40 197 (.bool true) (by kernel_rfl) (by kernel_rfl) (by kernel_rfl) (by kernel_rfl) (by kernel_rfl) (fun _ _ _ h => h) (by kernel_rfl) (fun _ _ => by kernel_rfl) SS ?_
          refine take 41 8 (.bool true) (by kernel_rfl) (by kernel_rfl) (by kernel_rfl) (by kernel_rfl) (by kernel_rfl) (fun _ _ _ h => h) (by kernel_rfl) (fun _ _ => by kernel_rfl) SS ?_
          try simp only [Act.put, List.setIfInBounds_toArray, List.set_cons_zero, List.set_cons_succ]
          refine wpAnyH_done (by kernel_rfl) ?_ _
          have HX := Lib.hid SS.ar.bl
          clear SS
          go_wp2_with (fail)
          go_ret
          exact ⟨rfl, HX.out⟩
        · clear hlt
          go_wp2_with (fail)
          refine (fill_calls f 0 _).mono ?_
          rintro _ W6 ⟨v6, rfl, hr6, hb6⟩
          have HL6 := Lib.hid HAR.out.arr.lb_lt
          have n0 := Lib.hid (HAR.out.below hb6)
          have HR6 := Lib.hid hr6
          clear HAR hr6 hb6
          have HAR := n0
          clear n0
          go_wp2_with (fail)
          refine (aw_write HAR.out j (by rw [HLEN.out]; exact hj) (fillL f 0) hfs HR6.out HL6.out).mono ?_
          rintro _ W7 ⟨rfl, h7⟩
          obtain ⟨bs1, hbs1⟩ : ∃ bs1, bs1 = putL bs j (fillL f 0) 1 := ⟨_, rfl⟩
          have hl1 : j < bs1.length := by rw [hbs1, putL_len, HLEN.out]; exact hj
          have hnow : (bs1.getD j zb).now = fillL f 0 := by rw [hbs1]; exact put_now bs j _ (by rw [HLEN.out]; exact hj)
          rw [← hbs1] at h7
          have H7 := Lib.hid h7
          have HL1 := Lib.hid hl1
          have HNOW := Lib.hid hnow
          have HFS := Lib.hid hfs
          clear HAR HR6 HL6 h7 hbs1 hl1 hnow hfs HLEN
          go_wp2_with (fail)
          have hrd := read_ok H7.out.arr j HL1.out
          rw [HNOW.out] at hrd
          refine hrd.mono ?_
          rintro _ W8 ⟨v8, rfl, hr8, hb8⟩
          have H8 := Lib.hid (H7.out.below hb8)
          have HLL := Lib.hid H7.out.arr.lb_lt
          have HR8 := Lib.hid hr8
          clear hr8 hb8 hrd H7
          go_wp2_with (fail)
          refine (flush_calls H8.out.arr).mono ?_
          rintro _ W9 ⟨rfl, h9, hf9⟩
          have H9 := Lib.hid (H8.out.step h9 hf9)
          have HR9 := Lib.hid (kept_bytes HR8.out hf9 HLL.out)
          clear h9 hf9 HR8 H8 HLL
          go_wp2_with (fail)
          have hcr := crash_calls H9.out.arr none 0 [] (Kd.C_nil _ _) (Nat.le_refl _)
          rw [crash_flush, clr_flush] at hcr
          refine hcr.mono ?_
          rintro _ W10 ⟨nb, mb, rfl, h10, hn10, hm10, hb10⟩
          have H10 := Lib.hid (H9.out.below hb10)
          have H10n := Lib.hid (show Ar w W10 nb mb (bs1.map Bk.settle) from ⟨h10, Nat.le_trans H9.out.bl.size hm10, Nat.le_trans H9.out.bl.size hn10, bthen H9.out.bl hb10⟩)
          have HR10 := Lib.hid (Kd.R_below HR9.out hb10)
          clear hcr h10 hn10 hm10 hb10 H9 HR9
          go_wp2_with (fail)
          have hrd2 := read_ok H10n.out.arr j (by rw [List.length_map]; exact HL1.out)
          rw [getD_map _ _ _ HL1.out, settle_now, HNOW.out] at hrd2
          refine hrd2.mono ?_
          rintro _ W11 ⟨v11, rfl, hr11, hb11⟩
          obtain ⟨A8, c8, rfl, hl8, hc8⟩ := Kd.R_reads HR10.out
          obtain ⟨A11, c11, rfl, hl11, hc11⟩ := Kd.R_reads hr11
          have H11 := Lib.hid (show Rk w W11 ab lb nb mb (bs1.map Bk.settle) A8 A11 (fillL f 0) from ⟨H10.out.below hb11, H10n.out.below hb11, Kd.C_below hc8 hb11, hc11⟩)
          clear hrd2 hr11 hb11 hl8 hl11 hc8 hc11 HR10 H10 H10n HNOW HL1
          obtain ⟨bs2, hbs2⟩ : ∃ bs2, bs2 = bs1.map Bk.settle := ⟨_, rfl⟩
          rw [← hbs2] at H11
          obtain ⟨fl, hflq⟩ : ∃ fl, fl = fillL f 0 := ⟨_, rfl⟩
          rw [← hflq] at H11 ⊢
          have HFQ := Lib.hid hflq
          clear hbs2 hflq
          go_wp2_with (fail)
          refine wp_region_held (S := fun w' => Rk w w' ab lb nb mb bs2 A8 A11 fl) (by kernel_rfl) ?_
          have SS : Rk w { W11 with drawn := W11.drawn + 1 } ab lb nb mb bs2 A8 A11 fl := H11.out.below ((Below.refl _ _).drew)
          clear H11
          refine take 0 157 (.int .i64 0) (by kernel_rfl) (by kernel_rfl) (by kernel_rfl) (by kernel_rfl) (by kernel_rfl) (fun _ _ _ h => h) (by kernel_rfl) (fun _ _ => by kernel_rfl) SS ?_
          refine take 1 158 (.bool true) (by kernel_rfl) (by kernel_rfl) (by kernel_rfl) (by kernel_rfl) (by kernel_rfl) (fun _ _ _ h => h) (by kernel_rfl) (fun _ _ => by kernel_rfl) SS ?_
          refine take 2 159 (.bool true) (by kernel_rfl) (by kernel_rfl) (by kernel_rfl) (by kernel_rfl) (by kernel_rfl) (fun _ _ _ h => h) (by kernel_rfl) (fun _ _ => by kernel_rfl) SS ?_
          refine take 3 160 (.int .i64 0) (by kernel_rfl) (by kernel_rfl) (by kernel_rfl) (by kernel_rfl) (by kernel_rfl) (fun _ _ _ h => h) (by kernel_rfl) (fun _ _ => by kernel_rfl) SS ?_
          refine take 4 161 (.bool true) (by kernel_rfl) (by kernel_rfl) (by kernel_rfl) (by kernel_rfl) (by kernel_rfl) (fun _ _ _ h => h) (by kernel_rfl) (fun _ _ => by kernel_rfl) SS ?_
          refine take 5 162 (.bool true) (by kernel_rfl) (by kernel_rfl) (by kernel_rfl) (by kernel_rfl) (by kernel_rfl) (fun _ _ _ h => h) (by kernel_rfl) (fun _ _ => by kernel_rfl) SS ?_
          refine take 6 163 (.bool true) (by kernel_rfl) (by kernel_rfl) (by kernel_rfl) (by kernel_rfl) (by kernel_rfl) (fun _ _ _ h => h) (by kernel_rfl) (fun _ _ => by kernel_rfl) SS ?_
          refine take 7 164 (.int .i64 0) (by kernel_rfl) (by kernel_rfl) (by kernel_rfl) (by kernel_rfl) (by kernel_rfl) (fun _ _ _ h => h) (by kernel_rfl) (fun _ _ => by kernel_rfl) SS ?_
          refine take 8 165 (.bool true) (by kernel_rfl) (by kernel_rfl) (by kernel_rfl) (by kernel_rfl) (by kernel_rfl) (fun _ _ _ h => h) (by kernel_rfl) (fun _ _ => by kernel_rfl) SS ?_
          refine take 9 166 (.bool true) (by kernel_rfl) (by kernel_rfl) (by kernel_rfl) (by kernel_rfl) (by kernel_rfl) (fun _ _ _ h => h) (by kernel_rfl) (fun _ _ => by kernel_rfl) SS ?_
          refine take 10 167 (.bool true) (by kernel_rfl) (by kernel_rfl) (by kernel_rfl) (by kernel_rfl) (by kernel_rfl) (fun _ _ _ h => h) (by kernel_rfl) (fun _ _ => by kernel_rfl) SS ?_
          refine take 11 168 (.int .i64 0) (by kernel_rfl) (by kernel_rfl) (by kernel_rfl) (by kernel_rfl) (by kernel_rfl) (fun _ _ _ h => h) (by kernel_rfl) (fun _ _ => by kernel_rfl) SS ?_
          refine take 12 169 (.bool true) (by kernel_rfl) (by kernel_rfl) (by kernel_rfl) (by kernel_rfl) (by kernel_rfl) (fun _ _ _ h => h) (by kernel_rfl) (fun _ _ => by kernel_rfl) SS ?_
          refine take 13 170 (.bool true) (by kernel_rfl) (by kernel_rfl) (by kernel_rfl) (by kernel_rfl) (by kernel_rfl) (fun _ _ _ h => h) (by kernel_rfl) (fun _ _ => by kernel_rfl) SS ?_
          refine take 14 171 (.bool true) (by kernel_rfl) (by kernel_rfl) (by kernel_rfl) (by kernel_rfl) (by kernel_rfl) (fun _ _ _ h => h) (by kernel_rfl) (fun _ _ => by kernel_rfl) SS ?_
          refine take 15 172 (.int .i64 0) (by kernel_rfl) (by kernel_rfl) (by kernel_rfl) (by kernel_rfl) (by kernel_rfl) (fun _ _ _ h => h) (by kernel_rfl) (fun _ _ => by kernel_rfl) SS ?_
          refine take 16 173 (.bool true) (by kernel_rfl) (by kernel_rfl) (by kernel_rfl) (by kernel_rfl) (by kernel_rfl) (fun _ _ _ h => h) (by kernel_rfl) (fun _ _ => by kernel_rfl) SS ?_
          refine take 17 174 (.bool true) (by kernel_rfl) (by kernel_rfl) (by kernel_rfl) (by kernel_rfl) (by kernel_rfl) (fun _ _ _ h => h) (by kernel_rfl) (fun _ _ => by kernel_rfl) SS ?_
          refine take 18 175 (.bool true) (by kernel_rfl) (by kernel_rfl) (by kernel_rfl) (by kernel_rfl) (by kernel_rfl) (fun _ _ _ h => h) (by kernel_rfl) (fun _ _ => by kernel_rfl) SS ?_
          refine take 19 176 (.slice A8 fl.length c8) (by kernel_rfl) (by kernel_rfl) (by kernel_rfl) (by kernel_rfl) (by kernel_rfl) (fun _ _ _ h => h) (by kernel_rfl) (fun _ _ => by kernel_rfl) SS ?_
          refine take 20 177 (.string (strOfNums fl)) (by kernel_rfl) (by kernel_rfl) (by kernel_rfl) (by kernel_rfl) (by kernel_rfl) (fun _ _ _ h => h) (by kernel_rfl) (fun w' hS => exec_convert 33 9 (.tmp 176) (.slice A8 fl.length c8) (by kernel_rfl) (by kernel_rfl) (conv_bytes hS.ca)) SS ?_
          refine take 21 178 (.int .u8 f) (by kernel_rfl) (by kernel_rfl) (by kernel_rfl) (by kernel_rfl) (by kernel_rfl) (fun _ _ _ h => h) (by kernel_rfl) (fun _ _ => by kernel_rfl) SS ?_
          try simp only [Act.put, List.setIfInBounds_toArray, List.set_cons_zero, List.set_cons_succ]
          refine any_call 22 179 10 #[.int .u8 f, .int .i64 0] (by kernel_rfl) (by kernel_rfl) (by kernel_rfl) (by kernel_rfl) (by kernel_rfl) ?_
          refine (fill_calls f 0 _).mono ?_
          rintro _ W12 ⟨v12, rfl, hr12, hb12⟩
          replace SS := SS.below hb12
          rw [← HFQ.out] at hr12
          obtain ⟨A12, c12, rfl, hl12, hc12⟩ := Kd.R_reads hr12
          have e12 := conv_bytes (c := c12) hc12
          clear hr12 hb12 hc12 hl12
          refine ⟨_, rfl, SS, ?_⟩
          try simp only [Act.put, List.setIfInBounds_toArray, List.set_cons_zero, List.set_cons_succ]
          try simp only [Act.put, List.setIfInBounds_toArray, List.set_cons_zero, List.set_cons_succ]
          refine any_step 23 180 (.string (strOfNums fl)) (by kernel_rfl) (by kernel_rfl) (by kernel_rfl) (by kernel_rfl) (exec_convert 33 9 (.tmp 179) (.slice A12 fl.length c12) (by kernel_rfl) (by kernel_rfl) e12) (SS) ?_
          try simp only [Act.put, List.setIfInBounds_toArray, List.set_cons_zero, List.set_cons_succ]
          refine take 24 181 (.bool true) (by kernel_rfl) (by kernel_rfl) (by kernel_rfl) (by kernel_rfl) (by kernel_rfl) (fun _ _ _ h => h) (by kernel_rfl) (fun w' hS => exec_streq 9 9 (.tmp 177) (.tmp 180) (strOfNums fl) (strOfNums fl) (by kernel_rfl) (by kernel_rfl) (by kernel_rfl) true (by simp)) SS ?_
          refine take 25 182 (.bool true) (by kernel_rfl) (by kernel_rfl) (by kernel_rfl) (by kernel_rfl) (by kernel_rfl) (fun _ _ _ h => h) (by kernel_rfl) (fun _ _ => by kernel_rfl) SS ?_
          refine take 26 183 (.bool true) (by kernel_rfl) (by kernel_rfl) (by kernel_rfl) (by kernel_rfl) (by kernel_rfl) (fun _ _ _ h => h) (by kernel_rfl) (fun _ _ => by kernel_rfl) SS ?_
          refine take 27 184 (.slice A11 fl.length c11) (by kernel_rfl) (by kernel_rfl) (by kernel_rfl) (by kernel_rfl) (by kernel_rfl) (fun _ _ _ h => h) (by kernel_rfl) (fun _ _ => by kernel_rfl) SS ?_
          refine take 28 185 (.string (strOfNums fl)) (by kernel_rfl) (by kernel_rfl) (by kernel_rfl) (by kernel_rfl) (by kernel_rfl) (fun _ _ _ h => h) (by kernel_rfl) (fun w' hS => exec_convert 33 9 (.tmp 184) (.slice A11 fl.length c11) (by kernel_rfl) (by kernel_rfl) (conv_bytes hS.cb)) SS ?_
          refine take 29 186 (.slice A8 fl.length c8) (by kernel_rfl) (by kernel_rfl) (by kernel_rfl) (by kernel_rfl) (by kernel_rfl) (fun _ _ _ h => h) (by kernel_rfl) (fun _ _ => by kernel_rfl) SS ?_
          refine take 30 187 (.string (strOfNums fl)) (by kernel_rfl) (by kernel_rfl) (by kernel_rfl) (by kernel_rfl) (by kernel_rfl) (fun _ _ _ h => h) (by kernel_rfl) (fun w' hS => exec_convert 33 9 (.tmp 186) (.slice A8 fl.length c8) (by kernel_rfl) (by kernel_rfl) (conv_bytes hS.ca)) SS ?_
          refine take 31 188 (.bool true) (by kernel_rfl) (by kernel_rfl) (by kernel_rfl) (by kernel_rfl) (by kernel_rfl) (fun _ _ _ h => h) (by kernel_rfl) (fun w' hS => exec_streq 9 9 (.tmp 185) (.tmp 187) (strOfNums fl) (strOfNums fl) (by kernel_rfl) (by kernel_rfl) (by kernel_rfl) true (by simp)) SS ?_
          refine take 32 189 (.bool true) (by kernel_rfl) (by kernel_rfl) (by kernel_rfl) (by kernel_rfl) (by kernel_rfl) (fun _ _ _ h => h) (by kernel_rfl) (fun _ _ => by kernel_rfl) SS ?_
          refine take 33 190 (.bool true) (by kernel_rfl) (by kernel_rfl) (by kernel_rfl) (by kernel_rfl) (by kernel_rfl) (fun _ _ _ h => h) (by kernel_rfl) (fun _ _ => by kernel_rfl) SS ?_
          refine take 34 191 (.pointer (some ⟨ab, 0, none⟩)) (by kernel_rfl) (by kernel_rfl) (by kernel_rfl) (by kernel_rfl) (by kernel_rfl) (fun _ _ _ h => h) (by kernel_rfl) (fun _ _ => by kernel_rfl) SS ?_
          refine take 35 192 (.pointer (some ⟨nb, 0, none⟩)) (by kernel_rfl) (by kernel_rfl) (by kernel_rfl) (by kernel_rfl) (by kernel_rfl) (fun _ _ _ h => h) (by kernel_rfl) (fun _ _ => by kernel_rfl) SS ?_
          try simp only [Act.put, List.setIfInBounds_toArray, List.set_cons_zero, List.set_cons_succ]
          refine any_call 36 193 12 #[.pointer (some ⟨ab, 0, none⟩), .pointer (some ⟨nb, 0, none⟩)] (by kernel_rfl) (by kernel_rfl) (by kernel_rfl) (by kernel_rfl) (by kernel_rfl) ?_
          have hsm := same_calls SS.ar.arr SS.br.arr
          rw [eqL_refl] at hsm
          refine hsm.mono ?_
          rintro _ W13 ⟨rfl, hb13⟩
          replace SS := SS.below hb13
          clear hsm hb13
          refine ⟨_, rfl, SS, ?_⟩
          try simp only [Act.put, List.setIfInBounds_toArray, List.set_cons_zero, List.set_cons_succ]
          refine take 37 194 (.bool true) (by kernel_rfl) (by kernel_rfl) (by kernel_rfl) (by kernel_rfl) (by kernel_rfl) (fun _ _ _ h => h) (by kernel_rfl) (fun _ _ => by kernel_rfl) SS ?_
          refine take 38 195 (.bool true) (by kernel_rfl) (by kernel_rfl) (by kernel_rfl) (by kernel_rfl) (by kernel_rfl) (fun _ _ _ h => h) (by kernel_rfl) (fun _ _ => by kernel_rfl) SS ?_
          try simp only [Act.put, List.setIfInBounds_toArray, List.set_cons_zero, List.set_cons_succ]
          refine any_call 39 196 14 #[] (by kernel_rfl) (by kernel_rfl) (by kernel_rfl) (by kernel_rfl) (by kernel_rfl) ?_
          refine (awake_calls _).mono ?_
          rintro _ W14 ⟨rfl, hb14⟩
          replace SS := SS.below hb14
          clear hb14
          refine ⟨_, rfl, SS, ?_⟩
          try simp only [Act.put, List.setIfInBounds_toArray, List.set_cons_zero, List.set_cons_succ]
          refine take 40 197 (.bool true) (by kernel_rfl) (by kernel_rfl) (by kernel_rfl) (by kernel_rfl) (by kernel_rfl) (fun _ _ _ h => h) (by kernel_rfl) (fun _ _ => by kernel_rfl) SS ?_
          refine take 41 8 (.bool true) (by kernel_rfl) (by kernel_rfl) (by kernel_rfl) (by kernel_rfl) (by kernel_rfl) (fun _ _ _ h => h) (by kernel_rfl) (fun _ _ => by kernel_rfl) SS ?_
          try simp only [Act.put, List.setIfInBounds_toArray, List.set_cons_zero, List.set_cons_succ]
          refine wpAnyH_done (by kernel_rfl) ?_ _
          have HX := Lib.hid SS.ar.bl
          clear SS
          go_wp2_with (fail)
          go_ret
          exact ⟨rfl, HX.out⟩
      · have HOUT := Lib.hid hin
        by_cases hk0 : k < acts.length
        · have hk2 : ¬ (k < 30) := fun h => hlt ⟨hk0, h⟩
          clear hlt
          by_cases hl0 : lba < 0
          · clear hin
            go_wp2_with (first
              | (go_at_call 10; refine (fill_calls f 0 _).mono ?_; rintro _ W6 ⟨v6, rfl, hr6, hb6⟩; have n0 := Lib.hid (HAR.out.below hb6); clear HAR hr6 hb6; have HAR := n0; clear n0)
              | (go_at_call 9; refine (write_out HAR.out.arr lba v6 (by rw [HLEN.out]; exact HOUT.out)).mono ?_; rintro _ W7 ⟨rfl, hw7⟩; replace hw7 := hw7.symm; subst hw7)
              | (go_at_call 14; refine (awake_calls _).mono ?_; rintro _ W8 ⟨rfl, hb8⟩; have H8 := Lib.hid (bthen HAR.out.bl hb8); clear hb8))
            go_ret
            exact ⟨rfl, H8.out⟩
          · have hl1 : (n : Int) ≤ lba := by omega
            clear hin
            go_wp2_with (first
              | (go_at_call 10; refine (fill_calls f 0 _).mono ?_; rintro _ W6 ⟨v6, rfl, hr6, hb6⟩; have n0 := Lib.hid (HAR.out.below hb6); clear HAR hr6 hb6; have HAR := n0; clear n0)
              | (go_at_call 9; refine (write_out HAR.out.arr lba v6 (by rw [HLEN.out]; exact HOUT.out)).mono ?_; rintro _ W7 ⟨rfl, hw7⟩; replace hw7 := hw7.symm; subst hw7)
              | (go_at_call 14; refine (awake_calls _).mono ?_; rintro _ W8 ⟨rfl, hb8⟩; have H8 := Lib.hid (bthen HAR.out.bl hb8); clear hb8))
            go_ret
            exact ⟨rfl, H8.out⟩
        · clear hlt
          by_cases hl0 : lba < 0
          · clear hin
            go_wp2_with (first
              | (go_at_call 10; refine (fill_calls f 0 _).mono ?_; rintro _ W6 ⟨v6, rfl, hr6, hb6⟩; have n0 := Lib.hid (HAR.out.below hb6); clear HAR hr6 hb6; have HAR := n0; clear n0)
              | (go_at_call 9; refine (write_out HAR.out.arr lba v6 (by rw [HLEN.out]; exact HOUT.out)).mono ?_; rintro _ W7 ⟨rfl, hw7⟩; replace hw7 := hw7.symm; subst hw7)
              | (go_at_call 14; refine (awake_calls _).mono ?_; rintro _ W8 ⟨rfl, hb8⟩; have H8 := Lib.hid (bthen HAR.out.bl hb8); clear hb8))
            go_ret
            exact ⟨rfl, H8.out⟩
          · have hl1 : (n : Int) ≤ lba := by omega
            clear hin
            go_wp2_with (first
              | (go_at_call 10; refine (fill_calls f 0 _).mono ?_; rintro _ W6 ⟨v6, rfl, hr6, hb6⟩; have n0 := Lib.hid (HAR.out.below hb6); clear HAR hr6 hb6; have HAR := n0; clear n0)
              | (go_at_call 9; refine (write_out HAR.out.arr lba v6 (by rw [HLEN.out]; exact HOUT.out)).mono ?_; rintro _ W7 ⟨rfl, hw7⟩; replace hw7 := hw7.symm; subst hw7)
              | (go_at_call 14; refine (awake_calls _).mono ?_; rintro _ W8 ⟨rfl, hb8⟩; have H8 := Lib.hid (bthen HAR.out.bl hb8); clear hb8))
            go_ret
            exact ⟨rfl, H8.out⟩
end Go.Proofs.Ytbojokjommmebaa.MoKeeps
