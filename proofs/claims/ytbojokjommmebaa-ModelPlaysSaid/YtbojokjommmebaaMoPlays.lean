/- ModelPlays. -/
import Derived.Test.YtbojokjommmebaaMoPlayMem
namespace Go.Proofs.Ytbojokjommmebaa.MoPlays
set_option linter.unusedSimpArgs false
set_option linter.unusedVariables false
open Go.RowKit Go.Proofs.YtbojokjommmebaaW.PrintWords Go.Proofs.YtbojokjommmebaaW.PrintLast Go.Proofs.YtbojokjommmebaaW.PrintMore Go.Proofs.Ytbojokjommmebaa.PModelPlays Go.Proofs.Ytbojokjommmebaa.MoMem Go.Proofs.Ytbojokjommmebaa.MoGo Go.Proofs.Ytbojokjommmebaa.MoNow Go.Proofs.Ytbojokjommmebaa.MoRead Go.Proofs.Ytbojokjommmebaa.MoPut Go.Proofs.Ytbojokjommmebaa.MoWrite Go.Proofs.Ytbojokjommmebaa.MoLoose Go.Proofs.Ytbojokjommmebaa.MoNew Go.Proofs.Ytbojokjommmebaa.MoCrash Go.Proofs.Ytbojokjommmebaa.MoFill Go.Proofs.Ytbojokjommmebaa.MoReg Go.Proofs.Ytbojokjommmebaa.MoAwake Go.Proofs.Ytbojokjommmebaa.MoActs Go.Proofs.Ytbojokjommmebaa.MoPure Go.Proofs.Ytbojokjommmebaa.MoKeeps Go.Proofs.Ytbojokjommmebaa.MoRefMem Go.Proofs.Ytbojokjommmebaa.MoRefPut Go.Proofs.Ytbojokjommmebaa.MoRefWrite Go.Proofs.Ytbojokjommmebaa.MoRefTrim Go.Proofs.Ytbojokjommmebaa.MoRefRows Go.Proofs.Ytbojokjommmebaa.MoRefNew Go.Proofs.Ytbojokjommmebaa.MoRefSame Go.Proofs.Ytbojokjommmebaa.MoJoin Go.Proofs.Ytbojokjommmebaa.MoRefCrash Go.Proofs.Ytbojokjommmebaa.MoPlayMem Go.Proofs.Ytbojokjommmebaa.MoPlayReg
set_option maxRecDepth 100000 in
set_option maxHeartbeats 32000000 in
theorem plays_calls (w : World) (m : Nat) (hm : m < 256) (A : Option Addr) (c : Nat) (acts : List S32) (ha : Kd.C k32 w A acts.length acts) (hc : acts.length ≤ c) (hfl : ∀ i, i < acts.length → byte (rdA acts i).fl) :
    Calls Try.prog 4 #[.int .u8 (m : Int), .slice A acts.length c] w (AwPost w) := by
  obtain ⟨n, hn⟩ : ∃ n, n = m % 20 := ⟨_, rfl⟩
  have hn2 : n ≤ 20 := by omega
  have HN := Lib.hid (new_calls n (by omega) w)
  have HA := Lib.hid ha
  have HFL := Lib.hid hfl
  have hmx := Kd.C_max ha
  have hne : (m : Int) % 20 = (n : Int) := by omega
  have HE := Lib.hid hne
  clear ha hfl hn hne
  go_enter Try.func4, Try.ntmps4
  go_wp2_with (fail)
  rw [HE.out]
  refine HN.out.mono ?_
  rintro _ W1 ⟨ab, lb, rfl, ha, h2, h3, hb⟩
  have H1 := Lib.hid (show Ar w W1 ab lb (List.replicate n zb) from ⟨ha, h3, h2, hb⟩)
  clear ha h2 h3 hb HN HE
  have HNR := Lib.hid (new_ref (W := W1) (n := n) (by omega) (Z2 ab lb) (by rintro k (rfl | rfl); exact H1.out.arr.ab_lt; exact H1.out.arr.lb_lt))
  go_wp2_with (fail)
  refine HNR.out.mono ?_
  rintro _ W2 ⟨⟨rb, rfl, ⟨t0, t1, t2, hr⟩⟩, hb⟩
  have HP0 := Lib.hid (show P1 w W2 ab lb rb (List.replicate n zb) (List.replicate n zb) t0 t1 t2 from ⟨H1.out.below hb, RefAt.lower hr H1.out.bl.size⟩)
  clear hr hb HNR H1
  go_wp2_with (fail)
  go_loopw [6, 8, 9] (fun v6 v8 v9 wr => ∃ (k ab lb rb : Nat) (x : List Bk), v6 = .pointer (some ⟨ab, 0, none⟩) ∧ v8 = .pointer (some ⟨rb, 0, none⟩) ∧ v9 = .int .i64 (k : Int) ∧ k ≤ acts.length ∧ Hid (x.length = n) ∧ ∃ v0 v1 v2, P1 w wr ab lb rb x x v0 v1 v2) (fun _ _ v9 _ => ((acts.length : Int) - intOf v9).toNat)
  case atStart => exact ⟨0, ab, lb, rb, _, rfl, rfl, rfl, by omega, Lib.hid (by simp), _, _, _, HP0.out⟩
  case round =>
    clear HP0
    obtain ⟨k, ab, lb, rb, x, rfl, rfl, rfl, hk, HLEN, v0, v1, v2, hp⟩ := hrel
    have HP0 := Lib.hid hp
    clear hp
    by_cases hlt : k < acts.length ∧ k < 40
    · obtain ⟨hk1, hk2⟩ := hlt
      obtain ⟨ad, B, cB, rfl, x0, x1, x2, x3, x4, x5, hkl, hkc⟩ := at_act (Kd.C_below HA.out HP0.out.a.bl) k hk1
      have hby := HFL.out k hk1
      generalize rdA acts k = a at *
      obtain ⟨kd, al, an, asz, afl, akept⟩ := a
      simp only at x0 x1 x2 x3 x4 x5 hkl hkc hby
      have HBY := Lib.hid hby
      have HKL := Lib.hid hkl
      have HKC0 := Lib.hid hkc
      have HOWN := Lib.hid (show ∀ k, Own rb v0 v1 v2 k → k < wr.heap.size from fun k hk => RefAt.own_lt HP0.out.r hk)
      have HLB0 := Lib.hid HP0.out.a.arr.lb_lt
      clear hby hkl hkc
      by_cases k0 : kd = 0
      · subst k0
        by_cases hin : 0 ≤ al ∧ al < (n : Int)
        · obtain ⟨j, rfl⟩ := Int.eq_ofNat_of_zero_le hin.1
          have hj : j < n := by omega
          have HHAS := Lib.hid (show decide (0 ≤ (j : Int) ∧ (j : Int) < (x.length : Int)) = true from decide_eq_true (by rw [HLEN.out]; exact hin))
          have HLEN2 := HLEN
          clear hin
          go_wp2_with (first
            | (refine gate_ (.alloc 32) rfl ?_; refine wpList_alloc_agg rfl 32 rfl Z32 zero32 ?_; intro W2 hB hbw; have HBX := Lib.hid (And.intro hB hbw); clear hB hbw)
            | (refine gate_ (.store 32 (.tmp 10) (.tmp 50)) rfl ?_; refine wpList_store_boxed rfl 32 (.tmp 10) (.tmp 50) rfl wr W2 Z32 [.int .i64 0, .int .i64 (j : Int), .int .i64 an, .int .i64 asz, .int .u8 afl, .slice B akept.length cB] rfl rfl HBX.out.1 rfl size32 (by simp [Value.oneCell']) HBX.out.2 ?_; intro W5 h5 hb5; have y0 : W5.cell? ⟨wr.heap.size, 0, none⟩ = some (.int .i64 0) := (by rw [blk_cell h5]; rfl); have y1 : W5.cell? ⟨wr.heap.size, 1, none⟩ = some (.int .i64 (j : Int)) := (by rw [blk_cell h5]; rfl); have y3 : W5.cell? ⟨wr.heap.size, 3, none⟩ = some (.int .i64 asz) := (by rw [blk_cell h5]; rfl); have y4 : W5.cell? ⟨wr.heap.size, 4, none⟩ = some (.int .u8 afl) := (by rw [blk_cell h5]; rfl); have y5 : W5.cell? ⟨wr.heap.size, 5, none⟩ = some (.slice B akept.length cB) := (by rw [blk_cell h5]; rfl); have X1 := Lib.hid (show W5.cell? ⟨wr.heap.size, 1, none⟩ = some (.int .i64 (j : Int)) from by rw [blk_cell h5]; rfl); have X2 := Lib.hid (show W5.cell? ⟨wr.heap.size, 2, none⟩ = some (.int .i64 an) from by rw [blk_cell h5]; rfl); have X3 := Lib.hid (show W5.cell? ⟨wr.heap.size, 3, none⟩ = some (.int .i64 asz) from by rw [blk_cell h5]; rfl); have X4 := Lib.hid (show W5.cell? ⟨wr.heap.size, 4, none⟩ = some (.int .u8 afl) from by rw [blk_cell h5]; rfl); have X5 := Lib.hid (show W5.cell? ⟨wr.heap.size, 5, none⟩ = some (.slice B akept.length cB) from by rw [blk_cell h5]; rfl); have HP := Lib.hid (HP0.out.below hb5); have HKC := Lib.hid (Kd.C_below HKC0.out hb5); have HSZ5 := Lib.hid hb5.size; clear h5 hb5 HBX x0 x1 x2 x3 x4 x5 HP0 HKC0))
          refine (read_ok HP.out.a.arr j (by rw [HLEN.out]; exact hj)).mono ?_
          rintro _ W6 ⟨v6, rfl, hr6, hb6⟩
          obtain ⟨A5, c5, rfl, hl5, hc5⟩ := Kd.R_reads hr6
          have HC5 := Lib.hid hc5
          have HX1 := Lib.hid ((hb6.cell (cell_lt X1.out)).trans X1.out)
          have HP6 := Lib.hid (HP.out.below hb6)
          clear X1 X2 X3 X4 X5 HKC HP y0 y1 y3 y4 y5 hr6 hb6 hc5 hl5 HSZ5
          have X1 := HX1
          have HP := HP6
          obtain ⟨W5, hW5⟩ : ∃ W5, W5 = W6 := ⟨_, rfl⟩
          subst hW5
          obtain ⟨BS, d, s1, hd, sc⟩ := refE_s HP.out.refE
          rw [HLEN.out] at s1 sc
          obtain ⟨gs, rfl, xs⟩ := sc j hj
          have A1 := Lib.hid s1
          have XS := Lib.hid xs
          clear HX1 HP6 s1 sc xs hd
          generalize (x.getD j zb).now = fl at *
          go_wp2_with (fail)
          refine wp_theops (ops' := ops4 14) (by kernel_rfl) ?_
          refine reg14in HLEN HP X1 HHAS HC5 A1 XS hj ?_ ?_
          · (rintro cp ⟨tp, dp⟩ ⟨tq, dq⟩ wp hdp hp; (obtain rfl : dp = dq := hdp); exact hp)
          intro W7 hp7
          clear HP
          have HP := Lib.hid hp7
          clear hp7
          go_wp2_with (fail)
          refine (lsame_calls HP.out.a.arr HP.out.refE).mono ?_
          rintro _ W9 ⟨rfl, hb9⟩
          have HP9 := Lib.hid (HP.out.below hb9)
          clear HP hb9
          go_wp2_with (fail)
          go_roundw
          case rel => exact ⟨k + 1, ab, lb, rb, _, rfl, rfl, rfl, by omega, HLEN2, _, _, _, HP9.out⟩
          case measure => simp [intOf]; omega
        · have HHAS := Lib.hid (show decide (0 ≤ al ∧ al < (x.length : Int)) = false from decide_eq_false (by rw [HLEN.out]; exact hin))
          have HOUT := Lib.hid (show ¬ (0 ≤ al ∧ al < (x.length : Int)) from by rw [HLEN.out]; exact hin)
          have HLEN2 := HLEN
          clear hin
          go_wp2_with (first
            | (refine gate_ (.alloc 32) rfl ?_; refine wpList_alloc_agg rfl 32 rfl Z32 zero32 ?_; intro W2 hB hbw; have HBX := Lib.hid (And.intro hB hbw); clear hB hbw)
            | (refine gate_ (.store 32 (.tmp 10) (.tmp 50)) rfl ?_; refine wpList_store_boxed rfl 32 (.tmp 10) (.tmp 50) rfl wr W2 Z32 [.int .i64 0, .int .i64 al, .int .i64 an, .int .i64 asz, .int .u8 afl, .slice B akept.length cB] rfl rfl HBX.out.1 rfl size32 (by simp [Value.oneCell']) HBX.out.2 ?_; intro W5 h5 hb5; have y0 : W5.cell? ⟨wr.heap.size, 0, none⟩ = some (.int .i64 0) := (by rw [blk_cell h5]; rfl); have y1 : W5.cell? ⟨wr.heap.size, 1, none⟩ = some (.int .i64 al) := (by rw [blk_cell h5]; rfl); have y3 : W5.cell? ⟨wr.heap.size, 3, none⟩ = some (.int .i64 asz) := (by rw [blk_cell h5]; rfl); have y4 : W5.cell? ⟨wr.heap.size, 4, none⟩ = some (.int .u8 afl) := (by rw [blk_cell h5]; rfl); have y5 : W5.cell? ⟨wr.heap.size, 5, none⟩ = some (.slice B akept.length cB) := (by rw [blk_cell h5]; rfl); have X1 := Lib.hid (show W5.cell? ⟨wr.heap.size, 1, none⟩ = some (.int .i64 al) from by rw [blk_cell h5]; rfl); have X2 := Lib.hid (show W5.cell? ⟨wr.heap.size, 2, none⟩ = some (.int .i64 an) from by rw [blk_cell h5]; rfl); have X3 := Lib.hid (show W5.cell? ⟨wr.heap.size, 3, none⟩ = some (.int .i64 asz) from by rw [blk_cell h5]; rfl); have X4 := Lib.hid (show W5.cell? ⟨wr.heap.size, 4, none⟩ = some (.int .u8 afl) from by rw [blk_cell h5]; rfl); have X5 := Lib.hid (show W5.cell? ⟨wr.heap.size, 5, none⟩ = some (.slice B akept.length cB) from by rw [blk_cell h5]; rfl); have HP := Lib.hid (HP0.out.below hb5); have HKC := Lib.hid (Kd.C_below HKC0.out hb5); have HSZ5 := Lib.hid hb5.size; clear h5 hb5 HBX x0 x1 x2 x3 x4 x5 HP0 HKC0))
          refine (read_out HP.out.a.arr al HOUT.out).mono ?_
          rintro _ W6 ⟨rfl, hw6⟩
          replace hw6 := hw6.symm
          subst hw6
          clear X2 X3 X4 X5 HKC y0 y1 y3 y4 y5 HSZ5
          go_wp2_with (fail)
          refine wp_theops (ops' := ops4 14) (by kernel_rfl) ?_
          refine reg14out HLEN HP X1 HHAS ?_ ?_
          · (rintro cp ⟨tp, dp⟩ ⟨tq, dq⟩ wp hdp hp; (obtain rfl : dp = dq := hdp); exact hp)
          intro W7 hp7
          clear HP
          have HP := Lib.hid hp7
          clear hp7
          go_wp2_with (fail)
          refine (lsame_calls HP.out.a.arr HP.out.refE).mono ?_
          rintro _ W9 ⟨rfl, hb9⟩
          have HP9 := Lib.hid (HP.out.below hb9)
          clear HP hb9
          go_wp2_with (fail)
          go_roundw
          case rel => exact ⟨k + 1, ab, lb, rb, _, rfl, rfl, rfl, by omega, HLEN2, _, _, _, HP9.out⟩
          case measure => simp [intOf]; omega
      · have e0 : (kd == 0) = false := by simp [k0]
        by_cases k1 : kd = 1
        · subst k1
          clear k0 e0
          by_cases hin : 0 ≤ al ∧ al < (n : Int)
          · obtain ⟨j, rfl⟩ := Int.eq_ofNat_of_zero_le hin.1
            have hj : j < n := by omega
            clear hin
            by_cases h64 : fillN asz = 64
            · have HSEC := Lib.hid (show Sec (fillL afl asz) from ⟨(fillL_len afl asz).trans h64, fun z hz => by rw [List.eq_of_mem_replicate hz]; exact HBY.out⟩)
              have HLEN2 := Lib.hid ((putL_len x j (fillL afl asz) 1).trans HLEN.out)
              clear h64
              go_wp2_with (first
                | (refine gate_ (.alloc 32) rfl ?_; refine wpList_alloc_agg rfl 32 rfl Z32 zero32 ?_; intro W2 hB hbw; have HBX := Lib.hid (And.intro hB hbw); clear hB hbw)
                | (refine gate_ (.store 32 (.tmp 10) (.tmp 50)) rfl ?_; refine wpList_store_boxed rfl 32 (.tmp 10) (.tmp 50) rfl wr W2 Z32 [.int .i64 1, .int .i64 (j : Int), .int .i64 an, .int .i64 asz, .int .u8 afl, .slice B akept.length cB] rfl rfl HBX.out.1 rfl size32 (by simp [Value.oneCell']) HBX.out.2 ?_; intro W5 h5 hb5; have y0 : W5.cell? ⟨wr.heap.size, 0, none⟩ = some (.int .i64 1) := (by rw [blk_cell h5]; rfl); have y1 : W5.cell? ⟨wr.heap.size, 1, none⟩ = some (.int .i64 (j : Int)) := (by rw [blk_cell h5]; rfl); have y3 : W5.cell? ⟨wr.heap.size, 3, none⟩ = some (.int .i64 asz) := (by rw [blk_cell h5]; rfl); have y4 : W5.cell? ⟨wr.heap.size, 4, none⟩ = some (.int .u8 afl) := (by rw [blk_cell h5]; rfl); have y5 : W5.cell? ⟨wr.heap.size, 5, none⟩ = some (.slice B akept.length cB) := (by rw [blk_cell h5]; rfl); have X1 := Lib.hid (show W5.cell? ⟨wr.heap.size, 1, none⟩ = some (.int .i64 (j : Int)) from by rw [blk_cell h5]; rfl); have X2 := Lib.hid (show W5.cell? ⟨wr.heap.size, 2, none⟩ = some (.int .i64 an) from by rw [blk_cell h5]; rfl); have X3 := Lib.hid (show W5.cell? ⟨wr.heap.size, 3, none⟩ = some (.int .i64 asz) from by rw [blk_cell h5]; rfl); have X4 := Lib.hid (show W5.cell? ⟨wr.heap.size, 4, none⟩ = some (.int .u8 afl) from by rw [blk_cell h5]; rfl); have X5 := Lib.hid (show W5.cell? ⟨wr.heap.size, 5, none⟩ = some (.slice B akept.length cB) from by rw [blk_cell h5]; rfl); have HP := Lib.hid (HP0.out.below hb5); have HKC := Lib.hid (Kd.C_below HKC0.out hb5); have HSZ5 := Lib.hid hb5.size; clear h5 hb5 HBX x0 x1 x2 x3 x4 x5 HP0 HKC0))
              refine (fill_calls afl asz _).mono ?_
              rintro _ W6 ⟨v15, rfl, hr6, hb6⟩
              have HX1 := Lib.hid ((hb6.cell (cell_lt X1.out)).trans X1.out)
              have HX2 := Lib.hid ((hb6.cell (cell_lt X2.out)).trans X2.out)
              have HP6 := Lib.hid (HP.out.below hb6)
              have HR6 := Lib.hid hr6
              have HSZ6 := Lib.hid (And.intro (Nat.le_trans HSZ5.out (Nat.le_refl W5.heap.size)) HLB0.out)
              clear X1 X2 X3 X4 X5 HKC HP y0 y1 y3 y4 y5 hr6 hb6 HSZ5
              have X1 := HX1
              have X2 := HX2
              have HP := HP6
              clear HX1 HX2 HP6
              obtain ⟨W5b, hW5b⟩ : ∃ b, b = W5.heap.size := ⟨_, rfl⟩
              rw [← hW5b] at HR6 HSZ6
              clear hW5b
              obtain ⟨A15, c15, rfl, hl15, hc15⟩ := Kd.R_reads HR6.out
              have HC15 := Lib.hid hc15
              clear hl15 hc15
              obtain ⟨W5, hW5⟩ : ∃ W5, W5 = W6 := ⟨_, rfl⟩
              subst hW5
              go_wp2_with (fail)
              have H3 := Lib.hid (show S3 wr.heap.size W5b (j : Int) an (.slice A15 (fillL afl asz).length c15) (fillL afl asz) W5 from ⟨X1.out, X2.out, HR6.out⟩)
              have HLB := Lib.hid (show LB lb wr.heap.size W5b from ⟨HSZ6.out.2, Nat.lt_of_lt_of_le HSZ6.out.2 HSZ6.out.1, HSZ6.out.1⟩)
              refine wp_theops (ops' := ops4 18) (by kernel_rfl) ?_
              refine reg18ok HLEN HP H3 hj HSEC HLB HOWN ?_ ?_
              · (rintro cp ⟨tp, dp⟩ ⟨tq, dq⟩ wp hdp hp; (obtain rfl : dp = dq := hdp); exact hp)
              intro W7 u0 u1 u2 hp7
              clear HP
              have HP := Lib.hid hp7
              clear hp7
              go_wp2_with (fail)
              refine (lsame_calls HP.out.a.arr HP.out.refE).mono ?_
              rintro _ W9 ⟨rfl, hb9⟩
              have HP9 := Lib.hid (HP.out.below hb9)
              clear HP hb9
              go_wp2_with (fail)
              go_roundw
              case rel => exact ⟨k + 1, ab, lb, rb, _, rfl, rfl, rfl, by omega, HLEN2, _, _, _, HP9.out⟩
              case measure => simp [intOf]; omega
            · have HL64 := Lib.hid (show (fillL afl asz).length ≠ 64 ∧ (fillL afl asz).length ≤ 9223372036854775807 from ⟨by rw [fillL_len]; exact h64, by rw [fillL_len]; have := fillN_le asz; omega⟩)
              have HLEN2 := HLEN
              clear h64
              go_wp2_with (first
                | (refine gate_ (.alloc 32) rfl ?_; refine wpList_alloc_agg rfl 32 rfl Z32 zero32 ?_; intro W2 hB hbw; have HBX := Lib.hid (And.intro hB hbw); clear hB hbw)
                | (refine gate_ (.store 32 (.tmp 10) (.tmp 50)) rfl ?_; refine wpList_store_boxed rfl 32 (.tmp 10) (.tmp 50) rfl wr W2 Z32 [.int .i64 1, .int .i64 (j : Int), .int .i64 an, .int .i64 asz, .int .u8 afl, .slice B akept.length cB] rfl rfl HBX.out.1 rfl size32 (by simp [Value.oneCell']) HBX.out.2 ?_; intro W5 h5 hb5; have y0 : W5.cell? ⟨wr.heap.size, 0, none⟩ = some (.int .i64 1) := (by rw [blk_cell h5]; rfl); have y1 : W5.cell? ⟨wr.heap.size, 1, none⟩ = some (.int .i64 (j : Int)) := (by rw [blk_cell h5]; rfl); have y3 : W5.cell? ⟨wr.heap.size, 3, none⟩ = some (.int .i64 asz) := (by rw [blk_cell h5]; rfl); have y4 : W5.cell? ⟨wr.heap.size, 4, none⟩ = some (.int .u8 afl) := (by rw [blk_cell h5]; rfl); have y5 : W5.cell? ⟨wr.heap.size, 5, none⟩ = some (.slice B akept.length cB) := (by rw [blk_cell h5]; rfl); have X1 := Lib.hid (show W5.cell? ⟨wr.heap.size, 1, none⟩ = some (.int .i64 (j : Int)) from by rw [blk_cell h5]; rfl); have X2 := Lib.hid (show W5.cell? ⟨wr.heap.size, 2, none⟩ = some (.int .i64 an) from by rw [blk_cell h5]; rfl); have X3 := Lib.hid (show W5.cell? ⟨wr.heap.size, 3, none⟩ = some (.int .i64 asz) from by rw [blk_cell h5]; rfl); have X4 := Lib.hid (show W5.cell? ⟨wr.heap.size, 4, none⟩ = some (.int .u8 afl) from by rw [blk_cell h5]; rfl); have X5 := Lib.hid (show W5.cell? ⟨wr.heap.size, 5, none⟩ = some (.slice B akept.length cB) from by rw [blk_cell h5]; rfl); have HP := Lib.hid (HP0.out.below hb5); have HKC := Lib.hid (Kd.C_below HKC0.out hb5); have HSZ5 := Lib.hid hb5.size; clear h5 hb5 HBX x0 x1 x2 x3 x4 x5 HP0 HKC0))
              refine (fill_calls afl asz _).mono ?_
              rintro _ W6 ⟨v15, rfl, hr6, hb6⟩
              have HX1 := Lib.hid ((hb6.cell (cell_lt X1.out)).trans X1.out)
              have HX2 := Lib.hid ((hb6.cell (cell_lt X2.out)).trans X2.out)
              have HP6 := Lib.hid (HP.out.below hb6)
              have HR6 := Lib.hid hr6
              have HSZ6 := Lib.hid (And.intro (Nat.le_trans HSZ5.out (Nat.le_refl W5.heap.size)) HLB0.out)
              clear X1 X2 X3 X4 X5 HKC HP y0 y1 y3 y4 y5 hr6 hb6 HSZ5
              have X1 := HX1
              have X2 := HX2
              have HP := HP6
              clear HX1 HX2 HP6
              obtain ⟨W5b, hW5b⟩ : ∃ b, b = W5.heap.size := ⟨_, rfl⟩
              rw [← hW5b] at HR6 HSZ6
              clear hW5b
              obtain ⟨A15, c15, rfl, hl15, hc15⟩ := Kd.R_reads HR6.out
              have HC15 := Lib.hid hc15
              clear hl15 hc15
              obtain ⟨W5, hW5⟩ : ∃ W5, W5 = W6 := ⟨_, rfl⟩
              subst hW5
              go_wp2_with (fail)
              refine wp_theops (ops' := ops4 18) (by kernel_rfl) ?_
              refine reg18len HLEN HP X1 HC15 hj HL64 ?_ ?_
              · (rintro cp ⟨tp, dp⟩ ⟨tq, dq⟩ wp hdp hp; (obtain rfl : dp = dq := hdp); exact hp)
              intro W7 hp7
              clear HP
              have HP := Lib.hid hp7
              clear hp7
              go_wp2_with (fail)
              refine (lsame_calls HP.out.a.arr HP.out.refE).mono ?_
              rintro _ W9 ⟨rfl, hb9⟩
              have HP9 := Lib.hid (HP.out.below hb9)
              clear HP hb9
              go_wp2_with (fail)
              go_roundw
              case rel => exact ⟨k + 1, ab, lb, rb, _, rfl, rfl, rfl, by omega, HLEN2, _, _, _, HP9.out⟩
              case measure => simp [intOf]; omega
          · have HOUT := Lib.hid hin
            have HLEN2 := HLEN
            clear hin
            go_wp2_with (first
              | (refine gate_ (.alloc 32) rfl ?_; refine wpList_alloc_agg rfl 32 rfl Z32 zero32 ?_; intro W2 hB hbw; have HBX := Lib.hid (And.intro hB hbw); clear hB hbw)
              | (refine gate_ (.store 32 (.tmp 10) (.tmp 50)) rfl ?_; refine wpList_store_boxed rfl 32 (.tmp 10) (.tmp 50) rfl wr W2 Z32 [.int .i64 1, .int .i64 al, .int .i64 an, .int .i64 asz, .int .u8 afl, .slice B akept.length cB] rfl rfl HBX.out.1 rfl size32 (by simp [Value.oneCell']) HBX.out.2 ?_; intro W5 h5 hb5; have y0 : W5.cell? ⟨wr.heap.size, 0, none⟩ = some (.int .i64 1) := (by rw [blk_cell h5]; rfl); have y1 : W5.cell? ⟨wr.heap.size, 1, none⟩ = some (.int .i64 al) := (by rw [blk_cell h5]; rfl); have y3 : W5.cell? ⟨wr.heap.size, 3, none⟩ = some (.int .i64 asz) := (by rw [blk_cell h5]; rfl); have y4 : W5.cell? ⟨wr.heap.size, 4, none⟩ = some (.int .u8 afl) := (by rw [blk_cell h5]; rfl); have y5 : W5.cell? ⟨wr.heap.size, 5, none⟩ = some (.slice B akept.length cB) := (by rw [blk_cell h5]; rfl); have X1 := Lib.hid (show W5.cell? ⟨wr.heap.size, 1, none⟩ = some (.int .i64 al) from by rw [blk_cell h5]; rfl); have X2 := Lib.hid (show W5.cell? ⟨wr.heap.size, 2, none⟩ = some (.int .i64 an) from by rw [blk_cell h5]; rfl); have X3 := Lib.hid (show W5.cell? ⟨wr.heap.size, 3, none⟩ = some (.int .i64 asz) from by rw [blk_cell h5]; rfl); have X4 := Lib.hid (show W5.cell? ⟨wr.heap.size, 4, none⟩ = some (.int .u8 afl) from by rw [blk_cell h5]; rfl); have X5 := Lib.hid (show W5.cell? ⟨wr.heap.size, 5, none⟩ = some (.slice B akept.length cB) from by rw [blk_cell h5]; rfl); have HP := Lib.hid (HP0.out.below hb5); have HKC := Lib.hid (Kd.C_below HKC0.out hb5); have HSZ5 := Lib.hid hb5.size; clear h5 hb5 HBX x0 x1 x2 x3 x4 x5 HP0 HKC0))
            refine (fill_calls afl asz _).mono ?_
            rintro _ W6 ⟨v15, rfl, hr6, hb6⟩
            have HX1 := Lib.hid ((hb6.cell (cell_lt X1.out)).trans X1.out)
            have HX2 := Lib.hid ((hb6.cell (cell_lt X2.out)).trans X2.out)
            have HP6 := Lib.hid (HP.out.below hb6)
            have HR6 := Lib.hid hr6
            have HSZ6 := Lib.hid (And.intro (Nat.le_trans HSZ5.out (Nat.le_refl W5.heap.size)) HLB0.out)
            clear X1 X2 X3 X4 X5 HKC HP y0 y1 y3 y4 y5 hr6 hb6 HSZ5
            have X1 := HX1
            have X2 := HX2
            have HP := HP6
            clear HX1 HX2 HP6
            obtain ⟨W5b, hW5b⟩ : ∃ b, b = W5.heap.size := ⟨_, rfl⟩
            rw [← hW5b] at HR6 HSZ6
            clear hW5b
            obtain ⟨A15, c15, rfl, hl15, hc15⟩ := Kd.R_reads HR6.out
            have HC15 := Lib.hid hc15
            clear hl15 hc15
            obtain ⟨W5, hW5⟩ : ∃ W5, W5 = W6 := ⟨_, rfl⟩
            subst hW5
            go_wp2_with (fail)
            refine wp_theops (ops' := ops4 18) (by kernel_rfl) ?_
            refine reg18out HLEN HP X1 HC15 HOUT ?_ ?_
            · (rintro cp ⟨tp, dp⟩ ⟨tq, dq⟩ wp hdp hp; (obtain rfl : dp = dq := hdp); exact hp)
            intro W7 hp7
            clear HP
            have HP := Lib.hid hp7
            clear hp7
            go_wp2_with (fail)
            refine (lsame_calls HP.out.a.arr HP.out.refE).mono ?_
            rintro _ W9 ⟨rfl, hb9⟩
            have HP9 := Lib.hid (HP.out.below hb9)
            clear HP hb9
            go_wp2_with (fail)
            go_roundw
            case rel => exact ⟨k + 1, ab, lb, rb, _, rfl, rfl, rfl, by omega, HLEN2, _, _, _, HP9.out⟩
            case measure => simp [intOf]; omega
        · have e1 : (kd == 1) = false := by simp [k1]
          by_cases k2 : kd = 2
          · subst k2
            clear k0 k1 e0 e1
            by_cases hin : readyE n al an = 3
            · have HOUT := Lib.hid hin
              have HLEN2 := HLEN
              clear hin
              go_wp2_with (first
                | (refine gate_ (.alloc 32) rfl ?_; refine wpList_alloc_agg rfl 32 rfl Z32 zero32 ?_; intro W2 hB hbw; have HBX := Lib.hid (And.intro hB hbw); clear hB hbw)
                | (refine gate_ (.store 32 (.tmp 10) (.tmp 50)) rfl ?_; refine wpList_store_boxed rfl 32 (.tmp 10) (.tmp 50) rfl wr W2 Z32 [.int .i64 2, .int .i64 al, .int .i64 an, .int .i64 asz, .int .u8 afl, .slice B akept.length cB] rfl rfl HBX.out.1 rfl size32 (by simp [Value.oneCell']) HBX.out.2 ?_; intro W5 h5 hb5; have y0 : W5.cell? ⟨wr.heap.size, 0, none⟩ = some (.int .i64 2) := (by rw [blk_cell h5]; rfl); have y1 : W5.cell? ⟨wr.heap.size, 1, none⟩ = some (.int .i64 al) := (by rw [blk_cell h5]; rfl); have y3 : W5.cell? ⟨wr.heap.size, 3, none⟩ = some (.int .i64 asz) := (by rw [blk_cell h5]; rfl); have y4 : W5.cell? ⟨wr.heap.size, 4, none⟩ = some (.int .u8 afl) := (by rw [blk_cell h5]; rfl); have y5 : W5.cell? ⟨wr.heap.size, 5, none⟩ = some (.slice B akept.length cB) := (by rw [blk_cell h5]; rfl); have X1 := Lib.hid (show W5.cell? ⟨wr.heap.size, 1, none⟩ = some (.int .i64 al) from by rw [blk_cell h5]; rfl); have X2 := Lib.hid (show W5.cell? ⟨wr.heap.size, 2, none⟩ = some (.int .i64 an) from by rw [blk_cell h5]; rfl); have X3 := Lib.hid (show W5.cell? ⟨wr.heap.size, 3, none⟩ = some (.int .i64 asz) from by rw [blk_cell h5]; rfl); have X4 := Lib.hid (show W5.cell? ⟨wr.heap.size, 4, none⟩ = some (.int .u8 afl) from by rw [blk_cell h5]; rfl); have X5 := Lib.hid (show W5.cell? ⟨wr.heap.size, 5, none⟩ = some (.slice B akept.length cB) from by rw [blk_cell h5]; rfl); have HP := Lib.hid (HP0.out.below hb5); have HKC := Lib.hid (Kd.C_below HKC0.out hb5); have HSZ5 := Lib.hid hb5.size; clear h5 hb5 HBX x0 x1 x2 x3 x4 x5 HP0 HKC0))
              clear y0 y1 y3 y4 y5
              refine wp_theops (ops' := ops4 20) (by kernel_rfl) ?_
              refine reg20out HLEN HP X1 X2 HOUT ?_ ?_
              · (rintro cp ⟨tp, dp⟩ ⟨tq, dq⟩ wp hdp hp; (obtain rfl : dp = dq := hdp); exact hp)
              intro W7 hp7
              clear HP
              have HP := Lib.hid hp7
              clear hp7
              go_wp2_with (fail)
              refine (lsame_calls HP.out.a.arr HP.out.refE).mono ?_
              rintro _ W9 ⟨rfl, hb9⟩
              have HP9 := Lib.hid (HP.out.below hb9)
              clear HP hb9
              go_wp2_with (fail)
              go_roundw
              case rel => exact ⟨k + 1, ab, lb, rb, _, rfl, rfl, rfl, by omega, HLEN2, _, _, _, HP9.out⟩
              case measure => simp [intOf]; omega
            · have hin2 : readyE n al an = 0 := by unfold readyE at hin ⊢; split at hin <;> simp_all
              have hh : 0 ≤ al ∧ 0 ≤ an := by unfold readyE at hin; split at hin <;> omega
              obtain ⟨j, rfl⟩ := Int.eq_ofNat_of_zero_le hh.1
              obtain ⟨q, rfl⟩ := Int.eq_ofNat_of_zero_le hh.2
              have HIN := Lib.hid hin2
              have HLB := HLB0
              have HLEN2 := Lib.hid ((putL_len x j z64 q).trans HLEN.out)
              clear hin hin2 hh
              go_wp2_with (first
                | (refine gate_ (.alloc 32) rfl ?_; refine wpList_alloc_agg rfl 32 rfl Z32 zero32 ?_; intro W2 hB hbw; have HBX := Lib.hid (And.intro hB hbw); clear hB hbw)
                | (refine gate_ (.store 32 (.tmp 10) (.tmp 50)) rfl ?_; refine wpList_store_boxed rfl 32 (.tmp 10) (.tmp 50) rfl wr W2 Z32 [.int .i64 2, .int .i64 (j : Int), .int .i64 (q : Int), .int .i64 asz, .int .u8 afl, .slice B akept.length cB] rfl rfl HBX.out.1 rfl size32 (by simp [Value.oneCell']) HBX.out.2 ?_; intro W5 h5 hb5; have y0 : W5.cell? ⟨wr.heap.size, 0, none⟩ = some (.int .i64 2) := (by rw [blk_cell h5]; rfl); have y1 : W5.cell? ⟨wr.heap.size, 1, none⟩ = some (.int .i64 (j : Int)) := (by rw [blk_cell h5]; rfl); have y3 : W5.cell? ⟨wr.heap.size, 3, none⟩ = some (.int .i64 asz) := (by rw [blk_cell h5]; rfl); have y4 : W5.cell? ⟨wr.heap.size, 4, none⟩ = some (.int .u8 afl) := (by rw [blk_cell h5]; rfl); have y5 : W5.cell? ⟨wr.heap.size, 5, none⟩ = some (.slice B akept.length cB) := (by rw [blk_cell h5]; rfl); have X1 := Lib.hid (show W5.cell? ⟨wr.heap.size, 1, none⟩ = some (.int .i64 (j : Int)) from by rw [blk_cell h5]; rfl); have X2 := Lib.hid (show W5.cell? ⟨wr.heap.size, 2, none⟩ = some (.int .i64 (q : Int)) from by rw [blk_cell h5]; rfl); have X3 := Lib.hid (show W5.cell? ⟨wr.heap.size, 3, none⟩ = some (.int .i64 asz) from by rw [blk_cell h5]; rfl); have X4 := Lib.hid (show W5.cell? ⟨wr.heap.size, 4, none⟩ = some (.int .u8 afl) from by rw [blk_cell h5]; rfl); have X5 := Lib.hid (show W5.cell? ⟨wr.heap.size, 5, none⟩ = some (.slice B akept.length cB) from by rw [blk_cell h5]; rfl); have HP := Lib.hid (HP0.out.below hb5); have HKC := Lib.hid (Kd.C_below HKC0.out hb5); have HSZ5 := Lib.hid hb5.size; clear h5 hb5 HBX x0 x1 x2 x3 x4 x5 HP0 HKC0))
              clear y0 y1 y3 y4 y5
              refine wp_theops (ops' := ops4 20) (by kernel_rfl) ?_
              refine reg20ok HLEN HP X1 X2 HIN HLB HOWN ?_ ?_
              · (rintro cp ⟨tp, dp⟩ ⟨tq, dq⟩ wp hdp hp; (obtain rfl : dp = dq := hdp); exact hp)
              intro W7 u0 u1 u2 hp7
              clear HP
              have HP := Lib.hid hp7
              clear hp7
              go_wp2_with (fail)
              refine (lsame_calls HP.out.a.arr HP.out.refE).mono ?_
              rintro _ W9 ⟨rfl, hb9⟩
              have HP9 := Lib.hid (HP.out.below hb9)
              clear HP hb9
              go_wp2_with (fail)
              go_roundw
              case rel => exact ⟨k + 1, ab, lb, rb, _, rfl, rfl, rfl, by omega, HLEN2, _, _, _, HP9.out⟩
              case measure => simp [intOf]; omega
          · have e2 : (kd == 2) = false := by simp [k2]
            by_cases k3 : kd = 3
            · subst k3
              clear k0 k1 k2 e0 e1 e2
              have HLEN2 := Lib.hid (show (x.map Bk.settle).length = n from by rw [List.length_map]; exact HLEN.out)
              go_wp2_with (first
                | (refine gate_ (.alloc 32) rfl ?_; refine wpList_alloc_agg rfl 32 rfl Z32 zero32 ?_; intro W2 hB hbw; have HBX := Lib.hid (And.intro hB hbw); clear hB hbw)
                | (refine gate_ (.store 32 (.tmp 10) (.tmp 50)) rfl ?_; refine wpList_store_boxed rfl 32 (.tmp 10) (.tmp 50) rfl wr W2 Z32 [.int .i64 3, .int .i64 al, .int .i64 an, .int .i64 asz, .int .u8 afl, .slice B akept.length cB] rfl rfl HBX.out.1 rfl size32 (by simp [Value.oneCell']) HBX.out.2 ?_; intro W5 h5 hb5; have y0 : W5.cell? ⟨wr.heap.size, 0, none⟩ = some (.int .i64 3) := (by rw [blk_cell h5]; rfl); have y1 : W5.cell? ⟨wr.heap.size, 1, none⟩ = some (.int .i64 al) := (by rw [blk_cell h5]; rfl); have y3 : W5.cell? ⟨wr.heap.size, 3, none⟩ = some (.int .i64 asz) := (by rw [blk_cell h5]; rfl); have y4 : W5.cell? ⟨wr.heap.size, 4, none⟩ = some (.int .u8 afl) := (by rw [blk_cell h5]; rfl); have y5 : W5.cell? ⟨wr.heap.size, 5, none⟩ = some (.slice B akept.length cB) := (by rw [blk_cell h5]; rfl); have X1 := Lib.hid (show W5.cell? ⟨wr.heap.size, 1, none⟩ = some (.int .i64 al) from by rw [blk_cell h5]; rfl); have X2 := Lib.hid (show W5.cell? ⟨wr.heap.size, 2, none⟩ = some (.int .i64 an) from by rw [blk_cell h5]; rfl); have X3 := Lib.hid (show W5.cell? ⟨wr.heap.size, 3, none⟩ = some (.int .i64 asz) from by rw [blk_cell h5]; rfl); have X4 := Lib.hid (show W5.cell? ⟨wr.heap.size, 4, none⟩ = some (.int .u8 afl) from by rw [blk_cell h5]; rfl); have X5 := Lib.hid (show W5.cell? ⟨wr.heap.size, 5, none⟩ = some (.slice B akept.length cB) from by rw [blk_cell h5]; rfl); have HP := Lib.hid (HP0.out.below hb5); have HKC := Lib.hid (Kd.C_below HKC0.out hb5); have HSZ5 := Lib.hid hb5.size; clear h5 hb5 HBX x0 x1 x2 x3 x4 x5 HP0 HKC0))
              clear y0 y1 y3 y4 y5
              refine (flush_calls HP.out.a.arr).mono ?_
              rintro _ W7 ⟨rfl, h7, hf7⟩
              have HP7 := Lib.hid (HP.out.wr h7 hf7)
              clear HP h7 hf7 X1 X2 X3 X4 X5 HKC
              go_wp2_with (fail)
              refine (p_ref_flush HP7.out).mono ?_
              rintro _ W8 ⟨⟨vv, rfl⟩, u0, u1, u2, h8⟩
              have HP := Lib.hid h8
              clear h8 HP7
              go_wp2_with (fail)
              refine (lsame_calls HP.out.a.arr HP.out.refE).mono ?_
              rintro _ W9 ⟨rfl, hb9⟩
              have HP9 := Lib.hid (HP.out.below hb9)
              clear HP hb9
              go_wp2_with (fail)
              go_roundw
              case rel => exact ⟨k + 1, ab, lb, rb, _, rfl, rfl, rfl, by omega, HLEN2, _, _, _, HP9.out⟩
              case measure => simp [intOf]; omega
            · have e3 : (kd == 3) = false := by simp [k3]
              have HLK := Lib.hid (show (looseK x x.length).length ≤ 512 from by have h1 := looseK_len x x.length; have h2 := HLEN.out; omega)
              by_cases k4 : kd = 4
              · subst k4
                clear k0 k1 k2 k3 e0 e1 e2 e3
                go_wp2_with (first
                  | (refine gate_ (.alloc 32) rfl ?_; refine wpList_alloc_agg rfl 32 rfl Z32 zero32 ?_; intro W2 hB hbw; have HBX := Lib.hid (And.intro hB hbw); clear hB hbw)
                  | (refine gate_ (.store 32 (.tmp 10) (.tmp 50)) rfl ?_; refine wpList_store_boxed rfl 32 (.tmp 10) (.tmp 50) rfl wr W2 Z32 [.int .i64 4, .int .i64 al, .int .i64 an, .int .i64 asz, .int .u8 afl, .slice B akept.length cB] rfl rfl HBX.out.1 rfl size32 (by simp [Value.oneCell']) HBX.out.2 ?_; intro W5 h5 hb5; have y0 : W5.cell? ⟨wr.heap.size, 0, none⟩ = some (.int .i64 4) := (by rw [blk_cell h5]; rfl); have y1 : W5.cell? ⟨wr.heap.size, 1, none⟩ = some (.int .i64 al) := (by rw [blk_cell h5]; rfl); have y3 : W5.cell? ⟨wr.heap.size, 3, none⟩ = some (.int .i64 asz) := (by rw [blk_cell h5]; rfl); have y4 : W5.cell? ⟨wr.heap.size, 4, none⟩ = some (.int .u8 afl) := (by rw [blk_cell h5]; rfl); have y5 : W5.cell? ⟨wr.heap.size, 5, none⟩ = some (.slice B akept.length cB) := (by rw [blk_cell h5]; rfl); have X1 := Lib.hid (show W5.cell? ⟨wr.heap.size, 1, none⟩ = some (.int .i64 al) from by rw [blk_cell h5]; rfl); have X2 := Lib.hid (show W5.cell? ⟨wr.heap.size, 2, none⟩ = some (.int .i64 an) from by rw [blk_cell h5]; rfl); have X3 := Lib.hid (show W5.cell? ⟨wr.heap.size, 3, none⟩ = some (.int .i64 asz) from by rw [blk_cell h5]; rfl); have X4 := Lib.hid (show W5.cell? ⟨wr.heap.size, 4, none⟩ = some (.int .u8 afl) from by rw [blk_cell h5]; rfl); have X5 := Lib.hid (show W5.cell? ⟨wr.heap.size, 5, none⟩ = some (.slice B akept.length cB) from by rw [blk_cell h5]; rfl); have HP := Lib.hid (HP0.out.below hb5); have HKC := Lib.hid (Kd.C_below HKC0.out hb5); have HSZ5 := Lib.hid hb5.size; clear h5 hb5 HBX x0 x1 x2 x3 x4 x5 HP0 HKC0))
                have HKL2 := Lib.hid (And.intro HKL.out HKC.out)
                clear y0 y1 y3 y4 y5 X1 X2 X3 X4 X5
                obtain ⟨KA, hKA⟩ : ∃ KA, KA = B := ⟨_, rfl⟩
                subst hKA
                obtain ⟨KC, hKC⟩ : ∃ KC, KC = cB := ⟨_, rfl⟩
                subst hKC
                obtain ⟨kl0, hkl0⟩ : ∃ kl0, kl0 = akept := ⟨_, rfl⟩
                subst hkl0
                have hcr := crash_calls HP.out.a.arr KA KC kl0 HKL2.out.2 HKL2.out.1
                cases hq : crashL x kl0 with
                | none =>
                  have HLEN2 := HLEN
                  rw [hq] at hcr
                  have HQ := Lib.hid hq
                  have HCR := Lib.hid hcr
                  clear hcr hq
                  go_wp2_with (fail)
                  refine HCR.out.mono ?_
                  rintro _ W7 ⟨rfl, hb7⟩
                  have HP7 := Lib.hid (HP.out.below hb7)
                  have HK7 := Lib.hid (Kd.C_below HKL2.out.2 hb7)
                  clear HP hb7 HCR
                  have hrc := rcrash_calls (Z := fun _ => False) HP7.out.refE (fun _ h => h.elim) KA KC kl0 HK7.out HKL2.out.1
                  rw [HQ.out] at hrc
                  have HRC := Lib.hid hrc
                  clear hrc
                  go_wp2_with (fail)
                  refine HRC.out.mono ?_
                  rintro _ W8 ⟨rfl, hb8⟩
                  have HP := Lib.hid (HP7.out.below hb8)
                  clear HP7 hb8 HRC
                  go_wp2_with (fail)
                  refine (lsame_calls HP.out.a.arr HP.out.refE).mono ?_
                  rintro _ W9 ⟨rfl, hb9⟩
                  have HP9 := Lib.hid (HP.out.below hb9)
                  clear HP hb9
                  go_wp2_with (fail)
                  go_roundw
                  case rel => exact ⟨k + 1, ab, lb, rb, _, rfl, rfl, rfl, by omega, HLEN2, _, _, _, HP9.out⟩
                  case measure => simp [intOf]; omega
                | some y =>
                  have hyl : y.length = n := (crashL_len hq).trans HLEN.out
                  have HLEN2 := Lib.hid hyl
                  rw [hq] at hcr
                  have HQ := Lib.hid hq
                  have HCR := Lib.hid hcr
                  clear hcr hq hyl
                  go_wp2_with (fail)
                  refine HCR.out.mono ?_
                  rintro _ W7 ⟨nb, mb, rfl, ha7, hn7, hm7, hb7⟩
                  have HP7 := Lib.hid (HP.out.below hb7)
                  have HN7 := Lib.hid (show Ar w W7 nb mb y from ⟨ha7, Nat.le_trans HP.out.a.bl.size hm7, Nat.le_trans HP.out.a.bl.size hn7, bthen HP.out.a.bl hb7⟩)
                  have HK7 := Lib.hid (Kd.C_below HKL2.out.2 hb7)
                  clear HP hb7 HCR ha7 hn7 hm7
                  have hrc := rcrash_calls (Z := Z2 nb mb) HP7.out.refE (by rintro k (rfl | rfl); exact HN7.out.arr.ab_lt; exact HN7.out.arr.lb_lt) KA KC kl0 HK7.out HKL2.out.1
                  rw [HQ.out] at hrc
                  have HRC := Lib.hid hrc
                  clear hrc
                  go_wp2_with (fail)
                  refine HRC.out.mono ?_
                  rintro _ W8 ⟨nr, rfl, ⟨t0, t1, t2, hr8⟩, hb8⟩
                  have HN := Lib.hid (show P1 w W8 nb mb nr y y t0 t1 t2 from ⟨HN7.out.below hb8, RefAt.lower hr8 HP7.out.a.bl.size⟩)
                  have HP := Lib.hid (HP7.out.below hb8)
                  clear HP7 HN7 hr8 hb8 HRC
                  go_wp2_with (fail)
                  refine (lsame_calls HP.out.a.arr HP.out.refE).mono ?_
                  rintro _ W9 ⟨rfl, hb9⟩
                  have HN9 := Lib.hid (HN.out.below hb9)
                  clear HP hb9 HN
                  go_wp2_with (fail)
                  refine (lsame_calls HN9.out.a.arr HN9.out.refE).mono ?_
                  rintro _ W10 ⟨rfl, hb10⟩
                  have HP9 := Lib.hid (HN9.out.below hb10)
                  clear HN9 hb10
                  go_wp2_with (fail)
                  go_roundw
                  case rel => exact ⟨k + 1, nb, mb, nr, y, rfl, rfl, rfl, by omega, HLEN2, _, _, _, HP9.out⟩
                  case measure => simp [intOf]; omega
              · have e4 : (kd == 4) = false := by simp [k4]
                by_cases k5 : kd = 5
                · subst k5
                  clear k0 k1 k2 k3 k4 e0 e1 e2 e3 e4
                  go_wp2_with (first
                    | (refine gate_ (.alloc 32) rfl ?_; refine wpList_alloc_agg rfl 32 rfl Z32 zero32 ?_; intro W2 hB hbw; have HBX := Lib.hid (And.intro hB hbw); clear hB hbw)
                    | (refine gate_ (.store 32 (.tmp 10) (.tmp 50)) rfl ?_; refine wpList_store_boxed rfl 32 (.tmp 10) (.tmp 50) rfl wr W2 Z32 [.int .i64 5, .int .i64 al, .int .i64 an, .int .i64 asz, .int .u8 afl, .slice B akept.length cB] rfl rfl HBX.out.1 rfl size32 (by simp [Value.oneCell']) HBX.out.2 ?_; intro W5 h5 hb5; have y0 : W5.cell? ⟨wr.heap.size, 0, none⟩ = some (.int .i64 5) := (by rw [blk_cell h5]; rfl); have y1 : W5.cell? ⟨wr.heap.size, 1, none⟩ = some (.int .i64 al) := (by rw [blk_cell h5]; rfl); have y3 : W5.cell? ⟨wr.heap.size, 3, none⟩ = some (.int .i64 asz) := (by rw [blk_cell h5]; rfl); have y4 : W5.cell? ⟨wr.heap.size, 4, none⟩ = some (.int .u8 afl) := (by rw [blk_cell h5]; rfl); have y5 : W5.cell? ⟨wr.heap.size, 5, none⟩ = some (.slice B akept.length cB) := (by rw [blk_cell h5]; rfl); have X1 := Lib.hid (show W5.cell? ⟨wr.heap.size, 1, none⟩ = some (.int .i64 al) from by rw [blk_cell h5]; rfl); have X2 := Lib.hid (show W5.cell? ⟨wr.heap.size, 2, none⟩ = some (.int .i64 an) from by rw [blk_cell h5]; rfl); have X3 := Lib.hid (show W5.cell? ⟨wr.heap.size, 3, none⟩ = some (.int .i64 asz) from by rw [blk_cell h5]; rfl); have X4 := Lib.hid (show W5.cell? ⟨wr.heap.size, 4, none⟩ = some (.int .u8 afl) from by rw [blk_cell h5]; rfl); have X5 := Lib.hid (show W5.cell? ⟨wr.heap.size, 5, none⟩ = some (.slice B akept.length cB) from by rw [blk_cell h5]; rfl); have HP := Lib.hid (HP0.out.below hb5); have HKC := Lib.hid (Kd.C_below HKC0.out hb5); have HSZ5 := Lib.hid hb5.size; clear h5 hb5 HBX x0 x1 x2 x3 x4 x5 HP0 HKC0))
                  clear y0 y1 y3 y4 y5
                  refine wp_theops (ops' := ops4 28) (by kernel_rfl) ?_
                  refine reg28 HLEN HP X5 HLK HKC HKL ?_ ?_
                  · (rintro cp ⟨tp, dp⟩ ⟨tq, dq⟩ wp hdp hp; (obtain rfl : dp = dq := hdp); exact hp)
                  intro W7 A6 c6 A7 c7 kl hp7 hl7 hc7
                  have HKL2 := Lib.hid (And.intro hl7 hc7)
                  clear HP HKL HKC hl7 hc7
                  have HP := Lib.hid hp7
                  clear hp7
                  go_wp2_with (fail)
                  obtain ⟨KA, hKA⟩ : ∃ KA, KA = A7 := ⟨_, rfl⟩
                  subst hKA
                  obtain ⟨KC, hKC⟩ : ∃ KC, KC = c7 := ⟨_, rfl⟩
                  subst hKC
                  obtain ⟨kl0, hkl0⟩ : ∃ kl0, kl0 = kl := ⟨_, rfl⟩
                  subst hkl0
                  have hcr := crash_calls HP.out.a.arr KA KC kl0 HKL2.out.2 HKL2.out.1
                  cases hq : crashL x kl0 with
                  | none =>
                    have HLEN2 := HLEN
                    rw [hq] at hcr
                    have HQ := Lib.hid hq
                    have HCR := Lib.hid hcr
                    clear hcr hq
                    go_wp2_with (fail)
                    refine HCR.out.mono ?_
                    rintro _ W7 ⟨rfl, hb7⟩
                    have HP7 := Lib.hid (HP.out.below hb7)
                    have HK7 := Lib.hid (Kd.C_below HKL2.out.2 hb7)
                    clear HP hb7 HCR
                    have hrc := rcrash_calls (Z := fun _ => False) HP7.out.refE (fun _ h => h.elim) KA KC kl0 HK7.out HKL2.out.1
                    rw [HQ.out] at hrc
                    have HRC := Lib.hid hrc
                    clear hrc
                    go_wp2_with (fail)
                    refine HRC.out.mono ?_
                    rintro _ W8 ⟨rfl, hb8⟩
                    have HP := Lib.hid (HP7.out.below hb8)
                    clear HP7 hb8 HRC
                    go_wp2_with (fail)
                    refine (lsame_calls HP.out.a.arr HP.out.refE).mono ?_
                    rintro _ W9 ⟨rfl, hb9⟩
                    have HP9 := Lib.hid (HP.out.below hb9)
                    clear HP hb9
                    go_wp2_with (fail)
                    go_roundw
                    case rel => exact ⟨k + 1, ab, lb, rb, _, rfl, rfl, rfl, by omega, HLEN2, _, _, _, HP9.out⟩
                    case measure => simp [intOf]; omega
                  | some y =>
                    have hyl : y.length = n := (crashL_len hq).trans HLEN.out
                    have HLEN2 := Lib.hid hyl
                    rw [hq] at hcr
                    have HQ := Lib.hid hq
                    have HCR := Lib.hid hcr
                    clear hcr hq hyl
                    go_wp2_with (fail)
                    refine HCR.out.mono ?_
                    rintro _ W7 ⟨nb, mb, rfl, ha7, hn7, hm7, hb7⟩
                    have HP7 := Lib.hid (HP.out.below hb7)
                    have HN7 := Lib.hid (show Ar w W7 nb mb y from ⟨ha7, Nat.le_trans HP.out.a.bl.size hm7, Nat.le_trans HP.out.a.bl.size hn7, bthen HP.out.a.bl hb7⟩)
                    have HK7 := Lib.hid (Kd.C_below HKL2.out.2 hb7)
                    clear HP hb7 HCR ha7 hn7 hm7
                    have hrc := rcrash_calls (Z := Z2 nb mb) HP7.out.refE (by rintro k (rfl | rfl); exact HN7.out.arr.ab_lt; exact HN7.out.arr.lb_lt) KA KC kl0 HK7.out HKL2.out.1
                    rw [HQ.out] at hrc
                    have HRC := Lib.hid hrc
                    clear hrc
                    go_wp2_with (fail)
                    refine HRC.out.mono ?_
                    rintro _ W8 ⟨nr, rfl, ⟨t0, t1, t2, hr8⟩, hb8⟩
                    have HN := Lib.hid (show P1 w W8 nb mb nr y y t0 t1 t2 from ⟨HN7.out.below hb8, RefAt.lower hr8 HP7.out.a.bl.size⟩)
                    have HP := Lib.hid (HP7.out.below hb8)
                    clear HP7 HN7 hr8 hb8 HRC
                    go_wp2_with (fail)
                    refine (lsame_calls HP.out.a.arr HP.out.refE).mono ?_
                    rintro _ W9 ⟨rfl, hb9⟩
                    have HN9 := Lib.hid (HN.out.below hb9)
                    clear HP hb9 HN
                    go_wp2_with (fail)
                    refine (lsame_calls HN9.out.a.arr HN9.out.refE).mono ?_
                    rintro _ W10 ⟨rfl, hb10⟩
                    have HP9 := Lib.hid (HN9.out.below hb10)
                    clear HN9 hb10
                    go_wp2_with (fail)
                    go_roundw
                    case rel => exact ⟨k + 1, nb, mb, nr, y, rfl, rfl, rfl, by omega, HLEN2, _, _, _, HP9.out⟩
                    case measure => simp [intOf]; omega
                · have e5 : (kd == 5) = false := by simp [k5]
                  have HLEN2 := HLEN
                  clear k0 k1 k2 k3 k4 k5
                  go_wp2_with (first
                    | (refine gate_ (.alloc 32) rfl ?_; refine wpList_alloc_agg rfl 32 rfl Z32 zero32 ?_; intro W2 hB hbw; have HBX := Lib.hid (And.intro hB hbw); clear hB hbw)
                    | (refine gate_ (.store 32 (.tmp 10) (.tmp 50)) rfl ?_; refine wpList_store_boxed rfl 32 (.tmp 10) (.tmp 50) rfl wr W2 Z32 [.int .i64 kd, .int .i64 al, .int .i64 an, .int .i64 asz, .int .u8 afl, .slice B akept.length cB] rfl rfl HBX.out.1 rfl size32 (by simp [Value.oneCell']) HBX.out.2 ?_; intro W5 h5 hb5; have y0 : W5.cell? ⟨wr.heap.size, 0, none⟩ = some (.int .i64 kd) := (by rw [blk_cell h5]; rfl); have y1 : W5.cell? ⟨wr.heap.size, 1, none⟩ = some (.int .i64 al) := (by rw [blk_cell h5]; rfl); have y3 : W5.cell? ⟨wr.heap.size, 3, none⟩ = some (.int .i64 asz) := (by rw [blk_cell h5]; rfl); have y4 : W5.cell? ⟨wr.heap.size, 4, none⟩ = some (.int .u8 afl) := (by rw [blk_cell h5]; rfl); have y5 : W5.cell? ⟨wr.heap.size, 5, none⟩ = some (.slice B akept.length cB) := (by rw [blk_cell h5]; rfl); have X1 := Lib.hid (show W5.cell? ⟨wr.heap.size, 1, none⟩ = some (.int .i64 al) from by rw [blk_cell h5]; rfl); have X2 := Lib.hid (show W5.cell? ⟨wr.heap.size, 2, none⟩ = some (.int .i64 an) from by rw [blk_cell h5]; rfl); have X3 := Lib.hid (show W5.cell? ⟨wr.heap.size, 3, none⟩ = some (.int .i64 asz) from by rw [blk_cell h5]; rfl); have X4 := Lib.hid (show W5.cell? ⟨wr.heap.size, 4, none⟩ = some (.int .u8 afl) from by rw [blk_cell h5]; rfl); have X5 := Lib.hid (show W5.cell? ⟨wr.heap.size, 5, none⟩ = some (.slice B akept.length cB) from by rw [blk_cell h5]; rfl); have HP := Lib.hid (HP0.out.below hb5); have HKC := Lib.hid (Kd.C_below HKC0.out hb5); have HSZ5 := Lib.hid hb5.size; clear h5 hb5 HBX x0 x1 x2 x3 x4 x5 HP0 HKC0))
                  clear y0 y1 y3 y4 y5
                  clear X1 X2 X3 X4 X5 HKC
                  refine (lsame_calls HP.out.a.arr HP.out.refE).mono ?_
                  rintro _ W9 ⟨rfl, hb9⟩
                  have HP9 := Lib.hid (HP.out.below hb9)
                  clear HP hb9
                  go_wp2_with (fail)
                  go_roundw
                  case rel => exact ⟨k + 1, ab, lb, rb, _, rfl, rfl, rfl, by omega, HLEN2, _, _, _, HP9.out⟩
                  case measure => simp [intOf]; omega
    · by_cases hk0 : k < acts.length
      · have hk2 : ¬ (k < 40) := fun h => hlt ⟨hk0, h⟩
        clear hlt
        go_wp2_with (fail)
        refine (awake_calls _).mono ?_
        rintro _ W9 ⟨rfl, hb9⟩
        have HX := Lib.hid (bthen HP0.out.a.bl hb9)
        clear hb9
        go_wp2_with (fail)
        go_ret
        exact ⟨rfl, HX.out⟩
      · clear hlt
        go_wp2_with (fail)
        refine (awake_calls _).mono ?_
        rintro _ W9 ⟨rfl, hb9⟩
        have HX := Lib.hid (bthen HP0.out.a.bl hb9)
        clear hb9
        go_wp2_with (fail)
        go_ret
        exact ⟨rfl, HX.out⟩
end Go.Proofs.Ytbojokjommmebaa.MoPlays
