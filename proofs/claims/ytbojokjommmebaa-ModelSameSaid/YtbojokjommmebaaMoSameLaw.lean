/- ModelSame. -/
import Derived.Test.YtbojokjommmebaaMoJoin
namespace Go.Proofs.Ytbojokjommmebaa.MoSameLaw
set_option linter.unusedSimpArgs false
set_option linter.unusedVariables false
open Go.RowKit Go.Proofs.YtbojokjommmebaaW.PrintWords Go.Proofs.YtbojokjommmebaaW.PrintLast Go.Proofs.YtbojokjommmebaaW.PrintMore Go.Proofs.Ytbojokjommmebaa.PModelPlays Go.Proofs.Ytbojokjommmebaa.MoMem Go.Proofs.Ytbojokjommmebaa.MoGo Go.Proofs.Ytbojokjommmebaa.MoNow Go.Proofs.Ytbojokjommmebaa.MoRead Go.Proofs.Ytbojokjommmebaa.MoPut Go.Proofs.Ytbojokjommmebaa.MoWrite Go.Proofs.Ytbojokjommmebaa.MoLoose Go.Proofs.Ytbojokjommmebaa.MoNew Go.Proofs.Ytbojokjommmebaa.MoCrash Go.Proofs.Ytbojokjommmebaa.MoSame Go.Proofs.Ytbojokjommmebaa.MoCmp Go.Proofs.Ytbojokjommmebaa.MoFill Go.Proofs.Ytbojokjommmebaa.MoReg Go.Proofs.Ytbojokjommmebaa.MoAwake Go.Proofs.Ytbojokjommmebaa.MoActs Go.Proofs.Ytbojokjommmebaa.MoPure Go.Proofs.Ytbojokjommmebaa.MoKeeps Go.Proofs.Ytbojokjommmebaa.MoRefMem Go.Proofs.Ytbojokjommmebaa.MoRefPut Go.Proofs.Ytbojokjommmebaa.MoRefWrite Go.Proofs.Ytbojokjommmebaa.MoRefTrim Go.Proofs.Ytbojokjommmebaa.MoRefRows Go.Proofs.Ytbojokjommmebaa.MoRefNew Go.Proofs.Ytbojokjommmebaa.MoRefSame Go.Proofs.Ytbojokjommmebaa.MoJoin
theorem eqL_ne {xs ys : List Bk} (h : xs.length ≠ ys.length) : eqL xs ys = false := by
  unfold eqL; rw [decide_eq_false h]; rfl
set_option maxRecDepth 100000 in
set_option maxHeartbeats 16000000 in
theorem msame_calls (w : World) (m : Nat) (hm : m < 256) (A : Option Addr) (c : Nat) (xs : List S32) (ha : Kd.C k32 w A xs.length xs) (hc : xs.length ≤ c) (hfl : ∀ i, i < xs.length → byte (rdA xs i).fl)
    (B : Option Addr) (d : Nat) (ys : List S32) (ha2 : Kd.C k32 w B ys.length ys) (hd : ys.length ≤ d) (hfl2 : ∀ i, i < ys.length → byte (rdA ys i).fl) :
    Calls Try.prog 3 #[.int .u8 (m : Int), .slice A xs.length c, .slice B ys.length d] w (AwPost w) := by
  obtain ⟨n, hn⟩ : ∃ n, n = m % 8 := ⟨_, rfl⟩
  have hn2 : n ≤ 8 := by omega
  have HA := Lib.hid ha
  have HA2 := Lib.hid ha2
  have HFL := Lib.hid hfl
  have HFL2 := Lib.hid hfl2
  have hmx := Kd.C_max ha
  have hmx2 := Kd.C_max ha2
  have hne : (m : Int) % 8 = (n : Int) := by omega
  have HE := Lib.hid hne
  clear ha hfl ha2 hfl2 hn hne
  go_enter Try.func3, Try.ntmps3
  go_wp2_with (fail)
  rw [HE.out]
  refine (new_calls n (by omega) w).mono ?_
  rintro _ W1 ⟨ab, lb, rfl, ha, h2, h3, hb⟩
  have H1 := Lib.hid (show Ar w W1 ab lb (List.replicate n zb) from ⟨ha, h3, h2, hb⟩)
  clear ha h2 h3 hb HE
  go_wp2_with (fail)
  refine (new_calls n (by omega) W1).mono ?_
  rintro _ W2 ⟨bb, mb, rfl, ha, h2, h3, hb⟩
  have H2 := Lib.hid (show Ar w W2 bb mb (List.replicate n zb) from ⟨ha, Nat.le_trans H1.out.bl.size h3, Nat.le_trans H1.out.bl.size h2, bthen H1.out.bl hb⟩)
  have H1b := Lib.hid (H1.out.below hb)
  have HNE := Lib.hid (show lb ≠ bb ∧ lb ≠ mb ∧ mb ≠ ab from by have := H1.out.arr.lb_lt; have := H1.out.arr.ab_lt; omega)
  clear ha h2 h3 hb H1
  go_wp2_with (fail)
  refine (new_ref (by omega) (Zof ab lb bb mb) (by rintro k (rfl | rfl | rfl | rfl); exact H1b.out.arr.ab_lt; exact H1b.out.arr.lb_lt; exact H2.out.arr.ab_lt; exact H2.out.arr.lb_lt)).mono ?_
  rintro _ W3 ⟨⟨ra, rfl, hr⟩, hb⟩
  obtain ⟨v0, v1, v2, hr⟩ := hr
  have HR := Lib.hid hr
  have H1c := Lib.hid (H1b.out.below hb)
  have H2c := Lib.hid (H2.out.below hb)
  have HS2 := Lib.hid (show w.heap.size ≤ W2.heap.size from H2.out.bl.size)
  clear hr hb H1b H2
  go_wp2_with (fail)
  refine (new_ref (by omega) (fun k => Zof ab lb bb mb k ∨ Own ra v0 v1 v2 k) (by
    rintro k (hk | hk)
    · rcases hk with rfl | rfl | rfl | rfl
      · exact H1c.out.arr.ab_lt
      · exact H1c.out.arr.lb_lt
      · exact H2c.out.arr.ab_lt
      · exact H2c.out.arr.lb_lt
    · exact RefAt.own_lt HR.out hk)).mono ?_
  rintro _ W4 ⟨⟨rb, rfl, hr⟩, hb⟩
  obtain ⟨u0, u1, u2, hr⟩ := hr
  have HJ0 := Lib.hid (show J w W4 ab lb bb mb ra rb (List.replicate n zb) (List.replicate n zb) (List.replicate n zb) (List.replicate n zb) from
    ⟨H1c.out.below hb, H2c.out.below hb, HNE.out.1, HNE.out.2.1, HNE.out.2.2, v0, v1, v2, u0, u1, u2, RefAt.lower (RefAt.below HR.out hb) HS2.out, RefAt.lower (RefAt.reZ hr (fun k hk hz => RefAt.ap hr k hk (.inl hz))) H2c.out.bl.size, fun k hk hk2 => RefAt.ap hr k hk2 (.inr hk)⟩)
  clear hr hb HR H1c H2c HNE HS2
  obtain ⟨y, hy⟩ : ∃ y, y = List.replicate n zb := ⟨_, rfl⟩
  have HY0 := Lib.hid (show y.length = n from by rw [hy]; simp)
  rw [← hy] at HJ0
  clear hy
  go_wp2_with (fail)
  go_loopw [14] (fun v14 wr => ∃ (k : Nat) (x : List Bk), v14 = .int .i64 (k : Int) ∧ k ≤ xs.length ∧ Hid (x.length = n) ∧ Hid (J w wr ab lb bb mb ra rb x x y y)) (fun v14 _ => ((xs.length : Int) - intOf v14).toNat)
  case atStart => exact ⟨0, y, rfl, by omega, HY0, HJ0⟩
  case round =>
    clear HJ0
    obtain ⟨k, x, rfl, hk, HLEN, HJ⟩ := hrel
    by_cases hlt : k < xs.length ∧ k < 20
    · obtain ⟨hk1, hk2⟩ := hlt
      obtain ⟨ad, B0, cB, rfl, x0, x1, x2, x3, x4, x5, x6, x7⟩ := at_act HA.out k hk1
      have hby := HFL.out k hk1
      clear x0 x2 x3 x5 x6 x7
      generalize rdA xs k = a at *
      obtain ⟨kd, al, an, asz, afl, akept⟩ := a
      simp only at x1 x4 hby
      have X1 := Lib.hid x1
      have X4 := Lib.hid x4
      have HBY := Lib.hid hby
      clear x1 x4 hby
      by_cases hin : 0 ≤ al ∧ al < (n : Int)
      · obtain ⟨j, rfl⟩ := Int.eq_ofNat_of_zero_le hin.1
        have hj : j < n := by omega
        clear hin
        go_wp2_with (fail)
        refine wp_region_held (S := fun w' => Below w.heap.size w w') (by kernel_rfl) ?_
        have JJ : J w { wr with drawn := wr.drawn + 1 } ab lb bb mb ra rb x x y y := HJ.out.below ((Below.refl _ _).drew)
        have SS : Below w.heap.size w { wr with drawn := wr.drawn + 1 } := JJ.a.bl
        clear HJ
        refine take 0 51 (.pointer (some ⟨ab, 0, none⟩)) (by kernel_rfl) (by kernel_rfl) (by kernel_rfl) (by kernel_rfl) (by kernel_rfl) (fun _ _ _ h => h) (by kernel_rfl) (fun _ _ => by kernel_rfl) SS ?_
        refine take 1 52 (.slice (some ad) xs.length c) (by kernel_rfl) (by kernel_rfl) (by kernel_rfl) (by kernel_rfl) (by kernel_rfl) (fun _ _ _ h => h) (by kernel_rfl) (fun _ _ => by kernel_rfl) SS ?_
        refine take 2 53 (.int .i64 (k : Int)) (by kernel_rfl) (by kernel_rfl) (by kernel_rfl) (by kernel_rfl) (by kernel_rfl) (fun _ _ _ h => h) (by kernel_rfl) (fun _ _ => by kernel_rfl) SS ?_
        refine take 3 54 (.pointer (some (ad.add (k * 6)))) (by kernel_rfl) (by kernel_rfl) (by kernel_rfl) (by kernel_rfl) (by kernel_rfl) (fun _ _ _ h => h) (by kernel_rfl) (fun w' hS => exec_act (.tmp 52) (.tmp 53) ad xs.length c k (by kernel_rfl) (by kernel_rfl) (by kernel_rfl) hk1) SS ?_
        refine take 4 55 (.pointer (some ⟨(ad.add (k * 6)).block, (ad.add (k * 6)).off + 1, none⟩)) (by kernel_rfl) (by kernel_rfl) (by kernel_rfl) (by kernel_rfl) (by kernel_rfl) (fun _ _ _ h => h) (by kernel_rfl) (fun _ _ => by kernel_rfl) SS ?_
        refine take 5 56 (.int .i64 (j : Int)) (by kernel_rfl) (by kernel_rfl) (by kernel_rfl) (by kernel_rfl) (by kernel_rfl) (fun _ _ _ h => h) (by kernel_rfl) (fun w' hS => exec_load3 (.tmp 55) ⟨(ad.add (k * 6)).block, (ad.add (k * 6)).off + 1, none⟩ (j : Int) (by kernel_rfl) (by kernel_rfl) ((hS.cell (cell_lt X1.out)).trans X1.out)) SS ?_
        refine take 6 57 (.slice (some ad) xs.length c) (by kernel_rfl) (by kernel_rfl) (by kernel_rfl) (by kernel_rfl) (by kernel_rfl) (fun _ _ _ h => h) (by kernel_rfl) (fun _ _ => by kernel_rfl) SS ?_
        refine take 7 58 (.int .i64 (k : Int)) (by kernel_rfl) (by kernel_rfl) (by kernel_rfl) (by kernel_rfl) (by kernel_rfl) (fun _ _ _ h => h) (by kernel_rfl) (fun _ _ => by kernel_rfl) SS ?_
        refine take 8 59 (.pointer (some (ad.add (k * 6)))) (by kernel_rfl) (by kernel_rfl) (by kernel_rfl) (by kernel_rfl) (by kernel_rfl) (fun _ _ _ h => h) (by kernel_rfl) (fun w' hS => exec_act (.tmp 57) (.tmp 58) ad xs.length c k (by kernel_rfl) (by kernel_rfl) (by kernel_rfl) hk1) SS ?_
        refine take 9 60 (.pointer (some ⟨(ad.add (k * 6)).block, (ad.add (k * 6)).off + 4, none⟩)) (by kernel_rfl) (by kernel_rfl) (by kernel_rfl) (by kernel_rfl) (by kernel_rfl) (fun _ _ _ h => h) (by kernel_rfl) (fun _ _ => by kernel_rfl) SS ?_
        refine take 10 61 (.int .u8 afl) (by kernel_rfl) (by kernel_rfl) (by kernel_rfl) (by kernel_rfl) (by kernel_rfl) (fun _ _ _ h => h) (by kernel_rfl) (fun w' hS => exec_load5 (.tmp 60) ⟨(ad.add (k * 6)).block, (ad.add (k * 6)).off + 4, none⟩ afl (by kernel_rfl) (by kernel_rfl) ((hS.cell (cell_lt X4.out)).trans X4.out)) SS ?_
        try simp only [Act.put, List.setIfInBounds_toArray, List.set_cons_zero, List.set_cons_succ]
        refine any_call 11 62 10 #[.int .u8 afl, .int .i64 0] (by kernel_rfl) (by kernel_rfl) (by kernel_rfl) (by kernel_rfl) (by kernel_rfl) ?_
        refine (fill_calls afl 0 _).mono ?_
        rintro _ W6 ⟨v6, rfl, hr6, hb6⟩
        have hl6 := JJ.a.arr.lb_lt
        have hm6 := JJ.b.arr.lb_lt
        replace JJ := JJ.below hb6
        replace SS := JJ.a.bl
        have HR6 := Lib.hid hr6
        clear hr6 hb6
        refine ⟨_, rfl, SS, ?_⟩
        try simp only [Act.put, List.setIfInBounds_toArray, List.set_cons_zero, List.set_cons_succ]
        try simp only [Act.put, List.setIfInBounds_toArray, List.set_cons_zero, List.set_cons_succ]
        refine any_call 12 63 9 #[.pointer (some ⟨ab, 0, none⟩), .int .i64 (j : Int), v6] (by kernel_rfl) (by kernel_rfl) (by kernel_rfl) (by kernel_rfl) (by kernel_rfl) ?_
        refine (j_write JJ j (by rw [HLEN.out]; exact hj) (fillL afl 0) (fill_sec afl HBY.out) HR6.out hl6).mono ?_
        rintro _ W7 ⟨rfl, h7⟩
        replace JJ := h7
        replace SS := JJ.a.bl
        clear h7 HR6 hl6 hm6
        refine ⟨_, rfl, SS, ?_⟩
        try simp only [Act.put, List.setIfInBounds_toArray, List.set_cons_zero, List.set_cons_succ]
        try simp only [Act.put, List.setIfInBounds_toArray, List.set_cons_zero, List.set_cons_succ]
        refine wpAnyH_done (by kernel_rfl) ?_ _
        have HJ := Lib.hid JJ
        clear JJ SS
        go_wp2_with (fail)
        refine wp_region_held (S := fun w' => Below w.heap.size w w') (by kernel_rfl) ?_
        have JJ : J w { W7 with drawn := W7.drawn + 1 } ab lb bb mb ra rb (putL x j (fillL afl 0) 1) x y y := HJ.out.below ((Below.refl _ _).drew)
        have SS : Below w.heap.size w { W7 with drawn := W7.drawn + 1 } := JJ.a.bl
        clear HJ
        refine take 0 64 (.pointer (some ⟨ra, 0, none⟩)) (by kernel_rfl) (by kernel_rfl) (by kernel_rfl) (by kernel_rfl) (by kernel_rfl) (fun _ _ _ h => h) (by kernel_rfl) (fun _ _ => by kernel_rfl) SS ?_
        refine take 1 65 (.slice (some ad) xs.length c) (by kernel_rfl) (by kernel_rfl) (by kernel_rfl) (by kernel_rfl) (by kernel_rfl) (fun _ _ _ h => h) (by kernel_rfl) (fun _ _ => by kernel_rfl) SS ?_
        refine take 2 66 (.int .i64 (k : Int)) (by kernel_rfl) (by kernel_rfl) (by kernel_rfl) (by kernel_rfl) (by kernel_rfl) (fun _ _ _ h => h) (by kernel_rfl) (fun _ _ => by kernel_rfl) SS ?_
        refine take 3 67 (.pointer (some (ad.add (k * 6)))) (by kernel_rfl) (by kernel_rfl) (by kernel_rfl) (by kernel_rfl) (by kernel_rfl) (fun _ _ _ h => h) (by kernel_rfl) (fun w' hS => exec_act (.tmp 65) (.tmp 66) ad xs.length c k (by kernel_rfl) (by kernel_rfl) (by kernel_rfl) hk1) SS ?_
        refine take 4 68 (.pointer (some ⟨(ad.add (k * 6)).block, (ad.add (k * 6)).off + 1, none⟩)) (by kernel_rfl) (by kernel_rfl) (by kernel_rfl) (by kernel_rfl) (by kernel_rfl) (fun _ _ _ h => h) (by kernel_rfl) (fun _ _ => by kernel_rfl) SS ?_
        refine take 5 69 (.int .i64 (j : Int)) (by kernel_rfl) (by kernel_rfl) (by kernel_rfl) (by kernel_rfl) (by kernel_rfl) (fun _ _ _ h => h) (by kernel_rfl) (fun w' hS => exec_load3 (.tmp 68) ⟨(ad.add (k * 6)).block, (ad.add (k * 6)).off + 1, none⟩ (j : Int) (by kernel_rfl) (by kernel_rfl) ((hS.cell (cell_lt X1.out)).trans X1.out)) SS ?_
        refine take 6 70 (.slice (some ad) xs.length c) (by kernel_rfl) (by kernel_rfl) (by kernel_rfl) (by kernel_rfl) (by kernel_rfl) (fun _ _ _ h => h) (by kernel_rfl) (fun _ _ => by kernel_rfl) SS ?_
        refine take 7 71 (.int .i64 (k : Int)) (by kernel_rfl) (by kernel_rfl) (by kernel_rfl) (by kernel_rfl) (by kernel_rfl) (fun _ _ _ h => h) (by kernel_rfl) (fun _ _ => by kernel_rfl) SS ?_
        refine take 8 72 (.pointer (some (ad.add (k * 6)))) (by kernel_rfl) (by kernel_rfl) (by kernel_rfl) (by kernel_rfl) (by kernel_rfl) (fun _ _ _ h => h) (by kernel_rfl) (fun w' hS => exec_act (.tmp 70) (.tmp 71) ad xs.length c k (by kernel_rfl) (by kernel_rfl) (by kernel_rfl) hk1) SS ?_
        refine take 9 73 (.pointer (some ⟨(ad.add (k * 6)).block, (ad.add (k * 6)).off + 4, none⟩)) (by kernel_rfl) (by kernel_rfl) (by kernel_rfl) (by kernel_rfl) (by kernel_rfl) (fun _ _ _ h => h) (by kernel_rfl) (fun _ _ => by kernel_rfl) SS ?_
        refine take 10 74 (.int .u8 afl) (by kernel_rfl) (by kernel_rfl) (by kernel_rfl) (by kernel_rfl) (by kernel_rfl) (fun _ _ _ h => h) (by kernel_rfl) (fun w' hS => exec_load5 (.tmp 73) ⟨(ad.add (k * 6)).block, (ad.add (k * 6)).off + 4, none⟩ afl (by kernel_rfl) (by kernel_rfl) ((hS.cell (cell_lt X4.out)).trans X4.out)) SS ?_
        try simp only [Act.put, List.setIfInBounds_toArray, List.set_cons_zero, List.set_cons_succ]
        refine any_call 11 75 10 #[.int .u8 afl, .int .i64 0] (by kernel_rfl) (by kernel_rfl) (by kernel_rfl) (by kernel_rfl) (by kernel_rfl) ?_
        refine (fill_calls afl 0 _).mono ?_
        rintro _ W6 ⟨v6, rfl, hr6, hb6⟩
        have hl6 := JJ.a.arr.lb_lt
        have hm6 := JJ.b.arr.lb_lt
        replace JJ := JJ.below hb6
        replace SS := JJ.a.bl
        have HR6 := Lib.hid hr6
        obtain ⟨A6, c6, rfl, hl6', hc6⟩ := Kd.R_reads hr6
        have e6 := conv_bytes (c := c6) hc6
        clear hr6 hb6 hc6 hl6' hl6 hm6 HR6
        refine ⟨_, rfl, SS, ?_⟩
        try simp only [Act.put, List.setIfInBounds_toArray, List.set_cons_zero, List.set_cons_succ]
        try simp only [Act.put, List.setIfInBounds_toArray, List.set_cons_zero, List.set_cons_succ]
        refine any_step 12 76 (.string (strOfNums (fillL afl 0))) (by kernel_rfl) (by kernel_rfl) (by kernel_rfl) (by kernel_rfl) (exec_convert 33 9 (.tmp 75) (.slice A6 (fillL afl 0).length c6) (by kernel_rfl) (by kernel_rfl) e6) (SS) ?_
        try simp only [Act.put, List.setIfInBounds_toArray, List.set_cons_zero, List.set_cons_succ]
        try simp only [Act.put, List.setIfInBounds_toArray, List.set_cons_zero, List.set_cons_succ]
        refine any_call 13 77 11 #[.pointer (some ⟨ra, 0, none⟩), .int .i64 (j : Int), .string (strOfNums (fillL afl 0))] (by kernel_rfl) (by kernel_rfl) (by kernel_rfl) (by kernel_rfl) (by kernel_rfl) ?_
        refine (j_ref_write JJ j (by rw [HLEN.out]; exact hj) (fillL afl 0) (fill_sec afl HBY.out).len).mono ?_
        rintro _ W8 ⟨rfl, h8⟩
        replace JJ := h8
        replace SS := JJ.a.bl
        clear h8 e6
        refine ⟨_, rfl, SS, ?_⟩
        try simp only [Act.put, List.setIfInBounds_toArray, List.set_cons_zero, List.set_cons_succ]
        try simp only [Act.put, List.setIfInBounds_toArray, List.set_cons_zero, List.set_cons_succ]
        refine wpAnyH_done (by kernel_rfl) ?_ _
        have HJ := Lib.hid JJ
        clear JJ SS
        go_wp2_with (fail)
        go_roundw
        case rel => exact ⟨k + 1, putL x j (fillL afl 0) 1, rfl, by omega, Lib.hid ((putL_len _ _ _ _).trans HLEN.out), HJ⟩
        case measure => simp [intOf]; omega
      · have HOUT := Lib.hid hin
        clear hin
        go_wp2_with (fail)
        refine wp_region_held (S := fun w' => Below w.heap.size w w') (by kernel_rfl) ?_
        have JJ : J w { wr with drawn := wr.drawn + 1 } ab lb bb mb ra rb x x y y := HJ.out.below ((Below.refl _ _).drew)
        have SS : Below w.heap.size w { wr with drawn := wr.drawn + 1 } := JJ.a.bl
        clear HJ
        refine take 0 51 (.pointer (some ⟨ab, 0, none⟩)) (by kernel_rfl) (by kernel_rfl) (by kernel_rfl) (by kernel_rfl) (by kernel_rfl) (fun _ _ _ h => h) (by kernel_rfl) (fun _ _ => by kernel_rfl) SS ?_
        refine take 1 52 (.slice (some ad) xs.length c) (by kernel_rfl) (by kernel_rfl) (by kernel_rfl) (by kernel_rfl) (by kernel_rfl) (fun _ _ _ h => h) (by kernel_rfl) (fun _ _ => by kernel_rfl) SS ?_
        refine take 2 53 (.int .i64 (k : Int)) (by kernel_rfl) (by kernel_rfl) (by kernel_rfl) (by kernel_rfl) (by kernel_rfl) (fun _ _ _ h => h) (by kernel_rfl) (fun _ _ => by kernel_rfl) SS ?_
        refine take 3 54 (.pointer (some (ad.add (k * 6)))) (by kernel_rfl) (by kernel_rfl) (by kernel_rfl) (by kernel_rfl) (by kernel_rfl) (fun _ _ _ h => h) (by kernel_rfl) (fun w' hS => exec_act (.tmp 52) (.tmp 53) ad xs.length c k (by kernel_rfl) (by kernel_rfl) (by kernel_rfl) hk1) SS ?_
        refine take 4 55 (.pointer (some ⟨(ad.add (k * 6)).block, (ad.add (k * 6)).off + 1, none⟩)) (by kernel_rfl) (by kernel_rfl) (by kernel_rfl) (by kernel_rfl) (by kernel_rfl) (fun _ _ _ h => h) (by kernel_rfl) (fun _ _ => by kernel_rfl) SS ?_
        refine take 5 56 (.int .i64 al) (by kernel_rfl) (by kernel_rfl) (by kernel_rfl) (by kernel_rfl) (by kernel_rfl) (fun _ _ _ h => h) (by kernel_rfl) (fun w' hS => exec_load3 (.tmp 55) ⟨(ad.add (k * 6)).block, (ad.add (k * 6)).off + 1, none⟩ al (by kernel_rfl) (by kernel_rfl) ((hS.cell (cell_lt X1.out)).trans X1.out)) SS ?_
        refine take 6 57 (.slice (some ad) xs.length c) (by kernel_rfl) (by kernel_rfl) (by kernel_rfl) (by kernel_rfl) (by kernel_rfl) (fun _ _ _ h => h) (by kernel_rfl) (fun _ _ => by kernel_rfl) SS ?_
        refine take 7 58 (.int .i64 (k : Int)) (by kernel_rfl) (by kernel_rfl) (by kernel_rfl) (by kernel_rfl) (by kernel_rfl) (fun _ _ _ h => h) (by kernel_rfl) (fun _ _ => by kernel_rfl) SS ?_
        refine take 8 59 (.pointer (some (ad.add (k * 6)))) (by kernel_rfl) (by kernel_rfl) (by kernel_rfl) (by kernel_rfl) (by kernel_rfl) (fun _ _ _ h => h) (by kernel_rfl) (fun w' hS => exec_act (.tmp 57) (.tmp 58) ad xs.length c k (by kernel_rfl) (by kernel_rfl) (by kernel_rfl) hk1) SS ?_
        refine take 9 60 (.pointer (some ⟨(ad.add (k * 6)).block, (ad.add (k * 6)).off + 4, none⟩)) (by kernel_rfl) (by kernel_rfl) (by kernel_rfl) (by kernel_rfl) (by kernel_rfl) (fun _ _ _ h => h) (by kernel_rfl) (fun _ _ => by kernel_rfl) SS ?_
        refine take 10 61 (.int .u8 afl) (by kernel_rfl) (by kernel_rfl) (by kernel_rfl) (by kernel_rfl) (by kernel_rfl) (fun _ _ _ h => h) (by kernel_rfl) (fun w' hS => exec_load5 (.tmp 60) ⟨(ad.add (k * 6)).block, (ad.add (k * 6)).off + 4, none⟩ afl (by kernel_rfl) (by kernel_rfl) ((hS.cell (cell_lt X4.out)).trans X4.out)) SS ?_
        try simp only [Act.put, List.setIfInBounds_toArray, List.set_cons_zero, List.set_cons_succ]
        refine any_call 11 62 10 #[.int .u8 afl, .int .i64 0] (by kernel_rfl) (by kernel_rfl) (by kernel_rfl) (by kernel_rfl) (by kernel_rfl) ?_
        refine (fill_calls afl 0 _).mono ?_
        rintro _ W6 ⟨v6, rfl, hr6, hb6⟩
        have hl6 := JJ.a.arr.lb_lt
        have hm6 := JJ.b.arr.lb_lt
        replace JJ := JJ.below hb6
        replace SS := JJ.a.bl
        have HR6 := Lib.hid hr6
        clear hr6 hb6
        refine ⟨_, rfl, SS, ?_⟩
        try simp only [Act.put, List.setIfInBounds_toArray, List.set_cons_zero, List.set_cons_succ]
        try simp only [Act.put, List.setIfInBounds_toArray, List.set_cons_zero, List.set_cons_succ]
        refine any_call 12 63 9 #[.pointer (some ⟨ab, 0, none⟩), .int .i64 al, v6] (by kernel_rfl) (by kernel_rfl) (by kernel_rfl) (by kernel_rfl) (by kernel_rfl) ?_
        refine (write_out JJ.a.arr al v6 (by rw [HLEN.out]; exact HOUT.out)).mono ?_
        rintro _ W7 ⟨rfl, hw7⟩
        subst hw7
        clear HR6 hl6 hm6
        refine ⟨_, rfl, SS, ?_⟩
        try simp only [Act.put, List.setIfInBounds_toArray, List.set_cons_zero, List.set_cons_succ]
        try simp only [Act.put, List.setIfInBounds_toArray, List.set_cons_zero, List.set_cons_succ]
        refine wpAnyH_done (by kernel_rfl) ?_ _
        have HJ := Lib.hid JJ
        clear JJ SS
        go_wp2_with (fail)
        refine wp_region_held (S := fun w' => Below w.heap.size w w') (by kernel_rfl) ?_
        have JJ : J w { W7 with drawn := W7.drawn + 1 } ab lb bb mb ra rb x x y y := HJ.out.below ((Below.refl _ _).drew)
        have SS : Below w.heap.size w { W7 with drawn := W7.drawn + 1 } := JJ.a.bl
        clear HJ
        refine take 0 64 (.pointer (some ⟨ra, 0, none⟩)) (by kernel_rfl) (by kernel_rfl) (by kernel_rfl) (by kernel_rfl) (by kernel_rfl) (fun _ _ _ h => h) (by kernel_rfl) (fun _ _ => by kernel_rfl) SS ?_
        refine take 1 65 (.slice (some ad) xs.length c) (by kernel_rfl) (by kernel_rfl) (by kernel_rfl) (by kernel_rfl) (by kernel_rfl) (fun _ _ _ h => h) (by kernel_rfl) (fun _ _ => by kernel_rfl) SS ?_
        refine take 2 66 (.int .i64 (k : Int)) (by kernel_rfl) (by kernel_rfl) (by kernel_rfl) (by kernel_rfl) (by kernel_rfl) (fun _ _ _ h => h) (by kernel_rfl) (fun _ _ => by kernel_rfl) SS ?_
        refine take 3 67 (.pointer (some (ad.add (k * 6)))) (by kernel_rfl) (by kernel_rfl) (by kernel_rfl) (by kernel_rfl) (by kernel_rfl) (fun _ _ _ h => h) (by kernel_rfl) (fun w' hS => exec_act (.tmp 65) (.tmp 66) ad xs.length c k (by kernel_rfl) (by kernel_rfl) (by kernel_rfl) hk1) SS ?_
        refine take 4 68 (.pointer (some ⟨(ad.add (k * 6)).block, (ad.add (k * 6)).off + 1, none⟩)) (by kernel_rfl) (by kernel_rfl) (by kernel_rfl) (by kernel_rfl) (by kernel_rfl) (fun _ _ _ h => h) (by kernel_rfl) (fun _ _ => by kernel_rfl) SS ?_
        refine take 5 69 (.int .i64 al) (by kernel_rfl) (by kernel_rfl) (by kernel_rfl) (by kernel_rfl) (by kernel_rfl) (fun _ _ _ h => h) (by kernel_rfl) (fun w' hS => exec_load3 (.tmp 68) ⟨(ad.add (k * 6)).block, (ad.add (k * 6)).off + 1, none⟩ al (by kernel_rfl) (by kernel_rfl) ((hS.cell (cell_lt X1.out)).trans X1.out)) SS ?_
        refine take 6 70 (.slice (some ad) xs.length c) (by kernel_rfl) (by kernel_rfl) (by kernel_rfl) (by kernel_rfl) (by kernel_rfl) (fun _ _ _ h => h) (by kernel_rfl) (fun _ _ => by kernel_rfl) SS ?_
        refine take 7 71 (.int .i64 (k : Int)) (by kernel_rfl) (by kernel_rfl) (by kernel_rfl) (by kernel_rfl) (by kernel_rfl) (fun _ _ _ h => h) (by kernel_rfl) (fun _ _ => by kernel_rfl) SS ?_
        refine take 8 72 (.pointer (some (ad.add (k * 6)))) (by kernel_rfl) (by kernel_rfl) (by kernel_rfl) (by kernel_rfl) (by kernel_rfl) (fun _ _ _ h => h) (by kernel_rfl) (fun w' hS => exec_act (.tmp 70) (.tmp 71) ad xs.length c k (by kernel_rfl) (by kernel_rfl) (by kernel_rfl) hk1) SS ?_
        refine take 9 73 (.pointer (some ⟨(ad.add (k * 6)).block, (ad.add (k * 6)).off + 4, none⟩)) (by kernel_rfl) (by kernel_rfl) (by kernel_rfl) (by kernel_rfl) (by kernel_rfl) (fun _ _ _ h => h) (by kernel_rfl) (fun _ _ => by kernel_rfl) SS ?_
        refine take 10 74 (.int .u8 afl) (by kernel_rfl) (by kernel_rfl) (by kernel_rfl) (by kernel_rfl) (by kernel_rfl) (fun _ _ _ h => h) (by kernel_rfl) (fun w' hS => exec_load5 (.tmp 73) ⟨(ad.add (k * 6)).block, (ad.add (k * 6)).off + 4, none⟩ afl (by kernel_rfl) (by kernel_rfl) ((hS.cell (cell_lt X4.out)).trans X4.out)) SS ?_
        try simp only [Act.put, List.setIfInBounds_toArray, List.set_cons_zero, List.set_cons_succ]
        refine any_call 11 75 10 #[.int .u8 afl, .int .i64 0] (by kernel_rfl) (by kernel_rfl) (by kernel_rfl) (by kernel_rfl) (by kernel_rfl) ?_
        refine (fill_calls afl 0 _).mono ?_
        rintro _ W6 ⟨v6, rfl, hr6, hb6⟩
        have hl6 := JJ.a.arr.lb_lt
        have hm6 := JJ.b.arr.lb_lt
        replace JJ := JJ.below hb6
        replace SS := JJ.a.bl
        have HR6 := Lib.hid hr6
        obtain ⟨A6, c6, rfl, hl6', hc6⟩ := Kd.R_reads hr6
        have e6 := conv_bytes (c := c6) hc6
        clear hr6 hb6 hc6 hl6' hl6 hm6 HR6
        refine ⟨_, rfl, SS, ?_⟩
        try simp only [Act.put, List.setIfInBounds_toArray, List.set_cons_zero, List.set_cons_succ]
        try simp only [Act.put, List.setIfInBounds_toArray, List.set_cons_zero, List.set_cons_succ]
        refine any_step 12 76 (.string (strOfNums (fillL afl 0))) (by kernel_rfl) (by kernel_rfl) (by kernel_rfl) (by kernel_rfl) (exec_convert 33 9 (.tmp 75) (.slice A6 (fillL afl 0).length c6) (by kernel_rfl) (by kernel_rfl) e6) (SS) ?_
        try simp only [Act.put, List.setIfInBounds_toArray, List.set_cons_zero, List.set_cons_succ]
        try simp only [Act.put, List.setIfInBounds_toArray, List.set_cons_zero, List.set_cons_succ]
        refine any_call 13 77 11 #[.pointer (some ⟨ra, 0, none⟩), .int .i64 al, .string (strOfNums (fillL afl 0))] (by kernel_rfl) (by kernel_rfl) (by kernel_rfl) (by kernel_rfl) (by kernel_rfl) ?_
        refine (j_ref_out JJ al _ (by rw [HLEN.out]; exact HOUT.out)).mono ?_
        rintro _ W8 ⟨rfl, hw8⟩
        subst hw8
        clear e6
        refine ⟨_, rfl, SS, ?_⟩
        try simp only [Act.put, List.setIfInBounds_toArray, List.set_cons_zero, List.set_cons_succ]
        try simp only [Act.put, List.setIfInBounds_toArray, List.set_cons_zero, List.set_cons_succ]
        refine wpAnyH_done (by kernel_rfl) ?_ _
        have HJ := Lib.hid JJ
        clear JJ SS
        go_wp2_with (fail)
        go_roundw
        case rel => exact ⟨k + 1, x, rfl, by omega, Lib.hid (HLEN.out), HJ⟩
        case measure => simp [intOf]; omega
    · by_cases hk0 : k < xs.length
      · have hk2 : ¬ (k < 20) := fun h => hlt ⟨hk0, h⟩
        clear hlt
        go_wp2_with (fail)
        have HX0 := HLEN
        clear HLEN
        go_loopw [15] (fun v15 wr => ∃ (k : Nat) (y : List Bk), v15 = .int .i64 (k : Int) ∧ k ≤ ys.length ∧ Hid (y.length = n) ∧ Hid (J w wr ab lb bb mb ra rb x x y y)) (fun v15 _ => ((ys.length : Int) - intOf v15).toNat)
        case atStart => exact ⟨0, y, rfl, by omega, HY0, HJ⟩
        case round =>
          clear HJ
          obtain ⟨k, y, rfl, hk, HLEN, HJ⟩ := hrel
          by_cases hlt : k < ys.length ∧ k < 20
          · obtain ⟨hk1, hk2⟩ := hlt
            obtain ⟨ad, B0, cB, rfl, x0, x1, x2, x3, x4, x5, x6, x7⟩ := at_act HA2.out k hk1
            have hby := HFL2.out k hk1
            clear x0 x2 x3 x5 x6 x7
            generalize rdA ys k = a at *
            obtain ⟨kd, al, an, asz, afl, akept⟩ := a
            simp only at x1 x4 hby
            have X1 := Lib.hid x1
            have X4 := Lib.hid x4
            have HBY := Lib.hid hby
            clear x1 x4 hby
            by_cases hin : 0 ≤ al ∧ al < (n : Int)
            · obtain ⟨j, rfl⟩ := Int.eq_ofNat_of_zero_le hin.1
              have hj : j < n := by omega
              clear hin
              go_wp2_with (fail)
              refine wp_region_held (S := fun w' => Below w.heap.size w w') (by kernel_rfl) ?_
              have JJ : J w { wr with drawn := wr.drawn + 1 } ab lb bb mb ra rb x x y y := HJ.out.below ((Below.refl _ _).drew)
              have SS : Below w.heap.size w { wr with drawn := wr.drawn + 1 } := JJ.a.bl
              clear HJ
              refine take 0 88 (.pointer (some ⟨bb, 0, none⟩)) (by kernel_rfl) (by kernel_rfl) (by kernel_rfl) (by kernel_rfl) (by kernel_rfl) (fun _ _ _ h => h) (by kernel_rfl) (fun _ _ => by kernel_rfl) SS ?_
              refine take 1 89 (.slice (some ad) ys.length d) (by kernel_rfl) (by kernel_rfl) (by kernel_rfl) (by kernel_rfl) (by kernel_rfl) (fun _ _ _ h => h) (by kernel_rfl) (fun _ _ => by kernel_rfl) SS ?_
              refine take 2 90 (.int .i64 (k : Int)) (by kernel_rfl) (by kernel_rfl) (by kernel_rfl) (by kernel_rfl) (by kernel_rfl) (fun _ _ _ h => h) (by kernel_rfl) (fun _ _ => by kernel_rfl) SS ?_
              refine take 3 91 (.pointer (some (ad.add (k * 6)))) (by kernel_rfl) (by kernel_rfl) (by kernel_rfl) (by kernel_rfl) (by kernel_rfl) (fun _ _ _ h => h) (by kernel_rfl) (fun w' hS => exec_act (.tmp 89) (.tmp 90) ad ys.length d k (by kernel_rfl) (by kernel_rfl) (by kernel_rfl) hk1) SS ?_
              refine take 4 92 (.pointer (some ⟨(ad.add (k * 6)).block, (ad.add (k * 6)).off + 1, none⟩)) (by kernel_rfl) (by kernel_rfl) (by kernel_rfl) (by kernel_rfl) (by kernel_rfl) (fun _ _ _ h => h) (by kernel_rfl) (fun _ _ => by kernel_rfl) SS ?_
              refine take 5 93 (.int .i64 (j : Int)) (by kernel_rfl) (by kernel_rfl) (by kernel_rfl) (by kernel_rfl) (by kernel_rfl) (fun _ _ _ h => h) (by kernel_rfl) (fun w' hS => exec_load3 (.tmp 92) ⟨(ad.add (k * 6)).block, (ad.add (k * 6)).off + 1, none⟩ (j : Int) (by kernel_rfl) (by kernel_rfl) ((hS.cell (cell_lt X1.out)).trans X1.out)) SS ?_
              refine take 6 94 (.slice (some ad) ys.length d) (by kernel_rfl) (by kernel_rfl) (by kernel_rfl) (by kernel_rfl) (by kernel_rfl) (fun _ _ _ h => h) (by kernel_rfl) (fun _ _ => by kernel_rfl) SS ?_
              refine take 7 95 (.int .i64 (k : Int)) (by kernel_rfl) (by kernel_rfl) (by kernel_rfl) (by kernel_rfl) (by kernel_rfl) (fun _ _ _ h => h) (by kernel_rfl) (fun _ _ => by kernel_rfl) SS ?_
              refine take 8 96 (.pointer (some (ad.add (k * 6)))) (by kernel_rfl) (by kernel_rfl) (by kernel_rfl) (by kernel_rfl) (by kernel_rfl) (fun _ _ _ h => h) (by kernel_rfl) (fun w' hS => exec_act (.tmp 94) (.tmp 95) ad ys.length d k (by kernel_rfl) (by kernel_rfl) (by kernel_rfl) hk1) SS ?_
              refine take 9 97 (.pointer (some ⟨(ad.add (k * 6)).block, (ad.add (k * 6)).off + 4, none⟩)) (by kernel_rfl) (by kernel_rfl) (by kernel_rfl) (by kernel_rfl) (by kernel_rfl) (fun _ _ _ h => h) (by kernel_rfl) (fun _ _ => by kernel_rfl) SS ?_
              refine take 10 98 (.int .u8 afl) (by kernel_rfl) (by kernel_rfl) (by kernel_rfl) (by kernel_rfl) (by kernel_rfl) (fun _ _ _ h => h) (by kernel_rfl) (fun w' hS => exec_load5 (.tmp 97) ⟨(ad.add (k * 6)).block, (ad.add (k * 6)).off + 4, none⟩ afl (by kernel_rfl) (by kernel_rfl) ((hS.cell (cell_lt X4.out)).trans X4.out)) SS ?_
              try simp only [Act.put, List.setIfInBounds_toArray, List.set_cons_zero, List.set_cons_succ]
              refine any_call 11 99 10 #[.int .u8 afl, .int .i64 0] (by kernel_rfl) (by kernel_rfl) (by kernel_rfl) (by kernel_rfl) (by kernel_rfl) ?_
              refine (fill_calls afl 0 _).mono ?_
              rintro _ W6 ⟨v6, rfl, hr6, hb6⟩
              have hl6 := JJ.a.arr.lb_lt
              have hm6 := JJ.b.arr.lb_lt
              replace JJ := JJ.below hb6
              replace SS := JJ.a.bl
              have HR6 := Lib.hid hr6
              clear hr6 hb6
              refine ⟨_, rfl, SS, ?_⟩
              try simp only [Act.put, List.setIfInBounds_toArray, List.set_cons_zero, List.set_cons_succ]
              try simp only [Act.put, List.setIfInBounds_toArray, List.set_cons_zero, List.set_cons_succ]
              refine any_call 12 100 9 #[.pointer (some ⟨bb, 0, none⟩), .int .i64 (j : Int), v6] (by kernel_rfl) (by kernel_rfl) (by kernel_rfl) (by kernel_rfl) (by kernel_rfl) ?_
              refine (j_write JJ.swap j (by rw [HLEN.out]; exact hj) (fillL afl 0) (fill_sec afl HBY.out) HR6.out hm6).mono ?_
              rintro _ W7 ⟨rfl, h7⟩
              replace JJ := h7.swap
              replace SS := JJ.a.bl
              clear h7 HR6 hl6 hm6
              refine ⟨_, rfl, SS, ?_⟩
              try simp only [Act.put, List.setIfInBounds_toArray, List.set_cons_zero, List.set_cons_succ]
              try simp only [Act.put, List.setIfInBounds_toArray, List.set_cons_zero, List.set_cons_succ]
              refine wpAnyH_done (by kernel_rfl) ?_ _
              have HJ := Lib.hid JJ
              clear JJ SS
              go_wp2_with (fail)
              refine wp_region_held (S := fun w' => Below w.heap.size w w') (by kernel_rfl) ?_
              have JJ : J w { W7 with drawn := W7.drawn + 1 } ab lb bb mb ra rb x x (putL y j (fillL afl 0) 1) y := HJ.out.below ((Below.refl _ _).drew)
              have SS : Below w.heap.size w { W7 with drawn := W7.drawn + 1 } := JJ.a.bl
              clear HJ
              refine take 0 101 (.pointer (some ⟨rb, 0, none⟩)) (by kernel_rfl) (by kernel_rfl) (by kernel_rfl) (by kernel_rfl) (by kernel_rfl) (fun _ _ _ h => h) (by kernel_rfl) (fun _ _ => by kernel_rfl) SS ?_
              refine take 1 102 (.slice (some ad) ys.length d) (by kernel_rfl) (by kernel_rfl) (by kernel_rfl) (by kernel_rfl) (by kernel_rfl) (fun _ _ _ h => h) (by kernel_rfl) (fun _ _ => by kernel_rfl) SS ?_
              refine take 2 103 (.int .i64 (k : Int)) (by kernel_rfl) (by kernel_rfl) (by kernel_rfl) (by kernel_rfl) (by kernel_rfl) (fun _ _ _ h => h) (by kernel_rfl) (fun _ _ => by kernel_rfl) SS ?_
              refine take 3 104 (.pointer (some (ad.add (k * 6)))) (by kernel_rfl) (by kernel_rfl) (by kernel_rfl) (by kernel_rfl) (by kernel_rfl) (fun _ _ _ h => h) (by kernel_rfl) (fun w' hS => exec_act (.tmp 102) (.tmp 103) ad ys.length d k (by kernel_rfl) (by kernel_rfl) (by kernel_rfl) hk1) SS ?_
              refine take 4 105 (.pointer (some ⟨(ad.add (k * 6)).block, (ad.add (k * 6)).off + 1, none⟩)) (by kernel_rfl) (by kernel_rfl) (by kernel_rfl) (by kernel_rfl) (by kernel_rfl) (fun _ _ _ h => h) (by kernel_rfl) (fun _ _ => by kernel_rfl) SS ?_
              refine take 5 106 (.int .i64 (j : Int)) (by kernel_rfl) (by kernel_rfl) (by kernel_rfl) (by kernel_rfl) (by kernel_rfl) (fun _ _ _ h => h) (by kernel_rfl) (fun w' hS => exec_load3 (.tmp 105) ⟨(ad.add (k * 6)).block, (ad.add (k * 6)).off + 1, none⟩ (j : Int) (by kernel_rfl) (by kernel_rfl) ((hS.cell (cell_lt X1.out)).trans X1.out)) SS ?_
              refine take 6 107 (.slice (some ad) ys.length d) (by kernel_rfl) (by kernel_rfl) (by kernel_rfl) (by kernel_rfl) (by kernel_rfl) (fun _ _ _ h => h) (by kernel_rfl) (fun _ _ => by kernel_rfl) SS ?_
              refine take 7 108 (.int .i64 (k : Int)) (by kernel_rfl) (by kernel_rfl) (by kernel_rfl) (by kernel_rfl) (by kernel_rfl) (fun _ _ _ h => h) (by kernel_rfl) (fun _ _ => by kernel_rfl) SS ?_
              refine take 8 109 (.pointer (some (ad.add (k * 6)))) (by kernel_rfl) (by kernel_rfl) (by kernel_rfl) (by kernel_rfl) (by kernel_rfl) (fun _ _ _ h => h) (by kernel_rfl) (fun w' hS => exec_act (.tmp 107) (.tmp 108) ad ys.length d k (by kernel_rfl) (by kernel_rfl) (by kernel_rfl) hk1) SS ?_
              refine take 9 110 (.pointer (some ⟨(ad.add (k * 6)).block, (ad.add (k * 6)).off + 4, none⟩)) (by kernel_rfl) (by kernel_rfl) (by kernel_rfl) (by kernel_rfl) (by kernel_rfl) (fun _ _ _ h => h) (by kernel_rfl) (fun _ _ => by kernel_rfl) SS ?_
              refine take 10 111 (.int .u8 afl) (by kernel_rfl) (by kernel_rfl) (by kernel_rfl) (by kernel_rfl) (by kernel_rfl) (fun _ _ _ h => h) (by kernel_rfl) (fun w' hS => exec_load5 (.tmp 110) ⟨(ad.add (k * 6)).block, (ad.add (k * 6)).off + 4, none⟩ afl (by kernel_rfl) (by kernel_rfl) ((hS.cell (cell_lt X4.out)).trans X4.out)) SS ?_
              try simp only [Act.put, List.setIfInBounds_toArray, List.set_cons_zero, List.set_cons_succ]
              refine any_call 11 112 10 #[.int .u8 afl, .int .i64 0] (by kernel_rfl) (by kernel_rfl) (by kernel_rfl) (by kernel_rfl) (by kernel_rfl) ?_
              refine (fill_calls afl 0 _).mono ?_
              rintro _ W6 ⟨v6, rfl, hr6, hb6⟩
              have hl6 := JJ.a.arr.lb_lt
              have hm6 := JJ.b.arr.lb_lt
              replace JJ := JJ.below hb6
              replace SS := JJ.a.bl
              have HR6 := Lib.hid hr6
              obtain ⟨A6, c6, rfl, hl6', hc6⟩ := Kd.R_reads hr6
              have e6 := conv_bytes (c := c6) hc6
              clear hr6 hb6 hc6 hl6' hl6 hm6 HR6
              refine ⟨_, rfl, SS, ?_⟩
              try simp only [Act.put, List.setIfInBounds_toArray, List.set_cons_zero, List.set_cons_succ]
              try simp only [Act.put, List.setIfInBounds_toArray, List.set_cons_zero, List.set_cons_succ]
              refine any_step 12 113 (.string (strOfNums (fillL afl 0))) (by kernel_rfl) (by kernel_rfl) (by kernel_rfl) (by kernel_rfl) (exec_convert 33 9 (.tmp 112) (.slice A6 (fillL afl 0).length c6) (by kernel_rfl) (by kernel_rfl) e6) (SS) ?_
              try simp only [Act.put, List.setIfInBounds_toArray, List.set_cons_zero, List.set_cons_succ]
              try simp only [Act.put, List.setIfInBounds_toArray, List.set_cons_zero, List.set_cons_succ]
              refine any_call 13 114 11 #[.pointer (some ⟨rb, 0, none⟩), .int .i64 (j : Int), .string (strOfNums (fillL afl 0))] (by kernel_rfl) (by kernel_rfl) (by kernel_rfl) (by kernel_rfl) (by kernel_rfl) ?_
              refine (j_ref_write JJ.swap j (by rw [HLEN.out]; exact hj) (fillL afl 0) (fill_sec afl HBY.out).len).mono ?_
              rintro _ W8 ⟨rfl, h8⟩
              replace JJ := h8.swap
              replace SS := JJ.a.bl
              clear h8 e6
              refine ⟨_, rfl, SS, ?_⟩
              try simp only [Act.put, List.setIfInBounds_toArray, List.set_cons_zero, List.set_cons_succ]
              try simp only [Act.put, List.setIfInBounds_toArray, List.set_cons_zero, List.set_cons_succ]
              refine wpAnyH_done (by kernel_rfl) ?_ _
              have HJ := Lib.hid JJ
              clear JJ SS
              go_wp2_with (fail)
              go_roundw
              case rel => exact ⟨k + 1, putL y j (fillL afl 0) 1, rfl, by omega, Lib.hid ((putL_len _ _ _ _).trans HLEN.out), HJ⟩
              case measure => simp [intOf]; omega
            · have HOUT := Lib.hid hin
              clear hin
              go_wp2_with (fail)
              refine wp_region_held (S := fun w' => Below w.heap.size w w') (by kernel_rfl) ?_
              have JJ : J w { wr with drawn := wr.drawn + 1 } ab lb bb mb ra rb x x y y := HJ.out.below ((Below.refl _ _).drew)
              have SS : Below w.heap.size w { wr with drawn := wr.drawn + 1 } := JJ.a.bl
              clear HJ
              refine take 0 88 (.pointer (some ⟨bb, 0, none⟩)) (by kernel_rfl) (by kernel_rfl) (by kernel_rfl) (by kernel_rfl) (by kernel_rfl) (fun _ _ _ h => h) (by kernel_rfl) (fun _ _ => by kernel_rfl) SS ?_
              refine take 1 89 (.slice (some ad) ys.length d) (by kernel_rfl) (by kernel_rfl) (by kernel_rfl) (by kernel_rfl) (by kernel_rfl) (fun _ _ _ h => h) (by kernel_rfl) (fun _ _ => by kernel_rfl) SS ?_
              refine take 2 90 (.int .i64 (k : Int)) (by kernel_rfl) (by kernel_rfl) (by kernel_rfl) (by kernel_rfl) (by kernel_rfl) (fun _ _ _ h => h) (by kernel_rfl) (fun _ _ => by kernel_rfl) SS ?_
              refine take 3 91 (.pointer (some (ad.add (k * 6)))) (by kernel_rfl) (by kernel_rfl) (by kernel_rfl) (by kernel_rfl) (by kernel_rfl) (fun _ _ _ h => h) (by kernel_rfl) (fun w' hS => exec_act (.tmp 89) (.tmp 90) ad ys.length d k (by kernel_rfl) (by kernel_rfl) (by kernel_rfl) hk1) SS ?_
              refine take 4 92 (.pointer (some ⟨(ad.add (k * 6)).block, (ad.add (k * 6)).off + 1, none⟩)) (by kernel_rfl) (by kernel_rfl) (by kernel_rfl) (by kernel_rfl) (by kernel_rfl) (fun _ _ _ h => h) (by kernel_rfl) (fun _ _ => by kernel_rfl) SS ?_
              refine take 5 93 (.int .i64 al) (by kernel_rfl) (by kernel_rfl) (by kernel_rfl) (by kernel_rfl) (by kernel_rfl) (fun _ _ _ h => h) (by kernel_rfl) (fun w' hS => exec_load3 (.tmp 92) ⟨(ad.add (k * 6)).block, (ad.add (k * 6)).off + 1, none⟩ al (by kernel_rfl) (by kernel_rfl) ((hS.cell (cell_lt X1.out)).trans X1.out)) SS ?_
              refine take 6 94 (.slice (some ad) ys.length d) (by kernel_rfl) (by kernel_rfl) (by kernel_rfl) (by kernel_rfl) (by kernel_rfl) (fun _ _ _ h => h) (by kernel_rfl) (fun _ _ => by kernel_rfl) SS ?_
              refine take 7 95 (.int .i64 (k : Int)) (by kernel_rfl) (by kernel_rfl) (by kernel_rfl) (by kernel_rfl) (by kernel_rfl) (fun _ _ _ h => h) (by kernel_rfl) (fun _ _ => by kernel_rfl) SS ?_
              refine take 8 96 (.pointer (some (ad.add (k * 6)))) (by kernel_rfl) (by kernel_rfl) (by kernel_rfl) (by kernel_rfl) (by kernel_rfl) (fun _ _ _ h => h) (by kernel_rfl) (fun w' hS => exec_act (.tmp 94) (.tmp 95) ad ys.length d k (by kernel_rfl) (by kernel_rfl) (by kernel_rfl) hk1) SS ?_
              refine take 9 97 (.pointer (some ⟨(ad.add (k * 6)).block, (ad.add (k * 6)).off + 4, none⟩)) (by kernel_rfl) (by kernel_rfl) (by kernel_rfl) (by kernel_rfl) (by kernel_rfl) (fun _ _ _ h => h) (by kernel_rfl) (fun _ _ => by kernel_rfl) SS ?_
              refine take 10 98 (.int .u8 afl) (by kernel_rfl) (by kernel_rfl) (by kernel_rfl) (by kernel_rfl) (by kernel_rfl) (fun _ _ _ h => h) (by kernel_rfl) (fun w' hS => exec_load5 (.tmp 97) ⟨(ad.add (k * 6)).block, (ad.add (k * 6)).off + 4, none⟩ afl (by kernel_rfl) (by kernel_rfl) ((hS.cell (cell_lt X4.out)).trans X4.out)) SS ?_
              try simp only [Act.put, List.setIfInBounds_toArray, List.set_cons_zero, List.set_cons_succ]
              refine any_call 11 99 10 #[.int .u8 afl, .int .i64 0] (by kernel_rfl) (by kernel_rfl) (by kernel_rfl) (by kernel_rfl) (by kernel_rfl) ?_
              refine (fill_calls afl 0 _).mono ?_
              rintro _ W6 ⟨v6, rfl, hr6, hb6⟩
              have hl6 := JJ.a.arr.lb_lt
              have hm6 := JJ.b.arr.lb_lt
              replace JJ := JJ.below hb6
              replace SS := JJ.a.bl
              have HR6 := Lib.hid hr6
              clear hr6 hb6
              refine ⟨_, rfl, SS, ?_⟩
              try simp only [Act.put, List.setIfInBounds_toArray, List.set_cons_zero, List.set_cons_succ]
              try simp only [Act.put, List.setIfInBounds_toArray, List.set_cons_zero, List.set_cons_succ]
              refine any_call 12 100 9 #[.pointer (some ⟨bb, 0, none⟩), .int .i64 al, v6] (by kernel_rfl) (by kernel_rfl) (by kernel_rfl) (by kernel_rfl) (by kernel_rfl) ?_
              refine (write_out JJ.b.arr al v6 (by rw [HLEN.out]; exact HOUT.out)).mono ?_
              rintro _ W7 ⟨rfl, hw7⟩
              subst hw7
              clear HR6 hl6 hm6
              refine ⟨_, rfl, SS, ?_⟩
              try simp only [Act.put, List.setIfInBounds_toArray, List.set_cons_zero, List.set_cons_succ]
              try simp only [Act.put, List.setIfInBounds_toArray, List.set_cons_zero, List.set_cons_succ]
              refine wpAnyH_done (by kernel_rfl) ?_ _
              have HJ := Lib.hid JJ
              clear JJ SS
              go_wp2_with (fail)
              refine wp_region_held (S := fun w' => Below w.heap.size w w') (by kernel_rfl) ?_
              have JJ : J w { W7 with drawn := W7.drawn + 1 } ab lb bb mb ra rb x x y y := HJ.out.below ((Below.refl _ _).drew)
              have SS : Below w.heap.size w { W7 with drawn := W7.drawn + 1 } := JJ.a.bl
              clear HJ
              refine take 0 101 (.pointer (some ⟨rb, 0, none⟩)) (by kernel_rfl) (by kernel_rfl) (by kernel_rfl) (by kernel_rfl) (by kernel_rfl) (fun _ _ _ h => h) (by kernel_rfl) (fun _ _ => by kernel_rfl) SS ?_
              refine take 1 102 (.slice (some ad) ys.length d) (by kernel_rfl) (by kernel_rfl) (by kernel_rfl) (by kernel_rfl) (by kernel_rfl) (fun _ _ _ h => h) (by kernel_rfl) (fun _ _ => by kernel_rfl) SS ?_
              refine take 2 103 (.int .i64 (k : Int)) (by kernel_rfl) (by kernel_rfl) (by kernel_rfl) (by kernel_rfl) (by kernel_rfl) (fun _ _ _ h => h) (by kernel_rfl) (fun _ _ => by kernel_rfl) SS ?_
              refine take 3 104 (.pointer (some (ad.add (k * 6)))) (by kernel_rfl) (by kernel_rfl) (by kernel_rfl) (by kernel_rfl) (by kernel_rfl) (fun _ _ _ h => h) (by kernel_rfl) (fun w' hS => exec_act (.tmp 102) (.tmp 103) ad ys.length d k (by kernel_rfl) (by kernel_rfl) (by kernel_rfl) hk1) SS ?_
              refine take 4 105 (.pointer (some ⟨(ad.add (k * 6)).block, (ad.add (k * 6)).off + 1, none⟩)) (by kernel_rfl) (by kernel_rfl) (by kernel_rfl) (by kernel_rfl) (by kernel_rfl) (fun _ _ _ h => h) (by kernel_rfl) (fun _ _ => by kernel_rfl) SS ?_
              refine take 5 106 (.int .i64 al) (by kernel_rfl) (by kernel_rfl) (by kernel_rfl) (by kernel_rfl) (by kernel_rfl) (fun _ _ _ h => h) (by kernel_rfl) (fun w' hS => exec_load3 (.tmp 105) ⟨(ad.add (k * 6)).block, (ad.add (k * 6)).off + 1, none⟩ al (by kernel_rfl) (by kernel_rfl) ((hS.cell (cell_lt X1.out)).trans X1.out)) SS ?_
              refine take 6 107 (.slice (some ad) ys.length d) (by kernel_rfl) (by kernel_rfl) (by kernel_rfl) (by kernel_rfl) (by kernel_rfl) (fun _ _ _ h => h) (by kernel_rfl) (fun _ _ => by kernel_rfl) SS ?_
              refine take 7 108 (.int .i64 (k : Int)) (by kernel_rfl) (by kernel_rfl) (by kernel_rfl) (by kernel_rfl) (by kernel_rfl) (fun _ _ _ h => h) (by kernel_rfl) (fun _ _ => by kernel_rfl) SS ?_
              refine take 8 109 (.pointer (some (ad.add (k * 6)))) (by kernel_rfl) (by kernel_rfl) (by kernel_rfl) (by kernel_rfl) (by kernel_rfl) (fun _ _ _ h => h) (by kernel_rfl) (fun w' hS => exec_act (.tmp 107) (.tmp 108) ad ys.length d k (by kernel_rfl) (by kernel_rfl) (by kernel_rfl) hk1) SS ?_
              refine take 9 110 (.pointer (some ⟨(ad.add (k * 6)).block, (ad.add (k * 6)).off + 4, none⟩)) (by kernel_rfl) (by kernel_rfl) (by kernel_rfl) (by kernel_rfl) (by kernel_rfl) (fun _ _ _ h => h) (by kernel_rfl) (fun _ _ => by kernel_rfl) SS ?_
              refine take 10 111 (.int .u8 afl) (by kernel_rfl) (by kernel_rfl) (by kernel_rfl) (by kernel_rfl) (by kernel_rfl) (fun _ _ _ h => h) (by kernel_rfl) (fun w' hS => exec_load5 (.tmp 110) ⟨(ad.add (k * 6)).block, (ad.add (k * 6)).off + 4, none⟩ afl (by kernel_rfl) (by kernel_rfl) ((hS.cell (cell_lt X4.out)).trans X4.out)) SS ?_
              try simp only [Act.put, List.setIfInBounds_toArray, List.set_cons_zero, List.set_cons_succ]
              refine any_call 11 112 10 #[.int .u8 afl, .int .i64 0] (by kernel_rfl) (by kernel_rfl) (by kernel_rfl) (by kernel_rfl) (by kernel_rfl) ?_
              refine (fill_calls afl 0 _).mono ?_
              rintro _ W6 ⟨v6, rfl, hr6, hb6⟩
              have hl6 := JJ.a.arr.lb_lt
              have hm6 := JJ.b.arr.lb_lt
              replace JJ := JJ.below hb6
              replace SS := JJ.a.bl
              have HR6 := Lib.hid hr6
              obtain ⟨A6, c6, rfl, hl6', hc6⟩ := Kd.R_reads hr6
              have e6 := conv_bytes (c := c6) hc6
              clear hr6 hb6 hc6 hl6' hl6 hm6 HR6
              refine ⟨_, rfl, SS, ?_⟩
              try simp only [Act.put, List.setIfInBounds_toArray, List.set_cons_zero, List.set_cons_succ]
              try simp only [Act.put, List.setIfInBounds_toArray, List.set_cons_zero, List.set_cons_succ]
              refine any_step 12 113 (.string (strOfNums (fillL afl 0))) (by kernel_rfl) (by kernel_rfl) (by kernel_rfl) (by kernel_rfl) (exec_convert 33 9 (.tmp 112) (.slice A6 (fillL afl 0).length c6) (by kernel_rfl) (by kernel_rfl) e6) (SS) ?_
              try simp only [Act.put, List.setIfInBounds_toArray, List.set_cons_zero, List.set_cons_succ]
              try simp only [Act.put, List.setIfInBounds_toArray, List.set_cons_zero, List.set_cons_succ]
              refine any_call 13 114 11 #[.pointer (some ⟨rb, 0, none⟩), .int .i64 al, .string (strOfNums (fillL afl 0))] (by kernel_rfl) (by kernel_rfl) (by kernel_rfl) (by kernel_rfl) (by kernel_rfl) ?_
              refine (j_ref_out JJ.swap al _ (by rw [HLEN.out]; exact HOUT.out)).mono ?_
              rintro _ W8 ⟨rfl, hw8⟩
              subst hw8
              clear e6
              refine ⟨_, rfl, SS, ?_⟩
              try simp only [Act.put, List.setIfInBounds_toArray, List.set_cons_zero, List.set_cons_succ]
              try simp only [Act.put, List.setIfInBounds_toArray, List.set_cons_zero, List.set_cons_succ]
              refine wpAnyH_done (by kernel_rfl) ?_ _
              have HJ := Lib.hid JJ
              clear JJ SS
              go_wp2_with (fail)
              go_roundw
              case rel => exact ⟨k + 1, y, rfl, by omega, Lib.hid (HLEN.out), HJ⟩
              case measure => simp [intOf]; omega
          · have HQ := Lib.hid (show rEq x y = eqL x y from rEq_eqL HJ.out.a.arr.ok HJ.out.b.arr.ok)
            have HQ2 := Lib.hid (show ∀ z : List Bk, z.length = n + 1 → eqL x z = false from fun z hz => eqL_ne (by rw [HX0.out, hz]; omega))
            have hn1 : (n : Int) + 1 = ((n + 1 : Nat) : Int) := by omega
            have HN1 := Lib.hid hn1
            clear hn1
            by_cases hk0 : k < ys.length
            · have hk2 : ¬ (k < 20) := fun h => hlt ⟨hk0, h⟩
              clear hlt
              go_wp2_with (fail)
              rw [HN1.out]
              refine (new_calls (n + 1) (by omega) _).mono ?_
              rintro _ W7 ⟨cb, db, rfl, hca, h2, h3, hb⟩
              have HJ7 := Lib.hid (HJ.out.below hb)
              have HC := Lib.hid hca
              clear hca h2 h3 hb HJ
              have HS1 := Lib.hid (same_calls HJ7.out.a.arr HJ7.out.b.arr)
              go_wp2_with (fail)
              refine HS1.out.mono ?_
              rintro _ W8 ⟨rfl, hb⟩
              have HJ8 := Lib.hid (HJ7.out.below hb)
              have HC8 := Lib.hid (HC.out.below hb)
              clear hb HS1 HJ7 HC
              have hr8 := j_refs HJ8.out
              rw [HQ.out] at hr8
              have HR8 := Lib.hid hr8
              clear hr8
              generalize eqL x y = R at *
              go_wp2_with (fail)
              refine HR8.out.mono ?_
              rintro _ W9 ⟨rfl, hb⟩
              have HJ9 := Lib.hid (HJ8.out.below hb)
              have HC9 := Lib.hid (HC8.out.below hb)
              clear hb HR8 HJ8 HC8
              have hs9 := same_calls HJ9.out.a.arr HJ9.out.a.arr
              rw [eqL_refl] at hs9
              have HS9 := Lib.hid hs9
              clear hs9
              go_wp2_with (fail)
              refine HS9.out.mono ?_
              rintro _ W10 ⟨rfl, hb⟩
              have HJ10 := Lib.hid (HJ9.out.below hb)
              have HC10 := Lib.hid (HC9.out.below hb)
              clear hb HS9 HJ9 HC9
              have hs10 := same_calls HJ10.out.a.arr HC10.out
              rw [HQ2.out _ (by simp)] at hs10
              have HS10 := Lib.hid hs10
              clear hs10
              go_wp2_with (fail)
              refine HS10.out.mono ?_
              rintro _ W11 ⟨rfl, hb⟩
              have HJ11 := Lib.hid (HJ10.out.below hb)
              clear hb HS10 HJ10 HC10
              go_wp2_with (go_at_call 14; refine (awake_calls _).mono ?_; rintro _ W12 ⟨rfl, hb⟩; have HX := Lib.hid (bthen HJ11.out.a.bl hb); clear hb)
              go_ret
              exact ⟨rfl, HX.out⟩
            · clear hlt
              go_wp2_with (fail)
              rw [HN1.out]
              refine (new_calls (n + 1) (by omega) _).mono ?_
              rintro _ W7 ⟨cb, db, rfl, hca, h2, h3, hb⟩
              have HJ7 := Lib.hid (HJ.out.below hb)
              have HC := Lib.hid hca
              clear hca h2 h3 hb HJ
              have HS1 := Lib.hid (same_calls HJ7.out.a.arr HJ7.out.b.arr)
              go_wp2_with (fail)
              refine HS1.out.mono ?_
              rintro _ W8 ⟨rfl, hb⟩
              have HJ8 := Lib.hid (HJ7.out.below hb)
              have HC8 := Lib.hid (HC.out.below hb)
              clear hb HS1 HJ7 HC
              have hr8 := j_refs HJ8.out
              rw [HQ.out] at hr8
              have HR8 := Lib.hid hr8
              clear hr8
              generalize eqL x y = R at *
              go_wp2_with (fail)
              refine HR8.out.mono ?_
              rintro _ W9 ⟨rfl, hb⟩
              have HJ9 := Lib.hid (HJ8.out.below hb)
              have HC9 := Lib.hid (HC8.out.below hb)
              clear hb HR8 HJ8 HC8
              have hs9 := same_calls HJ9.out.a.arr HJ9.out.a.arr
              rw [eqL_refl] at hs9
              have HS9 := Lib.hid hs9
              clear hs9
              go_wp2_with (fail)
              refine HS9.out.mono ?_
              rintro _ W10 ⟨rfl, hb⟩
              have HJ10 := Lib.hid (HJ9.out.below hb)
              have HC10 := Lib.hid (HC9.out.below hb)
              clear hb HS9 HJ9 HC9
              have hs10 := same_calls HJ10.out.a.arr HC10.out
              rw [HQ2.out _ (by simp)] at hs10
              have HS10 := Lib.hid hs10
              clear hs10
              go_wp2_with (fail)
              refine HS10.out.mono ?_
              rintro _ W11 ⟨rfl, hb⟩
              have HJ11 := Lib.hid (HJ10.out.below hb)
              clear hb HS10 HJ10 HC10
              go_wp2_with (go_at_call 14; refine (awake_calls _).mono ?_; rintro _ W12 ⟨rfl, hb⟩; have HX := Lib.hid (bthen HJ11.out.a.bl hb); clear hb)
              go_ret
              exact ⟨rfl, HX.out⟩
      · clear hlt
        go_wp2_with (fail)
        have HX0 := HLEN
        clear HLEN
        go_loopw [15] (fun v15 wr => ∃ (k : Nat) (y : List Bk), v15 = .int .i64 (k : Int) ∧ k ≤ ys.length ∧ Hid (y.length = n) ∧ Hid (J w wr ab lb bb mb ra rb x x y y)) (fun v15 _ => ((ys.length : Int) - intOf v15).toNat)
        case atStart => exact ⟨0, y, rfl, by omega, HY0, HJ⟩
        case round =>
          clear HJ
          obtain ⟨k, y, rfl, hk, HLEN, HJ⟩ := hrel
          by_cases hlt : k < ys.length ∧ k < 20
          · obtain ⟨hk1, hk2⟩ := hlt
            obtain ⟨ad, B0, cB, rfl, x0, x1, x2, x3, x4, x5, x6, x7⟩ := at_act HA2.out k hk1
            have hby := HFL2.out k hk1
            clear x0 x2 x3 x5 x6 x7
            generalize rdA ys k = a at *
            obtain ⟨kd, al, an, asz, afl, akept⟩ := a
            simp only at x1 x4 hby
            have X1 := Lib.hid x1
            have X4 := Lib.hid x4
            have HBY := Lib.hid hby
            clear x1 x4 hby
            by_cases hin : 0 ≤ al ∧ al < (n : Int)
            · obtain ⟨j, rfl⟩ := Int.eq_ofNat_of_zero_le hin.1
              have hj : j < n := by omega
              clear hin
              go_wp2_with (fail)
              refine wp_region_held (S := fun w' => Below w.heap.size w w') (by kernel_rfl) ?_
              have JJ : J w { wr with drawn := wr.drawn + 1 } ab lb bb mb ra rb x x y y := HJ.out.below ((Below.refl _ _).drew)
              have SS : Below w.heap.size w { wr with drawn := wr.drawn + 1 } := JJ.a.bl
              clear HJ
              refine take 0 88 (.pointer (some ⟨bb, 0, none⟩)) (by kernel_rfl) (by kernel_rfl) (by kernel_rfl) (by kernel_rfl) (by kernel_rfl) (fun _ _ _ h => h) (by kernel_rfl) (fun _ _ => by kernel_rfl) SS ?_
              refine take 1 89 (.slice (some ad) ys.length d) (by kernel_rfl) (by kernel_rfl) (by kernel_rfl) (by kernel_rfl) (by kernel_rfl) (fun _ _ _ h => h) (by kernel_rfl) (fun _ _ => by kernel_rfl) SS ?_
              refine take 2 90 (.int .i64 (k : Int)) (by kernel_rfl) (by kernel_rfl) (by kernel_rfl) (by kernel_rfl) (by kernel_rfl) (fun _ _ _ h => h) (by kernel_rfl) (fun _ _ => by kernel_rfl) SS ?_
              refine take 3 91 (.pointer (some (ad.add (k * 6)))) (by kernel_rfl) (by kernel_rfl) (by kernel_rfl) (by kernel_rfl) (by kernel_rfl) (fun _ _ _ h => h) (by kernel_rfl) (fun w' hS => exec_act (.tmp 89) (.tmp 90) ad ys.length d k (by kernel_rfl) (by kernel_rfl) (by kernel_rfl) hk1) SS ?_
              refine take 4 92 (.pointer (some ⟨(ad.add (k * 6)).block, (ad.add (k * 6)).off + 1, none⟩)) (by kernel_rfl) (by kernel_rfl) (by kernel_rfl) (by kernel_rfl) (by kernel_rfl) (fun _ _ _ h => h) (by kernel_rfl) (fun _ _ => by kernel_rfl) SS ?_
              refine take 5 93 (.int .i64 (j : Int)) (by kernel_rfl) (by kernel_rfl) (by kernel_rfl) (by kernel_rfl) (by kernel_rfl) (fun _ _ _ h => h) (by kernel_rfl) (fun w' hS => exec_load3 (.tmp 92) ⟨(ad.add (k * 6)).block, (ad.add (k * 6)).off + 1, none⟩ (j : Int) (by kernel_rfl) (by kernel_rfl) ((hS.cell (cell_lt X1.out)).trans X1.out)) SS ?_
              refine take 6 94 (.slice (some ad) ys.length d) (by kernel_rfl) (by kernel_rfl) (by kernel_rfl) (by kernel_rfl) (by kernel_rfl) (fun _ _ _ h => h) (by kernel_rfl) (fun _ _ => by kernel_rfl) SS ?_
              refine take 7 95 (.int .i64 (k : Int)) (by kernel_rfl) (by kernel_rfl) (by kernel_rfl) (by kernel_rfl) (by kernel_rfl) (fun _ _ _ h => h) (by kernel_rfl) (fun _ _ => by kernel_rfl) SS ?_
              refine take 8 96 (.pointer (some (ad.add (k * 6)))) (by kernel_rfl) (by kernel_rfl) (by kernel_rfl) (by kernel_rfl) (by kernel_rfl) (fun _ _ _ h => h) (by kernel_rfl) (fun w' hS => exec_act (.tmp 94) (.tmp 95) ad ys.length d k (by kernel_rfl) (by kernel_rfl) (by kernel_rfl) hk1) SS ?_
              refine take 9 97 (.pointer (some ⟨(ad.add (k * 6)).block, (ad.add (k * 6)).off + 4, none⟩)) (by kernel_rfl) (by kernel_rfl) (by kernel_rfl) (by kernel_rfl) (by kernel_rfl) (fun _ _ _ h => h) (by kernel_rfl) (fun _ _ => by kernel_rfl) SS ?_
              refine take 10 98 (.int .u8 afl) (by kernel_rfl) (by kernel_rfl) (by kernel_rfl) (by kernel_rfl) (by kernel_rfl) (fun _ _ _ h => h) (by kernel_rfl) (fun w' hS => exec_load5 (.tmp 97) ⟨(ad.add (k * 6)).block, (ad.add (k * 6)).off + 4, none⟩ afl (by kernel_rfl) (by kernel_rfl) ((hS.cell (cell_lt X4.out)).trans X4.out)) SS ?_
              try simp only [Act.put, List.setIfInBounds_toArray, List.set_cons_zero, List.set_cons_succ]
              refine any_call 11 99 10 #[.int .u8 afl, .int .i64 0] (by kernel_rfl) (by kernel_rfl) (by kernel_rfl) (by kernel_rfl) (by kernel_rfl) ?_
              refine (fill_calls afl 0 _).mono ?_
              rintro _ W6 ⟨v6, rfl, hr6, hb6⟩
              have hl6 := JJ.a.arr.lb_lt
              have hm6 := JJ.b.arr.lb_lt
              replace JJ := JJ.below hb6
              replace SS := JJ.a.bl
              have HR6 := Lib.hid hr6
              clear hr6 hb6
              refine ⟨_, rfl, SS, ?_⟩
              try simp only [Act.put, List.setIfInBounds_toArray, List.set_cons_zero, List.set_cons_succ]
              try simp only [Act.put, List.setIfInBounds_toArray, List.set_cons_zero, List.set_cons_succ]
              refine any_call 12 100 9 #[.pointer (some ⟨bb, 0, none⟩), .int .i64 (j : Int), v6] (by kernel_rfl) (by kernel_rfl) (by kernel_rfl) (by kernel_rfl) (by kernel_rfl) ?_
              refine (j_write JJ.swap j (by rw [HLEN.out]; exact hj) (fillL afl 0) (fill_sec afl HBY.out) HR6.out hm6).mono ?_
              rintro _ W7 ⟨rfl, h7⟩
              replace JJ := h7.swap
              replace SS := JJ.a.bl
              clear h7 HR6 hl6 hm6
              refine ⟨_, rfl, SS, ?_⟩
              try simp only [Act.put, List.setIfInBounds_toArray, List.set_cons_zero, List.set_cons_succ]
              try simp only [Act.put, List.setIfInBounds_toArray, List.set_cons_zero, List.set_cons_succ]
              refine wpAnyH_done (by kernel_rfl) ?_ _
              have HJ := Lib.hid JJ
              clear JJ SS
              go_wp2_with (fail)
              refine wp_region_held (S := fun w' => Below w.heap.size w w') (by kernel_rfl) ?_
              have JJ : J w { W7 with drawn := W7.drawn + 1 } ab lb bb mb ra rb x x (putL y j (fillL afl 0) 1) y := HJ.out.below ((Below.refl _ _).drew)
              have SS : Below w.heap.size w { W7 with drawn := W7.drawn + 1 } := JJ.a.bl
              clear HJ
              refine take 0 101 (.pointer (some ⟨rb, 0, none⟩)) (by kernel_rfl) (by kernel_rfl) (by kernel_rfl) (by kernel_rfl) (by kernel_rfl) (fun _ _ _ h => h) (by kernel_rfl) (fun _ _ => by kernel_rfl) SS ?_
              refine take 1 102 (.slice (some ad) ys.length d) (by kernel_rfl) (by kernel_rfl) (by kernel_rfl) (by kernel_rfl) (by kernel_rfl) (fun _ _ _ h => h) (by kernel_rfl) (fun _ _ => by kernel_rfl) SS ?_
              refine take 2 103 (.int .i64 (k : Int)) (by kernel_rfl) (by kernel_rfl) (by kernel_rfl) (by kernel_rfl) (by kernel_rfl) (fun _ _ _ h => h) (by kernel_rfl) (fun _ _ => by kernel_rfl) SS ?_
              refine take 3 104 (.pointer (some (ad.add (k * 6)))) (by kernel_rfl) (by kernel_rfl) (by kernel_rfl) (by kernel_rfl) (by kernel_rfl) (fun _ _ _ h => h) (by kernel_rfl) (fun w' hS => exec_act (.tmp 102) (.tmp 103) ad ys.length d k (by kernel_rfl) (by kernel_rfl) (by kernel_rfl) hk1) SS ?_
              refine take 4 105 (.pointer (some ⟨(ad.add (k * 6)).block, (ad.add (k * 6)).off + 1, none⟩)) (by kernel_rfl) (by kernel_rfl) (by kernel_rfl) (by kernel_rfl) (by kernel_rfl) (fun _ _ _ h => h) (by kernel_rfl) (fun _ _ => by kernel_rfl) SS ?_
              refine take 5 106 (.int .i64 (j : Int)) (by kernel_rfl) (by kernel_rfl) (by kernel_rfl) (by kernel_rfl) (by kernel_rfl) (fun _ _ _ h => h) (by kernel_rfl) (fun w' hS => exec_load3 (.tmp 105) ⟨(ad.add (k * 6)).block, (ad.add (k * 6)).off + 1, none⟩ (j : Int) (by kernel_rfl) (by kernel_rfl) ((hS.cell (cell_lt X1.out)).trans X1.out)) SS ?_
              refine take 6 107 (.slice (some ad) ys.length d) (by kernel_rfl) (by kernel_rfl) (by kernel_rfl) (by kernel_rfl) (by kernel_rfl) (fun _ _ _ h => h) (by kernel_rfl) (fun _ _ => by kernel_rfl) SS ?_
              refine take 7 108 (.int .i64 (k : Int)) (by kernel_rfl) (by kernel_rfl) (by kernel_rfl) (by kernel_rfl) (by kernel_rfl) (fun _ _ _ h => h) (by kernel_rfl) (fun _ _ => by kernel_rfl) SS ?_
              refine take 8 109 (.pointer (some (ad.add (k * 6)))) (by kernel_rfl) (by kernel_rfl) (by kernel_rfl) (by kernel_rfl) (by kernel_rfl) (fun _ _ _ h => h) (by kernel_rfl) (fun w' hS => exec_act (.tmp 107) (.tmp 108) ad ys.length d k (by kernel_rfl) (by kernel_rfl) (by kernel_rfl) hk1) SS ?_
              refine take 9 110 (.pointer (some ⟨(ad.add (k * 6)).block, (ad.add (k * 6)).off + 4, none⟩)) (by kernel_rfl) (by kernel_rfl) (by kernel_rfl) (by kernel_rfl) (by kernel_rfl) (fun _ _ _ h => h) (by kernel_rfl) (fun _ _ => by kernel_rfl) SS ?_
              refine take 10 111 (.int .u8 afl) (by kernel_rfl) (by kernel_rfl) (by kernel_rfl) (by kernel_rfl) (by kernel_rfl) (fun _ _ _ h => h) (by kernel_rfl) (fun w' hS => exec_load5 (.tmp 110) ⟨(ad.add (k * 6)).block, (ad.add (k * 6)).off + 4, none⟩ afl (by kernel_rfl) (by kernel_rfl) ((hS.cell (cell_lt X4.out)).trans X4.out)) SS ?_
              try simp only [Act.put, List.setIfInBounds_toArray, List.set_cons_zero, List.set_cons_succ]
              refine any_call 11 112 10 #[.int .u8 afl, .int .i64 0] (by kernel_rfl) (by kernel_rfl) (by kernel_rfl) (by kernel_rfl) (by kernel_rfl) ?_
              refine (fill_calls afl 0 _).mono ?_
              rintro _ W6 ⟨v6, rfl, hr6, hb6⟩
              have hl6 := JJ.a.arr.lb_lt
              have hm6 := JJ.b.arr.lb_lt
              replace JJ := JJ.below hb6
              replace SS := JJ.a.bl
              have HR6 := Lib.hid hr6
              obtain ⟨A6, c6, rfl, hl6', hc6⟩ := Kd.R_reads hr6
              have e6 := conv_bytes (c := c6) hc6
              clear hr6 hb6 hc6 hl6' hl6 hm6 HR6
              refine ⟨_, rfl, SS, ?_⟩
              try simp only [Act.put, List.setIfInBounds_toArray, List.set_cons_zero, List.set_cons_succ]
              try simp only [Act.put, List.setIfInBounds_toArray, List.set_cons_zero, List.set_cons_succ]
              refine any_step 12 113 (.string (strOfNums (fillL afl 0))) (by kernel_rfl) (by kernel_rfl) (by kernel_rfl) (by kernel_rfl) (exec_convert 33 9 (.tmp 112) (.slice A6 (fillL afl 0).length c6) (by kernel_rfl) (by kernel_rfl) e6) (SS) ?_
              try simp only [Act.put, List.setIfInBounds_toArray, List.set_cons_zero, List.set_cons_succ]
              try simp only [Act.put, List.setIfInBounds_toArray, List.set_cons_zero, List.set_cons_succ]
              refine any_call 13 114 11 #[.pointer (some ⟨rb, 0, none⟩), .int .i64 (j : Int), .string (strOfNums (fillL afl 0))] (by kernel_rfl) (by kernel_rfl) (by kernel_rfl) (by kernel_rfl) (by kernel_rfl) ?_
              refine (j_ref_write JJ.swap j (by rw [HLEN.out]; exact hj) (fillL afl 0) (fill_sec afl HBY.out).len).mono ?_
              rintro _ W8 ⟨rfl, h8⟩
              replace JJ := h8.swap
              replace SS := JJ.a.bl
              clear h8 e6
              refine ⟨_, rfl, SS, ?_⟩
              try simp only [Act.put, List.setIfInBounds_toArray, List.set_cons_zero, List.set_cons_succ]
              try simp only [Act.put, List.setIfInBounds_toArray, List.set_cons_zero, List.set_cons_succ]
              refine wpAnyH_done (by kernel_rfl) ?_ _
              have HJ := Lib.hid JJ
              clear JJ SS
              go_wp2_with (fail)
              go_roundw
              case rel => exact ⟨k + 1, putL y j (fillL afl 0) 1, rfl, by omega, Lib.hid ((putL_len _ _ _ _).trans HLEN.out), HJ⟩
              case measure => simp [intOf]; omega
            · have HOUT := Lib.hid hin
              clear hin
              go_wp2_with (fail)
              refine wp_region_held (S := fun w' => Below w.heap.size w w') (by kernel_rfl) ?_
              have JJ : J w { wr with drawn := wr.drawn + 1 } ab lb bb mb ra rb x x y y := HJ.out.below ((Below.refl _ _).drew)
              have SS : Below w.heap.size w { wr with drawn := wr.drawn + 1 } := JJ.a.bl
              clear HJ
              refine take 0 88 (.pointer (some ⟨bb, 0, none⟩)) (by kernel_rfl) (by kernel_rfl) (by kernel_rfl) (by kernel_rfl) (by kernel_rfl) (fun _ _ _ h => h) (by kernel_rfl) (fun _ _ => by kernel_rfl) SS ?_
              refine take 1 89 (.slice (some ad) ys.length d) (by kernel_rfl) (by kernel_rfl) (by kernel_rfl) (by kernel_rfl) (by kernel_rfl) (fun _ _ _ h => h) (by kernel_rfl) (fun _ _ => by kernel_rfl) SS ?_
              refine take 2 90 (.int .i64 (k : Int)) (by kernel_rfl) (by kernel_rfl) (by kernel_rfl) (by kernel_rfl) (by kernel_rfl) (fun _ _ _ h => h) (by kernel_rfl) (fun _ _ => by kernel_rfl) SS ?_
              refine take 3 91 (.pointer (some (ad.add (k * 6)))) (by kernel_rfl) (by kernel_rfl) (by kernel_rfl) (by kernel_rfl) (by kernel_rfl) (fun _ _ _ h => h) (by kernel_rfl) (fun w' hS => exec_act (.tmp 89) (.tmp 90) ad ys.length d k (by kernel_rfl) (by kernel_rfl) (by kernel_rfl) hk1) SS ?_
              refine take 4 92 (.pointer (some ⟨(ad.add (k * 6)).block, (ad.add (k * 6)).off + 1, none⟩)) (by kernel_rfl) (by kernel_rfl) (by kernel_rfl) (by kernel_rfl) (by kernel_rfl) (fun _ _ _ h => h) (by kernel_rfl) (fun _ _ => by kernel_rfl) SS ?_
              refine take 5 93 (.int .i64 al) (by kernel_rfl) (by kernel_rfl) (by kernel_rfl) (by kernel_rfl) (by kernel_rfl) (fun _ _ _ h => h) (by kernel_rfl) (fun w' hS => exec_load3 (.tmp 92) ⟨(ad.add (k * 6)).block, (ad.add (k * 6)).off + 1, none⟩ al (by kernel_rfl) (by kernel_rfl) ((hS.cell (cell_lt X1.out)).trans X1.out)) SS ?_
              refine take 6 94 (.slice (some ad) ys.length d) (by kernel_rfl) (by kernel_rfl) (by kernel_rfl) (by kernel_rfl) (by kernel_rfl) (fun _ _ _ h => h) (by kernel_rfl) (fun _ _ => by kernel_rfl) SS ?_
              refine take 7 95 (.int .i64 (k : Int)) (by kernel_rfl) (by kernel_rfl) (by kernel_rfl) (by kernel_rfl) (by kernel_rfl) (fun _ _ _ h => h) (by kernel_rfl) (fun _ _ => by kernel_rfl) SS ?_
              refine take 8 96 (.pointer (some (ad.add (k * 6)))) (by kernel_rfl) (by kernel_rfl) (by kernel_rfl) (by kernel_rfl) (by kernel_rfl) (fun _ _ _ h => h) (by kernel_rfl) (fun w' hS => exec_act (.tmp 94) (.tmp 95) ad ys.length d k (by kernel_rfl) (by kernel_rfl) (by kernel_rfl) hk1) SS ?_
              refine take 9 97 (.pointer (some ⟨(ad.add (k * 6)).block, (ad.add (k * 6)).off + 4, none⟩)) (by kernel_rfl) (by kernel_rfl) (by kernel_rfl) (by kernel_rfl) (by kernel_rfl) (fun _ _ _ h => h) (by kernel_rfl) (fun _ _ => by kernel_rfl) SS ?_
              refine take 10 98 (.int .u8 afl) (by kernel_rfl) (by kernel_rfl) (by kernel_rfl) (by kernel_rfl) (by kernel_rfl) (fun _ _ _ h => h) (by kernel_rfl) (fun w' hS => exec_load5 (.tmp 97) ⟨(ad.add (k * 6)).block, (ad.add (k * 6)).off + 4, none⟩ afl (by kernel_rfl) (by kernel_rfl) ((hS.cell (cell_lt X4.out)).trans X4.out)) SS ?_
              try simp only [Act.put, List.setIfInBounds_toArray, List.set_cons_zero, List.set_cons_succ]
              refine any_call 11 99 10 #[.int .u8 afl, .int .i64 0] (by kernel_rfl) (by kernel_rfl) (by kernel_rfl) (by kernel_rfl) (by kernel_rfl) ?_
              refine (fill_calls afl 0 _).mono ?_
              rintro _ W6 ⟨v6, rfl, hr6, hb6⟩
              have hl6 := JJ.a.arr.lb_lt
              have hm6 := JJ.b.arr.lb_lt
              replace JJ := JJ.below hb6
              replace SS := JJ.a.bl
              have HR6 := Lib.hid hr6
              clear hr6 hb6
              refine ⟨_, rfl, SS, ?_⟩
              try simp only [Act.put, List.setIfInBounds_toArray, List.set_cons_zero, List.set_cons_succ]
              try simp only [Act.put, List.setIfInBounds_toArray, List.set_cons_zero, List.set_cons_succ]
              refine any_call 12 100 9 #[.pointer (some ⟨bb, 0, none⟩), .int .i64 al, v6] (by kernel_rfl) (by kernel_rfl) (by kernel_rfl) (by kernel_rfl) (by kernel_rfl) ?_
              refine (write_out JJ.b.arr al v6 (by rw [HLEN.out]; exact HOUT.out)).mono ?_
              rintro _ W7 ⟨rfl, hw7⟩
              subst hw7
              clear HR6 hl6 hm6
              refine ⟨_, rfl, SS, ?_⟩
              try simp only [Act.put, List.setIfInBounds_toArray, List.set_cons_zero, List.set_cons_succ]
              try simp only [Act.put, List.setIfInBounds_toArray, List.set_cons_zero, List.set_cons_succ]
              refine wpAnyH_done (by kernel_rfl) ?_ _
              have HJ := Lib.hid JJ
              clear JJ SS
              go_wp2_with (fail)
              refine wp_region_held (S := fun w' => Below w.heap.size w w') (by kernel_rfl) ?_
              have JJ : J w { W7 with drawn := W7.drawn + 1 } ab lb bb mb ra rb x x y y := HJ.out.below ((Below.refl _ _).drew)
              have SS : Below w.heap.size w { W7 with drawn := W7.drawn + 1 } := JJ.a.bl
              clear HJ
              refine take 0 101 (.pointer (some ⟨rb, 0, none⟩)) (by kernel_rfl) (by kernel_rfl) (by kernel_rfl) (by kernel_rfl) (by kernel_rfl) (fun _ _ _ h => h) (by kernel_rfl) (fun _ _ => by kernel_rfl) SS ?_
              refine take 1 102 (.slice (some ad) ys.length d) (by kernel_rfl) (by kernel_rfl) (by kernel_rfl) (by kernel_rfl) (by kernel_rfl) (fun _ _ _ h => h) (by kernel_rfl) (fun _ _ => by kernel_rfl) SS ?_
              refine take 2 103 (.int .i64 (k : Int)) (by kernel_rfl) (by kernel_rfl) (by kernel_rfl) (by kernel_rfl) (by kernel_rfl) (fun _ _ _ h => h) (by kernel_rfl) (fun _ _ => by kernel_rfl) SS ?_
              refine take 3 104 (.pointer (some (ad.add (k * 6)))) (by kernel_rfl) (by kernel_rfl) (by kernel_rfl) (by kernel_rfl) (by kernel_rfl) (fun _ _ _ h => h) (by kernel_rfl) (fun w' hS => exec_act (.tmp 102) (.tmp 103) ad ys.length d k (by kernel_rfl) (by kernel_rfl) (by kernel_rfl) hk1) SS ?_
              refine take 4 105 (.pointer (some ⟨(ad.add (k * 6)).block, (ad.add (k * 6)).off + 1, none⟩)) (by kernel_rfl) (by kernel_rfl) (by kernel_rfl) (by kernel_rfl) (by kernel_rfl) (fun _ _ _ h => h) (by kernel_rfl) (fun _ _ => by kernel_rfl) SS ?_
              refine take 5 106 (.int .i64 al) (by kernel_rfl) (by kernel_rfl) (by kernel_rfl) (by kernel_rfl) (by kernel_rfl) (fun _ _ _ h => h) (by kernel_rfl) (fun w' hS => exec_load3 (.tmp 105) ⟨(ad.add (k * 6)).block, (ad.add (k * 6)).off + 1, none⟩ al (by kernel_rfl) (by kernel_rfl) ((hS.cell (cell_lt X1.out)).trans X1.out)) SS ?_
              refine take 6 107 (.slice (some ad) ys.length d) (by kernel_rfl) (by kernel_rfl) (by kernel_rfl) (by kernel_rfl) (by kernel_rfl) (fun _ _ _ h => h) (by kernel_rfl) (fun _ _ => by kernel_rfl) SS ?_
              refine take 7 108 (.int .i64 (k : Int)) (by kernel_rfl) (by kernel_rfl) (by kernel_rfl) (by kernel_rfl) (by kernel_rfl) (fun _ _ _ h => h) (by kernel_rfl) (fun _ _ => by kernel_rfl) SS ?_
              refine take 8 109 (.pointer (some (ad.add (k * 6)))) (by kernel_rfl) (by kernel_rfl) (by kernel_rfl) (by kernel_rfl) (by kernel_rfl) (fun _ _ _ h => h) (by kernel_rfl) (fun w' hS => exec_act (.tmp 107) (.tmp 108) ad ys.length d k (by kernel_rfl) (by kernel_rfl) (by kernel_rfl) hk1) SS ?_
              refine take 9 110 (.pointer (some ⟨(ad.add (k * 6)).block, (ad.add (k * 6)).off + 4, none⟩)) (by kernel_rfl) (by kernel_rfl) (by kernel_rfl) (by kernel_rfl) (by kernel_rfl) (fun _ _ _ h => h) (by kernel_rfl) (fun _ _ => by kernel_rfl) SS ?_
              refine take 10 111 (.int .u8 afl) (by kernel_rfl) (by kernel_rfl) (by kernel_rfl) (by kernel_rfl) (by kernel_rfl) (fun _ _ _ h => h) (by kernel_rfl) (fun w' hS => exec_load5 (.tmp 110) ⟨(ad.add (k * 6)).block, (ad.add (k * 6)).off + 4, none⟩ afl (by kernel_rfl) (by kernel_rfl) ((hS.cell (cell_lt X4.out)).trans X4.out)) SS ?_
              try simp only [Act.put, List.setIfInBounds_toArray, List.set_cons_zero, List.set_cons_succ]
              refine any_call 11 112 10 #[.int .u8 afl, .int .i64 0] (by kernel_rfl) (by kernel_rfl) (by kernel_rfl) (by kernel_rfl) (by kernel_rfl) ?_
              refine (fill_calls afl 0 _).mono ?_
              rintro _ W6 ⟨v6, rfl, hr6, hb6⟩
              have hl6 := JJ.a.arr.lb_lt
              have hm6 := JJ.b.arr.lb_lt
              replace JJ := JJ.below hb6
              replace SS := JJ.a.bl
              have HR6 := Lib.hid hr6
              obtain ⟨A6, c6, rfl, hl6', hc6⟩ := Kd.R_reads hr6
              have e6 := conv_bytes (c := c6) hc6
              clear hr6 hb6 hc6 hl6' hl6 hm6 HR6
              refine ⟨_, rfl, SS, ?_⟩
              try simp only [Act.put, List.setIfInBounds_toArray, List.set_cons_zero, List.set_cons_succ]
              try simp only [Act.put, List.setIfInBounds_toArray, List.set_cons_zero, List.set_cons_succ]
              refine any_step 12 113 (.string (strOfNums (fillL afl 0))) (by kernel_rfl) (by kernel_rfl) (by kernel_rfl) (by kernel_rfl) (exec_convert 33 9 (.tmp 112) (.slice A6 (fillL afl 0).length c6) (by kernel_rfl) (by kernel_rfl) e6) (SS) ?_
              try simp only [Act.put, List.setIfInBounds_toArray, List.set_cons_zero, List.set_cons_succ]
              try simp only [Act.put, List.setIfInBounds_toArray, List.set_cons_zero, List.set_cons_succ]
              refine any_call 13 114 11 #[.pointer (some ⟨rb, 0, none⟩), .int .i64 al, .string (strOfNums (fillL afl 0))] (by kernel_rfl) (by kernel_rfl) (by kernel_rfl) (by kernel_rfl) (by kernel_rfl) ?_
              refine (j_ref_out JJ.swap al _ (by rw [HLEN.out]; exact HOUT.out)).mono ?_
              rintro _ W8 ⟨rfl, hw8⟩
              subst hw8
              clear e6
              refine ⟨_, rfl, SS, ?_⟩
              try simp only [Act.put, List.setIfInBounds_toArray, List.set_cons_zero, List.set_cons_succ]
              try simp only [Act.put, List.setIfInBounds_toArray, List.set_cons_zero, List.set_cons_succ]
              refine wpAnyH_done (by kernel_rfl) ?_ _
              have HJ := Lib.hid JJ
              clear JJ SS
              go_wp2_with (fail)
              go_roundw
              case rel => exact ⟨k + 1, y, rfl, by omega, Lib.hid (HLEN.out), HJ⟩
              case measure => simp [intOf]; omega
          · have HQ := Lib.hid (show rEq x y = eqL x y from rEq_eqL HJ.out.a.arr.ok HJ.out.b.arr.ok)
            have HQ2 := Lib.hid (show ∀ z : List Bk, z.length = n + 1 → eqL x z = false from fun z hz => eqL_ne (by rw [HX0.out, hz]; omega))
            have hn1 : (n : Int) + 1 = ((n + 1 : Nat) : Int) := by omega
            have HN1 := Lib.hid hn1
            clear hn1
            by_cases hk0 : k < ys.length
            · have hk2 : ¬ (k < 20) := fun h => hlt ⟨hk0, h⟩
              clear hlt
              go_wp2_with (fail)
              rw [HN1.out]
              refine (new_calls (n + 1) (by omega) _).mono ?_
              rintro _ W7 ⟨cb, db, rfl, hca, h2, h3, hb⟩
              have HJ7 := Lib.hid (HJ.out.below hb)
              have HC := Lib.hid hca
              clear hca h2 h3 hb HJ
              have HS1 := Lib.hid (same_calls HJ7.out.a.arr HJ7.out.b.arr)
              go_wp2_with (fail)
              refine HS1.out.mono ?_
              rintro _ W8 ⟨rfl, hb⟩
              have HJ8 := Lib.hid (HJ7.out.below hb)
              have HC8 := Lib.hid (HC.out.below hb)
              clear hb HS1 HJ7 HC
              have hr8 := j_refs HJ8.out
              rw [HQ.out] at hr8
              have HR8 := Lib.hid hr8
              clear hr8
              generalize eqL x y = R at *
              go_wp2_with (fail)
              refine HR8.out.mono ?_
              rintro _ W9 ⟨rfl, hb⟩
              have HJ9 := Lib.hid (HJ8.out.below hb)
              have HC9 := Lib.hid (HC8.out.below hb)
              clear hb HR8 HJ8 HC8
              have hs9 := same_calls HJ9.out.a.arr HJ9.out.a.arr
              rw [eqL_refl] at hs9
              have HS9 := Lib.hid hs9
              clear hs9
              go_wp2_with (fail)
              refine HS9.out.mono ?_
              rintro _ W10 ⟨rfl, hb⟩
              have HJ10 := Lib.hid (HJ9.out.below hb)
              have HC10 := Lib.hid (HC9.out.below hb)
              clear hb HS9 HJ9 HC9
              have hs10 := same_calls HJ10.out.a.arr HC10.out
              rw [HQ2.out _ (by simp)] at hs10
              have HS10 := Lib.hid hs10
              clear hs10
              go_wp2_with (fail)
              refine HS10.out.mono ?_
              rintro _ W11 ⟨rfl, hb⟩
              have HJ11 := Lib.hid (HJ10.out.below hb)
              clear hb HS10 HJ10 HC10
              go_wp2_with (go_at_call 14; refine (awake_calls _).mono ?_; rintro _ W12 ⟨rfl, hb⟩; have HX := Lib.hid (bthen HJ11.out.a.bl hb); clear hb)
              go_ret
              exact ⟨rfl, HX.out⟩
            · clear hlt
              go_wp2_with (fail)
              rw [HN1.out]
              refine (new_calls (n + 1) (by omega) _).mono ?_
              rintro _ W7 ⟨cb, db, rfl, hca, h2, h3, hb⟩
              have HJ7 := Lib.hid (HJ.out.below hb)
              have HC := Lib.hid hca
              clear hca h2 h3 hb HJ
              have HS1 := Lib.hid (same_calls HJ7.out.a.arr HJ7.out.b.arr)
              go_wp2_with (fail)
              refine HS1.out.mono ?_
              rintro _ W8 ⟨rfl, hb⟩
              have HJ8 := Lib.hid (HJ7.out.below hb)
              have HC8 := Lib.hid (HC.out.below hb)
              clear hb HS1 HJ7 HC
              have hr8 := j_refs HJ8.out
              rw [HQ.out] at hr8
              have HR8 := Lib.hid hr8
              clear hr8
              generalize eqL x y = R at *
              go_wp2_with (fail)
              refine HR8.out.mono ?_
              rintro _ W9 ⟨rfl, hb⟩
              have HJ9 := Lib.hid (HJ8.out.below hb)
              have HC9 := Lib.hid (HC8.out.below hb)
              clear hb HR8 HJ8 HC8
              have hs9 := same_calls HJ9.out.a.arr HJ9.out.a.arr
              rw [eqL_refl] at hs9
              have HS9 := Lib.hid hs9
              clear hs9
              go_wp2_with (fail)
              refine HS9.out.mono ?_
              rintro _ W10 ⟨rfl, hb⟩
              have HJ10 := Lib.hid (HJ9.out.below hb)
              have HC10 := Lib.hid (HC9.out.below hb)
              clear hb HS9 HJ9 HC9
              have hs10 := same_calls HJ10.out.a.arr HC10.out
              rw [HQ2.out _ (by simp)] at hs10
              have HS10 := Lib.hid hs10
              clear hs10
              go_wp2_with (fail)
              refine HS10.out.mono ?_
              rintro _ W11 ⟨rfl, hb⟩
              have HJ11 := Lib.hid (HJ10.out.below hb)
              clear hb HS10 HJ10 HC10
              go_wp2_with (go_at_call 14; refine (awake_calls _).mono ?_; rintro _ W12 ⟨rfl, hb⟩; have HX := Lib.hid (bthen HJ11.out.a.bl hb); clear hb)
              go_ret
              exact ⟨rfl, HX.out⟩
end Go.Proofs.Ytbojokjommmebaa.MoSameLaw
