/- The reference: Trim, Rows. -/
import Derived.Test.YtbojokjommmebaaMoRefWrite
namespace Go.Proofs.Ytbojokjommmebaa.MoRefTrim
set_option linter.unusedSimpArgs false
set_option linter.unusedVariables false
open Go.RowKit Go.Proofs.YtbojokjommmebaaW.PrintWords Go.Proofs.YtbojokjommmebaaW.PrintLast Go.Proofs.YtbojokjommmebaaW.PrintMore Go.Proofs.Ytbojokjommmebaa.PModelPlays Go.Proofs.Ytbojokjommmebaa.MoMem Go.Proofs.Ytbojokjommmebaa.MoGo Go.Proofs.Ytbojokjommmebaa.MoPut Go.Proofs.Ytbojokjommmebaa.MoWrite Go.Proofs.Ytbojokjommmebaa.MoLoose Go.Proofs.Ytbojokjommmebaa.MoPure Go.Proofs.Ytbojokjommmebaa.MoRefMem Go.Proofs.Ytbojokjommmebaa.MoRefPut Go.Proofs.Ytbojokjommmebaa.MoRefWrite
theorem conv_z64 (W : World) : (convert 33 9 (.slice (some ⟨W.heap.size, 0, none⟩) 64 64)).run Try.prog (W.alloc (.cells (v8 z64).toArray 5)) = .ok (.string (strOfNums z64)) (W.alloc (.cells (v8 z64).toArray 5)) :=
  Kd.C_string Try.underlying33 Try.underlying5 Try.underlying9 (z64_row W)
section
variable {W W' : World} {base rb n : Nat} {Z Y : Nat → Prop} {bs : List Bk} {v0 v1 v2 : Value}
theorem refE_c0 (h : RefE W base Z rb bs) : ∃ A c, W.cell? ⟨rb, 0, none⟩ = some (.slice A bs.length c) ∧ bs.length ≤ c := by
  obtain ⟨v0, v1, v2, h⟩ := h
  obtain ⟨A, c, hv, hc⟩ := own_slice1 (RefAt.o0 h)
  exact ⟨A, c, by rw [RefAt.c0 h, hv], hc⟩
set_option maxRecDepth 100000 in
theorem trimE_out (h : RefE W base Z rb bs) (lba m : Int) (ho : readyE bs.length lba m = 3) : Calls Try.prog 18 #[.pointer (some ⟨rb, 0, none⟩), .int .i64 lba, .int .i64 m] W fun e W' => e = .returned (.int .i64 3) ∧ W' = W := by
  have HR := Lib.hid (has_is h lba)
  obtain ⟨A, c, c0, hc⟩ := refE_c0 h
  have hf := h.few
  have hh : lba < 0 ∨ (bs.length : Int) ≤ lba ∨ m < 0 ∨ (bs.length : Int) - lba < m := by unfold readyE at ho; split at ho; assumption; omega
  clear h ho
  generalize bs.length = n at *
  by_cases p1 : 0 ≤ lba ∧ lba < (n : Int)
  · rw [decide_eq_true p1] at HR
    have q1 := p1.1
    have q2 := p1.2
    clear p1
    by_cases p3 : m < 0
    · clear hh
      go_enter Try.func18, Try.ntmps18
      go_wp2_with (go_at_call 16; refine HR.out.mono ?_; rintro _ W2 ⟨rfl, hw⟩; replace hw := hw.symm; subst hw)
      go_ret
      exact ⟨rfl, rfl⟩
    · have p4 : (n : Int) - lba < m := by omega
      clear hh
      go_enter Try.func18, Try.ntmps18
      go_wp2_with (go_at_call 16; refine HR.out.mono ?_; rintro _ W2 ⟨rfl, hw⟩; replace hw := hw.symm; subst hw)
      go_ret
      exact ⟨rfl, rfl⟩
  · rw [decide_eq_false p1] at HR
    clear hh p1
    go_enter Try.func18, Try.ntmps18
    go_wp2_with (go_at_call 16; refine HR.out.mono ?_; rintro _ W2 ⟨rfl, hw⟩; replace hw := hw.symm; subst hw)
    go_ret
    exact ⟨rfl, rfl⟩
set_option maxRecDepth 100000 in
set_option maxHeartbeats 1000000 in
theorem trimE (h : RefE W base Z rb bs) (hz : ∀ k, Z k → k < W.heap.size) (hb : base ≤ W.heap.size) (j q : Nat) (hr : readyE bs.length j q = 0) :
    Calls Try.prog 18 #[.pointer (some ⟨rb, 0, none⟩), .int .i64 (j : Int), .int .i64 (q : Int)] W fun e W' => e = .returned (.int .i64 0) ∧ RefE W' base Z rb (putL bs j z64 q) ∧ Fr W W' (NZ base Z) := by
  have hh : (j : Int) < (bs.length : Int) ∧ (q : Int) ≤ (bs.length : Int) - (j : Int) := by unfold readyE at hr; split at hr <;> omega
  have HR := Lib.hid (has_is h (j : Int))
  rw [decide_eq_true (show 0 ≤ (j : Int) ∧ (j : Int) < (bs.length : Int) from ⟨by omega, hh.1⟩)] at HR
  have HF := Lib.hid (flushE h hz hb)
  obtain ⟨A, c, c0, hc⟩ := refE_c0 h
  have hf := h.few
  have hjn := hh.1
  have hqn := hh.2
  have HH := Lib.hid h
  have hmk := run_z64
  have hcz := conv_z64
  have hhj : j + q ≤ bs.length := by omega
  have HB0 := Lib.hid hb
  clear h hz hr hb hh
  obtain ⟨L, hL⟩ : ∃ L, L = bs.length := ⟨_, rfl⟩
  rw [← hL] at hf hjn hqn c0 hc hhj
  by_cases hq : q = 0
  · subst hq
    have HX : Hid (RefE W base Z rb (putL bs j z64 0)) := HH
    clear HF hL HH
    go_enter Try.func18, Try.ntmps18
    go_wp2_with (go_at_call 16; refine HR.out.mono ?_; rintro _ W2 ⟨rfl, hw⟩; replace hw := hw.symm; subst hw)
    go_loopw [7] (fun v7 wr => v7 = .int .i64 0 ∧ Hid (wr = W)) (fun v7 _ => 0)
    case atStart => exact ⟨rfl, Lib.hid rfl⟩
    case round =>
      obtain ⟨rfl, HW⟩ := hrel
      obtain rfl := HW.out
      clear HW
      go_wp2_with (fail)
      go_ret
      exact ⟨rfl, HX.out, Fr.refl _ _⟩
  · obtain ⟨BS, hBS⟩ : ∃ BS, BS = bs.map Bk.settle := ⟨_, rfl⟩
    have e : putL bs j z64 q = putK BS j z64 q := by unfold putL; rw [if_neg hq, hBS]
    rw [e]
    have HLEN := Lib.hid (show ∀ k, (putK BS j z64 k).length = L from fun k => by rw [putK_len, hBS, List.length_map, hL])
    have HST := Lib.hid (show ∀ W2, RefE W2 base Z rb (bs.map Bk.settle) → RefE W2 base Z rb (putK BS j z64 0) from fun W2 hh => by rw [hBS]; exact hh)
    have hn0 : 0 < (q : Int) := by omega
    clear e hBS hL hq HH
    go_enter Try.func18, Try.ntmps18
    go_wp2_with (first
      | (go_at_call 16; refine HR.out.mono ?_; rintro _ W2 ⟨rfl, hw⟩; replace hw := hw.symm; subst hw)
      | (go_at_call 20; refine HF.out.mono ?_; rintro _ W2 ⟨⟨vv, rfl⟩, h1, h2⟩; have HA2 := Lib.hid (HST.out W2 h1); have HF2 := Lib.hid h2; clear h1 h2))
    go_loopw [7] (fun v7 wr => ∃ k : Nat, v7 = .int .i64 (k : Int) ∧ k ≤ q ∧ Hid (RefE wr base Z rb (putK BS j z64 k)) ∧ Hid (Fr W wr (NZ base Z))) (fun v7 _ => ((q : Int) - intOf v7).toNat)
    case atStart => exact ⟨0, rfl, by omega, HA2, HF2⟩
    case round =>
      clear HA2 HF2 HR HF
      obtain ⟨k, rfl, hk, HA, HFr⟩ := hrel
      by_cases hlt : k < q
      · have hi : j + k < (putK BS j z64 k).length := by rw [HLEN.out]; omega
        have HP := Lib.hid (putE (HA.out.below ((Below.refl wr.heap.size wr).alloc (Nat.le_refl _) (.cells (v8 z64).toArray 5))) (j + k) hi z64)
        have hjk : ((j : Int) + (k : Int)) = ((j + k : Nat) : Int) := by omega
        have HJK := Lib.hid hjk
        have HBW := Lib.hid (HFr.out.then_below ((Below.refl wr.heap.size wr).alloc (Nat.le_refl _) (.cells (v8 z64).toArray 5)))
        clear hi hjk
        go_wp2_with (go_at_call 30; rw [HJK.out]; refine HP.out.mono ?_; rintro _ W3 ⟨⟨vv, rfl⟩, h1, h2⟩; have HA3 := Lib.hid h1; have HF3 := Lib.hid (HBW.out.trans h2 (fun k hk => .inl hk)); clear h1 h2)
        go_roundw
        case rel => exact ⟨k + 1, rfl, by omega, HA3, HF3⟩
        case measure => simp [intOf]; omega
      · have hge : ¬ ((k : Int) < (q : Int)) := by omega
        obtain rfl : k = q := by omega
        clear hlt
        go_wp2_with (fail)
        go_ret
        exact ⟨rfl, HA.out, HFr.out⟩
end
end Go.Proofs.Ytbojokjommmebaa.MoRefTrim
