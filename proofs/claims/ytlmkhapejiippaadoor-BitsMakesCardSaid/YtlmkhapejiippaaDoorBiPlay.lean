/- play. -/
import Derived.Test.YtlmkhapejiippaaDoorBiState
namespace Go.Proofs.YtlmkhapejiippaaDoor.BiPlay
set_option linter.unusedSimpArgs false
set_option linter.unusedVariables false
open Go.RowKit Go.Proofs.YtlmkhapejiippaaDoorW.PrintWords Go.Proofs.YtlmkhapejiippaaDoorW.PrintLast Go.Proofs.YtlmkhapejiippaaDoorW.PrintMore Go.Proofs.YtlmkhapejiippaaDoor.PBitsPlays Go.Proofs.YtlmkhapejiippaaDoor.BiPop Go.Proofs.YtlmkhapejiippaaDoor.BiPure Go.Proofs.YtlmkhapejiippaaDoor.BiRef Go.Proofs.YtlmkhapejiippaaDoor.BiCore Go.Proofs.YtlmkhapejiippaaDoor.BiHas Go.Proofs.YtlmkhapejiippaaDoor.BiSeek Go.Proofs.YtlmkhapejiippaaDoor.BiNew Go.Proofs.YtlmkhapejiippaaDoor.BiAll Go.Proofs.YtlmkhapejiippaaDoor.BiList Go.Proofs.YtlmkhapejiippaaDoor.BiSame Go.Proofs.YtlmkhapejiippaaDoor.BiState

section
variable {n : Nat} {ws : List Nat}
theorem set_noop (hn : n ≤ 4096) (i : Int) (b : Bool) (h : 0 ≤ i → i < (n : Int) → bit ws i.toNat = b) : springhouseref06_Set.f (row n ws) i b = some (row n ws) := by
  rw [ref_set hn]
  by_cases c : 0 ≤ i ∧ i < (n : Int)
  · rw [if_pos c]
    congr 1
    refine (row_ext (by rw [List.length_set, row_len]) fun k hk => ?_).symm
    rw [List.getElem?_set, row_len]
    by_cases e : i.toNat = k
    · rw [if_pos e, if_pos (by omega), ← h c.1 c.2, e]
    · rw [if_neg e, row_at k hk]
  · rw [if_neg c]
theorem set_in (h : Ok n ws) (i : Int) (hin : 0 ≤ i ∧ i < (n : Int)) : springhouseref06_Set.f (row n ws) i true = some (row n (putW ws i.toNat)) := by
  rw [ref_set h.few, if_pos hin, put_row h _ (by omega)]
theorem set_out (h : Ok n ws) (i : Int) (hin : 0 ≤ i ∧ i < (n : Int)) : springhouseref06_Set.f (row n ws) i false = some (row n (dropW ws i.toNat)) := by
  rw [ref_set h.few, if_pos hin, drop_row h _ (by omega)]
end
def PlayPost (W0 w : World) (sb lb n : Nat) (e : Ending) (W' : World) : Prop := ∃ A c ws, e = .returned (.tuple #[.slice A n c, .bool true]) ∧ St W0 w W' sb lb n ws ws (.slice A n c)
set_option maxRecDepth 100000 in
set_option maxHeartbeats 8000000 in
theorem play_calls {W0 w0 w : World} {sb lb n : Nat} {ws : List Nat} (A0 : Option Addr) (c0 : Nat) (A2 : Option Addr) (c2 : Nat) (acts : List S47) (at_ : Int) (h : St W0 w0 w sb lb n ws ws (.slice A0 n c0)) (ha : Kd.C k47 W0 A2 acts.length acts) (hc : acts.length ≤ c2) :
    Calls Tryd.prog 7 #[.pointer (some ⟨sb, 0, none⟩), .slice A0 n c0, .slice A2 acts.length c2, .int .i64 at_] w (PlayPost W0 w0 sb lb n) := by
  have hn := h.set.1.few
  have hmx := Kd.C_max ha
  have HS0 := Lib.hid h
  have HA := Lib.hid ha
  clear h ha
  go_enter Tryd.func7, Tryd.ntmps7
  go_wp2
  go_loopw [1, 10] (fun v1 v10 wr => ∃ (k : Nat) (ws' : List Nat) (A : Option Addr) (c : Nat), v1 = .slice A n c ∧ v10 = .int .i64 (k : Int) ∧ k ≤ acts.length ∧ Hid (St W0 w0 wr sb lb n ws' ws' (.slice A n c))) (fun _ v10 _ => ((acts.length : Int) - intOf v10).toNat)
  case atStart => exact ⟨0, ws, _, _, rfl, rfl, by omega, HS0⟩
  case round =>
    clear HS0
    obtain ⟨k, ws', A, c, rfl, rfl, hk, HS⟩ := hrel
    by_cases hlt : k < acts.length ∧ k < 50
    · obtain ⟨hk1, hk2⟩ := hlt
      obtain ⟨ad2, rfl, x0, x1⟩ := at_T47 HA.out (k : Int) (by omega) (by omega)
      have y0 := (HS.out.b0.cell (BiCore.cell_lt x0)).trans x0
      have y1 := (HS.out.b0.cell (BiCore.cell_lt x1)).trans x1
      clear x0 x1
      rw [Int.toNat_natCast] at y0 y1
      generalize rd_T47 acts (k : Int) = a at *
      obtain ⟨kd, i⟩ := a
      have HOK := Lib.hid HS.out.set.1
      by_cases k0 : kd = 0
      · subst k0
        by_cases hin : 0 ≤ i ∧ i < (n : Int)
        · have p := hin.1
          have q := hin.2
          have HPQ := Lib.hid hin
          cases hb : bit ws' i.toNat with
          | false =>
            have HBN := Lib.hid (show hasB n ws' i = false from by unfold hasB; rw [hb]; simp)
            have HBT := Lib.hid hb
            have HSET := Lib.hid (set_in HOK.out i hin)
            clear hb hin
            go_wp2_with (first
              | (go_at_call 16; refine (c16y HS.out _ HPQ.out HBN.out).mono ?_; rintro _ W' ⟨rfl, hs⟩; have n0 := Lib.hid hs; clear HS hs; have HS := n0; clear n0; obtain ⟨ad, rfl, hx⟩ := HS.out.cell i HPQ.out.1 HPQ.out.2; rw [HBT.out] at hx)
              | (go_at_call 21; refine (c21 HS.out _ _ HSET.out).mono ?_; rintro _ W' ⟨A', c', rfl, hs⟩; have n0 := Lib.hid hs; clear HS hs; have HS := n0; clear n0)
              | (go_at_call 10; refine (c10 HS.out _).mono ?_; rintro _ W' ⟨rfl, hs⟩; have n0 := Lib.hid hs; clear HS hs; have HS := n0; clear n0))
            go_roundw
            case rel => exact ⟨k + 1, putW ws' i.toNat, _, _, rfl, rfl, by omega, HS⟩
            case measure => simp [intOf]; omega
          | true =>
            have HNO := Lib.hid (show ¬(0 ≤ i ∧ i < (n : Int) ∧ hasB n ws' i = false) from by unfold hasB; rw [hb]; simp; omega)
            have HBT := Lib.hid hb
            have HSET := Lib.hid (set_noop (ws := ws') hn i true (fun _ _ => hb))
            clear hb hin
            go_wp2_with (first
              | (go_at_call 16; refine (c16n HS.out _ HNO.out).mono ?_; rintro _ W' ⟨rfl, hs⟩; have n0 := Lib.hid hs; clear HS hs; have HS := n0; clear n0; obtain ⟨ad, rfl, hx⟩ := HS.out.cell i HPQ.out.1 HPQ.out.2; rw [HBT.out] at hx)
              | (go_at_call 21; refine (c21 HS.out _ _ HSET.out).mono ?_; rintro _ W' ⟨A', c', rfl, hs⟩; have n0 := Lib.hid hs; clear HS hs; have HS := n0; clear n0)
              | (go_at_call 10; refine (c10 HS.out _).mono ?_; rintro _ W' ⟨rfl, hs⟩; have n0 := Lib.hid hs; clear HS hs; have HS := n0; clear n0))
            go_roundw
            case rel => exact ⟨k + 1, ws', _, _, rfl, rfl, by omega, HS⟩
            case measure => simp [intOf]; omega
        · have HNO := Lib.hid (show ¬(0 ≤ i ∧ i < (n : Int) ∧ hasB n ws' i = false) from fun h => hin ⟨h.1, h.2.1⟩)
          have HSET := Lib.hid (set_noop (ws := ws') hn i true (fun h1 h2 => absurd ⟨h1, h2⟩ hin))
          by_cases p : 0 ≤ i
          · have q : ¬ i < (n : Int) := fun h => hin ⟨p, h⟩
            clear hin
            go_wp2_with (first
              | (go_at_call 16; refine (c16n HS.out _ HNO.out).mono ?_; rintro _ W' ⟨rfl, hs⟩; have n0 := Lib.hid hs; clear HS hs; have HS := n0; clear n0)
              | (go_at_call 21; refine (c21 HS.out _ _ HSET.out).mono ?_; rintro _ W' ⟨A', c', rfl, hs⟩; have n0 := Lib.hid hs; clear HS hs; have HS := n0; clear n0)
              | (go_at_call 10; refine (c10 HS.out _).mono ?_; rintro _ W' ⟨rfl, hs⟩; have n0 := Lib.hid hs; clear HS hs; have HS := n0; clear n0))
            go_roundw
            case rel => exact ⟨k + 1, ws', _, _, rfl, rfl, by omega, HS⟩
            case measure => simp [intOf]; omega
          · clear hin
            go_wp2_with (first
              | (go_at_call 16; refine (c16n HS.out _ HNO.out).mono ?_; rintro _ W' ⟨rfl, hs⟩; have n0 := Lib.hid hs; clear HS hs; have HS := n0; clear n0)
              | (go_at_call 21; refine (c21 HS.out _ _ HSET.out).mono ?_; rintro _ W' ⟨A', c', rfl, hs⟩; have n0 := Lib.hid hs; clear HS hs; have HS := n0; clear n0)
              | (go_at_call 10; refine (c10 HS.out _).mono ?_; rintro _ W' ⟨rfl, hs⟩; have n0 := Lib.hid hs; clear HS hs; have HS := n0; clear n0))
            go_roundw
            case rel => exact ⟨k + 1, ws', _, _, rfl, rfl, by omega, HS⟩
            case measure => simp [intOf]; omega
      · have e0 : (kd == 0) = false := by simp [k0]
        by_cases k1 : kd = 1
        · subst k1
          clear k0 e0
          cases hb : hasB n ws' i with
          | true =>
            have HBN := Lib.hid hb
            have HSET := Lib.hid (set_out HOK.out i ⟨(has_in hb).1, (has_in hb).2.1⟩)
            clear hb
            go_wp2_with (first
              | (go_at_call 17; refine (c17y HS.out _ HBN.out).mono ?_; rintro _ W' ⟨rfl, hs⟩; have n0 := Lib.hid hs; clear HS hs; have HS := n0; clear n0)
              | (go_at_call 22; refine (c22 HS.out _).mono ?_; rintro _ W' ⟨he, hs⟩; rw [HBN.out] at he; subst he; have n0 := Lib.hid hs; clear HS hs; have HS := n0; clear n0)
              | (go_at_call 21; refine (c21 HS.out _ _ HSET.out).mono ?_; rintro _ W' ⟨A', c', rfl, hs⟩; have n0 := Lib.hid hs; clear HS hs; have HS := n0; clear n0)
              | (go_at_call 10; refine (c10 HS.out _).mono ?_; rintro _ W' ⟨rfl, hs⟩; have n0 := Lib.hid hs; clear HS hs; have HS := n0; clear n0))
            go_roundw
            case rel => exact ⟨k + 1, dropW ws' i.toNat, _, _, rfl, rfl, by omega, HS⟩
            case measure => simp [intOf]; omega
          | false =>
            have HBN := Lib.hid hb
            have HSET := Lib.hid (set_noop (ws := ws') hn i false (fun h1 h2 => by unfold hasB at hb; simpa [h1, h2] using hb))
            clear hb
            go_wp2_with (first
              | (go_at_call 17; refine (c17n HS.out _ HBN.out).mono ?_; rintro _ W' ⟨rfl, hs⟩; have n0 := Lib.hid hs; clear HS hs; have HS := n0; clear n0)
              | (go_at_call 22; refine (c22 HS.out _).mono ?_; rintro _ W' ⟨he, hs⟩; rw [HBN.out] at he; subst he; have n0 := Lib.hid hs; clear HS hs; have HS := n0; clear n0)
              | (go_at_call 21; refine (c21 HS.out _ _ HSET.out).mono ?_; rintro _ W' ⟨A', c', rfl, hs⟩; have n0 := Lib.hid hs; clear HS hs; have HS := n0; clear n0)
              | (go_at_call 10; refine (c10 HS.out _).mono ?_; rintro _ W' ⟨rfl, hs⟩; have n0 := Lib.hid hs; clear HS hs; have HS := n0; clear n0))
            go_roundw
            case rel => exact ⟨k + 1, ws', _, _, rfl, rfl, by omega, HS⟩
            case measure => simp [intOf]; omega
        · have e1 : (kd == 1) = false := by simp [k1]
          clear k0 k1
          by_cases k2 : kd = 2
          · subst k2
            clear e0 e1
            have hrr := run_row n hn
            have HMK := Lib.hid (fun (W' : World) (hs : St W0 w0 W' sb lb n (List.replicate ws'.length 0) ws' (.slice A n c)) => (show St W0 w0 (W'.alloc (.cells (madeCells #[.bool false] n) 4)) sb lb n (List.replicate ((n + 63) / 64) 0) (List.replicate ((n + 63) / 64) 0) (.slice (some ⟨W'.heap.size, 0, none⟩) n n) from (by
              have e := HOK.out.len
              rw [e] at hs
              exact hs.renew (row_made n hn W') ((Below.refl _ _).alloc (Nat.le_refl _) _))))
            go_wp2_with (first
              | (go_at_call 13; refine (c13 HS.out).mono ?_; rintro _ W' ⟨⟨xx, rfl⟩, hs⟩; have n0 := Lib.hid hs; clear HS hs; have HS := n0; clear n0)
              | (go_at_call 10; refine (c10 (HMK.out _ HS.out) _).mono ?_; clear HMK; rintro _ W' ⟨rfl, hs⟩; have n0 := Lib.hid hs; clear HS hs; have HS := n0; clear n0)
              | (go_at_call 10; refine (c10 HS.out _).mono ?_; rintro _ W' ⟨rfl, hs⟩; have n0 := Lib.hid hs; clear HS hs; have HS := n0; clear n0))
            go_roundw
            case rel => exact ⟨k + 1, _, _, _, rfl, rfl, by omega, HS⟩
            case measure => simp [intOf]; omega
          · have e2 : (kd == 2) = false := by simp [k2]
            clear k2
            go_wp2_with (first
              | (go_at_call 10; refine (c10 HS.out _).mono ?_; rintro _ W' ⟨rfl, hs⟩; have n0 := Lib.hid hs; clear HS hs; have HS := n0; clear n0))
            go_roundw
            case rel => exact ⟨k + 1, ws', _, _, rfl, rfl, by omega, HS⟩
            case measure => simp [intOf]; omega
    · have hex : ¬ ((k : Int) < (acts.length : Int)) ∨ ((k : Int) < (acts.length : Int) ∧ ¬ ((k : Int) < 50)) := by omega
      clear hlt
      rcases hex with hex | ⟨hex, hex2⟩
      · go_wp2_with (fail)
        go_ret2
        exact ⟨A, c, ws', rfl, HS.out⟩
      · go_wp2_with (fail)
        go_ret2
        exact ⟨A, c, ws', rfl, HS.out⟩
end Go.Proofs.YtlmkhapejiippaaDoor.BiPlay
