/- awake; and BitsPlays. -/
import Derived.Test.YtlmkhapejiippaaDoorBiPlay
namespace Go.Proofs.YtlmkhapejiippaaDoor.BiAwake
set_option linter.unusedSimpArgs false
set_option linter.unusedVariables false
open Go.RowKit Go.Proofs.YtlmkhapejiippaaDoorW.PrintWords Go.Proofs.YtlmkhapejiippaaDoorW.PrintLast Go.Proofs.YtlmkhapejiippaaDoorW.PrintMore Go.Proofs.YtlmkhapejiippaaDoor.PBitsPlays Go.Proofs.YtlmkhapejiippaaDoor.BiPop Go.Proofs.YtlmkhapejiippaaDoor.BiPure Go.Proofs.YtlmkhapejiippaaDoor.BiRef Go.Proofs.YtlmkhapejiippaaDoor.BiCore Go.Proofs.YtlmkhapejiippaaDoor.BiHas Go.Proofs.YtlmkhapejiippaaDoor.BiSeek Go.Proofs.YtlmkhapejiippaaDoor.BiNew Go.Proofs.YtlmkhapejiippaaDoor.BiAll Go.Proofs.YtlmkhapejiippaaDoor.BiList Go.Proofs.YtlmkhapejiippaaDoor.BiSame Go.Proofs.YtlmkhapejiippaaDoor.BiState Go.Proofs.YtlmkhapejiippaaDoor.BiPlay

def AwPost (w : World) (e : Ending) (w' : World) : Prop := e = .returned (.bool true) ∧ Below w.heap.size w w'
theorem aw_put {W : World} {sb lb : Nat} (h : SetAt W sb lb true 9 [0]) : Calls Tryd.prog 16 #[.pointer (some ⟨sb, 0, none⟩), .int .i64 3] W fun e W' => e = .returned (.bool true) ∧ SetAt W' sb lb true 9 [8] ∧ W.grownBy W' (some lb) :=
  (put_yes h 3 (by decide) (by decide)).mono fun e W' hh => hh
theorem aw_put2 {W : World} {sb lb : Nat} (h : SetAt W sb lb true 9 [8]) : Calls Tryd.prog 16 #[.pointer (some ⟨sb, 0, none⟩), .int .i64 3] W fun e W' => e = .returned (.bool false) ∧ W' = W :=
  put_no h 3 (by decide)
theorem aw_free {W : World} {sb lb : Nat} (h : SetAt W sb lb true 9 [8]) (hT : TabAt 0 Lib.deBruijn64tab W) : Calls Tryd.prog 15 #[.pointer (some ⟨sb, 0, none⟩), .int .i64 3] W fun e W' => e = .returned (.tuple #[.int .i64 4, .bool true]) ∧ W' = W := by
  have := free_calls h hT 3
  have e : nx (bit [8]) false (9 - (3 : Int).toNat) (3 : Int).toNat = some 4 := by decide
  rw [e] at this
  exact this
theorem aw_count {W : World} {sb lb : Nat} (h : SetAt W sb lb true 9 [8]) : Calls Tryd.prog 12 #[.pointer (some ⟨sb, 0, none⟩)] W fun e W' => e = .returned (.int .i64 1) ∧ Below W.heap.size W W' := by
  have := count_calls h
  have e : ((List.range 9).filter (bit [8])).length = 1 := by decide
  rw [e] at this
  exact this
set_option maxRecDepth 100000 in
set_option maxHeartbeats 1000000 in
theorem awake_calls (w : World) (hT : TabAt 0 Lib.deBruijn64tab w) : Calls Tryd.prog 8 #[] w (AwPost w) := by
  have HT := Lib.hid hT
  have HN := new_calls 9 (by omega) w
  clear hT
  go_enter Tryd.func8, Tryd.ntmps8
  go_wp2_with (first
    | (go_at_call 6; refine HN.mono ?_; rintro _ W ⟨sb, lb, rfl, hs, h1, h2, hb⟩; have HS1 := Lib.hid (show SetAt W sb lb true 9 [0] from hs); have HB := Lib.hid hb; have HL := Lib.hid h2; clear hs h1 h2 hb HN)
    | (go_at_call 16; refine (aw_put HS1.out).mono ?_; rintro _ W ⟨rfl, hs, hg⟩; have HS2 := Lib.hid hs; have n0 := Lib.hid (below_own HB.out hg HL.out); clear HS1 HB hs hg; have HB := n0; clear n0)
    | (go_at_call 16; refine (aw_put2 HS2.out).mono ?_; rintro _ W ⟨rfl, hw⟩; replace hw := hw.symm; subst hw)
    | (go_at_call 15; refine (aw_free HS2.out (tab_below HT.out HB.out)).mono ?_; rintro _ W ⟨rfl, hw⟩; replace hw := hw.symm; subst hw)
    | (go_at_call 12; refine (aw_count HS2.out).mono ?_; rintro _ W ⟨rfl, hb⟩; have n0 := Lib.hid (bthen HB.out hb); clear HB hb; have HB := n0; clear n0))
  go_ret
  exact ⟨rfl, HB.out⟩

theorem st_new {w W1 : World} {sb lb n : Nat} (hn : n ≤ 4096) (hs : SetAt W1 sb lb true n (List.replicate ((n + 63) / 64) 0)) (hl : w.heap.size ≤ lb) (hb : Below w.heap.size w W1) (hT : TabAt 0 Lib.deBruijn64tab w) :
    St w (W1.alloc (.cells (madeCells #[.bool false] n) 4)) (W1.alloc (.cells (madeCells #[.bool false] n) 4)) sb lb n (List.replicate ((n + 63) / 64) 0) (List.replicate ((n + 63) / 64) 0) (.slice (some ⟨W1.heap.size, 0, none⟩) n n) := by
  have hal : Below W1.heap.size W1 (W1.alloc (.cells (madeCells #[.bool false] n) 4)) := (Below.refl _ _).alloc (Nat.le_refl _) _
  have hlt := hs.lb_lt
  exact ⟨hs.below hal, Kd.R_lower (Kd.R_mono (Kd.R_bound (row_made n hn W1)) (fun k hk => by have := hk.2.1; omega)) hb.size, bthen hb hal, World.grownBy.refl _ _, hl, hT⟩
set_option maxRecDepth 100000 in
set_option maxHeartbeats 1000000 in
theorem plays_calls (w : World) (n : Nat) (hn : n < 256) (A2 : Option Addr) (c2 : Nat) (acts : List S47) (at_ : Int) (ha : Kd.C k47 w A2 acts.length acts) (hc : acts.length ≤ c2) (hT : TabAt 0 Lib.deBruijn64tab w) :
    Calls Tryd.prog 3 #[.int .u8 (n : Int), .slice A2 acts.length c2, .int .i64 at_] w (AwPost w) := by
  have HN := new_calls n (by omega) w
  have hrr := run_row n (by omega)
  have HT := Lib.hid hT
  have HA := Lib.hid ha
  clear hT ha
  go_enter Tryd.func3, Tryd.ntmps3
  go_wp2_with (first
    | (go_at_call 6; refine HN.mono ?_; rintro _ W ⟨sb, lb, rfl, hs, h1, h2, hb⟩; have HS1 := Lib.hid (st_new (by omega) hs h2 hb HT.out); clear hs h1 h2 hb HN)
    | (go_at_call 7; refine (play_calls _ _ _ _ _ _ HS1.out HA.out hc).mono ?_; rintro _ W ⟨A', c', ws', rfl, hs⟩; have HB := Lib.hid hs.b0; clear HS1 hs)
    | (go_at_call 8; refine (awake_calls _ (tab_below HT.out HB.out)).mono ?_; rintro _ W ⟨rfl, hb⟩; have n0 := Lib.hid (bthen HB.out hb); clear HB hb; have HB := n0; clear n0))
  go_ret
  exact ⟨rfl, HB.out⟩
end Go.Proofs.YtlmkhapejiippaaDoor.BiAwake
