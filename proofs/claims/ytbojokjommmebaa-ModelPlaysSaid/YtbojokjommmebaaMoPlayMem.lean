/- An array and its reference side by side; 'some'; 'same'. -/
import Derived.Test.YtbojokjommmebaaMoRefCrash
namespace Go.Proofs.Ytbojokjommmebaa.MoPlayMem
set_option linter.unusedSimpArgs false
set_option linter.unusedVariables false
open Go.RowKit Go.Proofs.YtbojokjommmebaaW.PrintWords Go.Proofs.YtbojokjommmebaaW.PrintLast Go.Proofs.YtbojokjommmebaaW.PrintMore Go.Proofs.Ytbojokjommmebaa.PModelPlays Go.Proofs.Ytbojokjommmebaa.MoMem Go.Proofs.Ytbojokjommmebaa.MoGo Go.Proofs.Ytbojokjommmebaa.MoNow Go.Proofs.Ytbojokjommmebaa.MoRead Go.Proofs.Ytbojokjommmebaa.MoPut Go.Proofs.Ytbojokjommmebaa.MoWrite Go.Proofs.Ytbojokjommmebaa.MoLoose Go.Proofs.Ytbojokjommmebaa.MoNew Go.Proofs.Ytbojokjommmebaa.MoCrash Go.Proofs.Ytbojokjommmebaa.MoSame Go.Proofs.Ytbojokjommmebaa.MoCmp Go.Proofs.Ytbojokjommmebaa.MoFill Go.Proofs.Ytbojokjommmebaa.MoReg Go.Proofs.Ytbojokjommmebaa.MoAwake Go.Proofs.Ytbojokjommmebaa.MoPure Go.Proofs.Ytbojokjommmebaa.MoKeeps Go.Proofs.Ytbojokjommmebaa.MoRefMem Go.Proofs.Ytbojokjommmebaa.MoRefPut Go.Proofs.Ytbojokjommmebaa.MoRefWrite Go.Proofs.Ytbojokjommmebaa.MoRefTrim Go.Proofs.Ytbojokjommmebaa.MoRefRows Go.Proofs.Ytbojokjommmebaa.MoRefNew Go.Proofs.Ytbojokjommmebaa.MoRefSame Go.Proofs.Ytbojokjommmebaa.MoJoin Go.Proofs.Ytbojokjommmebaa.MoRefCrash
/-! ### some -/
theorem some_in (l m : List Int) (hl : l.length ≤ 512) (hm : m.length ≤ 9223372036854775807) (i : Nat) (hi : i < l.length) (HP : ∀ out : List Int, out.length ≤ 10 * (i + 1) → ∃ k r, springhouselaw31_some.l0 k l m out ((i + 1 : Nat) : Int) = some r) :
    ∀ (d j : Nat) (out : List Int), 10 - j = d → j ≤ 10 → j ≤ m.length → out.length ≤ 10 * i + j → ∃ k r, springhouselaw31_some.l1 k l m out (i : Int) (j : Int) = some r
  | 0, j, out, hd, hj, hjm, ho => by
    obtain ⟨k, r, hk⟩ := HP out (by omega)
    refine ⟨k + 2, r, ?_⟩
    have hj10 : j = 10 := by omega
    subst hj10
    simp only [springhouselaw31_some.l1]
    have e : decide (((10 : Nat) : Int) < 10) = false := by decide
    rw [e, ite_self]
    simp only [springhouselaw31_some.j2]
    rw [if_neg (by decide), MoFill.wrap64_in (by omega) (by omega)]
    exact hk
  | d + 1, j, out, hd, hj, hjm, ho => by
    by_cases hlt : j < m.length
    · have step : ∀ out' : List Int, out'.length ≤ 10 * i + (j + 1) → ∃ k r, springhouselaw31_some.l1 k l m out' (i : Int) (wrap64 ((j : Int) + 1)) = some r := by
        intro out' h'
        obtain ⟨k, r, hk⟩ := some_in l m hl hm i hi HP d (j + 1) out' (by omega) (by omega) (by omega) h'
        exact ⟨k, r, by rw [MoFill.wrap64_in (by omega) (by omega)]; exact hk⟩
      have e : decide ((j : Int) < 10) = true := by simp; omega
      by_cases hq : rd m (j : Int) = (i : Int)
      · obtain ⟨k, r, hk⟩ := step (out ++ [rd l (i : Int)]) (by simp; omega)
        refine ⟨k + 2, r, ?_⟩
        simp only [springhouselaw31_some.l1]
        rw [if_pos (by omega), e]
        simp only [springhouselaw31_some.j2]
        rw [if_pos trivial, if_pos (by omega), if_pos (by omega), if_pos hq, if_pos (by omega), if_pos (by omega), if_pos (by omega)]
        exact hk
      · obtain ⟨k, r, hk⟩ := step out (by omega)
        refine ⟨k + 2, r, ?_⟩
        simp only [springhouselaw31_some.l1]
        rw [if_pos (by omega), e]
        simp only [springhouselaw31_some.j2]
        rw [if_pos trivial, if_pos (by omega), if_pos (by omega), if_neg hq]
        exact hk
    · obtain ⟨k, r, hk⟩ := HP out (by omega)
      refine ⟨k + 2, r, ?_⟩
      simp only [springhouselaw31_some.l1]
      rw [if_neg (by omega)]
      simp only [springhouselaw31_some.j2]
      rw [if_neg (by decide), MoFill.wrap64_in (by omega) (by omega)]
      exact hk
theorem some_out (l m : List Int) (hl : l.length ≤ 512) (hm : m.length ≤ 9223372036854775807) : ∀ (d i : Nat), l.length - i = d → i ≤ l.length → ∀ out : List Int, out.length ≤ 10 * i → ∃ k r, springhouselaw31_some.l0 k l m out (i : Int) = some r
  | 0, i, hd, hi, out, ho => ⟨1, out, by
    simp only [springhouselaw31_some.l0]
    rw [if_neg (by omega)]⟩
  | d + 1, i, hd, hi, out, ho => by
    obtain ⟨k, r, hk⟩ := some_in l m hl hm i (by omega) (some_out l m hl hm d (i + 1) (by omega) (by omega)) 10 0 out (by omega) (by omega) (by omega) (by omega)
    refine ⟨k + 1, r, ?_⟩
    simp only [springhouselaw31_some.l0]
    rw [if_pos (by omega)]
    exact hk
def SomePost (W : World) (e : Ending) (W' : World) : Prop := ∃ A c l, e = .returned (.slice A (List.length l) c) ∧ l.length ≤ c ∧ Kd.C (Kd.int .i64) W' A l.length l ∧ Below W.heap.size W W'
theorem some_calls (A : Option Addr) (c : Nat) (l : List Int) (B : Option Addr) (d : Nat) (m : List Int) (W : World) (hl : l.length ≤ 512) (h0 : Kd.C (Kd.int .i64) W A l.length l) (hc : l.length ≤ c) (h1 : Kd.C (Kd.int .i64) W B m.length m) (hd : m.length ≤ d) :
    Calls Try.prog 21 #[.slice A l.length c, .slice B m.length d] W (SomePost W) := by
  obtain ⟨k, r, hk⟩ := some_out l m hl (Kd.C_max h1) l.length 0 (by omega) (by omega) [] (by simp)
  refine (springhouselaw31_some.calls k A c l B d m r W h0 hc h1 hd hk).mono ?_
  rintro e W' ⟨v, rfl, hr, hb⟩
  obtain ⟨A', c', rfl, h2, h3⟩ := Kd.R_reads hr
  exact ⟨A', c', r, rfl, h2, h3, hb⟩
/-! ### side by side -/
def Z2 (ab lb : Nat) (k : Nat) : Prop := k = ab ∨ k = lb
structure P1 (w W : World) (ab lb rb : Nat) (x p : List Bk) (v0 v1 v2 : Value) : Prop where
  a : Ar w W ab lb x
  r : RefB W w.heap.size (Z2 ab lb) rb p v0 v1 v2
section
variable {w W W' : World} {ab lb rb : Nat} {x p : List Bk} {v0 v1 v2 : Value}
theorem P1.below (h : P1 w W ab lb rb x p v0 v1 v2) (hb : Below W.heap.size W W') : P1 w W' ab lb rb x p v0 v1 v2 := ⟨h.a.below hb, RefAt.below h.r hb⟩
theorem P1.wr (h : P1 w W ab lb rb x p v0 v1 v2) {x' : List Bk} (ha : ArrAt W' ab lb x') (hf : Fr W W' (fun k => k = lb)) : P1 w W' ab lb rb x' p v0 v1 v2 := ⟨h.a.step ha hf, RefAt.far h.r (z := lb) (.inr rfl) hf⟩
theorem P1.refE (h : P1 w W ab lb rb x p v0 v1 v2) : RefE W w.heap.size (Z2 ab lb) rb p := ⟨v0, v1, v2, h.r⟩
/-- A call of the reference's, and what it must leave. -/
theorem P1.ref (h : P1 w W ab lb rb x p v0 v1 v2) (Y : Nat → Prop) (hY : ∀ k, Y k → k < W.heap.size ∧ ¬ Own rb v0 v1 v2 k) {F : FuncId} {args : Array Value} {R : Ending → Prop} {p' : List Bk}
    (hc : ∀ Z, RefE W w.heap.size Z rb p → (∀ k, Z k → k < W.heap.size) → Calls Try.prog F args W fun e W' => R e ∧ RefE W' w.heap.size Z rb p' ∧ Fr W W' (NZ w.heap.size Z)) :
    Calls Try.prog F args W fun e W' => R e ∧ (∃ u0 u1 u2, P1 w W' ab lb rb x p' u0 u1 u2) ∧ Fr W W' (fun k => ¬ Y k) := by
  have hz : ∀ k, Z2 ab lb k → k < W.heap.size := by
    rintro k (rfl | rfl)
    · exact h.a.arr.ab_lt
    · exact h.a.arr.lb_lt
  refine (hc (fun k => Z2 ab lb k ∨ Y k) ⟨v0, v1, v2, RefAt.reZ h.r (fun k hk hh => hh.elim (RefAt.ap h.r k hk) (fun hy => (hY k hy).2 hk))⟩ (fun k hk => hk.elim (hz k) (fun hy => (hY k hy).1))).mono ?_
  rintro e W' ⟨he, ⟨u0, u1, u2, h1⟩, hf⟩
  have hnz : ∀ k, Z2 ab lb k → ¬ NZ w.heap.size (fun k => Z2 ab lb k ∨ Y k) k := fun k hk hn => hn.2 (.inl hk)
  exact ⟨he, ⟨u0, u1, u2, ⟨h.a.arr.fr hf (hnz _ (.inl rfl)) (hnz _ (.inr rfl)), h.a.lo, h.a.lo', hf.below h.a.bl (fun k hk => hk.1)⟩, RefAt.reZ h1 (fun k hk hz => RefAt.ap h1 k hk (.inl hz))⟩, hf.mono (fun k hk hy => hk.2 (.inr hy))⟩
end
/-! ### same -/
section
variable {W W' : World} {ab lb rb base : Nat} {Z : Nat → Prop} {bs : List Bk}
set_option maxRecDepth 100000 in
set_option maxHeartbeats 8000000 in
theorem lsame_calls (h : ArrAt W ab lb bs) (h' : RefE W base Z rb bs) : Calls Try.prog 25 #[.pointer (some ⟨ab, 0, none⟩), .pointer (some ⟨rb, 0, none⟩)] W (AwPost W) := by
  have hf := h.few
  have HH := Lib.hid h
  have HR := Lib.hid h'
  obtain ⟨L, hL⟩ : ∃ L, L = bs.length := ⟨_, rfl⟩
  rw [← hL] at hf
  have HL := Lib.hid hL
  clear h h' hL
  go_enter Try.func25, Try.ntmps25
  go_wp2_with (fail)
  go_loopw [5] (fun v5 wr => ∃ (k : Nat), v5 = .int .i64 (k : Int) ∧ k ≤ L ∧ Hid (Below W.heap.size W wr)) (fun v5 _ => ((L : Int) - intOf v5).toNat)
  case atStart => exact ⟨0, rfl, by omega, Lib.hid (Below.refl _ _)⟩
  case round =>
    obtain ⟨k, rfl, hk, HB⟩ := hrel
    have ha := HH.out.below HB.out
    have hr := HR.out.below HB.out
    obtain ⟨A, c, c0, hc⟩ := refE_c0 hr
    rw [← HL.out] at c0 hc
    by_cases hlt : k < L
    · have hi : k < bs.length := by rw [← HL.out]; exact hlt
      obtain ⟨B, d, s1, hd, sc⟩ := refE_s hr
      rw [← HL.out] at s1 hd sc
      obtain ⟨g, rfl, xg⟩ := sc k hlt
      have HRD := Lib.hid (read_ok ha k hi)
      have HS := Lib.hid (And.intro s1 xg)
      clear ha hr sc s1 xg hi
      go_wp2_with (fail)
      refine HRD.out.mono ?_
      rintro _ W5 ⟨v5, rfl, hr5, hb5⟩
      obtain ⟨A5, c5, rfl, hl5, hc5⟩ := Kd.R_reads hr5
      have HC5 := Lib.hid hc5
      have A1 := Lib.hid ((hb5.cell (cell_lt HS.out.1)).trans HS.out.1)
      have X1 := Lib.hid ((hb5.cell (cell_lt HS.out.2)).trans HS.out.2)
      have HB5 := Lib.hid (bthen HB.out hb5)
      clear hr5 hb5 hc5 hl5 HRD HS c0 hc
      generalize (bs.getD k zb).now = fl at *
      go_wp2_with (fail)
      refine wp_region_held (S := fun w' => Below W5.heap.size W5 w') (by kernel_rfl) ?_
      have SS : Below W5.heap.size W5 { W5 with drawn := W5.drawn + 1 } := (Below.refl _ _).drew
      refine take 0 23 (.int .i64 0) (by kernel_rfl) (by kernel_rfl) (by kernel_rfl) (by kernel_rfl) (by kernel_rfl) (fun _ _ _ h => h) (by kernel_rfl) (fun _ _ => by kernel_rfl) SS ?_
      refine take 1 24 (.bool false) (by kernel_rfl) (by kernel_rfl) (by kernel_rfl) (by kernel_rfl) (by kernel_rfl) (fun _ _ _ h => h) (by kernel_rfl) (fun _ _ => by kernel_rfl) SS ?_
      refine take 2 25 (.bool false) (by kernel_rfl) (by kernel_rfl) (by kernel_rfl) (by kernel_rfl) (by kernel_rfl) (fun _ _ _ h => h) (by kernel_rfl) (fun _ _ => by kernel_rfl) SS ?_
      refine take 3 26 (.slice A5 fl.length c5) (by kernel_rfl) (by kernel_rfl) (by kernel_rfl) (by kernel_rfl) (by kernel_rfl) (fun _ _ _ h => h) (by kernel_rfl) (fun _ _ => by kernel_rfl) SS ?_
      refine take 4 27 (.string (strOfNums fl)) (by kernel_rfl) (by kernel_rfl) (by kernel_rfl) (by kernel_rfl) (by kernel_rfl) (fun _ _ _ h => h) (by kernel_rfl) (fun w' hS => exec_convert 33 9 (.tmp 26) (.slice A5 fl.length c5) (by kernel_rfl) (by kernel_rfl) (conv_bytes (Kd.C_below HC5.out hS))) SS ?_
      refine take 5 28 (.pointer (some ⟨rb, 0, none⟩)) (by kernel_rfl) (by kernel_rfl) (by kernel_rfl) (by kernel_rfl) (by kernel_rfl) (fun _ _ _ h => h) (by kernel_rfl) (fun _ _ => by kernel_rfl) SS ?_
      refine take 6 29 (.pointer (some ⟨rb, 0, none⟩)) (by kernel_rfl) (by kernel_rfl) (by kernel_rfl) (by kernel_rfl) (by kernel_rfl) (fun _ _ _ h => h) (by kernel_rfl) (fun _ _ => by kernel_rfl) SS ?_
      refine take 7 30 (.pointer (some ⟨rb, 1, none⟩)) (by kernel_rfl) (by kernel_rfl) (by kernel_rfl) (by kernel_rfl) (by kernel_rfl) (fun _ _ _ h => h) (by kernel_rfl) (fun _ _ => by kernel_rfl) SS ?_
      refine take 8 31 (.slice (some ⟨g, 0, none⟩) L d) (by kernel_rfl) (by kernel_rfl) (by kernel_rfl) (by kernel_rfl) (by kernel_rfl) (fun _ _ _ h => h) (by kernel_rfl) (fun w' hS => exec_loadS 43 (.tmp 30) ⟨rb, 1, none⟩ (some ⟨g, 0, none⟩) L d (fun _ => by kernel_rfl) (by kernel_rfl) (by kernel_rfl) ((hS.cell (cell_lt A1.out)).trans A1.out)) SS ?_
      refine take 9 32 (.int .i64 (k : Int)) (by kernel_rfl) (by kernel_rfl) (by kernel_rfl) (by kernel_rfl) (by kernel_rfl) (fun _ _ _ h => h) (by kernel_rfl) (fun _ _ => by kernel_rfl) SS ?_
      refine take 10 33 (.pointer (some ⟨g, k, none⟩)) (by kernel_rfl) (by kernel_rfl) (by kernel_rfl) (by kernel_rfl) (by kernel_rfl) (fun _ _ _ h => h) (by kernel_rfl) (fun w' hS => exec_idx43 (.tmp 31) (.tmp 32) g L d k (by kernel_rfl) (by kernel_rfl) (by kernel_rfl) hlt) SS ?_
      refine take 11 34 (.string (strOfNums fl)) (by kernel_rfl) (by kernel_rfl) (by kernel_rfl) (by kernel_rfl) (by kernel_rfl) (fun _ _ _ h => h) (by kernel_rfl) (fun w' hS => exec_loadV 9 (.tmp 33) ⟨g, k, none⟩ _ (fun _ => by kernel_rfl) (by kernel_rfl) (by kernel_rfl) ((hS.cell (cell_lt X1.out)).trans X1.out)) SS ?_
      refine take 12 35 (.bool false) (by kernel_rfl) (by kernel_rfl) (by kernel_rfl) (by kernel_rfl) (by kernel_rfl) (fun _ _ _ h => h) (by kernel_rfl) (fun w' hS => exec_strneq 9 9 (.tmp 27) (.tmp 34) (strOfNums fl) (strOfNums fl) (by kernel_rfl) (by kernel_rfl) (by kernel_rfl) false (by simp)) SS ?_
      refine take 13 36 (.bool false) (by kernel_rfl) (by kernel_rfl) (by kernel_rfl) (by kernel_rfl) (by kernel_rfl) (fun _ _ _ h => h) (by kernel_rfl) (fun _ _ => by kernel_rfl) SS ?_
      try simp only [Act.put, List.setIfInBounds_toArray, List.set_cons_zero, List.set_cons_succ]
      refine wpAnyH_done (by kernel_rfl) ?_ _
      have HB6 := Lib.hid (bthen HB5.out SS)
      clear SS
      go_wp2_with (fail)
      go_roundw
      case rel => exact ⟨k + 1, rfl, by omega, HB6⟩
      case measure => simp [intOf]; omega
    · have hge : ¬ ((k : Int) < (L : Int)) := by omega
      obtain rfl : k = L := by omega
      have HA := Lib.hid (loose_calls ha)
      have HB0 := Lib.hid hr
      have HAA := Lib.hid ha
      clear hlt ha hr
      go_wp2_with (fail)
      refine HA.out.mono ?_
      rintro _ W7 ⟨v7, rfl, hr7, hb7⟩
      obtain ⟨A7, c7, rfl, hl7, hc7⟩ := Kd.R_reads hr7
      have HRW := Lib.hid (rows_calls (HB0.out.below hb7))
      have HC7 := Lib.hid (And.intro hc7 hl7)
      have HB7 := Lib.hid (bthen HB.out hb7)
      clear hr7 hb7 hc7 hl7 HA c0 hc
      go_wp2_with (fail)
      refine HRW.out.mono ?_
      rintro _ W8 ⟨v8, rfl, hr8, hb8⟩
      obtain ⟨A8, c8, rfl, hl8, hc8⟩ := Kd.R_reads hr8
      have hsm := ints_same A7 c7 _ A8 c8 _ W8 (Kd.C_below HC7.out.1 hb8) HC7.out.2 hc8 hl8
      rw [decide_eq_true rfl] at hsm
      have HSM := Lib.hid hsm
      have HB8 := Lib.hid (bthen HB7.out hb8)
      clear hr8 hb8 hc8 hl8 hsm HRW
      go_wp2_with (fail)
      refine HSM.out.mono ?_
      rintro _ W9 ⟨rfl, hb9⟩
      have HB9 := Lib.hid (bthen HB8.out hb9)
      clear hb9
      go_wp2_with (fail)
      go_ret
      exact ⟨rfl, HB9.out⟩
end
end Go.Proofs.Ytbojokjommmebaa.MoPlayMem
namespace Go.Proofs.Ytbojokjommmebaa.MoPlayReg
set_option linter.unusedSimpArgs false
set_option linter.unusedVariables false
open Go.RowKit Go.Proofs.YtbojokjommmebaaW.PrintWords Go.Proofs.YtbojokjommmebaaW.PrintLast Go.Proofs.YtbojokjommmebaaW.PrintMore Go.Proofs.Ytbojokjommmebaa.PModelPlays Go.Proofs.Ytbojokjommmebaa.MoMem Go.Proofs.Ytbojokjommmebaa.MoGo Go.Proofs.Ytbojokjommmebaa.MoNow Go.Proofs.Ytbojokjommmebaa.MoRead Go.Proofs.Ytbojokjommmebaa.MoPut Go.Proofs.Ytbojokjommmebaa.MoWrite Go.Proofs.Ytbojokjommmebaa.MoLoose Go.Proofs.Ytbojokjommmebaa.MoNew Go.Proofs.Ytbojokjommmebaa.MoCrash Go.Proofs.Ytbojokjommmebaa.MoFill Go.Proofs.Ytbojokjommmebaa.MoReg Go.Proofs.Ytbojokjommmebaa.MoAwake Go.Proofs.Ytbojokjommmebaa.MoActs Go.Proofs.Ytbojokjommmebaa.MoPure Go.Proofs.Ytbojokjommmebaa.MoKeeps Go.Proofs.Ytbojokjommmebaa.MoRefMem Go.Proofs.Ytbojokjommmebaa.MoRefPut Go.Proofs.Ytbojokjommmebaa.MoRefWrite Go.Proofs.Ytbojokjommmebaa.MoRefTrim Go.Proofs.Ytbojokjommmebaa.MoRefRows Go.Proofs.Ytbojokjommmebaa.MoRefNew Go.Proofs.Ytbojokjommmebaa.MoRefSame Go.Proofs.Ytbojokjommmebaa.MoJoin Go.Proofs.Ytbojokjommmebaa.MoRefCrash Go.Proofs.Ytbojokjommmebaa.MoPlayMem
/-- A region of a function's code. -/
def regOps (id : Nat) : Code → Option (Array Oper)
  | .region i ops _ => bif Nat.beq i id then some ops else none
  | .seq a b => match regOps id a with
    | some c => some c
    | none => regOps id b
  | .cond _ a b => match regOps id a with
    | some c => some c
    | none => regOps id b
  | .block _ c => regOps id c
  | .loop c => regOps id c
  | .scope c => regOps id c
  | _ => none
noncomputable def ops4 (id : Nat) : Array Oper := (Try.f4.body.bind (regOps id)).getD #[]
theorem wp_theops {P : Program} {id : Nat} {b : Bool} {Q : Exit → Act → World → Prop} {a : Act} {w : World} {ops ops' : Array Oper} (h : ops' = ops) (hw : (Code.region id ops' b).wp P Q a w) : (Code.region id ops b).wp P Q a w := h ▸ hw
def Z32 : Array Value := #[.int .i64 0, .int .i64 0, .int .i64 0, .int .i64 0, .int .u8 0, .slice none 0 0]
theorem zero32 (w : World) : (zeroValue 32).run Try.prog w = .ok (.agg Z32) w := by kernel_rfl
theorem size32 : (Try.prog.info? 32).map (·.size) = some 6 := by kernel_rfl
/-- What is stored into a variable that was just made. -/
theorem wpList_store_boxed {P : Program} {ops : Array Oper} {rest : List Oper} {o : Oper} {a : Act} {Q : Exit → Act → World → Prop} (hgd : o.guard = none) (ty : TypeId) (x y : Operand) (ho : o.op = .store ty x y) (wr W2 : World) (Z : Array Value) (cs : List Value)
    (hx : a.eval x = .pointer (some ⟨wr.heap.size, 0, none⟩)) (hy : a.eval y = .agg cs.toArray) (hB : W2.heap[wr.heap.size]? = some (.cells Z ty (0, 0))) (hZ : Z.size = cs.length) (hi : (P.info? ty).map (·.size) = some cs.length) (h1 : ∀ v ∈ cs, v.oneCell' = true) (hbw : Below wr.heap.size wr W2)
    (h : ∀ W3, W3.heap[wr.heap.size]? = some (.cells cs.toArray ty (0, 0)) → Below wr.heap.size wr W3 → wpList P ops Q rest (a.put o.dst undef) W3) : wpList P ops Q (o :: rest) a W2 := by
  have ht : W2.there wr.heap.size 0 cs.toArray.size := by
    intro j hj
    rw [List.size_toArray] at hj
    refine ⟨?_, blk_frozen hB _⟩
    rw [cell_of_row W2 _ _ _ _ _ hB, Array.getElem?_eq_getElem (by omega)]; rfl
  obtain ⟨cur', e1, e2, e3⟩ := setCells_row cs 0 W2 Z hB (by omega)
  have e4 : cur' = cs.toArray := by
    apply Array.toList_inj.1
    rw [e3]
    have : Z.toList.drop (0 + cs.length) = [] := by
      rw [List.drop_eq_nil_iff, Array.length_toList]; omega
    rw [this]; simp
  refine wpList_store_mid hgd ty x y ho wr.heap.size 0 cs.toArray hx hy ht (by rw [List.size_toArray]; exact hi) (all_oneCell_toArray h1) ?_
  exact h _ (by have e5 := e1; rw [e4] at e5; exact e5) ((Fr.setCells W2 wr.heap.size 0 cs).below hbw (fun k hk => by omega))
theorem keepL_len : ∀ (l : List Int) (o x y : List Bk), keepL o x l = some y → y.length = x.length
  | [], o, x, y, h => by simp only [keepL] at h; injection h with h; rw [h]
  | a :: l, o, x, y, h => by
    simp only [keepL] at h
    split at h
    · rw [keepL_len l o _ y h, List.length_set]
    · cases h
theorem crashL_len {x y : List Bk} {l : List Int} (h : crashL x l = some y) : y.length = x.length := by
  unfold crashL at h
  obtain ⟨z, h1, rfl⟩ := Option.map_eq_some_iff.1 h
  rw [List.length_map, keepL_len l x x z h1]
/-- What an act's words are, and the bytes to be written. -/
structure S3 (g base : Nat) (al an : Int) (v : Value) (fl : List Int) (W : World) : Prop where
  c1 : W.cell? ⟨g, 1, none⟩ = some (.int .i64 al)
  c2 : W.cell? ⟨g, 2, none⟩ = some (.int .i64 an)
  by_ : Kd.R (Kd.int .u8) 5 W base (fun _ => True) v fl
section
variable {w W W' : World} {ab lb rb : Nat} {x p : List Bk} {v0 v1 v2 : Value}
theorem S3.fr {g base : Nat} {al an : Int} {v : Value} {fl : List Int} {P : Nat → Prop} (h : S3 g base al an v fl W) (hf : Fr W W' P) (hp : ∀ k, g ≤ k → k < W.heap.size → ¬ P k) (hgb : g ≤ base) : S3 g base al an v fl W' :=
  ⟨Fr.cell hf h.c1 (hp g (Nat.le_refl _) (cell_lt h.c1)), Fr.cell hf h.c2 (hp g (Nat.le_refl _) (cell_lt h.c2)), Kd.R_mono (Kd.R_move (Kd.R_bound h.by_) (fun k hk => hf.block k hk.2.2.1 (hp k (Nat.le_trans hgb hk.2.1) hk.2.2.1))) (fun _ _ => trivial)⟩
structure LB (lb g base : Nat) : Prop where
  lt : lb < g
  lb : lb < base
  le : g ≤ base
theorem p_write (h : P1 w W ab lb rb x p v0 v1 v2) (k : Nat) (hk : k < x.length) (l : List Int) (hs : Sec l) {base : Nat} {v : Value} (hr : Kd.R (Kd.int .u8) 5 W base (fun _ => True) v l) (hb : lb < base) :
    Calls Try.prog 9 #[.pointer (some ⟨ab, 0, none⟩), .int .i64 (k : Int), v] W fun e W' => e = .returned (.int .i64 0) ∧ P1 w W' ab lb rb (putL x k l 1) p v0 v1 v2 ∧ Fr W W' (fun k => k = lb) := by
  obtain ⟨g, cap, rfl, hg, _⟩ := Kd.R_form hr (by rw [hs.len]; omega)
  obtain ⟨_, _, hc⟩ := Kd.R_reads' hr
  rw [hs.len]
  refine (write_ok h.a.arr k hk _ cap l hs hc ?_).mono (fun e W' hh => ⟨hh.1, h.wr hh.2.1 hh.2.2, hh.2.2⟩)
  intro ad had
  injection had with had
  rw [← had]
  show g ≠ lb
  omega
/-- What lies from g on is not touched. -/
def Yg (g : Nat) (W : World) (k : Nat) : Prop := g ≤ k ∧ k < W.heap.size
theorem p_ref_write (h : P1 w W ab lb rb x p v0 v1 v2) (g : Nat) (hg : ∀ k, Own rb v0 v1 v2 k → k < g) (k : Nat) (hk : k < p.length) (l : List Int) (hl : l.length = 64) :
    Calls Try.prog 11 #[.pointer (some ⟨rb, 0, none⟩), .int .i64 (k : Int), .string (strOfNums l)] W fun e W' => e = .returned (.int .i64 0) ∧ (∃ u0 u1 u2, P1 w W' ab lb rb x (putL p k l 1) u0 u1 u2) ∧ Fr W W' (fun k => ¬ Yg g W k) :=
  h.ref (Yg g W) (fun k hk => ⟨hk.2, fun ho => by have h1 := hg k ho; have h2 := hk.1; omega⟩) (R := fun e => e = .returned (.int .i64 0)) (fun Z hr hz => writeE hr hz h.a.bl.size k hk l hl)
theorem p_ref_trim (h : P1 w W ab lb rb x p v0 v1 v2) (g : Nat) (hg : ∀ k, Own rb v0 v1 v2 k → k < g) (j q : Nat) (hq : readyE p.length j q = 0) :
    Calls Try.prog 18 #[.pointer (some ⟨rb, 0, none⟩), .int .i64 (j : Int), .int .i64 (q : Int)] W fun e W' => e = .returned (.int .i64 0) ∧ (∃ u0 u1 u2, P1 w W' ab lb rb x (putL p j z64 q) u0 u1 u2) ∧ Fr W W' (fun k => ¬ Yg g W k) :=
  h.ref (Yg g W) (fun k hk => ⟨hk.2, fun ho => by have h1 := hg k ho; have h2 := hk.1; omega⟩) (R := fun e => e = .returned (.int .i64 0)) (fun Z hr hz => trimE hr hz h.a.bl.size j q hq)
theorem p_ref_flush (h : P1 w W ab lb rb x p v0 v1 v2) : Calls Try.prog 20 #[.pointer (some ⟨rb, 0, none⟩)] W fun e W' => (∃ v, e = .returned v) ∧ ∃ u0 u1 u2, P1 w W' ab lb rb x (p.map Bk.settle) u0 u1 u2 :=
  (h.ref (fun _ => False) (fun _ h => h.elim) (R := fun e => ∃ v, e = .returned v) (fun Z hr hz => flushE hr hz h.a.bl.size)).mono (fun e W' hh => ⟨hh.1, hh.2.1⟩)
end
set_option maxRecDepth 100000 in
set_option maxHeartbeats 8000000 in
theorem reg14in {s0 s1 s2 s3 s4 s5 s7 s15 s16 s17 s18 s19 s20 s21 s22 s23 s24 s25 s26 s27 s28 s29 s30 s31 s32 s33 s34 s35 s36 s37 s38 s39 s40 s41 s42 s43 s44 s45 s46 s47 s48 s49 s50 s51 s52 s53 s54 s55 s56 s57 s58 s59 s60 s61 s62 s63 s64 s65 s66 s67 s68 s69 s70 s71 s72 s73 s74 s75 s76 s77 s78 s79 s80 s81 s82 s83 s84 s85 s86 s87 s88 s89 s90 s91 s92 s93 s94 s95 s96 s97 s98 s99 s100 s101 s102 s103 s104 s105 s106 s107 s108 s109 s110 s111 s112 s113 s114 s115 s116 s117 s118 s119 s120 s121 s122 s123 s124 s125 s126 s127 s128 s129 s130 s131 s132 s133 s134 s135 s136 s137 s138 s139 s140 s141 s142 s143 s144 s145 s146 s147 s148 s149 s150 s151 s152 s153 s154 s155 s156 s157 s158 s159 s160 s161 s162 s163 s164 s165 s166 s167 s168 s169 s170 s171 s172 s173 s174 s175 s176 s177 s178 s179 s180 s181 s182 s183 s184 s185 : Value} {w wr W5 : World} {ab lb rb k n : Nat} {x : List Bk} {v0 v1 v2 : Value} (HLEN : Hid (x.length = n)) {j gs d c5 : Nat} {A5 : Option Addr} {fl : List Int}
    (HP : Hid (P1 w W5 ab lb rb x x v0 v1 v2)) (X1 : Hid (W5.cell? ⟨wr.heap.size, 1, none⟩ = some (.int .i64 (j : Int)))) (HHAS : Hid (decide (0 ≤ (j : Int) ∧ (j : Int) < (x.length : Int)) = true)) (HC5 : Hid (Kd.C (Kd.int .u8) W5 A5 fl.length fl)) (A1 : Hid (W5.cell? ⟨rb, 1, none⟩ = some (.slice (some ⟨gs, 0, none⟩) n d))) (XS : Hid (W5.cell? ⟨gs, j, none⟩ = some (.string (strOfNums fl)))) (hj : j < n)
    {Q : Exit → Act → World → Prop} (hpan : ∀ c a a' w, a.defers = a'.defers → Q (.panic c) a w → Q (.panic c) a' w)
    (hcont : ∀ W', P1 w W' ab lb rb x x v0 v1 v2 → Q .normal ⟨List.toArray (s0 :: s1 :: s2 :: s3 :: s4 :: s5 :: (.pointer (some ⟨ab, 0, none⟩) : Value) :: s7 :: (.pointer (some ⟨rb, 0, none⟩) : Value) :: (.int .i64 (k : Int) : Value) :: (.pointer (some ⟨wr.heap.size, 0, none⟩) : Value) :: (.int .i64 0 : Value) :: (.int .i64 0 : Value) :: (.slice A5 fl.length c5 : Value) :: (.int .i64 0 : Value) :: s15 :: s16 :: s17 :: s18 :: s19 :: s20 :: s21 :: s22 :: s23 :: s24 :: s25 :: s26 :: s27 :: s28 :: s29 :: s30 :: s31 :: s32 :: s33 :: s34 :: s35 :: s36 :: s37 :: s38 :: s39 :: s40 :: s41 :: s42 :: s43 :: s44 :: s45 :: s46 :: s47 :: s48 :: s49 :: s50 :: s51 :: s52 :: s53 :: s54 :: s55 :: s56 :: s57 :: s58 :: s59 :: s60 :: s61 :: (.int .i64 0 : Value) :: (.bool true : Value) :: (.pointer (some ⟨rb, 0, none⟩) : Value) :: (.pointer (some ⟨wr.heap.size, 1, none⟩) : Value) :: (.int .i64 (j : Int) : Value) :: (.bool true : Value) :: (.bool false : Value) :: (.bool false : Value) :: (.int .i64 0 : Value) :: (.bool false : Value) :: (.bool false : Value) :: undef :: undef :: undef :: undef :: undef :: undef :: undef :: (.bool false : Value) :: (.bool false : Value) :: (.bool false : Value) :: (.int .i64 0 : Value) :: (.bool true : Value) :: (.bool true : Value) :: (.slice A5 fl.length c5 : Value) :: (.string (strOfNums fl) : Value) :: (.pointer (some ⟨rb, 0, none⟩) : Value) :: (.pointer (some ⟨rb, 0, none⟩) : Value) :: (.pointer (some ⟨rb, 1, none⟩) : Value) :: (.slice (some ⟨gs, 0, none⟩) n d : Value) :: (.pointer (some ⟨wr.heap.size, 1, none⟩) : Value) :: (.int .i64 (j : Int) : Value) :: (.pointer (some ⟨gs, j, none⟩) : Value) :: (.string (strOfNums fl) : Value) :: (.bool false : Value) :: (.bool false : Value) :: (.bool false : Value) :: s99 :: s100 :: s101 :: s102 :: s103 :: s104 :: s105 :: s106 :: s107 :: s108 :: s109 :: s110 :: s111 :: s112 :: s113 :: s114 :: s115 :: s116 :: s117 :: s118 :: s119 :: s120 :: s121 :: s122 :: s123 :: s124 :: s125 :: s126 :: s127 :: s128 :: s129 :: s130 :: s131 :: s132 :: s133 :: s134 :: s135 :: s136 :: s137 :: s138 :: s139 :: s140 :: s141 :: s142 :: s143 :: s144 :: s145 :: s146 :: s147 :: s148 :: s149 :: s150 :: s151 :: s152 :: s153 :: s154 :: s155 :: s156 :: s157 :: s158 :: s159 :: s160 :: s161 :: s162 :: s163 :: s164 :: s165 :: s166 :: s167 :: s168 :: s169 :: s170 :: s171 :: s172 :: s173 :: s174 :: s175 :: s176 :: s177 :: s178 :: s179 :: s180 :: s181 :: s182 :: s183 :: s184 :: s185 :: []), []⟩ W') :
    (Code.region 14 (ops4 14) true).wp Try.prog Q ⟨List.toArray (s0 :: s1 :: s2 :: s3 :: s4 :: s5 :: (.pointer (some ⟨ab, 0, none⟩) : Value) :: s7 :: (.pointer (some ⟨rb, 0, none⟩) : Value) :: (.int .i64 (k : Int) : Value) :: (.pointer (some ⟨wr.heap.size, 0, none⟩) : Value) :: (.int .i64 0 : Value) :: (.int .i64 0 : Value) :: (.slice A5 fl.length c5 : Value) :: (.int .i64 0 : Value) :: s15 :: s16 :: s17 :: s18 :: s19 :: s20 :: s21 :: s22 :: s23 :: s24 :: s25 :: s26 :: s27 :: s28 :: s29 :: s30 :: s31 :: s32 :: s33 :: s34 :: s35 :: s36 :: s37 :: s38 :: s39 :: s40 :: s41 :: s42 :: s43 :: s44 :: s45 :: s46 :: s47 :: s48 :: s49 :: s50 :: s51 :: s52 :: s53 :: s54 :: s55 :: s56 :: s57 :: s58 :: s59 :: s60 :: s61 :: s62 :: s63 :: s64 :: s65 :: s66 :: s67 :: s68 :: s69 :: s70 :: s71 :: s72 :: s73 :: s74 :: s75 :: s76 :: s77 :: s78 :: s79 :: s80 :: s81 :: s82 :: s83 :: s84 :: s85 :: s86 :: s87 :: s88 :: s89 :: s90 :: s91 :: s92 :: s93 :: s94 :: s95 :: s96 :: s97 :: s98 :: s99 :: s100 :: s101 :: s102 :: s103 :: s104 :: s105 :: s106 :: s107 :: s108 :: s109 :: s110 :: s111 :: s112 :: s113 :: s114 :: s115 :: s116 :: s117 :: s118 :: s119 :: s120 :: s121 :: s122 :: s123 :: s124 :: s125 :: s126 :: s127 :: s128 :: s129 :: s130 :: s131 :: s132 :: s133 :: s134 :: s135 :: s136 :: s137 :: s138 :: s139 :: s140 :: s141 :: s142 :: s143 :: s144 :: s145 :: s146 :: s147 :: s148 :: s149 :: s150 :: s151 :: s152 :: s153 :: s154 :: s155 :: s156 :: s157 :: s158 :: s159 :: s160 :: s161 :: s162 :: s163 :: s164 :: s165 :: s166 :: s167 :: s168 :: s169 :: s170 :: s171 :: s172 :: s173 :: s174 :: s175 :: s176 :: s177 :: s178 :: s179 :: s180 :: s181 :: s182 :: s183 :: s184 :: s185 :: []), []⟩ W5 := by
  refine wp_region_held (S := fun w' => Below W5.heap.size W5 w') (by kernel_rfl) ?_
  have SS : Below W5.heap.size W5 { W5 with drawn := W5.drawn + 1 } := (Below.refl _ _).drew
  refine take 0 62 (.int .i64 0) (by kernel_rfl) (by kernel_rfl) (by kernel_rfl) (by kernel_rfl) (by kernel_rfl) (fun _ _ _ h => hpan _ _ _ _ (by rfl) h) (by kernel_rfl) (fun _ _ => by kernel_rfl) SS ?_
  refine take 1 63 (.bool true) (by kernel_rfl) (by kernel_rfl) (by kernel_rfl) (by kernel_rfl) (by kernel_rfl) (fun _ _ _ h => hpan _ _ _ _ (by rfl) h) (by kernel_rfl) (fun _ _ => by kernel_rfl) SS ?_
  refine take 2 64 (.pointer (some ⟨rb, 0, none⟩)) (by kernel_rfl) (by kernel_rfl) (by kernel_rfl) (by kernel_rfl) (by kernel_rfl) (fun _ _ _ h => hpan _ _ _ _ (by rfl) h) (by kernel_rfl) (fun _ _ => by kernel_rfl) SS ?_
  refine take 3 65 (.pointer (some ⟨wr.heap.size, 1, none⟩)) (by kernel_rfl) (by kernel_rfl) (by kernel_rfl) (by kernel_rfl) (by kernel_rfl) (fun _ _ _ h => hpan _ _ _ _ (by rfl) h) (by kernel_rfl) (fun _ _ => by kernel_rfl) SS ?_
  refine take 4 66 (.int .i64 (j : Int)) (by kernel_rfl) (by kernel_rfl) (by kernel_rfl) (by kernel_rfl) (by kernel_rfl) (fun _ _ _ h => hpan _ _ _ _ (by rfl) h) (by kernel_rfl) (fun w' hS => exec_load3 (.tmp 65) ⟨wr.heap.size, 1, none⟩ (j : Int) (by kernel_rfl) (by kernel_rfl) ((hS.cell (cell_lt X1.out)).trans X1.out)) SS ?_
  try simp only [Act.put, List.setIfInBounds_toArray, List.set_cons_zero, List.set_cons_succ]
  refine any_call 5 67 16 #[.pointer (some ⟨rb, 0, none⟩), .int .i64 (j : Int)] (by kernel_rfl) (by kernel_rfl) (by kernel_rfl) (by kernel_rfl) (by kernel_rfl) ?_
  refine (has_is (HP.out.refE.below SS) (j : Int)).mono ?_
  rintro _ W6 ⟨rfl, hw⟩
  rw [HHAS.out]
  subst hw
  refine ⟨_, rfl, SS, ?_⟩
  try simp only [Act.put, List.setIfInBounds_toArray, List.set_cons_zero, List.set_cons_succ]
  refine take 6 68 (.bool false) (by kernel_rfl) (by kernel_rfl) (by kernel_rfl) (by kernel_rfl) (by kernel_rfl) (fun _ _ _ h => hpan _ _ _ _ (by rfl) h) (by kernel_rfl) (fun _ _ => by kernel_rfl) SS ?_
  refine take 7 69 (.bool false) (by kernel_rfl) (by kernel_rfl) (by kernel_rfl) (by kernel_rfl) (by kernel_rfl) (fun _ _ _ h => hpan _ _ _ _ (by rfl) h) (by kernel_rfl) (fun _ _ => by kernel_rfl) SS ?_
  refine take 8 70 (.int .i64 0) (by kernel_rfl) (by kernel_rfl) (by kernel_rfl) (by kernel_rfl) (by kernel_rfl) (fun _ _ _ h => hpan _ _ _ _ (by rfl) h) (by kernel_rfl) (fun _ _ => by kernel_rfl) SS ?_
  refine take 9 71 (.bool false) (by kernel_rfl) (by kernel_rfl) (by kernel_rfl) (by kernel_rfl) (by kernel_rfl) (fun _ _ _ h => hpan _ _ _ _ (by rfl) h) (by kernel_rfl) (fun _ _ => by kernel_rfl) SS ?_
  refine take 10 72 (.bool false) (by kernel_rfl) (by kernel_rfl) (by kernel_rfl) (by kernel_rfl) (by kernel_rfl) (fun _ _ _ h => hpan _ _ _ _ (by rfl) h) (by kernel_rfl) (fun _ _ => by kernel_rfl) SS ?_
  refine off 11 73 (by kernel_rfl) (by kernel_rfl) (by kernel_rfl) (by kernel_rfl) (by kernel_rfl) (fun _ _ _ h => hpan _ _ _ _ (by rfl) h) (by kernel_rfl) SS ?_
  refine off 12 74 (by kernel_rfl) (by kernel_rfl) (by kernel_rfl) (by kernel_rfl) (by kernel_rfl) (fun _ _ _ h => hpan _ _ _ _ (by rfl) h) (by kernel_rfl) SS ?_
  refine off 13 75 (by kernel_rfl) (by kernel_rfl) (by kernel_rfl) (by kernel_rfl) (by kernel_rfl) (fun _ _ _ h => hpan _ _ _ _ (by rfl) h) (by kernel_rfl) SS ?_
  refine off 14 76 (by kernel_rfl) (by kernel_rfl) (by kernel_rfl) (by kernel_rfl) (by kernel_rfl) (fun _ _ _ h => hpan _ _ _ _ (by rfl) h) (by kernel_rfl) SS ?_
  refine off 15 77 (by kernel_rfl) (by kernel_rfl) (by kernel_rfl) (by kernel_rfl) (by kernel_rfl) (fun _ _ _ h => hpan _ _ _ _ (by rfl) h) (by kernel_rfl) SS ?_
  refine off 16 78 (by kernel_rfl) (by kernel_rfl) (by kernel_rfl) (by kernel_rfl) (by kernel_rfl) (fun _ _ _ h => hpan _ _ _ _ (by rfl) h) (by kernel_rfl) SS ?_
  refine off 17 79 (by kernel_rfl) (by kernel_rfl) (by kernel_rfl) (by kernel_rfl) (by kernel_rfl) (fun _ _ _ h => hpan _ _ _ _ (by rfl) h) (by kernel_rfl) SS ?_
  refine take 18 80 (.bool false) (by kernel_rfl) (by kernel_rfl) (by kernel_rfl) (by kernel_rfl) (by kernel_rfl) (fun _ _ _ h => hpan _ _ _ _ (by rfl) h) (by kernel_rfl) (fun _ _ => by kernel_rfl) SS ?_
  refine take 19 81 (.bool false) (by kernel_rfl) (by kernel_rfl) (by kernel_rfl) (by kernel_rfl) (by kernel_rfl) (fun _ _ _ h => hpan _ _ _ _ (by rfl) h) (by kernel_rfl) (fun _ _ => by kernel_rfl) SS ?_
  refine take 20 82 (.bool false) (by kernel_rfl) (by kernel_rfl) (by kernel_rfl) (by kernel_rfl) (by kernel_rfl) (fun _ _ _ h => hpan _ _ _ _ (by rfl) h) (by kernel_rfl) (fun _ _ => by kernel_rfl) SS ?_
  refine take 21 83 (.int .i64 0) (by kernel_rfl) (by kernel_rfl) (by kernel_rfl) (by kernel_rfl) (by kernel_rfl) (fun _ _ _ h => hpan _ _ _ _ (by rfl) h) (by kernel_rfl) (fun _ _ => by kernel_rfl) SS ?_
  refine take 22 84 (.bool true) (by kernel_rfl) (by kernel_rfl) (by kernel_rfl) (by kernel_rfl) (by kernel_rfl) (fun _ _ _ h => hpan _ _ _ _ (by rfl) h) (by kernel_rfl) (fun _ _ => by kernel_rfl) SS ?_
  refine take 23 85 (.bool true) (by kernel_rfl) (by kernel_rfl) (by kernel_rfl) (by kernel_rfl) (by kernel_rfl) (fun _ _ _ h => hpan _ _ _ _ (by rfl) h) (by kernel_rfl) (fun _ _ => by kernel_rfl) SS ?_
  refine take 24 86 (.slice A5 fl.length c5) (by kernel_rfl) (by kernel_rfl) (by kernel_rfl) (by kernel_rfl) (by kernel_rfl) (fun _ _ _ h => hpan _ _ _ _ (by rfl) h) (by kernel_rfl) (fun _ _ => by kernel_rfl) SS ?_
  refine take 25 87 (.string (strOfNums fl)) (by kernel_rfl) (by kernel_rfl) (by kernel_rfl) (by kernel_rfl) (by kernel_rfl) (fun _ _ _ h => hpan _ _ _ _ (by rfl) h) (by kernel_rfl) (fun w' hS => exec_convert 33 9 (.tmp 86) (.slice A5 fl.length c5) (by kernel_rfl) (by kernel_rfl) (conv_bytes (Kd.C_below HC5.out hS))) SS ?_
  refine take 26 88 (.pointer (some ⟨rb, 0, none⟩)) (by kernel_rfl) (by kernel_rfl) (by kernel_rfl) (by kernel_rfl) (by kernel_rfl) (fun _ _ _ h => hpan _ _ _ _ (by rfl) h) (by kernel_rfl) (fun _ _ => by kernel_rfl) SS ?_
  refine take 27 89 (.pointer (some ⟨rb, 0, none⟩)) (by kernel_rfl) (by kernel_rfl) (by kernel_rfl) (by kernel_rfl) (by kernel_rfl) (fun _ _ _ h => hpan _ _ _ _ (by rfl) h) (by kernel_rfl) (fun _ _ => by kernel_rfl) SS ?_
  refine take 28 90 (.pointer (some ⟨rb, 1, none⟩)) (by kernel_rfl) (by kernel_rfl) (by kernel_rfl) (by kernel_rfl) (by kernel_rfl) (fun _ _ _ h => hpan _ _ _ _ (by rfl) h) (by kernel_rfl) (fun _ _ => by kernel_rfl) SS ?_
  refine take 29 91 (.slice (some ⟨gs, 0, none⟩) n d) (by kernel_rfl) (by kernel_rfl) (by kernel_rfl) (by kernel_rfl) (by kernel_rfl) (fun _ _ _ h => hpan _ _ _ _ (by rfl) h) (by kernel_rfl) (fun w' hS => exec_loadS 43 (.tmp 90) ⟨rb, 1, none⟩ (some ⟨gs, 0, none⟩) n d (fun _ => by kernel_rfl) (by kernel_rfl) (by kernel_rfl) ((hS.cell (cell_lt A1.out)).trans A1.out)) SS ?_
  refine take 30 92 (.pointer (some ⟨wr.heap.size, 1, none⟩)) (by kernel_rfl) (by kernel_rfl) (by kernel_rfl) (by kernel_rfl) (by kernel_rfl) (fun _ _ _ h => hpan _ _ _ _ (by rfl) h) (by kernel_rfl) (fun _ _ => by kernel_rfl) SS ?_
  refine take 31 93 (.int .i64 (j : Int)) (by kernel_rfl) (by kernel_rfl) (by kernel_rfl) (by kernel_rfl) (by kernel_rfl) (fun _ _ _ h => hpan _ _ _ _ (by rfl) h) (by kernel_rfl) (fun w' hS => exec_load3 (.tmp 92) ⟨wr.heap.size, 1, none⟩ (j : Int) (by kernel_rfl) (by kernel_rfl) ((hS.cell (cell_lt X1.out)).trans X1.out)) SS ?_
  refine take 32 94 (.pointer (some ⟨gs, j, none⟩)) (by kernel_rfl) (by kernel_rfl) (by kernel_rfl) (by kernel_rfl) (by kernel_rfl) (fun _ _ _ h => hpan _ _ _ _ (by rfl) h) (by kernel_rfl) (fun w' hS => exec_idx43 (.tmp 91) (.tmp 93) gs n d j (by kernel_rfl) (by kernel_rfl) (by kernel_rfl) hj) SS ?_
  refine take 33 95 (.string (strOfNums fl)) (by kernel_rfl) (by kernel_rfl) (by kernel_rfl) (by kernel_rfl) (by kernel_rfl) (fun _ _ _ h => hpan _ _ _ _ (by rfl) h) (by kernel_rfl) (fun w' hS => exec_loadV 9 (.tmp 94) ⟨gs, j, none⟩ _ (fun _ => by kernel_rfl) (by kernel_rfl) (by kernel_rfl) ((hS.cell (cell_lt XS.out)).trans XS.out)) SS ?_
  refine take 34 96 (.bool false) (by kernel_rfl) (by kernel_rfl) (by kernel_rfl) (by kernel_rfl) (by kernel_rfl) (fun _ _ _ h => hpan _ _ _ _ (by rfl) h) (by kernel_rfl) (fun w' hS => exec_strneq 9 9 (.tmp 87) (.tmp 95) (strOfNums fl) (strOfNums fl) (by kernel_rfl) (by kernel_rfl) (by kernel_rfl) false (by simp)) SS ?_
  refine take 35 97 (.bool false) (by kernel_rfl) (by kernel_rfl) (by kernel_rfl) (by kernel_rfl) (by kernel_rfl) (fun _ _ _ h => hpan _ _ _ _ (by rfl) h) (by kernel_rfl) (fun _ _ => by kernel_rfl) SS ?_
  refine take 36 98 (.bool false) (by kernel_rfl) (by kernel_rfl) (by kernel_rfl) (by kernel_rfl) (by kernel_rfl) (fun _ _ _ h => hpan _ _ _ _ (by rfl) h) (by kernel_rfl) (fun _ _ => by kernel_rfl) SS ?_
  try simp only [Act.put, List.setIfInBounds_toArray, List.set_cons_zero, List.set_cons_succ]
  refine wpAnyH_done (by kernel_rfl) ?_ _
  exact hcont _ (HP.out.below SS)

set_option maxRecDepth 100000 in
set_option maxHeartbeats 8000000 in
theorem reg14out {s0 s1 s2 s3 s4 s5 s7 s15 s16 s17 s18 s19 s20 s21 s22 s23 s24 s25 s26 s27 s28 s29 s30 s31 s32 s33 s34 s35 s36 s37 s38 s39 s40 s41 s42 s43 s44 s45 s46 s47 s48 s49 s50 s51 s52 s53 s54 s55 s56 s57 s58 s59 s60 s61 s62 s63 s64 s65 s66 s67 s68 s69 s70 s71 s72 s73 s74 s75 s76 s77 s78 s79 s80 s81 s82 s83 s84 s85 s86 s87 s88 s89 s90 s91 s92 s93 s94 s95 s96 s97 s98 s99 s100 s101 s102 s103 s104 s105 s106 s107 s108 s109 s110 s111 s112 s113 s114 s115 s116 s117 s118 s119 s120 s121 s122 s123 s124 s125 s126 s127 s128 s129 s130 s131 s132 s133 s134 s135 s136 s137 s138 s139 s140 s141 s142 s143 s144 s145 s146 s147 s148 s149 s150 s151 s152 s153 s154 s155 s156 s157 s158 s159 s160 s161 s162 s163 s164 s165 s166 s167 s168 s169 s170 s171 s172 s173 s174 s175 s176 s177 s178 s179 s180 s181 s182 s183 s184 s185 : Value} {w wr W5 : World} {ab lb rb k n : Nat} {x : List Bk} {v0 v1 v2 : Value} (HLEN : Hid (x.length = n)) {al : Int}
    (HP : Hid (P1 w W5 ab lb rb x x v0 v1 v2)) (X1 : Hid (W5.cell? ⟨wr.heap.size, 1, none⟩ = some (.int .i64 al))) (HHAS : Hid (decide (0 ≤ al ∧ al < (x.length : Int)) = false))
    {Q : Exit → Act → World → Prop} (hpan : ∀ c a a' w, a.defers = a'.defers → Q (.panic c) a w → Q (.panic c) a' w)
    (hcont : ∀ W', P1 w W' ab lb rb x x v0 v1 v2 → Q .normal ⟨List.toArray (s0 :: s1 :: s2 :: s3 :: s4 :: s5 :: (.pointer (some ⟨ab, 0, none⟩) : Value) :: s7 :: (.pointer (some ⟨rb, 0, none⟩) : Value) :: (.int .i64 (k : Int) : Value) :: (.pointer (some ⟨wr.heap.size, 0, none⟩) : Value) :: (.int .i64 0 : Value) :: (.int .i64 0 : Value) :: (.slice none 0 0 : Value) :: (.int .i64 3 : Value) :: s15 :: s16 :: s17 :: s18 :: s19 :: s20 :: s21 :: s22 :: s23 :: s24 :: s25 :: s26 :: s27 :: s28 :: s29 :: s30 :: s31 :: s32 :: s33 :: s34 :: s35 :: s36 :: s37 :: s38 :: s39 :: s40 :: s41 :: s42 :: s43 :: s44 :: s45 :: s46 :: s47 :: s48 :: s49 :: s50 :: s51 :: s52 :: s53 :: s54 :: s55 :: s56 :: s57 :: s58 :: s59 :: s60 :: s61 :: (.int .i64 3 : Value) :: (.bool false : Value) :: (.pointer (some ⟨rb, 0, none⟩) : Value) :: (.pointer (some ⟨wr.heap.size, 1, none⟩) : Value) :: (.int .i64 al : Value) :: (.bool false : Value) :: (.bool false : Value) :: (.bool false : Value) :: (.int .i64 3 : Value) :: (.bool true : Value) :: (.bool true : Value) :: (.int .i64 3 : Value) :: (.bool false : Value) :: (.bool false : Value) :: (.slice none 0 0 : Value) :: (.int .i64 0 : Value) :: (.bool false : Value) :: (.bool false : Value) :: (.bool false : Value) :: (.bool false : Value) :: (.bool false : Value) :: (.int .i64 3 : Value) :: (.bool false : Value) :: (.bool false : Value) :: undef :: undef :: undef :: undef :: undef :: undef :: undef :: undef :: undef :: undef :: undef :: (.bool false : Value) :: (.bool false : Value) :: s99 :: s100 :: s101 :: s102 :: s103 :: s104 :: s105 :: s106 :: s107 :: s108 :: s109 :: s110 :: s111 :: s112 :: s113 :: s114 :: s115 :: s116 :: s117 :: s118 :: s119 :: s120 :: s121 :: s122 :: s123 :: s124 :: s125 :: s126 :: s127 :: s128 :: s129 :: s130 :: s131 :: s132 :: s133 :: s134 :: s135 :: s136 :: s137 :: s138 :: s139 :: s140 :: s141 :: s142 :: s143 :: s144 :: s145 :: s146 :: s147 :: s148 :: s149 :: s150 :: s151 :: s152 :: s153 :: s154 :: s155 :: s156 :: s157 :: s158 :: s159 :: s160 :: s161 :: s162 :: s163 :: s164 :: s165 :: s166 :: s167 :: s168 :: s169 :: s170 :: s171 :: s172 :: s173 :: s174 :: s175 :: s176 :: s177 :: s178 :: s179 :: s180 :: s181 :: s182 :: s183 :: s184 :: s185 :: []), []⟩ W') :
    (Code.region 14 (ops4 14) true).wp Try.prog Q ⟨List.toArray (s0 :: s1 :: s2 :: s3 :: s4 :: s5 :: (.pointer (some ⟨ab, 0, none⟩) : Value) :: s7 :: (.pointer (some ⟨rb, 0, none⟩) : Value) :: (.int .i64 (k : Int) : Value) :: (.pointer (some ⟨wr.heap.size, 0, none⟩) : Value) :: (.int .i64 0 : Value) :: (.int .i64 0 : Value) :: (.slice none 0 0 : Value) :: (.int .i64 3 : Value) :: s15 :: s16 :: s17 :: s18 :: s19 :: s20 :: s21 :: s22 :: s23 :: s24 :: s25 :: s26 :: s27 :: s28 :: s29 :: s30 :: s31 :: s32 :: s33 :: s34 :: s35 :: s36 :: s37 :: s38 :: s39 :: s40 :: s41 :: s42 :: s43 :: s44 :: s45 :: s46 :: s47 :: s48 :: s49 :: s50 :: s51 :: s52 :: s53 :: s54 :: s55 :: s56 :: s57 :: s58 :: s59 :: s60 :: s61 :: s62 :: s63 :: s64 :: s65 :: s66 :: s67 :: s68 :: s69 :: s70 :: s71 :: s72 :: s73 :: s74 :: s75 :: s76 :: s77 :: s78 :: s79 :: s80 :: s81 :: s82 :: s83 :: s84 :: s85 :: s86 :: s87 :: s88 :: s89 :: s90 :: s91 :: s92 :: s93 :: s94 :: s95 :: s96 :: s97 :: s98 :: s99 :: s100 :: s101 :: s102 :: s103 :: s104 :: s105 :: s106 :: s107 :: s108 :: s109 :: s110 :: s111 :: s112 :: s113 :: s114 :: s115 :: s116 :: s117 :: s118 :: s119 :: s120 :: s121 :: s122 :: s123 :: s124 :: s125 :: s126 :: s127 :: s128 :: s129 :: s130 :: s131 :: s132 :: s133 :: s134 :: s135 :: s136 :: s137 :: s138 :: s139 :: s140 :: s141 :: s142 :: s143 :: s144 :: s145 :: s146 :: s147 :: s148 :: s149 :: s150 :: s151 :: s152 :: s153 :: s154 :: s155 :: s156 :: s157 :: s158 :: s159 :: s160 :: s161 :: s162 :: s163 :: s164 :: s165 :: s166 :: s167 :: s168 :: s169 :: s170 :: s171 :: s172 :: s173 :: s174 :: s175 :: s176 :: s177 :: s178 :: s179 :: s180 :: s181 :: s182 :: s183 :: s184 :: s185 :: []), []⟩ W5 := by
  refine wp_region_held (S := fun w' => Below W5.heap.size W5 w') (by kernel_rfl) ?_
  have SS : Below W5.heap.size W5 { W5 with drawn := W5.drawn + 1 } := (Below.refl _ _).drew
  refine take 0 62 (.int .i64 3) (by kernel_rfl) (by kernel_rfl) (by kernel_rfl) (by kernel_rfl) (by kernel_rfl) (fun _ _ _ h => hpan _ _ _ _ (by rfl) h) (by kernel_rfl) (fun _ _ => by kernel_rfl) SS ?_
  refine take 1 63 (.bool false) (by kernel_rfl) (by kernel_rfl) (by kernel_rfl) (by kernel_rfl) (by kernel_rfl) (fun _ _ _ h => hpan _ _ _ _ (by rfl) h) (by kernel_rfl) (fun _ _ => by kernel_rfl) SS ?_
  refine take 2 64 (.pointer (some ⟨rb, 0, none⟩)) (by kernel_rfl) (by kernel_rfl) (by kernel_rfl) (by kernel_rfl) (by kernel_rfl) (fun _ _ _ h => hpan _ _ _ _ (by rfl) h) (by kernel_rfl) (fun _ _ => by kernel_rfl) SS ?_
  refine take 3 65 (.pointer (some ⟨wr.heap.size, 1, none⟩)) (by kernel_rfl) (by kernel_rfl) (by kernel_rfl) (by kernel_rfl) (by kernel_rfl) (fun _ _ _ h => hpan _ _ _ _ (by rfl) h) (by kernel_rfl) (fun _ _ => by kernel_rfl) SS ?_
  refine take 4 66 (.int .i64 al) (by kernel_rfl) (by kernel_rfl) (by kernel_rfl) (by kernel_rfl) (by kernel_rfl) (fun _ _ _ h => hpan _ _ _ _ (by rfl) h) (by kernel_rfl) (fun w' hS => exec_load3 (.tmp 65) ⟨wr.heap.size, 1, none⟩ al (by kernel_rfl) (by kernel_rfl) ((hS.cell (cell_lt X1.out)).trans X1.out)) SS ?_
  try simp only [Act.put, List.setIfInBounds_toArray, List.set_cons_zero, List.set_cons_succ]
  refine any_call 5 67 16 #[.pointer (some ⟨rb, 0, none⟩), .int .i64 al] (by kernel_rfl) (by kernel_rfl) (by kernel_rfl) (by kernel_rfl) (by kernel_rfl) ?_
  refine (has_is (HP.out.refE.below SS) al).mono ?_
  rintro _ W6 ⟨rfl, hw⟩
  rw [HHAS.out]
  subst hw
  refine ⟨_, rfl, SS, ?_⟩
  try simp only [Act.put, List.setIfInBounds_toArray, List.set_cons_zero, List.set_cons_succ]
  refine take 6 68 (.bool false) (by kernel_rfl) (by kernel_rfl) (by kernel_rfl) (by kernel_rfl) (by kernel_rfl) (fun _ _ _ h => hpan _ _ _ _ (by rfl) h) (by kernel_rfl) (fun _ _ => by kernel_rfl) SS ?_
  refine take 7 69 (.bool false) (by kernel_rfl) (by kernel_rfl) (by kernel_rfl) (by kernel_rfl) (by kernel_rfl) (fun _ _ _ h => hpan _ _ _ _ (by rfl) h) (by kernel_rfl) (fun _ _ => by kernel_rfl) SS ?_
  refine take 8 70 (.int .i64 3) (by kernel_rfl) (by kernel_rfl) (by kernel_rfl) (by kernel_rfl) (by kernel_rfl) (fun _ _ _ h => hpan _ _ _ _ (by rfl) h) (by kernel_rfl) (fun _ _ => by kernel_rfl) SS ?_
  refine take 9 71 (.bool true) (by kernel_rfl) (by kernel_rfl) (by kernel_rfl) (by kernel_rfl) (by kernel_rfl) (fun _ _ _ h => hpan _ _ _ _ (by rfl) h) (by kernel_rfl) (fun _ _ => by kernel_rfl) SS ?_
  refine take 10 72 (.bool true) (by kernel_rfl) (by kernel_rfl) (by kernel_rfl) (by kernel_rfl) (by kernel_rfl) (fun _ _ _ h => hpan _ _ _ _ (by rfl) h) (by kernel_rfl) (fun _ _ => by kernel_rfl) SS ?_
  refine take 11 73 (.int .i64 3) (by kernel_rfl) (by kernel_rfl) (by kernel_rfl) (by kernel_rfl) (by kernel_rfl) (fun _ _ _ h => hpan _ _ _ _ (by rfl) h) (by kernel_rfl) (fun _ _ => by kernel_rfl) SS ?_
  refine take 12 74 (.bool false) (by kernel_rfl) (by kernel_rfl) (by kernel_rfl) (by kernel_rfl) (by kernel_rfl) (fun _ _ _ h => hpan _ _ _ _ (by rfl) h) (by kernel_rfl) (fun _ _ => by kernel_rfl) SS ?_
  refine take 13 75 (.bool false) (by kernel_rfl) (by kernel_rfl) (by kernel_rfl) (by kernel_rfl) (by kernel_rfl) (fun _ _ _ h => hpan _ _ _ _ (by rfl) h) (by kernel_rfl) (fun _ _ => by kernel_rfl) SS ?_
  refine take 14 76 (.slice none 0 0) (by kernel_rfl) (by kernel_rfl) (by kernel_rfl) (by kernel_rfl) (by kernel_rfl) (fun _ _ _ h => hpan _ _ _ _ (by rfl) h) (by kernel_rfl) (fun _ _ => by kernel_rfl) SS ?_
  refine take 15 77 (.int .i64 0) (by kernel_rfl) (by kernel_rfl) (by kernel_rfl) (by kernel_rfl) (by kernel_rfl) (fun _ _ _ h => hpan _ _ _ _ (by rfl) h) (by kernel_rfl) (fun _ _ => by kernel_rfl) SS ?_
  refine take 16 78 (.bool false) (by kernel_rfl) (by kernel_rfl) (by kernel_rfl) (by kernel_rfl) (by kernel_rfl) (fun _ _ _ h => hpan _ _ _ _ (by rfl) h) (by kernel_rfl) (fun _ _ => by kernel_rfl) SS ?_
  refine take 17 79 (.bool false) (by kernel_rfl) (by kernel_rfl) (by kernel_rfl) (by kernel_rfl) (by kernel_rfl) (fun _ _ _ h => hpan _ _ _ _ (by rfl) h) (by kernel_rfl) (fun _ _ => by kernel_rfl) SS ?_
  refine take 18 80 (.bool false) (by kernel_rfl) (by kernel_rfl) (by kernel_rfl) (by kernel_rfl) (by kernel_rfl) (fun _ _ _ h => hpan _ _ _ _ (by rfl) h) (by kernel_rfl) (fun _ _ => by kernel_rfl) SS ?_
  refine take 19 81 (.bool false) (by kernel_rfl) (by kernel_rfl) (by kernel_rfl) (by kernel_rfl) (by kernel_rfl) (fun _ _ _ h => hpan _ _ _ _ (by rfl) h) (by kernel_rfl) (fun _ _ => by kernel_rfl) SS ?_
  refine take 20 82 (.bool false) (by kernel_rfl) (by kernel_rfl) (by kernel_rfl) (by kernel_rfl) (by kernel_rfl) (fun _ _ _ h => hpan _ _ _ _ (by rfl) h) (by kernel_rfl) (fun _ _ => by kernel_rfl) SS ?_
  refine take 21 83 (.int .i64 3) (by kernel_rfl) (by kernel_rfl) (by kernel_rfl) (by kernel_rfl) (by kernel_rfl) (fun _ _ _ h => hpan _ _ _ _ (by rfl) h) (by kernel_rfl) (fun _ _ => by kernel_rfl) SS ?_
  refine take 22 84 (.bool false) (by kernel_rfl) (by kernel_rfl) (by kernel_rfl) (by kernel_rfl) (by kernel_rfl) (fun _ _ _ h => hpan _ _ _ _ (by rfl) h) (by kernel_rfl) (fun _ _ => by kernel_rfl) SS ?_
  refine take 23 85 (.bool false) (by kernel_rfl) (by kernel_rfl) (by kernel_rfl) (by kernel_rfl) (by kernel_rfl) (fun _ _ _ h => hpan _ _ _ _ (by rfl) h) (by kernel_rfl) (fun _ _ => by kernel_rfl) SS ?_
  refine off 24 86 (by kernel_rfl) (by kernel_rfl) (by kernel_rfl) (by kernel_rfl) (by kernel_rfl) (fun _ _ _ h => hpan _ _ _ _ (by rfl) h) (by kernel_rfl) SS ?_
  refine off 25 87 (by kernel_rfl) (by kernel_rfl) (by kernel_rfl) (by kernel_rfl) (by kernel_rfl) (fun _ _ _ h => hpan _ _ _ _ (by rfl) h) (by kernel_rfl) SS ?_
  refine off 26 88 (by kernel_rfl) (by kernel_rfl) (by kernel_rfl) (by kernel_rfl) (by kernel_rfl) (fun _ _ _ h => hpan _ _ _ _ (by rfl) h) (by kernel_rfl) SS ?_
  refine off 27 89 (by kernel_rfl) (by kernel_rfl) (by kernel_rfl) (by kernel_rfl) (by kernel_rfl) (fun _ _ _ h => hpan _ _ _ _ (by rfl) h) (by kernel_rfl) SS ?_
  refine off 28 90 (by kernel_rfl) (by kernel_rfl) (by kernel_rfl) (by kernel_rfl) (by kernel_rfl) (fun _ _ _ h => hpan _ _ _ _ (by rfl) h) (by kernel_rfl) SS ?_
  refine off 29 91 (by kernel_rfl) (by kernel_rfl) (by kernel_rfl) (by kernel_rfl) (by kernel_rfl) (fun _ _ _ h => hpan _ _ _ _ (by rfl) h) (by kernel_rfl) SS ?_
  refine off 30 92 (by kernel_rfl) (by kernel_rfl) (by kernel_rfl) (by kernel_rfl) (by kernel_rfl) (fun _ _ _ h => hpan _ _ _ _ (by rfl) h) (by kernel_rfl) SS ?_
  refine off 31 93 (by kernel_rfl) (by kernel_rfl) (by kernel_rfl) (by kernel_rfl) (by kernel_rfl) (fun _ _ _ h => hpan _ _ _ _ (by rfl) h) (by kernel_rfl) SS ?_
  refine off 32 94 (by kernel_rfl) (by kernel_rfl) (by kernel_rfl) (by kernel_rfl) (by kernel_rfl) (fun _ _ _ h => hpan _ _ _ _ (by rfl) h) (by kernel_rfl) SS ?_
  refine off 33 95 (by kernel_rfl) (by kernel_rfl) (by kernel_rfl) (by kernel_rfl) (by kernel_rfl) (fun _ _ _ h => hpan _ _ _ _ (by rfl) h) (by kernel_rfl) SS ?_
  refine off 34 96 (by kernel_rfl) (by kernel_rfl) (by kernel_rfl) (by kernel_rfl) (by kernel_rfl) (fun _ _ _ h => hpan _ _ _ _ (by rfl) h) (by kernel_rfl) SS ?_
  refine take 35 97 (.bool false) (by kernel_rfl) (by kernel_rfl) (by kernel_rfl) (by kernel_rfl) (by kernel_rfl) (fun _ _ _ h => hpan _ _ _ _ (by rfl) h) (by kernel_rfl) (fun _ _ => by kernel_rfl) SS ?_
  refine take 36 98 (.bool false) (by kernel_rfl) (by kernel_rfl) (by kernel_rfl) (by kernel_rfl) (by kernel_rfl) (fun _ _ _ h => hpan _ _ _ _ (by rfl) h) (by kernel_rfl) (fun _ _ => by kernel_rfl) SS ?_
  try simp only [Act.put, List.setIfInBounds_toArray, List.set_cons_zero, List.set_cons_succ]
  refine wpAnyH_done (by kernel_rfl) ?_ _
  exact hcont _ (HP.out.below SS)

set_option maxRecDepth 100000 in
set_option maxHeartbeats 8000000 in
theorem reg18out {s0 s1 s2 s3 s4 s5 s7 s13 s14 s16 s17 s18 s19 s20 s21 s22 s23 s24 s25 s26 s27 s28 s29 s30 s31 s32 s33 s34 s35 s36 s37 s38 s39 s40 s41 s42 s43 s44 s45 s46 s47 s48 s49 s50 s51 s52 s53 s54 s55 s56 s57 s58 s59 s60 s61 s62 s63 s64 s65 s66 s67 s68 s69 s70 s71 s72 s73 s74 s75 s76 s77 s78 s79 s80 s81 s82 s83 s84 s85 s86 s87 s88 s89 s90 s91 s92 s93 s94 s95 s96 s97 s98 s99 s100 s101 s102 s103 s104 s105 s106 s107 s108 s109 s110 s111 s112 s113 s114 s115 s116 s117 s118 s119 s120 s121 s122 s123 s124 s125 s126 s127 s128 s129 s130 s131 s132 s133 s134 s135 s136 s137 s138 s139 s140 s141 s142 s143 s144 s145 s146 s147 s148 s149 s150 s151 s152 s153 s154 s155 s156 s157 s158 s159 s160 s161 s162 s163 s164 s165 s166 s167 s168 s169 s170 s171 s172 s173 s174 s175 s176 s177 s178 s179 s180 s181 s182 s183 s184 s185 : Value} {w wr W5 : World} {ab lb rb k n : Nat} {x : List Bk} {v0 v1 v2 : Value} (HLEN : Hid (x.length = n)) {c15 : Nat} {A15 : Option Addr} {al asz afl : Int}
    (HP : Hid (P1 w W5 ab lb rb x x v0 v1 v2)) (X1 : Hid (W5.cell? ⟨wr.heap.size, 1, none⟩ = some (.int .i64 al))) (HC15 : Hid (Kd.C (Kd.int .u8) W5 A15 (fillL afl asz).length (fillL afl asz))) (HOUT : Hid (¬ (0 ≤ al ∧ al < (n : Int))))
    {Q : Exit → Act → World → Prop} (hpan : ∀ c a a' w, a.defers = a'.defers → Q (.panic c) a w → Q (.panic c) a' w)
    (hcont : ∀ W', P1 w W' ab lb rb x x v0 v1 v2 → Q .normal ⟨List.toArray (s0 :: s1 :: s2 :: s3 :: s4 :: s5 :: (.pointer (some ⟨ab, 0, none⟩) : Value) :: s7 :: (.pointer (some ⟨rb, 0, none⟩) : Value) :: (.int .i64 (k : Int) : Value) :: (.pointer (some ⟨wr.heap.size, 0, none⟩) : Value) :: (.int .i64 3 : Value) :: (.int .i64 3 : Value) :: s13 :: s14 :: (.slice A15 (fillL afl asz).length c15 : Value) :: s16 :: s17 :: s18 :: s19 :: s20 :: s21 :: s22 :: s23 :: s24 :: s25 :: s26 :: s27 :: s28 :: s29 :: s30 :: s31 :: s32 :: s33 :: s34 :: s35 :: s36 :: s37 :: s38 :: s39 :: s40 :: s41 :: s42 :: s43 :: s44 :: s45 :: s46 :: s47 :: s48 :: s49 :: s50 :: s51 :: s52 :: s53 :: s54 :: s55 :: s56 :: s57 :: s58 :: s59 :: s60 :: s61 :: s62 :: s63 :: s64 :: s65 :: s66 :: s67 :: s68 :: s69 :: s70 :: s71 :: s72 :: s73 :: s74 :: s75 :: s76 :: s77 :: s78 :: s79 :: s80 :: s81 :: s82 :: s83 :: s84 :: s85 :: s86 :: s87 :: s88 :: s89 :: s90 :: s91 :: s92 :: s93 :: s94 :: s95 :: s96 :: s97 :: s98 :: s99 :: s100 :: s101 :: s102 :: s103 :: s104 :: s105 :: (.pointer (some ⟨ab, 0, none⟩) : Value) :: (.pointer (some ⟨wr.heap.size, 1, none⟩) : Value) :: (.int .i64 al : Value) :: (.slice A15 (fillL afl asz).length c15 : Value) :: (.int .i64 3 : Value) :: (.pointer (some ⟨rb, 0, none⟩) : Value) :: (.pointer (some ⟨wr.heap.size, 1, none⟩) : Value) :: (.int .i64 al : Value) :: (.slice A15 (fillL afl asz).length c15 : Value) :: (.string (strOfNums (fillL afl asz)) : Value) :: (.int .i64 3 : Value) :: s117 :: s118 :: s119 :: s120 :: s121 :: s122 :: s123 :: s124 :: s125 :: s126 :: s127 :: s128 :: s129 :: s130 :: s131 :: s132 :: s133 :: s134 :: s135 :: s136 :: s137 :: s138 :: s139 :: s140 :: s141 :: s142 :: s143 :: s144 :: s145 :: s146 :: s147 :: s148 :: s149 :: s150 :: s151 :: s152 :: s153 :: s154 :: s155 :: s156 :: s157 :: s158 :: s159 :: s160 :: s161 :: s162 :: s163 :: s164 :: s165 :: s166 :: s167 :: s168 :: s169 :: s170 :: s171 :: s172 :: s173 :: s174 :: s175 :: s176 :: s177 :: s178 :: s179 :: s180 :: s181 :: s182 :: s183 :: s184 :: s185 :: []), []⟩ W') :
    (Code.region 18 (ops4 18) true).wp Try.prog Q ⟨List.toArray (s0 :: s1 :: s2 :: s3 :: s4 :: s5 :: (.pointer (some ⟨ab, 0, none⟩) : Value) :: s7 :: (.pointer (some ⟨rb, 0, none⟩) : Value) :: (.int .i64 (k : Int) : Value) :: (.pointer (some ⟨wr.heap.size, 0, none⟩) : Value) :: (.int .i64 0 : Value) :: (.int .i64 0 : Value) :: s13 :: s14 :: (.slice A15 (fillL afl asz).length c15 : Value) :: s16 :: s17 :: s18 :: s19 :: s20 :: s21 :: s22 :: s23 :: s24 :: s25 :: s26 :: s27 :: s28 :: s29 :: s30 :: s31 :: s32 :: s33 :: s34 :: s35 :: s36 :: s37 :: s38 :: s39 :: s40 :: s41 :: s42 :: s43 :: s44 :: s45 :: s46 :: s47 :: s48 :: s49 :: s50 :: s51 :: s52 :: s53 :: s54 :: s55 :: s56 :: s57 :: s58 :: s59 :: s60 :: s61 :: s62 :: s63 :: s64 :: s65 :: s66 :: s67 :: s68 :: s69 :: s70 :: s71 :: s72 :: s73 :: s74 :: s75 :: s76 :: s77 :: s78 :: s79 :: s80 :: s81 :: s82 :: s83 :: s84 :: s85 :: s86 :: s87 :: s88 :: s89 :: s90 :: s91 :: s92 :: s93 :: s94 :: s95 :: s96 :: s97 :: s98 :: s99 :: s100 :: s101 :: s102 :: s103 :: s104 :: s105 :: s106 :: s107 :: s108 :: s109 :: s110 :: s111 :: s112 :: s113 :: s114 :: s115 :: s116 :: s117 :: s118 :: s119 :: s120 :: s121 :: s122 :: s123 :: s124 :: s125 :: s126 :: s127 :: s128 :: s129 :: s130 :: s131 :: s132 :: s133 :: s134 :: s135 :: s136 :: s137 :: s138 :: s139 :: s140 :: s141 :: s142 :: s143 :: s144 :: s145 :: s146 :: s147 :: s148 :: s149 :: s150 :: s151 :: s152 :: s153 :: s154 :: s155 :: s156 :: s157 :: s158 :: s159 :: s160 :: s161 :: s162 :: s163 :: s164 :: s165 :: s166 :: s167 :: s168 :: s169 :: s170 :: s171 :: s172 :: s173 :: s174 :: s175 :: s176 :: s177 :: s178 :: s179 :: s180 :: s181 :: s182 :: s183 :: s184 :: s185 :: []), []⟩ W5 := by
  refine wp_region_held (S := fun w' => Below W5.heap.size W5 w') (by kernel_rfl) ?_
  have SS : Below W5.heap.size W5 { W5 with drawn := W5.drawn + 1 } := (Below.refl _ _).drew
  refine take 0 106 (.pointer (some ⟨ab, 0, none⟩)) (by kernel_rfl) (by kernel_rfl) (by kernel_rfl) (by kernel_rfl) (by kernel_rfl) (fun _ _ _ h => hpan _ _ _ _ (by rfl) h) (by kernel_rfl) (fun _ _ => by kernel_rfl) SS ?_
  refine take 1 107 (.pointer (some ⟨wr.heap.size, 1, none⟩)) (by kernel_rfl) (by kernel_rfl) (by kernel_rfl) (by kernel_rfl) (by kernel_rfl) (fun _ _ _ h => hpan _ _ _ _ (by rfl) h) (by kernel_rfl) (fun _ _ => by kernel_rfl) SS ?_
  refine take 2 108 (.int .i64 al) (by kernel_rfl) (by kernel_rfl) (by kernel_rfl) (by kernel_rfl) (by kernel_rfl) (fun _ _ _ h => hpan _ _ _ _ (by rfl) h) (by kernel_rfl) (fun w' hS => exec_load3 (.tmp 107) ⟨wr.heap.size, 1, none⟩ al (by kernel_rfl) (by kernel_rfl) ((hS.cell (cell_lt X1.out)).trans X1.out)) SS ?_
  refine take 3 109 (.slice A15 (fillL afl asz).length c15) (by kernel_rfl) (by kernel_rfl) (by kernel_rfl) (by kernel_rfl) (by kernel_rfl) (fun _ _ _ h => hpan _ _ _ _ (by rfl) h) (by kernel_rfl) (fun _ _ => by kernel_rfl) SS ?_
  refine take 5 111 (.pointer (some ⟨rb, 0, none⟩)) (by kernel_rfl) (by kernel_rfl) (by kernel_rfl) (by kernel_rfl) (by kernel_rfl) (fun _ _ _ h => hpan _ _ _ _ (by rfl) h) (by kernel_rfl) (fun _ _ => by kernel_rfl) SS ?_
  refine take 6 112 (.pointer (some ⟨wr.heap.size, 1, none⟩)) (by kernel_rfl) (by kernel_rfl) (by kernel_rfl) (by kernel_rfl) (by kernel_rfl) (fun _ _ _ h => hpan _ _ _ _ (by rfl) h) (by kernel_rfl) (fun _ _ => by kernel_rfl) SS ?_
  refine take 7 113 (.int .i64 al) (by kernel_rfl) (by kernel_rfl) (by kernel_rfl) (by kernel_rfl) (by kernel_rfl) (fun _ _ _ h => hpan _ _ _ _ (by rfl) h) (by kernel_rfl) (fun w' hS => exec_load3 (.tmp 112) ⟨wr.heap.size, 1, none⟩ al (by kernel_rfl) (by kernel_rfl) ((hS.cell (cell_lt X1.out)).trans X1.out)) SS ?_
  refine take 8 114 (.slice A15 (fillL afl asz).length c15) (by kernel_rfl) (by kernel_rfl) (by kernel_rfl) (by kernel_rfl) (by kernel_rfl) (fun _ _ _ h => hpan _ _ _ _ (by rfl) h) (by kernel_rfl) (fun _ _ => by kernel_rfl) SS ?_
  refine take 9 115 (.string (strOfNums (fillL afl asz))) (by kernel_rfl) (by kernel_rfl) (by kernel_rfl) (by kernel_rfl) (by kernel_rfl) (fun _ _ _ h => hpan _ _ _ _ (by rfl) h) (by kernel_rfl) (fun w' hS => exec_convert 33 9 (.tmp 114) (.slice A15 (fillL afl asz).length c15) (by kernel_rfl) (by kernel_rfl) (conv_bytes (Kd.C_below HC15.out hS))) SS ?_
  try simp only [Act.put, List.setIfInBounds_toArray, List.set_cons_zero, List.set_cons_succ]
  refine any_call 4 110 9 #[.pointer (some ⟨ab, 0, none⟩), .int .i64 al, .slice A15 (fillL afl asz).length c15] (by kernel_rfl) (by kernel_rfl) (by kernel_rfl) (by kernel_rfl) (by kernel_rfl) ?_
  refine (write_out (HP.out.below SS).a.arr al _ (by rw [HLEN.out]; exact HOUT.out)).mono ?_
  rintro _ W7 ⟨rfl, hw⟩
  subst hw
  refine ⟨_, rfl, SS, ?_⟩
  try simp only [Act.put, List.setIfInBounds_toArray, List.set_cons_zero, List.set_cons_succ]
  try simp only [Act.put, List.setIfInBounds_toArray, List.set_cons_zero, List.set_cons_succ]
  refine any_call 10 116 11 #[.pointer (some ⟨rb, 0, none⟩), .int .i64 al, .string (strOfNums (fillL afl asz))] (by kernel_rfl) (by kernel_rfl) (by kernel_rfl) (by kernel_rfl) (by kernel_rfl) ?_
  refine (writeE_out (HP.out.below SS).refE al _ (by rw [HLEN.out]; exact HOUT.out)).mono ?_
  rintro _ W8 ⟨rfl, hw⟩
  subst hw
  refine ⟨_, rfl, SS, ?_⟩
  try simp only [Act.put, List.setIfInBounds_toArray, List.set_cons_zero, List.set_cons_succ]
  refine take 11 11 (.int .i64 3) (by kernel_rfl) (by kernel_rfl) (by kernel_rfl) (by kernel_rfl) (by kernel_rfl) (fun _ _ _ h => hpan _ _ _ _ (by rfl) h) (by kernel_rfl) (fun _ _ => by kernel_rfl) SS ?_
  refine take 12 12 (.int .i64 3) (by kernel_rfl) (by kernel_rfl) (by kernel_rfl) (by kernel_rfl) (by kernel_rfl) (fun _ _ _ h => hpan _ _ _ _ (by rfl) h) (by kernel_rfl) (fun _ _ => by kernel_rfl) SS ?_
  try simp only [Act.put, List.setIfInBounds_toArray, List.set_cons_zero, List.set_cons_succ]
  refine wpAnyH_done (by kernel_rfl) ?_ _
  exact hcont _ (HP.out.below SS)

set_option maxRecDepth 100000 in
set_option maxHeartbeats 8000000 in
theorem reg18len {s0 s1 s2 s3 s4 s5 s7 s13 s14 s16 s17 s18 s19 s20 s21 s22 s23 s24 s25 s26 s27 s28 s29 s30 s31 s32 s33 s34 s35 s36 s37 s38 s39 s40 s41 s42 s43 s44 s45 s46 s47 s48 s49 s50 s51 s52 s53 s54 s55 s56 s57 s58 s59 s60 s61 s62 s63 s64 s65 s66 s67 s68 s69 s70 s71 s72 s73 s74 s75 s76 s77 s78 s79 s80 s81 s82 s83 s84 s85 s86 s87 s88 s89 s90 s91 s92 s93 s94 s95 s96 s97 s98 s99 s100 s101 s102 s103 s104 s105 s106 s107 s108 s109 s110 s111 s112 s113 s114 s115 s116 s117 s118 s119 s120 s121 s122 s123 s124 s125 s126 s127 s128 s129 s130 s131 s132 s133 s134 s135 s136 s137 s138 s139 s140 s141 s142 s143 s144 s145 s146 s147 s148 s149 s150 s151 s152 s153 s154 s155 s156 s157 s158 s159 s160 s161 s162 s163 s164 s165 s166 s167 s168 s169 s170 s171 s172 s173 s174 s175 s176 s177 s178 s179 s180 s181 s182 s183 s184 s185 : Value} {w wr W5 : World} {ab lb rb k n : Nat} {x : List Bk} {v0 v1 v2 : Value} (HLEN : Hid (x.length = n)) {j c15 : Nat} {A15 : Option Addr} {asz afl : Int}
    (HP : Hid (P1 w W5 ab lb rb x x v0 v1 v2)) (X1 : Hid (W5.cell? ⟨wr.heap.size, 1, none⟩ = some (.int .i64 (j : Int)))) (HC15 : Hid (Kd.C (Kd.int .u8) W5 A15 (fillL afl asz).length (fillL afl asz))) (hj : j < n) (HL64 : Hid ((fillL afl asz).length ≠ 64 ∧ (fillL afl asz).length ≤ 9223372036854775807))
    {Q : Exit → Act → World → Prop} (hpan : ∀ c a a' w, a.defers = a'.defers → Q (.panic c) a w → Q (.panic c) a' w)
    (hcont : ∀ W', P1 w W' ab lb rb x x v0 v1 v2 → Q .normal ⟨List.toArray (s0 :: s1 :: s2 :: s3 :: s4 :: s5 :: (.pointer (some ⟨ab, 0, none⟩) : Value) :: s7 :: (.pointer (some ⟨rb, 0, none⟩) : Value) :: (.int .i64 (k : Int) : Value) :: (.pointer (some ⟨wr.heap.size, 0, none⟩) : Value) :: (.int .i64 1 : Value) :: (.int .i64 1 : Value) :: s13 :: s14 :: (.slice A15 (fillL afl asz).length c15 : Value) :: s16 :: s17 :: s18 :: s19 :: s20 :: s21 :: s22 :: s23 :: s24 :: s25 :: s26 :: s27 :: s28 :: s29 :: s30 :: s31 :: s32 :: s33 :: s34 :: s35 :: s36 :: s37 :: s38 :: s39 :: s40 :: s41 :: s42 :: s43 :: s44 :: s45 :: s46 :: s47 :: s48 :: s49 :: s50 :: s51 :: s52 :: s53 :: s54 :: s55 :: s56 :: s57 :: s58 :: s59 :: s60 :: s61 :: s62 :: s63 :: s64 :: s65 :: s66 :: s67 :: s68 :: s69 :: s70 :: s71 :: s72 :: s73 :: s74 :: s75 :: s76 :: s77 :: s78 :: s79 :: s80 :: s81 :: s82 :: s83 :: s84 :: s85 :: s86 :: s87 :: s88 :: s89 :: s90 :: s91 :: s92 :: s93 :: s94 :: s95 :: s96 :: s97 :: s98 :: s99 :: s100 :: s101 :: s102 :: s103 :: s104 :: s105 :: (.pointer (some ⟨ab, 0, none⟩) : Value) :: (.pointer (some ⟨wr.heap.size, 1, none⟩) : Value) :: (.int .i64 (j : Int) : Value) :: (.slice A15 (fillL afl asz).length c15 : Value) :: (.int .i64 1 : Value) :: (.pointer (some ⟨rb, 0, none⟩) : Value) :: (.pointer (some ⟨wr.heap.size, 1, none⟩) : Value) :: (.int .i64 (j : Int) : Value) :: (.slice A15 (fillL afl asz).length c15 : Value) :: (.string (strOfNums (fillL afl asz)) : Value) :: (.int .i64 1 : Value) :: s117 :: s118 :: s119 :: s120 :: s121 :: s122 :: s123 :: s124 :: s125 :: s126 :: s127 :: s128 :: s129 :: s130 :: s131 :: s132 :: s133 :: s134 :: s135 :: s136 :: s137 :: s138 :: s139 :: s140 :: s141 :: s142 :: s143 :: s144 :: s145 :: s146 :: s147 :: s148 :: s149 :: s150 :: s151 :: s152 :: s153 :: s154 :: s155 :: s156 :: s157 :: s158 :: s159 :: s160 :: s161 :: s162 :: s163 :: s164 :: s165 :: s166 :: s167 :: s168 :: s169 :: s170 :: s171 :: s172 :: s173 :: s174 :: s175 :: s176 :: s177 :: s178 :: s179 :: s180 :: s181 :: s182 :: s183 :: s184 :: s185 :: []), []⟩ W') :
    (Code.region 18 (ops4 18) true).wp Try.prog Q ⟨List.toArray (s0 :: s1 :: s2 :: s3 :: s4 :: s5 :: (.pointer (some ⟨ab, 0, none⟩) : Value) :: s7 :: (.pointer (some ⟨rb, 0, none⟩) : Value) :: (.int .i64 (k : Int) : Value) :: (.pointer (some ⟨wr.heap.size, 0, none⟩) : Value) :: (.int .i64 0 : Value) :: (.int .i64 0 : Value) :: s13 :: s14 :: (.slice A15 (fillL afl asz).length c15 : Value) :: s16 :: s17 :: s18 :: s19 :: s20 :: s21 :: s22 :: s23 :: s24 :: s25 :: s26 :: s27 :: s28 :: s29 :: s30 :: s31 :: s32 :: s33 :: s34 :: s35 :: s36 :: s37 :: s38 :: s39 :: s40 :: s41 :: s42 :: s43 :: s44 :: s45 :: s46 :: s47 :: s48 :: s49 :: s50 :: s51 :: s52 :: s53 :: s54 :: s55 :: s56 :: s57 :: s58 :: s59 :: s60 :: s61 :: s62 :: s63 :: s64 :: s65 :: s66 :: s67 :: s68 :: s69 :: s70 :: s71 :: s72 :: s73 :: s74 :: s75 :: s76 :: s77 :: s78 :: s79 :: s80 :: s81 :: s82 :: s83 :: s84 :: s85 :: s86 :: s87 :: s88 :: s89 :: s90 :: s91 :: s92 :: s93 :: s94 :: s95 :: s96 :: s97 :: s98 :: s99 :: s100 :: s101 :: s102 :: s103 :: s104 :: s105 :: s106 :: s107 :: s108 :: s109 :: s110 :: s111 :: s112 :: s113 :: s114 :: s115 :: s116 :: s117 :: s118 :: s119 :: s120 :: s121 :: s122 :: s123 :: s124 :: s125 :: s126 :: s127 :: s128 :: s129 :: s130 :: s131 :: s132 :: s133 :: s134 :: s135 :: s136 :: s137 :: s138 :: s139 :: s140 :: s141 :: s142 :: s143 :: s144 :: s145 :: s146 :: s147 :: s148 :: s149 :: s150 :: s151 :: s152 :: s153 :: s154 :: s155 :: s156 :: s157 :: s158 :: s159 :: s160 :: s161 :: s162 :: s163 :: s164 :: s165 :: s166 :: s167 :: s168 :: s169 :: s170 :: s171 :: s172 :: s173 :: s174 :: s175 :: s176 :: s177 :: s178 :: s179 :: s180 :: s181 :: s182 :: s183 :: s184 :: s185 :: []), []⟩ W5 := by
  refine wp_region_held (S := fun w' => Below W5.heap.size W5 w') (by kernel_rfl) ?_
  have SS : Below W5.heap.size W5 { W5 with drawn := W5.drawn + 1 } := (Below.refl _ _).drew
  refine take 0 106 (.pointer (some ⟨ab, 0, none⟩)) (by kernel_rfl) (by kernel_rfl) (by kernel_rfl) (by kernel_rfl) (by kernel_rfl) (fun _ _ _ h => hpan _ _ _ _ (by rfl) h) (by kernel_rfl) (fun _ _ => by kernel_rfl) SS ?_
  refine take 1 107 (.pointer (some ⟨wr.heap.size, 1, none⟩)) (by kernel_rfl) (by kernel_rfl) (by kernel_rfl) (by kernel_rfl) (by kernel_rfl) (fun _ _ _ h => hpan _ _ _ _ (by rfl) h) (by kernel_rfl) (fun _ _ => by kernel_rfl) SS ?_
  refine take 2 108 (.int .i64 (j : Int)) (by kernel_rfl) (by kernel_rfl) (by kernel_rfl) (by kernel_rfl) (by kernel_rfl) (fun _ _ _ h => hpan _ _ _ _ (by rfl) h) (by kernel_rfl) (fun w' hS => exec_load3 (.tmp 107) ⟨wr.heap.size, 1, none⟩ (j : Int) (by kernel_rfl) (by kernel_rfl) ((hS.cell (cell_lt X1.out)).trans X1.out)) SS ?_
  refine take 3 109 (.slice A15 (fillL afl asz).length c15) (by kernel_rfl) (by kernel_rfl) (by kernel_rfl) (by kernel_rfl) (by kernel_rfl) (fun _ _ _ h => hpan _ _ _ _ (by rfl) h) (by kernel_rfl) (fun _ _ => by kernel_rfl) SS ?_
  refine take 5 111 (.pointer (some ⟨rb, 0, none⟩)) (by kernel_rfl) (by kernel_rfl) (by kernel_rfl) (by kernel_rfl) (by kernel_rfl) (fun _ _ _ h => hpan _ _ _ _ (by rfl) h) (by kernel_rfl) (fun _ _ => by kernel_rfl) SS ?_
  refine take 6 112 (.pointer (some ⟨wr.heap.size, 1, none⟩)) (by kernel_rfl) (by kernel_rfl) (by kernel_rfl) (by kernel_rfl) (by kernel_rfl) (fun _ _ _ h => hpan _ _ _ _ (by rfl) h) (by kernel_rfl) (fun _ _ => by kernel_rfl) SS ?_
  refine take 7 113 (.int .i64 (j : Int)) (by kernel_rfl) (by kernel_rfl) (by kernel_rfl) (by kernel_rfl) (by kernel_rfl) (fun _ _ _ h => hpan _ _ _ _ (by rfl) h) (by kernel_rfl) (fun w' hS => exec_load3 (.tmp 112) ⟨wr.heap.size, 1, none⟩ (j : Int) (by kernel_rfl) (by kernel_rfl) ((hS.cell (cell_lt X1.out)).trans X1.out)) SS ?_
  refine take 8 114 (.slice A15 (fillL afl asz).length c15) (by kernel_rfl) (by kernel_rfl) (by kernel_rfl) (by kernel_rfl) (by kernel_rfl) (fun _ _ _ h => hpan _ _ _ _ (by rfl) h) (by kernel_rfl) (fun _ _ => by kernel_rfl) SS ?_
  refine take 9 115 (.string (strOfNums (fillL afl asz))) (by kernel_rfl) (by kernel_rfl) (by kernel_rfl) (by kernel_rfl) (by kernel_rfl) (fun _ _ _ h => hpan _ _ _ _ (by rfl) h) (by kernel_rfl) (fun w' hS => exec_convert 33 9 (.tmp 114) (.slice A15 (fillL afl asz).length c15) (by kernel_rfl) (by kernel_rfl) (conv_bytes (Kd.C_below HC15.out hS))) SS ?_
  try simp only [Act.put, List.setIfInBounds_toArray, List.set_cons_zero, List.set_cons_succ]
  refine any_call 4 110 9 #[.pointer (some ⟨ab, 0, none⟩), .int .i64 (j : Int), .slice A15 (fillL afl asz).length c15] (by kernel_rfl) (by kernel_rfl) (by kernel_rfl) (by kernel_rfl) (by kernel_rfl) ?_
  refine (write_len (HP.out.below SS).a.arr j (by rw [HLEN.out]; exact hj) _ _ _ HL64.out.1 HL64.out.2).mono ?_
  rintro _ W7 ⟨rfl, hw⟩
  subst hw
  refine ⟨_, rfl, SS, ?_⟩
  try simp only [Act.put, List.setIfInBounds_toArray, List.set_cons_zero, List.set_cons_succ]
  try simp only [Act.put, List.setIfInBounds_toArray, List.set_cons_zero, List.set_cons_succ]
  refine any_call 10 116 11 #[.pointer (some ⟨rb, 0, none⟩), .int .i64 (j : Int), .string (strOfNums (fillL afl asz))] (by kernel_rfl) (by kernel_rfl) (by kernel_rfl) (by kernel_rfl) (by kernel_rfl) ?_
  refine (writeE_len (HP.out.below SS).refE j (by rw [HLEN.out]; exact hj) (fillL afl asz) HL64.out.1 HL64.out.2).mono ?_
  rintro _ W8 ⟨rfl, hw⟩
  subst hw
  refine ⟨_, rfl, SS, ?_⟩
  try simp only [Act.put, List.setIfInBounds_toArray, List.set_cons_zero, List.set_cons_succ]
  refine take 11 11 (.int .i64 1) (by kernel_rfl) (by kernel_rfl) (by kernel_rfl) (by kernel_rfl) (by kernel_rfl) (fun _ _ _ h => hpan _ _ _ _ (by rfl) h) (by kernel_rfl) (fun _ _ => by kernel_rfl) SS ?_
  refine take 12 12 (.int .i64 1) (by kernel_rfl) (by kernel_rfl) (by kernel_rfl) (by kernel_rfl) (by kernel_rfl) (fun _ _ _ h => hpan _ _ _ _ (by rfl) h) (by kernel_rfl) (fun _ _ => by kernel_rfl) SS ?_
  try simp only [Act.put, List.setIfInBounds_toArray, List.set_cons_zero, List.set_cons_succ]
  refine wpAnyH_done (by kernel_rfl) ?_ _
  exact hcont _ (HP.out.below SS)

set_option maxRecDepth 100000 in
set_option maxHeartbeats 8000000 in
theorem reg18ok {s0 s1 s2 s3 s4 s5 s7 s13 s14 s16 s17 s18 s19 s20 s21 s22 s23 s24 s25 s26 s27 s28 s29 s30 s31 s32 s33 s34 s35 s36 s37 s38 s39 s40 s41 s42 s43 s44 s45 s46 s47 s48 s49 s50 s51 s52 s53 s54 s55 s56 s57 s58 s59 s60 s61 s62 s63 s64 s65 s66 s67 s68 s69 s70 s71 s72 s73 s74 s75 s76 s77 s78 s79 s80 s81 s82 s83 s84 s85 s86 s87 s88 s89 s90 s91 s92 s93 s94 s95 s96 s97 s98 s99 s100 s101 s102 s103 s104 s105 s106 s107 s108 s109 s110 s111 s112 s113 s114 s115 s116 s117 s118 s119 s120 s121 s122 s123 s124 s125 s126 s127 s128 s129 s130 s131 s132 s133 s134 s135 s136 s137 s138 s139 s140 s141 s142 s143 s144 s145 s146 s147 s148 s149 s150 s151 s152 s153 s154 s155 s156 s157 s158 s159 s160 s161 s162 s163 s164 s165 s166 s167 s168 s169 s170 s171 s172 s173 s174 s175 s176 s177 s178 s179 s180 s181 s182 s183 s184 s185 : Value} {w wr W5 : World} {ab lb rb k n : Nat} {x : List Bk} {v0 v1 v2 : Value} (HLEN : Hid (x.length = n)) {j c15 W5b : Nat} {A15 : Option Addr} {an asz afl : Int}
    (HP : Hid (P1 w W5 ab lb rb x x v0 v1 v2)) (H3 : Hid (S3 wr.heap.size W5b (j : Int) an (.slice A15 (fillL afl asz).length c15) (fillL afl asz) W5)) (hj : j < n) (HSEC : Hid (Sec (fillL afl asz))) (HLB : Hid (LB lb wr.heap.size W5b)) (HOWN : Hid (∀ k, Own rb v0 v1 v2 k → k < wr.heap.size))
    {Q : Exit → Act → World → Prop} (hpan : ∀ c a a' w, a.defers = a'.defers → Q (.panic c) a w → Q (.panic c) a' w)
    (hcont : ∀ W' u0 u1 u2, P1 w W' ab lb rb (putL x j (fillL afl asz) 1) (putL x j (fillL afl asz) 1) u0 u1 u2 → Q .normal ⟨List.toArray (s0 :: s1 :: s2 :: s3 :: s4 :: s5 :: (.pointer (some ⟨ab, 0, none⟩) : Value) :: s7 :: (.pointer (some ⟨rb, 0, none⟩) : Value) :: (.int .i64 (k : Int) : Value) :: (.pointer (some ⟨wr.heap.size, 0, none⟩) : Value) :: (.int .i64 0 : Value) :: (.int .i64 0 : Value) :: s13 :: s14 :: (.slice A15 (fillL afl asz).length c15 : Value) :: s16 :: s17 :: s18 :: s19 :: s20 :: s21 :: s22 :: s23 :: s24 :: s25 :: s26 :: s27 :: s28 :: s29 :: s30 :: s31 :: s32 :: s33 :: s34 :: s35 :: s36 :: s37 :: s38 :: s39 :: s40 :: s41 :: s42 :: s43 :: s44 :: s45 :: s46 :: s47 :: s48 :: s49 :: s50 :: s51 :: s52 :: s53 :: s54 :: s55 :: s56 :: s57 :: s58 :: s59 :: s60 :: s61 :: s62 :: s63 :: s64 :: s65 :: s66 :: s67 :: s68 :: s69 :: s70 :: s71 :: s72 :: s73 :: s74 :: s75 :: s76 :: s77 :: s78 :: s79 :: s80 :: s81 :: s82 :: s83 :: s84 :: s85 :: s86 :: s87 :: s88 :: s89 :: s90 :: s91 :: s92 :: s93 :: s94 :: s95 :: s96 :: s97 :: s98 :: s99 :: s100 :: s101 :: s102 :: s103 :: s104 :: s105 :: (.pointer (some ⟨ab, 0, none⟩) : Value) :: (.pointer (some ⟨wr.heap.size, 1, none⟩) : Value) :: (.int .i64 (j : Int) : Value) :: (.slice A15 (fillL afl asz).length c15 : Value) :: (.int .i64 0 : Value) :: (.pointer (some ⟨rb, 0, none⟩) : Value) :: (.pointer (some ⟨wr.heap.size, 1, none⟩) : Value) :: (.int .i64 (j : Int) : Value) :: (.slice A15 (fillL afl asz).length c15 : Value) :: (.string (strOfNums (fillL afl asz)) : Value) :: (.int .i64 0 : Value) :: s117 :: s118 :: s119 :: s120 :: s121 :: s122 :: s123 :: s124 :: s125 :: s126 :: s127 :: s128 :: s129 :: s130 :: s131 :: s132 :: s133 :: s134 :: s135 :: s136 :: s137 :: s138 :: s139 :: s140 :: s141 :: s142 :: s143 :: s144 :: s145 :: s146 :: s147 :: s148 :: s149 :: s150 :: s151 :: s152 :: s153 :: s154 :: s155 :: s156 :: s157 :: s158 :: s159 :: s160 :: s161 :: s162 :: s163 :: s164 :: s165 :: s166 :: s167 :: s168 :: s169 :: s170 :: s171 :: s172 :: s173 :: s174 :: s175 :: s176 :: s177 :: s178 :: s179 :: s180 :: s181 :: s182 :: s183 :: s184 :: s185 :: []), []⟩ W') :
    (Code.region 18 (ops4 18) true).wp Try.prog Q ⟨List.toArray (s0 :: s1 :: s2 :: s3 :: s4 :: s5 :: (.pointer (some ⟨ab, 0, none⟩) : Value) :: s7 :: (.pointer (some ⟨rb, 0, none⟩) : Value) :: (.int .i64 (k : Int) : Value) :: (.pointer (some ⟨wr.heap.size, 0, none⟩) : Value) :: (.int .i64 0 : Value) :: (.int .i64 0 : Value) :: s13 :: s14 :: (.slice A15 (fillL afl asz).length c15 : Value) :: s16 :: s17 :: s18 :: s19 :: s20 :: s21 :: s22 :: s23 :: s24 :: s25 :: s26 :: s27 :: s28 :: s29 :: s30 :: s31 :: s32 :: s33 :: s34 :: s35 :: s36 :: s37 :: s38 :: s39 :: s40 :: s41 :: s42 :: s43 :: s44 :: s45 :: s46 :: s47 :: s48 :: s49 :: s50 :: s51 :: s52 :: s53 :: s54 :: s55 :: s56 :: s57 :: s58 :: s59 :: s60 :: s61 :: s62 :: s63 :: s64 :: s65 :: s66 :: s67 :: s68 :: s69 :: s70 :: s71 :: s72 :: s73 :: s74 :: s75 :: s76 :: s77 :: s78 :: s79 :: s80 :: s81 :: s82 :: s83 :: s84 :: s85 :: s86 :: s87 :: s88 :: s89 :: s90 :: s91 :: s92 :: s93 :: s94 :: s95 :: s96 :: s97 :: s98 :: s99 :: s100 :: s101 :: s102 :: s103 :: s104 :: s105 :: s106 :: s107 :: s108 :: s109 :: s110 :: s111 :: s112 :: s113 :: s114 :: s115 :: s116 :: s117 :: s118 :: s119 :: s120 :: s121 :: s122 :: s123 :: s124 :: s125 :: s126 :: s127 :: s128 :: s129 :: s130 :: s131 :: s132 :: s133 :: s134 :: s135 :: s136 :: s137 :: s138 :: s139 :: s140 :: s141 :: s142 :: s143 :: s144 :: s145 :: s146 :: s147 :: s148 :: s149 :: s150 :: s151 :: s152 :: s153 :: s154 :: s155 :: s156 :: s157 :: s158 :: s159 :: s160 :: s161 :: s162 :: s163 :: s164 :: s165 :: s166 :: s167 :: s168 :: s169 :: s170 :: s171 :: s172 :: s173 :: s174 :: s175 :: s176 :: s177 :: s178 :: s179 :: s180 :: s181 :: s182 :: s183 :: s184 :: s185 :: []), []⟩ W5 := by
  refine wp_region_held (S := fun w' => S3 wr.heap.size W5b (j : Int) an (.slice A15 (fillL afl asz).length c15) (fillL afl asz) w') (by kernel_rfl) ?_
  have SS : S3 wr.heap.size W5b (j : Int) an (.slice A15 (fillL afl asz).length c15) (fillL afl asz) { W5 with drawn := W5.drawn + 1 } := H3.out.fr (Fr.of_below ((Below.refl _ _).drew) (fun _ => False)) (fun _ _ _ h => h) HLB.out.le
  have HPW : P1 w { W5 with drawn := W5.drawn + 1 } ab lb rb x x v0 v1 v2 := HP.out.below ((Below.refl _ _).drew)
  clear HP H3
  refine take 0 106 (.pointer (some ⟨ab, 0, none⟩)) (by kernel_rfl) (by kernel_rfl) (by kernel_rfl) (by kernel_rfl) (by kernel_rfl) (fun _ _ _ h => hpan _ _ _ _ (by rfl) h) (by kernel_rfl) (fun _ _ => by kernel_rfl) SS ?_
  refine take 1 107 (.pointer (some ⟨wr.heap.size, 1, none⟩)) (by kernel_rfl) (by kernel_rfl) (by kernel_rfl) (by kernel_rfl) (by kernel_rfl) (fun _ _ _ h => hpan _ _ _ _ (by rfl) h) (by kernel_rfl) (fun _ _ => by kernel_rfl) SS ?_
  refine take 2 108 (.int .i64 (j : Int)) (by kernel_rfl) (by kernel_rfl) (by kernel_rfl) (by kernel_rfl) (by kernel_rfl) (fun _ _ _ h => hpan _ _ _ _ (by rfl) h) (by kernel_rfl) (fun w' hS => exec_load3 (.tmp 107) ⟨wr.heap.size, 1, none⟩ (j : Int) (by kernel_rfl) (by kernel_rfl) hS.c1) SS ?_
  refine take 3 109 (.slice A15 (fillL afl asz).length c15) (by kernel_rfl) (by kernel_rfl) (by kernel_rfl) (by kernel_rfl) (by kernel_rfl) (fun _ _ _ h => hpan _ _ _ _ (by rfl) h) (by kernel_rfl) (fun _ _ => by kernel_rfl) SS ?_
  refine take 5 111 (.pointer (some ⟨rb, 0, none⟩)) (by kernel_rfl) (by kernel_rfl) (by kernel_rfl) (by kernel_rfl) (by kernel_rfl) (fun _ _ _ h => hpan _ _ _ _ (by rfl) h) (by kernel_rfl) (fun _ _ => by kernel_rfl) SS ?_
  refine take 6 112 (.pointer (some ⟨wr.heap.size, 1, none⟩)) (by kernel_rfl) (by kernel_rfl) (by kernel_rfl) (by kernel_rfl) (by kernel_rfl) (fun _ _ _ h => hpan _ _ _ _ (by rfl) h) (by kernel_rfl) (fun _ _ => by kernel_rfl) SS ?_
  refine take 7 113 (.int .i64 (j : Int)) (by kernel_rfl) (by kernel_rfl) (by kernel_rfl) (by kernel_rfl) (by kernel_rfl) (fun _ _ _ h => hpan _ _ _ _ (by rfl) h) (by kernel_rfl) (fun w' hS => exec_load3 (.tmp 112) ⟨wr.heap.size, 1, none⟩ (j : Int) (by kernel_rfl) (by kernel_rfl) hS.c1) SS ?_
  refine take 8 114 (.slice A15 (fillL afl asz).length c15) (by kernel_rfl) (by kernel_rfl) (by kernel_rfl) (by kernel_rfl) (by kernel_rfl) (fun _ _ _ h => hpan _ _ _ _ (by rfl) h) (by kernel_rfl) (fun _ _ => by kernel_rfl) SS ?_
  refine take 9 115 (.string (strOfNums (fillL afl asz))) (by kernel_rfl) (by kernel_rfl) (by kernel_rfl) (by kernel_rfl) (by kernel_rfl) (fun _ _ _ h => hpan _ _ _ _ (by rfl) h) (by kernel_rfl) (fun w' hS => exec_convert 33 9 (.tmp 114) (.slice A15 (fillL afl asz).length c15) (by kernel_rfl) (by kernel_rfl) (conv_bytes (Kd.R_reads' hS.by_).2.2)) SS ?_
  try simp only [Act.put, List.setIfInBounds_toArray, List.set_cons_zero, List.set_cons_succ]
  refine any_call 4 110 9 #[.pointer (some ⟨ab, 0, none⟩), .int .i64 (j : Int), .slice A15 (fillL afl asz).length c15] (by kernel_rfl) (by kernel_rfl) (by kernel_rfl) (by kernel_rfl) (by kernel_rfl) ?_
  refine (p_write HPW j (by rw [HLEN.out]; exact hj) (fillL afl asz) HSEC.out SS.by_ HLB.out.lb).mono ?_
  rintro _ W7 ⟨rfl, h7, hf7⟩
  replace SS := SS.fr hf7 (fun k hk hk2 e => by have := HLB.out.lt; omega) HLB.out.le
  replace HPW := h7
  clear h7 hf7
  refine ⟨_, rfl, SS, ?_⟩
  try simp only [Act.put, List.setIfInBounds_toArray, List.set_cons_zero, List.set_cons_succ]
  try simp only [Act.put, List.setIfInBounds_toArray, List.set_cons_zero, List.set_cons_succ]
  refine any_call 10 116 11 #[.pointer (some ⟨rb, 0, none⟩), .int .i64 (j : Int), .string (strOfNums (fillL afl asz))] (by kernel_rfl) (by kernel_rfl) (by kernel_rfl) (by kernel_rfl) (by kernel_rfl) ?_
  refine (p_ref_write HPW wr.heap.size HOWN.out j (by rw [HLEN.out]; exact hj) (fillL afl asz) HSEC.out.len).mono ?_
  rintro _ W8 ⟨rfl, ⟨u0, u1, u2, h8⟩, hf8⟩
  replace SS := SS.fr hf8 (fun k hk hk2 e => e ⟨hk, hk2⟩) HLB.out.le
  replace HPW := h8
  clear h8 hf8
  refine ⟨_, rfl, SS, ?_⟩
  try simp only [Act.put, List.setIfInBounds_toArray, List.set_cons_zero, List.set_cons_succ]
  refine take 11 11 (.int .i64 0) (by kernel_rfl) (by kernel_rfl) (by kernel_rfl) (by kernel_rfl) (by kernel_rfl) (fun _ _ _ h => hpan _ _ _ _ (by rfl) h) (by kernel_rfl) (fun _ _ => by kernel_rfl) SS ?_
  refine take 12 12 (.int .i64 0) (by kernel_rfl) (by kernel_rfl) (by kernel_rfl) (by kernel_rfl) (by kernel_rfl) (fun _ _ _ h => hpan _ _ _ _ (by rfl) h) (by kernel_rfl) (fun _ _ => by kernel_rfl) SS ?_
  try simp only [Act.put, List.setIfInBounds_toArray, List.set_cons_zero, List.set_cons_succ]
  refine wpAnyH_done (by kernel_rfl) ?_ _
  exact hcont _ _ _ _ HPW

set_option maxRecDepth 100000 in
set_option maxHeartbeats 8000000 in
theorem reg20ok {s0 s1 s2 s3 s4 s5 s7 s13 s14 s15 s16 s17 s18 s19 s20 s21 s22 s23 s24 s25 s26 s27 s28 s29 s30 s31 s32 s33 s34 s35 s36 s37 s38 s39 s40 s41 s42 s43 s44 s45 s46 s47 s48 s49 s50 s51 s52 s53 s54 s55 s56 s57 s58 s59 s60 s61 s62 s63 s64 s65 s66 s67 s68 s69 s70 s71 s72 s73 s74 s75 s76 s77 s78 s79 s80 s81 s82 s83 s84 s85 s86 s87 s88 s89 s90 s91 s92 s93 s94 s95 s96 s97 s98 s99 s100 s101 s102 s103 s104 s105 s106 s107 s108 s109 s110 s111 s112 s113 s114 s115 s116 s117 s118 s119 s120 s121 s122 s123 s124 s125 s126 s127 s128 s129 s130 s131 s132 s133 s134 s135 s136 s137 s138 s139 s140 s141 s142 s143 s144 s145 s146 s147 s148 s149 s150 s151 s152 s153 s154 s155 s156 s157 s158 s159 s160 s161 s162 s163 s164 s165 s166 s167 s168 s169 s170 s171 s172 s173 s174 s175 s176 s177 s178 s179 s180 s181 s182 s183 s184 s185 : Value} {w wr W5 : World} {ab lb rb k n : Nat} {x : List Bk} {v0 v1 v2 : Value} (HLEN : Hid (x.length = n)) {j q : Nat}
    (HP : Hid (P1 w W5 ab lb rb x x v0 v1 v2)) (X1 : Hid (W5.cell? ⟨wr.heap.size, 1, none⟩ = some (.int .i64 (j : Int)))) (X2 : Hid (W5.cell? ⟨wr.heap.size, 2, none⟩ = some (.int .i64 (q : Int)))) (HIN : Hid (readyE n (j : Int) (q : Int) = 0)) (HLB : Hid (lb < wr.heap.size)) (HOWN : Hid (∀ k, Own rb v0 v1 v2 k → k < wr.heap.size))
    {Q : Exit → Act → World → Prop} (hpan : ∀ c a a' w, a.defers = a'.defers → Q (.panic c) a w → Q (.panic c) a' w)
    (hcont : ∀ W' u0 u1 u2, P1 w W' ab lb rb (putL x j z64 q) (putL x j z64 q) u0 u1 u2 → Q .normal ⟨List.toArray (s0 :: s1 :: s2 :: s3 :: s4 :: s5 :: (.pointer (some ⟨ab, 0, none⟩) : Value) :: s7 :: (.pointer (some ⟨rb, 0, none⟩) : Value) :: (.int .i64 (k : Int) : Value) :: (.pointer (some ⟨wr.heap.size, 0, none⟩) : Value) :: (.int .i64 0 : Value) :: (.int .i64 0 : Value) :: s13 :: s14 :: s15 :: s16 :: s17 :: s18 :: s19 :: s20 :: s21 :: s22 :: s23 :: s24 :: s25 :: s26 :: s27 :: s28 :: s29 :: s30 :: s31 :: s32 :: s33 :: s34 :: s35 :: s36 :: s37 :: s38 :: s39 :: s40 :: s41 :: s42 :: s43 :: s44 :: s45 :: s46 :: s47 :: s48 :: s49 :: s50 :: s51 :: s52 :: s53 :: s54 :: s55 :: s56 :: s57 :: s58 :: s59 :: s60 :: s61 :: s62 :: s63 :: s64 :: s65 :: s66 :: s67 :: s68 :: s69 :: s70 :: s71 :: s72 :: s73 :: s74 :: s75 :: s76 :: s77 :: s78 :: s79 :: s80 :: s81 :: s82 :: s83 :: s84 :: s85 :: s86 :: s87 :: s88 :: s89 :: s90 :: s91 :: s92 :: s93 :: s94 :: s95 :: s96 :: s97 :: s98 :: s99 :: s100 :: s101 :: s102 :: s103 :: s104 :: s105 :: s106 :: s107 :: s108 :: s109 :: s110 :: s111 :: s112 :: s113 :: s114 :: s115 :: s116 :: s117 :: s118 :: (.pointer (some ⟨ab, 0, none⟩) : Value) :: (.pointer (some ⟨wr.heap.size, 1, none⟩) : Value) :: (.int .i64 (j : Int) : Value) :: (.pointer (some ⟨wr.heap.size, 2, none⟩) : Value) :: (.int .i64 (q : Int) : Value) :: (.int .i64 0 : Value) :: (.pointer (some ⟨rb, 0, none⟩) : Value) :: (.pointer (some ⟨wr.heap.size, 1, none⟩) : Value) :: (.int .i64 (j : Int) : Value) :: (.pointer (some ⟨wr.heap.size, 2, none⟩) : Value) :: (.int .i64 (q : Int) : Value) :: (.int .i64 0 : Value) :: s131 :: s132 :: s133 :: s134 :: s135 :: s136 :: s137 :: s138 :: s139 :: s140 :: s141 :: s142 :: s143 :: s144 :: s145 :: s146 :: s147 :: s148 :: s149 :: s150 :: s151 :: s152 :: s153 :: s154 :: s155 :: s156 :: s157 :: s158 :: s159 :: s160 :: s161 :: s162 :: s163 :: s164 :: s165 :: s166 :: s167 :: s168 :: s169 :: s170 :: s171 :: s172 :: s173 :: s174 :: s175 :: s176 :: s177 :: s178 :: s179 :: s180 :: s181 :: s182 :: s183 :: s184 :: s185 :: []), []⟩ W') :
    (Code.region 20 (ops4 20) true).wp Try.prog Q ⟨List.toArray (s0 :: s1 :: s2 :: s3 :: s4 :: s5 :: (.pointer (some ⟨ab, 0, none⟩) : Value) :: s7 :: (.pointer (some ⟨rb, 0, none⟩) : Value) :: (.int .i64 (k : Int) : Value) :: (.pointer (some ⟨wr.heap.size, 0, none⟩) : Value) :: (.int .i64 0 : Value) :: (.int .i64 0 : Value) :: s13 :: s14 :: s15 :: s16 :: s17 :: s18 :: s19 :: s20 :: s21 :: s22 :: s23 :: s24 :: s25 :: s26 :: s27 :: s28 :: s29 :: s30 :: s31 :: s32 :: s33 :: s34 :: s35 :: s36 :: s37 :: s38 :: s39 :: s40 :: s41 :: s42 :: s43 :: s44 :: s45 :: s46 :: s47 :: s48 :: s49 :: s50 :: s51 :: s52 :: s53 :: s54 :: s55 :: s56 :: s57 :: s58 :: s59 :: s60 :: s61 :: s62 :: s63 :: s64 :: s65 :: s66 :: s67 :: s68 :: s69 :: s70 :: s71 :: s72 :: s73 :: s74 :: s75 :: s76 :: s77 :: s78 :: s79 :: s80 :: s81 :: s82 :: s83 :: s84 :: s85 :: s86 :: s87 :: s88 :: s89 :: s90 :: s91 :: s92 :: s93 :: s94 :: s95 :: s96 :: s97 :: s98 :: s99 :: s100 :: s101 :: s102 :: s103 :: s104 :: s105 :: s106 :: s107 :: s108 :: s109 :: s110 :: s111 :: s112 :: s113 :: s114 :: s115 :: s116 :: s117 :: s118 :: s119 :: s120 :: s121 :: s122 :: s123 :: s124 :: s125 :: s126 :: s127 :: s128 :: s129 :: s130 :: s131 :: s132 :: s133 :: s134 :: s135 :: s136 :: s137 :: s138 :: s139 :: s140 :: s141 :: s142 :: s143 :: s144 :: s145 :: s146 :: s147 :: s148 :: s149 :: s150 :: s151 :: s152 :: s153 :: s154 :: s155 :: s156 :: s157 :: s158 :: s159 :: s160 :: s161 :: s162 :: s163 :: s164 :: s165 :: s166 :: s167 :: s168 :: s169 :: s170 :: s171 :: s172 :: s173 :: s174 :: s175 :: s176 :: s177 :: s178 :: s179 :: s180 :: s181 :: s182 :: s183 :: s184 :: s185 :: []), []⟩ W5 := by
  refine wp_region_held (S := fun w' => S3 wr.heap.size wr.heap.size (j : Int) (q : Int) (.slice none 0 0) [] w') (by kernel_rfl) ?_
  have SS : S3 wr.heap.size wr.heap.size (j : Int) (q : Int) (.slice none 0 0) [] { W5 with drawn := W5.drawn + 1 } := ⟨X1.out, X2.out, Kd.R_nil _ _ _ _ _⟩
  have HPW : P1 w { W5 with drawn := W5.drawn + 1 } ab lb rb x x v0 v1 v2 := HP.out.below ((Below.refl _ _).drew)
  clear HP
  refine take 0 119 (.pointer (some ⟨ab, 0, none⟩)) (by kernel_rfl) (by kernel_rfl) (by kernel_rfl) (by kernel_rfl) (by kernel_rfl) (fun _ _ _ h => hpan _ _ _ _ (by rfl) h) (by kernel_rfl) (fun _ _ => by kernel_rfl) SS ?_
  refine take 1 120 (.pointer (some ⟨wr.heap.size, 1, none⟩)) (by kernel_rfl) (by kernel_rfl) (by kernel_rfl) (by kernel_rfl) (by kernel_rfl) (fun _ _ _ h => hpan _ _ _ _ (by rfl) h) (by kernel_rfl) (fun _ _ => by kernel_rfl) SS ?_
  refine take 2 121 (.int .i64 (j : Int)) (by kernel_rfl) (by kernel_rfl) (by kernel_rfl) (by kernel_rfl) (by kernel_rfl) (fun _ _ _ h => hpan _ _ _ _ (by rfl) h) (by kernel_rfl) (fun w' hS => exec_load3 (.tmp 120) ⟨wr.heap.size, 1, none⟩ (j : Int) (by kernel_rfl) (by kernel_rfl) hS.c1) SS ?_
  refine take 3 122 (.pointer (some ⟨wr.heap.size, 2, none⟩)) (by kernel_rfl) (by kernel_rfl) (by kernel_rfl) (by kernel_rfl) (by kernel_rfl) (fun _ _ _ h => hpan _ _ _ _ (by rfl) h) (by kernel_rfl) (fun _ _ => by kernel_rfl) SS ?_
  refine take 4 123 (.int .i64 (q : Int)) (by kernel_rfl) (by kernel_rfl) (by kernel_rfl) (by kernel_rfl) (by kernel_rfl) (fun _ _ _ h => hpan _ _ _ _ (by rfl) h) (by kernel_rfl) (fun w' hS => exec_load3 (.tmp 122) ⟨wr.heap.size, 2, none⟩ (q : Int) (by kernel_rfl) (by kernel_rfl) hS.c2) SS ?_
  refine take 6 125 (.pointer (some ⟨rb, 0, none⟩)) (by kernel_rfl) (by kernel_rfl) (by kernel_rfl) (by kernel_rfl) (by kernel_rfl) (fun _ _ _ h => hpan _ _ _ _ (by rfl) h) (by kernel_rfl) (fun _ _ => by kernel_rfl) SS ?_
  refine take 7 126 (.pointer (some ⟨wr.heap.size, 1, none⟩)) (by kernel_rfl) (by kernel_rfl) (by kernel_rfl) (by kernel_rfl) (by kernel_rfl) (fun _ _ _ h => hpan _ _ _ _ (by rfl) h) (by kernel_rfl) (fun _ _ => by kernel_rfl) SS ?_
  refine take 8 127 (.int .i64 (j : Int)) (by kernel_rfl) (by kernel_rfl) (by kernel_rfl) (by kernel_rfl) (by kernel_rfl) (fun _ _ _ h => hpan _ _ _ _ (by rfl) h) (by kernel_rfl) (fun w' hS => exec_load3 (.tmp 126) ⟨wr.heap.size, 1, none⟩ (j : Int) (by kernel_rfl) (by kernel_rfl) hS.c1) SS ?_
  refine take 9 128 (.pointer (some ⟨wr.heap.size, 2, none⟩)) (by kernel_rfl) (by kernel_rfl) (by kernel_rfl) (by kernel_rfl) (by kernel_rfl) (fun _ _ _ h => hpan _ _ _ _ (by rfl) h) (by kernel_rfl) (fun _ _ => by kernel_rfl) SS ?_
  refine take 10 129 (.int .i64 (q : Int)) (by kernel_rfl) (by kernel_rfl) (by kernel_rfl) (by kernel_rfl) (by kernel_rfl) (fun _ _ _ h => hpan _ _ _ _ (by rfl) h) (by kernel_rfl) (fun w' hS => exec_load3 (.tmp 128) ⟨wr.heap.size, 2, none⟩ (q : Int) (by kernel_rfl) (by kernel_rfl) hS.c2) SS ?_
  try simp only [Act.put, List.setIfInBounds_toArray, List.set_cons_zero, List.set_cons_succ]
  refine any_call 5 124 17 #[.pointer (some ⟨ab, 0, none⟩), .int .i64 (j : Int), .int .i64 (q : Int)] (by kernel_rfl) (by kernel_rfl) (by kernel_rfl) (by kernel_rfl) (by kernel_rfl) ?_
  refine (trim_ok HPW.a.arr j q (by rw [HLEN.out]; exact HIN.out)).mono ?_
  rintro _ W7 ⟨rfl, h7, hf7⟩
  replace SS := SS.fr hf7 (fun k hk hk2 e => by have := HLB.out; omega) (Nat.le_refl _)
  replace HPW := HPW.wr h7 hf7
  clear h7 hf7
  refine ⟨_, rfl, SS, ?_⟩
  try simp only [Act.put, List.setIfInBounds_toArray, List.set_cons_zero, List.set_cons_succ]
  try simp only [Act.put, List.setIfInBounds_toArray, List.set_cons_zero, List.set_cons_succ]
  refine any_call 11 130 18 #[.pointer (some ⟨rb, 0, none⟩), .int .i64 (j : Int), .int .i64 (q : Int)] (by kernel_rfl) (by kernel_rfl) (by kernel_rfl) (by kernel_rfl) (by kernel_rfl) ?_
  refine (p_ref_trim HPW wr.heap.size HOWN.out j q (by rw [HLEN.out]; exact HIN.out)).mono ?_
  rintro _ W8 ⟨rfl, ⟨u0, u1, u2, h8⟩, hf8⟩
  replace SS := SS.fr hf8 (fun k hk hk2 e => e ⟨hk, hk2⟩) (Nat.le_refl _)
  replace HPW := h8
  clear h8 hf8
  refine ⟨_, rfl, SS, ?_⟩
  try simp only [Act.put, List.setIfInBounds_toArray, List.set_cons_zero, List.set_cons_succ]
  refine take 12 11 (.int .i64 0) (by kernel_rfl) (by kernel_rfl) (by kernel_rfl) (by kernel_rfl) (by kernel_rfl) (fun _ _ _ h => hpan _ _ _ _ (by rfl) h) (by kernel_rfl) (fun _ _ => by kernel_rfl) SS ?_
  refine take 13 12 (.int .i64 0) (by kernel_rfl) (by kernel_rfl) (by kernel_rfl) (by kernel_rfl) (by kernel_rfl) (fun _ _ _ h => hpan _ _ _ _ (by rfl) h) (by kernel_rfl) (fun _ _ => by kernel_rfl) SS ?_
  try simp only [Act.put, List.setIfInBounds_toArray, List.set_cons_zero, List.set_cons_succ]
  refine wpAnyH_done (by kernel_rfl) ?_ _
  exact hcont _ _ _ _ HPW

set_option maxRecDepth 100000 in
set_option maxHeartbeats 8000000 in
theorem reg20out {s0 s1 s2 s3 s4 s5 s7 s13 s14 s15 s16 s17 s18 s19 s20 s21 s22 s23 s24 s25 s26 s27 s28 s29 s30 s31 s32 s33 s34 s35 s36 s37 s38 s39 s40 s41 s42 s43 s44 s45 s46 s47 s48 s49 s50 s51 s52 s53 s54 s55 s56 s57 s58 s59 s60 s61 s62 s63 s64 s65 s66 s67 s68 s69 s70 s71 s72 s73 s74 s75 s76 s77 s78 s79 s80 s81 s82 s83 s84 s85 s86 s87 s88 s89 s90 s91 s92 s93 s94 s95 s96 s97 s98 s99 s100 s101 s102 s103 s104 s105 s106 s107 s108 s109 s110 s111 s112 s113 s114 s115 s116 s117 s118 s119 s120 s121 s122 s123 s124 s125 s126 s127 s128 s129 s130 s131 s132 s133 s134 s135 s136 s137 s138 s139 s140 s141 s142 s143 s144 s145 s146 s147 s148 s149 s150 s151 s152 s153 s154 s155 s156 s157 s158 s159 s160 s161 s162 s163 s164 s165 s166 s167 s168 s169 s170 s171 s172 s173 s174 s175 s176 s177 s178 s179 s180 s181 s182 s183 s184 s185 : Value} {w wr W5 : World} {ab lb rb k n : Nat} {x : List Bk} {v0 v1 v2 : Value} (HLEN : Hid (x.length = n)) {al an : Int}
    (HP : Hid (P1 w W5 ab lb rb x x v0 v1 v2)) (X1 : Hid (W5.cell? ⟨wr.heap.size, 1, none⟩ = some (.int .i64 al))) (X2 : Hid (W5.cell? ⟨wr.heap.size, 2, none⟩ = some (.int .i64 an))) (HOUT : Hid (readyE n al an = 3))
    {Q : Exit → Act → World → Prop} (hpan : ∀ c a a' w, a.defers = a'.defers → Q (.panic c) a w → Q (.panic c) a' w)
    (hcont : ∀ W', P1 w W' ab lb rb x x v0 v1 v2 → Q .normal ⟨List.toArray (s0 :: s1 :: s2 :: s3 :: s4 :: s5 :: (.pointer (some ⟨ab, 0, none⟩) : Value) :: s7 :: (.pointer (some ⟨rb, 0, none⟩) : Value) :: (.int .i64 (k : Int) : Value) :: (.pointer (some ⟨wr.heap.size, 0, none⟩) : Value) :: (.int .i64 3 : Value) :: (.int .i64 3 : Value) :: s13 :: s14 :: s15 :: s16 :: s17 :: s18 :: s19 :: s20 :: s21 :: s22 :: s23 :: s24 :: s25 :: s26 :: s27 :: s28 :: s29 :: s30 :: s31 :: s32 :: s33 :: s34 :: s35 :: s36 :: s37 :: s38 :: s39 :: s40 :: s41 :: s42 :: s43 :: s44 :: s45 :: s46 :: s47 :: s48 :: s49 :: s50 :: s51 :: s52 :: s53 :: s54 :: s55 :: s56 :: s57 :: s58 :: s59 :: s60 :: s61 :: s62 :: s63 :: s64 :: s65 :: s66 :: s67 :: s68 :: s69 :: s70 :: s71 :: s72 :: s73 :: s74 :: s75 :: s76 :: s77 :: s78 :: s79 :: s80 :: s81 :: s82 :: s83 :: s84 :: s85 :: s86 :: s87 :: s88 :: s89 :: s90 :: s91 :: s92 :: s93 :: s94 :: s95 :: s96 :: s97 :: s98 :: s99 :: s100 :: s101 :: s102 :: s103 :: s104 :: s105 :: s106 :: s107 :: s108 :: s109 :: s110 :: s111 :: s112 :: s113 :: s114 :: s115 :: s116 :: s117 :: s118 :: (.pointer (some ⟨ab, 0, none⟩) : Value) :: (.pointer (some ⟨wr.heap.size, 1, none⟩) : Value) :: (.int .i64 al : Value) :: (.pointer (some ⟨wr.heap.size, 2, none⟩) : Value) :: (.int .i64 an : Value) :: (.int .i64 3 : Value) :: (.pointer (some ⟨rb, 0, none⟩) : Value) :: (.pointer (some ⟨wr.heap.size, 1, none⟩) : Value) :: (.int .i64 al : Value) :: (.pointer (some ⟨wr.heap.size, 2, none⟩) : Value) :: (.int .i64 an : Value) :: (.int .i64 3 : Value) :: s131 :: s132 :: s133 :: s134 :: s135 :: s136 :: s137 :: s138 :: s139 :: s140 :: s141 :: s142 :: s143 :: s144 :: s145 :: s146 :: s147 :: s148 :: s149 :: s150 :: s151 :: s152 :: s153 :: s154 :: s155 :: s156 :: s157 :: s158 :: s159 :: s160 :: s161 :: s162 :: s163 :: s164 :: s165 :: s166 :: s167 :: s168 :: s169 :: s170 :: s171 :: s172 :: s173 :: s174 :: s175 :: s176 :: s177 :: s178 :: s179 :: s180 :: s181 :: s182 :: s183 :: s184 :: s185 :: []), []⟩ W') :
    (Code.region 20 (ops4 20) true).wp Try.prog Q ⟨List.toArray (s0 :: s1 :: s2 :: s3 :: s4 :: s5 :: (.pointer (some ⟨ab, 0, none⟩) : Value) :: s7 :: (.pointer (some ⟨rb, 0, none⟩) : Value) :: (.int .i64 (k : Int) : Value) :: (.pointer (some ⟨wr.heap.size, 0, none⟩) : Value) :: (.int .i64 0 : Value) :: (.int .i64 0 : Value) :: s13 :: s14 :: s15 :: s16 :: s17 :: s18 :: s19 :: s20 :: s21 :: s22 :: s23 :: s24 :: s25 :: s26 :: s27 :: s28 :: s29 :: s30 :: s31 :: s32 :: s33 :: s34 :: s35 :: s36 :: s37 :: s38 :: s39 :: s40 :: s41 :: s42 :: s43 :: s44 :: s45 :: s46 :: s47 :: s48 :: s49 :: s50 :: s51 :: s52 :: s53 :: s54 :: s55 :: s56 :: s57 :: s58 :: s59 :: s60 :: s61 :: s62 :: s63 :: s64 :: s65 :: s66 :: s67 :: s68 :: s69 :: s70 :: s71 :: s72 :: s73 :: s74 :: s75 :: s76 :: s77 :: s78 :: s79 :: s80 :: s81 :: s82 :: s83 :: s84 :: s85 :: s86 :: s87 :: s88 :: s89 :: s90 :: s91 :: s92 :: s93 :: s94 :: s95 :: s96 :: s97 :: s98 :: s99 :: s100 :: s101 :: s102 :: s103 :: s104 :: s105 :: s106 :: s107 :: s108 :: s109 :: s110 :: s111 :: s112 :: s113 :: s114 :: s115 :: s116 :: s117 :: s118 :: s119 :: s120 :: s121 :: s122 :: s123 :: s124 :: s125 :: s126 :: s127 :: s128 :: s129 :: s130 :: s131 :: s132 :: s133 :: s134 :: s135 :: s136 :: s137 :: s138 :: s139 :: s140 :: s141 :: s142 :: s143 :: s144 :: s145 :: s146 :: s147 :: s148 :: s149 :: s150 :: s151 :: s152 :: s153 :: s154 :: s155 :: s156 :: s157 :: s158 :: s159 :: s160 :: s161 :: s162 :: s163 :: s164 :: s165 :: s166 :: s167 :: s168 :: s169 :: s170 :: s171 :: s172 :: s173 :: s174 :: s175 :: s176 :: s177 :: s178 :: s179 :: s180 :: s181 :: s182 :: s183 :: s184 :: s185 :: []), []⟩ W5 := by
  refine wp_region_held (S := fun w' => Below W5.heap.size W5 w') (by kernel_rfl) ?_
  have SS : Below W5.heap.size W5 { W5 with drawn := W5.drawn + 1 } := (Below.refl _ _).drew
  refine take 0 119 (.pointer (some ⟨ab, 0, none⟩)) (by kernel_rfl) (by kernel_rfl) (by kernel_rfl) (by kernel_rfl) (by kernel_rfl) (fun _ _ _ h => hpan _ _ _ _ (by rfl) h) (by kernel_rfl) (fun _ _ => by kernel_rfl) SS ?_
  refine take 1 120 (.pointer (some ⟨wr.heap.size, 1, none⟩)) (by kernel_rfl) (by kernel_rfl) (by kernel_rfl) (by kernel_rfl) (by kernel_rfl) (fun _ _ _ h => hpan _ _ _ _ (by rfl) h) (by kernel_rfl) (fun _ _ => by kernel_rfl) SS ?_
  refine take 2 121 (.int .i64 al) (by kernel_rfl) (by kernel_rfl) (by kernel_rfl) (by kernel_rfl) (by kernel_rfl) (fun _ _ _ h => hpan _ _ _ _ (by rfl) h) (by kernel_rfl) (fun w' hS => exec_load3 (.tmp 120) ⟨wr.heap.size, 1, none⟩ al (by kernel_rfl) (by kernel_rfl) ((hS.cell (cell_lt X1.out)).trans X1.out)) SS ?_
  refine take 3 122 (.pointer (some ⟨wr.heap.size, 2, none⟩)) (by kernel_rfl) (by kernel_rfl) (by kernel_rfl) (by kernel_rfl) (by kernel_rfl) (fun _ _ _ h => hpan _ _ _ _ (by rfl) h) (by kernel_rfl) (fun _ _ => by kernel_rfl) SS ?_
  refine take 4 123 (.int .i64 an) (by kernel_rfl) (by kernel_rfl) (by kernel_rfl) (by kernel_rfl) (by kernel_rfl) (fun _ _ _ h => hpan _ _ _ _ (by rfl) h) (by kernel_rfl) (fun w' hS => exec_load3 (.tmp 122) ⟨wr.heap.size, 2, none⟩ an (by kernel_rfl) (by kernel_rfl) ((hS.cell (cell_lt X2.out)).trans X2.out)) SS ?_
  refine take 6 125 (.pointer (some ⟨rb, 0, none⟩)) (by kernel_rfl) (by kernel_rfl) (by kernel_rfl) (by kernel_rfl) (by kernel_rfl) (fun _ _ _ h => hpan _ _ _ _ (by rfl) h) (by kernel_rfl) (fun _ _ => by kernel_rfl) SS ?_
  refine take 7 126 (.pointer (some ⟨wr.heap.size, 1, none⟩)) (by kernel_rfl) (by kernel_rfl) (by kernel_rfl) (by kernel_rfl) (by kernel_rfl) (fun _ _ _ h => hpan _ _ _ _ (by rfl) h) (by kernel_rfl) (fun _ _ => by kernel_rfl) SS ?_
  refine take 8 127 (.int .i64 al) (by kernel_rfl) (by kernel_rfl) (by kernel_rfl) (by kernel_rfl) (by kernel_rfl) (fun _ _ _ h => hpan _ _ _ _ (by rfl) h) (by kernel_rfl) (fun w' hS => exec_load3 (.tmp 126) ⟨wr.heap.size, 1, none⟩ al (by kernel_rfl) (by kernel_rfl) ((hS.cell (cell_lt X1.out)).trans X1.out)) SS ?_
  refine take 9 128 (.pointer (some ⟨wr.heap.size, 2, none⟩)) (by kernel_rfl) (by kernel_rfl) (by kernel_rfl) (by kernel_rfl) (by kernel_rfl) (fun _ _ _ h => hpan _ _ _ _ (by rfl) h) (by kernel_rfl) (fun _ _ => by kernel_rfl) SS ?_
  refine take 10 129 (.int .i64 an) (by kernel_rfl) (by kernel_rfl) (by kernel_rfl) (by kernel_rfl) (by kernel_rfl) (fun _ _ _ h => hpan _ _ _ _ (by rfl) h) (by kernel_rfl) (fun w' hS => exec_load3 (.tmp 128) ⟨wr.heap.size, 2, none⟩ an (by kernel_rfl) (by kernel_rfl) ((hS.cell (cell_lt X2.out)).trans X2.out)) SS ?_
  try simp only [Act.put, List.setIfInBounds_toArray, List.set_cons_zero, List.set_cons_succ]
  refine any_call 5 124 17 #[.pointer (some ⟨ab, 0, none⟩), .int .i64 al, .int .i64 an] (by kernel_rfl) (by kernel_rfl) (by kernel_rfl) (by kernel_rfl) (by kernel_rfl) ?_
  refine (trim_out (HP.out.below SS).a.arr al an (by rw [HLEN.out]; exact HOUT.out)).mono ?_
  rintro _ W7 ⟨rfl, hw⟩
  subst hw
  refine ⟨_, rfl, SS, ?_⟩
  try simp only [Act.put, List.setIfInBounds_toArray, List.set_cons_zero, List.set_cons_succ]
  try simp only [Act.put, List.setIfInBounds_toArray, List.set_cons_zero, List.set_cons_succ]
  refine any_call 11 130 18 #[.pointer (some ⟨rb, 0, none⟩), .int .i64 al, .int .i64 an] (by kernel_rfl) (by kernel_rfl) (by kernel_rfl) (by kernel_rfl) (by kernel_rfl) ?_
  refine (trimE_out (HP.out.below SS).refE al an (by rw [HLEN.out]; exact HOUT.out)).mono ?_
  rintro _ W8 ⟨rfl, hw⟩
  subst hw
  refine ⟨_, rfl, SS, ?_⟩
  try simp only [Act.put, List.setIfInBounds_toArray, List.set_cons_zero, List.set_cons_succ]
  refine take 12 11 (.int .i64 3) (by kernel_rfl) (by kernel_rfl) (by kernel_rfl) (by kernel_rfl) (by kernel_rfl) (fun _ _ _ h => hpan _ _ _ _ (by rfl) h) (by kernel_rfl) (fun _ _ => by kernel_rfl) SS ?_
  refine take 13 12 (.int .i64 3) (by kernel_rfl) (by kernel_rfl) (by kernel_rfl) (by kernel_rfl) (by kernel_rfl) (fun _ _ _ h => hpan _ _ _ _ (by rfl) h) (by kernel_rfl) (fun _ _ => by kernel_rfl) SS ?_
  try simp only [Act.put, List.setIfInBounds_toArray, List.set_cons_zero, List.set_cons_succ]
  refine wpAnyH_done (by kernel_rfl) ?_ _
  exact hcont _ (HP.out.below SS)

set_option maxRecDepth 100000 in
set_option maxHeartbeats 8000000 in
theorem reg28 {s0 s1 s2 s3 s4 s5 s7 s13 s14 s15 s16 s17 s18 s19 s20 s21 s22 s23 s24 s25 s26 s27 s28 s29 s30 s31 s32 s33 s34 s35 s36 s37 s38 s39 s40 s41 s42 s43 s44 s45 s46 s47 s48 s49 s50 s51 s52 s53 s54 s55 s56 s57 s58 s59 s60 s61 s62 s63 s64 s65 s66 s67 s68 s69 s70 s71 s72 s73 s74 s75 s76 s77 s78 s79 s80 s81 s82 s83 s84 s85 s86 s87 s88 s89 s90 s91 s92 s93 s94 s95 s96 s97 s98 s99 s100 s101 s102 s103 s104 s105 s106 s107 s108 s109 s110 s111 s112 s113 s114 s115 s116 s117 s118 s119 s120 s121 s122 s123 s124 s125 s126 s127 s128 s129 s130 s131 s132 s133 s134 s135 s136 s137 s138 s139 s140 s141 s142 s143 s144 s145 s146 s147 s148 s149 s150 s151 s152 s153 s154 s155 s156 s157 s158 s159 s160 s161 s162 s163 s164 s165 s166 s167 s168 s169 s170 s171 s172 s173 s174 s175 s176 s177 s178 s179 s180 s181 s182 s183 s184 s185 : Value} {w wr W5 : World} {ab lb rb k n : Nat} {x : List Bk} {v0 v1 v2 : Value} (HLEN : Hid (x.length = n)) {cB : Nat} {B : Option Addr} {akept : List Int}
    (HP : Hid (P1 w W5 ab lb rb x x v0 v1 v2)) (X5 : Hid (W5.cell? ⟨wr.heap.size, 5, none⟩ = some (.slice B akept.length cB))) (HLK : Hid ((looseK x x.length).length ≤ 512)) (HKC : Hid (Kd.C (Kd.int .i64) W5 B akept.length akept)) (HKL : Hid (akept.length ≤ cB))
    {Q : Exit → Act → World → Prop} (hpan : ∀ c a a' w, a.defers = a'.defers → Q (.panic c) a w → Q (.panic c) a' w)
    (hcont : ∀ W' A6 c6 A7 c7 kl, P1 w W' ab lb rb x x v0 v1 v2 → List.length kl ≤ c7 → Kd.C (Kd.int .i64) W' A7 (List.length kl) kl → Q .normal ⟨List.toArray (s0 :: s1 :: s2 :: s3 :: s4 :: s5 :: (.pointer (some ⟨ab, 0, none⟩) : Value) :: s7 :: (.pointer (some ⟨rb, 0, none⟩) : Value) :: (.int .i64 (k : Int) : Value) :: (.pointer (some ⟨wr.heap.size, 0, none⟩) : Value) :: (.int .i64 0 : Value) :: (.int .i64 0 : Value) :: s13 :: s14 :: s15 :: (.slice A7 (List.length kl) c7 : Value) :: s17 :: s18 :: s19 :: s20 :: s21 :: s22 :: s23 :: s24 :: s25 :: s26 :: s27 :: s28 :: s29 :: s30 :: s31 :: s32 :: s33 :: s34 :: s35 :: s36 :: s37 :: s38 :: s39 :: s40 :: s41 :: s42 :: s43 :: s44 :: s45 :: s46 :: s47 :: s48 :: s49 :: s50 :: s51 :: s52 :: s53 :: s54 :: s55 :: s56 :: s57 :: s58 :: s59 :: s60 :: s61 :: s62 :: s63 :: s64 :: s65 :: s66 :: s67 :: s68 :: s69 :: s70 :: s71 :: s72 :: s73 :: s74 :: s75 :: s76 :: s77 :: s78 :: s79 :: s80 :: s81 :: s82 :: s83 :: s84 :: s85 :: s86 :: s87 :: s88 :: s89 :: s90 :: s91 :: s92 :: s93 :: s94 :: s95 :: s96 :: s97 :: s98 :: s99 :: s100 :: s101 :: s102 :: s103 :: s104 :: s105 :: s106 :: s107 :: s108 :: s109 :: s110 :: s111 :: s112 :: s113 :: s114 :: s115 :: s116 :: s117 :: s118 :: s119 :: s120 :: s121 :: s122 :: s123 :: s124 :: s125 :: s126 :: s127 :: s128 :: s129 :: s130 :: s131 :: s132 :: s133 :: s134 :: s135 :: s136 :: s137 :: s138 :: s139 :: s140 :: s141 :: s142 :: s143 :: s144 :: (.pointer (some ⟨rb, 0, none⟩) : Value) :: (.slice A6 (looseK x x.length).length c6 : Value) :: (.pointer (some ⟨wr.heap.size, 5, none⟩) : Value) :: (.slice B akept.length cB : Value) :: (.slice A7 (List.length kl) c7 : Value) :: s150 :: s151 :: s152 :: s153 :: s154 :: s155 :: s156 :: s157 :: s158 :: s159 :: s160 :: s161 :: s162 :: s163 :: s164 :: s165 :: s166 :: s167 :: s168 :: s169 :: s170 :: s171 :: s172 :: s173 :: s174 :: s175 :: s176 :: s177 :: s178 :: s179 :: s180 :: s181 :: s182 :: s183 :: s184 :: s185 :: []), []⟩ W') :
    (Code.region 28 (ops4 28) true).wp Try.prog Q ⟨List.toArray (s0 :: s1 :: s2 :: s3 :: s4 :: s5 :: (.pointer (some ⟨ab, 0, none⟩) : Value) :: s7 :: (.pointer (some ⟨rb, 0, none⟩) : Value) :: (.int .i64 (k : Int) : Value) :: (.pointer (some ⟨wr.heap.size, 0, none⟩) : Value) :: (.int .i64 0 : Value) :: (.int .i64 0 : Value) :: s13 :: s14 :: s15 :: s16 :: s17 :: s18 :: s19 :: s20 :: s21 :: s22 :: s23 :: s24 :: s25 :: s26 :: s27 :: s28 :: s29 :: s30 :: s31 :: s32 :: s33 :: s34 :: s35 :: s36 :: s37 :: s38 :: s39 :: s40 :: s41 :: s42 :: s43 :: s44 :: s45 :: s46 :: s47 :: s48 :: s49 :: s50 :: s51 :: s52 :: s53 :: s54 :: s55 :: s56 :: s57 :: s58 :: s59 :: s60 :: s61 :: s62 :: s63 :: s64 :: s65 :: s66 :: s67 :: s68 :: s69 :: s70 :: s71 :: s72 :: s73 :: s74 :: s75 :: s76 :: s77 :: s78 :: s79 :: s80 :: s81 :: s82 :: s83 :: s84 :: s85 :: s86 :: s87 :: s88 :: s89 :: s90 :: s91 :: s92 :: s93 :: s94 :: s95 :: s96 :: s97 :: s98 :: s99 :: s100 :: s101 :: s102 :: s103 :: s104 :: s105 :: s106 :: s107 :: s108 :: s109 :: s110 :: s111 :: s112 :: s113 :: s114 :: s115 :: s116 :: s117 :: s118 :: s119 :: s120 :: s121 :: s122 :: s123 :: s124 :: s125 :: s126 :: s127 :: s128 :: s129 :: s130 :: s131 :: s132 :: s133 :: s134 :: s135 :: s136 :: s137 :: s138 :: s139 :: s140 :: s141 :: s142 :: s143 :: s144 :: s145 :: s146 :: s147 :: s148 :: s149 :: s150 :: s151 :: s152 :: s153 :: s154 :: s155 :: s156 :: s157 :: s158 :: s159 :: s160 :: s161 :: s162 :: s163 :: s164 :: s165 :: s166 :: s167 :: s168 :: s169 :: s170 :: s171 :: s172 :: s173 :: s174 :: s175 :: s176 :: s177 :: s178 :: s179 :: s180 :: s181 :: s182 :: s183 :: s184 :: s185 :: []), []⟩ W5 := by
  refine wp_region_held (S := fun w' => Below W5.heap.size W5 w') (by kernel_rfl) ?_
  have SS : Below W5.heap.size W5 { W5 with drawn := W5.drawn + 1 } := (Below.refl _ _).drew
  refine take 0 145 (.pointer (some ⟨rb, 0, none⟩)) (by kernel_rfl) (by kernel_rfl) (by kernel_rfl) (by kernel_rfl) (by kernel_rfl) (fun _ _ _ h => hpan _ _ _ _ (by rfl) h) (by kernel_rfl) (fun _ _ => by kernel_rfl) SS ?_
  refine take 2 147 (.pointer (some ⟨wr.heap.size, 5, none⟩)) (by kernel_rfl) (by kernel_rfl) (by kernel_rfl) (by kernel_rfl) (by kernel_rfl) (fun _ _ _ h => hpan _ _ _ _ (by rfl) h) (by kernel_rfl) (fun _ _ => by kernel_rfl) SS ?_
  refine take 3 148 (.slice B akept.length cB) (by kernel_rfl) (by kernel_rfl) (by kernel_rfl) (by kernel_rfl) (by kernel_rfl) (fun _ _ _ h => hpan _ _ _ _ (by rfl) h) (by kernel_rfl) (fun w' hS => exec_loadS 30 (.tmp 147) ⟨wr.heap.size, 5, none⟩ B akept.length cB (fun _ => by kernel_rfl) (by kernel_rfl) (by kernel_rfl) ((hS.cell (cell_lt X5.out)).trans X5.out)) SS ?_
  try simp only [Act.put, List.setIfInBounds_toArray, List.set_cons_zero, List.set_cons_succ]
  refine any_call 1 146 22 #[.pointer (some ⟨rb, 0, none⟩)] (by kernel_rfl) (by kernel_rfl) (by kernel_rfl) (by kernel_rfl) (by kernel_rfl) ?_
  refine (rows_calls (HP.out.below SS).refE).mono ?_
  rintro _ W6 ⟨v6, rfl, hr6, hb6⟩
  replace SS := bthen SS hb6
  obtain ⟨A6, c6, rfl, hl6, hc6⟩ := Kd.R_reads hr6
  clear hr6 hb6
  refine ⟨_, rfl, SS, ?_⟩
  try simp only [Act.put, List.setIfInBounds_toArray, List.set_cons_zero, List.set_cons_succ]
  try simp only [Act.put, List.setIfInBounds_toArray, List.set_cons_zero, List.set_cons_succ]
  refine any_call 4 149 21 #[.slice A6 (looseK x x.length).length c6, .slice B akept.length cB] (by kernel_rfl) (by kernel_rfl) (by kernel_rfl) (by kernel_rfl) (by kernel_rfl) ?_
  refine (some_calls A6 c6 _ B cB akept _ HLK.out hc6 hl6 (Kd.C_below HKC.out SS) HKL.out).mono ?_
  rintro _ W7 ⟨A7, c7, kl, rfl, hl7, hc7, hb7⟩
  replace SS := bthen SS hb7
  clear hb7 hc6 hl6
  refine ⟨_, rfl, SS, ?_⟩
  try simp only [Act.put, List.setIfInBounds_toArray, List.set_cons_zero, List.set_cons_succ]
  refine take 5 16 (.slice A7 (List.length kl) c7) (by kernel_rfl) (by kernel_rfl) (by kernel_rfl) (by kernel_rfl) (by kernel_rfl) (fun _ _ _ h => hpan _ _ _ _ (by rfl) h) (by kernel_rfl) (fun _ _ => by kernel_rfl) SS ?_
  try simp only [Act.put, List.setIfInBounds_toArray, List.set_cons_zero, List.set_cons_succ]
  refine wpAnyH_done (by kernel_rfl) ?_ _
  exact hcont _ A6 c6 A7 c7 kl (HP.out.below SS) hl7 hc7
end Go.Proofs.Ytbojokjommmebaa.MoPlayReg
