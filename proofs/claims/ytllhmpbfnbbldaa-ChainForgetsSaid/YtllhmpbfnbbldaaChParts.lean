/- The walk of ChainParts: what is good goes on; no conditions. -/
import Derived.Test.YtllhmpbfnbbldaaChAwake
namespace Go.Proofs.Ytllhmpbfnbbldaa.ChParts
set_option linter.unusedSimpArgs false
set_option linter.unusedVariables false
open Go.RowKit Go.Maps Go.Proofs.Ytllhmpbfnbbldaa.Util Go.Proofs.Ytllhmpbfnbbldaa.ChMap Go.Proofs.Ytllhmpbfnbbldaa.ChCore Go.Proofs.Ytllhmpbfnbbldaa.ChAdd Go.Proofs.Ytllhmpbfnbbldaa.ChNew Go.Proofs.Ytllhmpbfnbbldaa.ChView Go.Proofs.Ytllhmpbfnbbldaa.ChAwake
open Go.Proofs.YtllhmpbfnbbldaaW.PrintWords Go.Proofs.YtllhmpbfnbbldaaW.PrintLast Go.Proofs.YtllhmpbfnbbldaaW.PrintMore
open Go.Proofs.Ytllhmpbfnbbldaa.PChainParts

theorem take_C {w : World} {A : Option Addr} {l : List S39} (h : Kd.C k39 w A l.length l) (m : Nat) : Kd.C k39 w A (l.take m).length (l.take m) := by
  by_cases c : m ≤ l.length
  · exact Kd.C_take h c
  · rw [List.take_of_length_le (by omega)]; exact h
theorem take_wf {l : List S39} (h : ∀ i, i < l.length → rwf (rd_T39 l i)) (m : Nat) : ∀ i, i < (l.take m).length → rwf (rd_T39 (l.take m) i) := by
  intro i hi
  have hi' : i < l.length := by rw [List.length_take] at hi; omega
  have : rd_T39 (l.take m) i = rd_T39 l i := by
    unfold rd_T39
    rw [Int.toNat_natCast, List.getD_eq_getElem?_getD, List.getD_eq_getElem?_getD, List.getElem?_take, if_pos (by rw [List.length_take] at hi; omega)]
  rw [this]; exact h i hi'

/-- few, and a chain out of it. -/
theorem few_is (A : Option Addr) (len cap : Nat) (l : List S39) (hl : l.length = len) (hle : len ≤ cap) (hmx : cap ≤ maxLen) (w : World) :
    Calls Try.prog 20 #[.slice A len cap, .int .i64 40] w fun r w' => r = .returned (.slice A (l.take 40).length cap) ∧ w = w' := by
  have h := few_calls (w := w) A len cap 40 hle (by unfold maxLen at hmx; omega) (by decide)
  rw [show min len 40 = (l.take 40).length from by rw [List.length_take, hl, Nat.min_comm]] at h
  exact h
theorem new_few (A : Option Addr) (len cap : Nat) (l : List S39) (hl : l.length = len) (w : World) (hC : Kd.C k39 w A len l) (hle : len ≤ cap) (hwf : ∀ i, i < len → rwf (rd_T39 l i)) :
    Calls Try.prog 19 #[.slice A (l.take 40).length cap] w (Made w (addD (.map []) (l.take 40))) := by
  subst hl
  exact new_calls A cap (l.take 40) (take_C hC 40) (by rw [List.length_take]; omega) (take_wf hwf 40) (by rw [List.length_take]; unfold maxLen; omega)

/-- Both, with the row behind a name. -/
theorem few_new (A : Option Addr) (len cap : Nat) (l : List S39) (w : World) (hl : l.length = len) (hC : Kd.C k39 w A len l) (hle : len ≤ cap) (hmx : cap ≤ maxLen) (hwf : ∀ i, i < len → rwf (rd_T39 l i)) :
    ∃ (m : Nat) (D : DataW Unit), Hid (Calls Try.prog 20 #[.slice A len cap, .int .i64 40] w fun r w' => r = .returned (.slice A m cap) ∧ w = w') ∧ Hid (Calls Try.prog 19 #[.slice A m cap] w (Made w D)) ∧ IsMap D :=
  ⟨(l.take 40).length, addD (.map []) (l.take 40), few_is A len cap l hl hle hmx w, new_few A len cap l hl w hC hle hwf, isMap_addD _ isMap_empty⟩

set_option maxRecDepth 100000 in
theorem walk (A : Option Addr) (len cap : Nat) (l : List S39) (w : World) (hl : l.length = len) (hC : Kd.C k39 w A len l) (hle : len ≤ cap) (hmx : cap ≤ maxLen) (hwf : ∀ i, i < len → rwf (rd_T39 l i))
    (a1 : Int) (w1 : (Lit.int .i64 a1).wf = true) (a2 : Int) (w2 : (Lit.int .i64 a2).wf = true) (a3 : Int) (w3 : (Lit.int .u64 a3).wf = true) (a4 : Int) (w4 : (Lit.int .u8 a4).wf = true) (a5 : Int) (w5 : (Lit.int .u8 a5).wf = true) :
    Calls Try.prog 6 #[.slice A len cap, .int .i64 a1, .int .i64 a2, .int .u64 a3, .int .u8 a4, .int .u8 a5] w fun e w' => e = .returned (.bool true) ∧ Below w.heap.size w w' := by
  obtain ⟨m, D, HF, HN, _⟩ := few_new A len cap l w hl hC hle hmx hwf
  have W1 := Lib.hid w1
  have W3 := Lib.hid w3
  have b4 : 0 ≤ a4 ∧ a4 ≤ 255 := bounds_u8 w4
  have b5 : 0 ≤ a5 ∧ a5 ≤ 255 := bounds_u8 w5
  clear hC hwf hl hle hmx w1 w2 w3 w4 w5
  go_enter Try.func6, Try.ntmps6
  go_wp2_with fail
  refine HF.out.mono ?_
  rintro r w' ⟨rfl, rfl⟩
  go_wp2_with fail
  refine HN.out.mono ?_
  rintro r wn ⟨cb, bm, n, rfl, hc, hm, hbm, hb⟩
  have HB := Lib.hid hb
  have HC := Lib.hid hc
  have HM := Lib.hid hm
  clear HN HF hb hc hm hbm
  go_wp2_with fail
  · refine (awake_calls _).mono ?_
    rintro r w2 ⟨rfl, hb2⟩
    go_wp2_with fail
    go_ret
    exact ⟨rfl, bthen HB.out hb2⟩
  · have h1 : a3 ≤ IntKind.u64.wrap (a3 + a4) := by assumption
    have h2 : a3 ≤ IntKind.u64.wrap (a3 + a4) ∧ IntKind.u64.wrap (a3 + a4) ≤ IntKind.u64.wrap (IntKind.u64.wrap (a3 + a4) + a5) := by assumption
    have h0 : 0 ≤ a3 := (bounds_u64 W3.out).1
    have hp := good_parts D a1 a2 a3 _ _ h0 h1 h2.2
    have wm : (Lit.int .u64 (IntKind.u64.wrap (a3 + a4))).wf = true := wf_wrap _ _
    have wn' : (Lit.int .u64 (IntKind.u64.wrap (IntKind.u64.wrap (a3 + a4) + a5))).wf = true := wf_wrap _ _
    have HP := Lib.hid hp
    have WM := Lib.hid wm
    have WN := Lib.hid wn'
    clear hp wm wn' h0
    cases c1 : goodD D a1 a2 a3 (IntKind.u64.wrap (a3 + a4)) with
    | false =>
      have C0 := Lib.hid (HP.out.trans (by rw [c1]; rfl) : goodD D a1 a2 a3 (IntKind.u64.wrap (IntKind.u64.wrap (a3 + a4) + a5)) = false)
      have C1 := Lib.hid c1
      clear c1
      refine (good_is HC.out HM.out _ _ _ _ W1.out W3.out WN.out false C0.out).mono ?_
      rintro r w2 ⟨rfl, hb2⟩
      have HB2 := Lib.hid hb2
      clear hb2
      go_wp2_with fail
      refine (good_is (cell_below HC.out HB2.out) (MapIs.below HM.out HB2.out) _ _ _ _ W1.out W3.out WM.out false C1.out).mono ?_
      rintro r w3 ⟨rfl, hb3⟩
      have HB3 := Lib.hid (bthen HB2.out hb3)
      clear hb3
      go_wp2_with fail
      refine (awake_calls _).mono ?_
      rintro r w4 ⟨rfl, hb4⟩
      go_wp2_with fail
      go_ret
      exact ⟨rfl, bthen HB.out (bthen HB3.out hb4)⟩
    | true =>
      cases c2 : goodD D a1 a2 (IntKind.u64.wrap (a3 + a4)) (IntKind.u64.wrap (IntKind.u64.wrap (a3 + a4) + a5)) with
      | false =>
        have C0 := Lib.hid (HP.out.trans (by rw [c1, c2]; rfl) : goodD D a1 a2 a3 (IntKind.u64.wrap (IntKind.u64.wrap (a3 + a4) + a5)) = false)
        have C1 := Lib.hid c1
        have C2 := Lib.hid c2
        clear c1 c2
        refine (good_is HC.out HM.out _ _ _ _ W1.out W3.out WN.out false C0.out).mono ?_
        rintro r w2 ⟨rfl, hb2⟩
        have HB2 := Lib.hid hb2
        clear hb2
        go_wp2_with fail
        refine (good_is (cell_below HC.out HB2.out) (MapIs.below HM.out HB2.out) _ _ _ _ W1.out W3.out WM.out true C1.out).mono ?_
        rintro r w3 ⟨rfl, hb3⟩
        have HB3 := Lib.hid (bthen HB2.out hb3)
        clear hb3
        go_wp2_with fail
        refine (good_is (cell_below HC.out HB3.out) (MapIs.below HM.out HB3.out) _ _ _ _ W1.out WM.out WN.out false C2.out).mono ?_
        rintro r w4 ⟨rfl, hb4⟩
        have HB4 := Lib.hid (bthen HB3.out hb4)
        clear hb4
        go_wp2_with fail
        refine (awake_calls _).mono ?_
        rintro r w5 ⟨rfl, hb5⟩
        go_wp2_with fail
        go_ret
        exact ⟨rfl, bthen HB.out (bthen HB4.out hb5)⟩
      | true =>
        have C0 := Lib.hid (HP.out.trans (by rw [c1, c2]; rfl) : goodD D a1 a2 a3 (IntKind.u64.wrap (IntKind.u64.wrap (a3 + a4) + a5)) = true)
        have C1 := Lib.hid c1
        have C2 := Lib.hid c2
        clear c1 c2
        refine (good_is HC.out HM.out _ _ _ _ W1.out W3.out WN.out true C0.out).mono ?_
        rintro r w2 ⟨rfl, hb2⟩
        have HB2 := Lib.hid hb2
        clear hb2
        go_wp2_with fail
        refine (good_is (cell_below HC.out HB2.out) (MapIs.below HM.out HB2.out) _ _ _ _ W1.out W3.out WM.out true C1.out).mono ?_
        rintro r w3 ⟨rfl, hb3⟩
        have HB3 := Lib.hid (bthen HB2.out hb3)
        clear hb3
        go_wp2_with fail
        refine (good_is (cell_below HC.out HB3.out) (MapIs.below HM.out HB3.out) _ _ _ _ W1.out WM.out WN.out true C2.out).mono ?_
        rintro r w4 ⟨rfl, hb4⟩
        have HB4 := Lib.hid (bthen HB3.out hb4)
        clear hb4
        go_wp2_with fail
        refine (awake_calls _).mono ?_
        rintro r w5 ⟨rfl, hb5⟩
        go_wp2_with fail
        go_ret
        exact ⟨rfl, bthen HB.out (bthen HB4.out hb5)⟩
  · refine (awake_calls _).mono ?_
    rintro r w2 ⟨rfl, hb2⟩
    go_wp2_with fail
    go_ret
    exact ⟨rfl, bthen HB.out hb2⟩
end Go.Proofs.Ytllhmpbfnbbldaa.ChParts
