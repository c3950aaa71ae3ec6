/- The walks of a chain's functions; no conditions but that the keys fit and the chain is one. -/
import Derived.Test.YtllhmpbfnbbldaaChMap
import Derived.Test.YtllhmpbfnbbldaaUtil
namespace Go.Proofs.Ytllhmpbfnbbldaa.ChCore
set_option linter.unusedSimpArgs false
set_option linter.unusedVariables false
open Go.RowKit Go.Maps Go.Proofs.Ytllhmpbfnbbldaa.Util Go.Proofs.Ytllhmpbfnbbldaa.ChMap
open Go.Proofs.YtllhmpbfnbbldaaW.PrintWords Go.Proofs.YtllhmpbfnbbldaaW.PrintLast Go.Proofs.YtllhmpbfnbbldaaW.PrintMore
open Go.Proofs.Ytllhmpbfnbbldaa.PChainParts

/-- Does a mask name a block? -/
def nm (m bit : Int) : Bool := Go.bits .and .u8 (shr .u8 m bit) 1 == 1
/-- Does a generation let a block be good? -/
noncomputable def passD (D : DataW Unit) (e bit g : Int) : Bool := hasD D e g && !nm (maskD D e g) bit
/-- So many generations behind one. -/
noncomputable def passUp (D : DataW Unit) (e bit tag : Int) (d : Nat) : Bool := (List.range d).all fun i => passD D e bit (tag + 1 + i)
/-- What a chain says of a block. -/
noncomputable def goodD (D : DataW Unit) (e bit tag now : Int) : Bool := if tag = 0 ∨ now < tag ∨ bit < 0 ∨ 8 ≤ bit then false else passUp D e bit tag (now - tag).toNat

theorem names_is (a b e g m bit : Int) (h0 : 0 ≤ bit) (h8 : bit < 8) : record_Names.f a b e g m e bit = some (nm m bit) := by
  unfold record_Names.f
  rw [if_pos rfl, if_pos h0, if_pos h8, if_pos h0]; rfl

theorem passUp_succ (D : DataW Unit) (e bit tag : Int) (d : Nat) : passUp D e bit tag (d + 1) = (passD D e bit (tag + 1) && passUp D e bit (tag + 1) d) := by
  unfold passUp
  rw [List.range_succ_eq_map, List.all_cons, List.all_map]
  congr 1
  · simp
  · apply congrArg (fun f => (List.range d).all f)
    funext i
    show passD D e bit (tag + 1 + ((i + 1 : Nat) : Int)) = _
    rw [show tag + 1 + ((i + 1 : Nat) : Int) = tag + 1 + 1 + (i : Int) from by omega]

section
variable {w : World} {cb bm n : Nat} {D : DataW Unit} {e g : Int}

set_option maxRecDepth 100000 in
theorem known_calls (hc : w.cell? ⟨cb, 0, none⟩ = some (.map (some bm))) (hm : MapIs w bm n D) (hk : kwf e g) :
    Calls Try.prog 24 #[.pointer (some ⟨cb, 0, none⟩), .int .i64 e, .int .u64 g] w fun r w' => r = .returned (.tuple #[.int .u8 (maskD D e g), .bool (hasD D e g)]) ∧ Drawn0 w w' := by
  have hl := hm.look2 hk
  unfold kv at hl
  go_enter Try.func24, Try.ntmps24
  go_wp2
  go_ret2
  exact ⟨rfl, Drawn0.refl _⟩

theorem MapIs.drewN (h : MapIs w bm n D) (m : Nat) : MapIs (w.drewN m) bm n D := h

set_option maxRecDepth 100000 in
theorem passes_calls (hc : w.cell? ⟨cb, 0, none⟩ = some (.map (some bm))) (hm : MapIs w bm n D) (hk : kwf e g) (bit : Int) (h0 : 0 ≤ bit) (h8 : bit < 8) :
    Calls Try.prog 32 #[.pointer (some ⟨cb, 0, none⟩), .int .i64 e, .int .i64 bit, .int .u64 g] w fun r w' => r = .returned (.bool (passD D e bit g)) ∧ Below w.heap.size w w' := by
  cases hh : hasD D e g with
  | false =>
    have HP := Lib.hid (show passD D e bit g = false from by unfold passD; rw [hh]; rfl)
    have hK := known_calls hc hm hk
    rw [hh] at hK
    have HK := Lib.hid hK
    clear hK hh h0 h8 hc hm hk
    go_enter Try.func32, Try.ntmps32
    go_wp2_with fail
    refine HK.out.mono ?_
    rintro r w' ⟨rfl, ⟨n1, rfl⟩⟩
    go_wp2_with fail
    go_ret
    exact ⟨by rw [HP.out]; rfl, bdrew (Below.refl _ _) _⟩
  | true =>
    have HP := Lib.hid (show passD D e bit g = !nm (maskD D e g) bit from by unfold passD; rw [hh]; rfl)
    have hK := known_calls hc hm hk
    rw [hh] at hK
    have HK := Lib.hid hK
    have HN := Lib.hid (fun w => record_Names.calls 0 0 e g (maskD D e g) e bit (nm (maskD D e g) bit) w (names_is 0 0 e g (maskD D e g) bit h0 h8))
    clear hK hh h0 h8 hc hm hk
    go_enter Try.func32, Try.ntmps32
    go_wp2_with fail
    refine HK.out.mono ?_
    rintro r w' ⟨rfl, ⟨n1, rfl⟩⟩
    go_wp2_with fail
    refine (HN.out _).mono ?_
    rintro r w' ⟨rfl, hb⟩
    go_wp2_with fail
    go_ret
    exact ⟨by rw [HP.out]; rfl, bthen (bdrew (Below.refl _ _) _) hb⟩

theorem not_here {B : Prop} [Decidable B] (h : B) {x y : Bool} : (if B then x else y) = x := if_pos h

set_option maxRecDepth 100000 in
theorem good_no (tag now bit e : Int) (p : Value) (h : tag = 0 ∨ now < tag ∨ bit < 0 ∨ 8 ≤ bit) :
    Calls Try.prog 22 #[p, .int .i64 e, .int .i64 bit, .int .u64 tag, .int .u64 now] w fun r w' => r = .returned (.bool false) ∧ w = w' := by
  by_cases c1 : tag = 0
  · subst c1
    go_enter Try.func22, Try.ntmps22
    go_wp2
    go_ret
    exact ⟨rfl, rfl⟩
  · have b1 : (tag == 0) = false := by simpa using c1
    by_cases c2 : now < tag
    · clear h c1
      go_enter Try.func22, Try.ntmps22
      go_wp2
      go_ret
      exact ⟨rfl, rfl⟩
    · by_cases c3 : bit < 0
      · clear h c1
        go_enter Try.func22, Try.ntmps22
        go_wp2
        go_ret
        exact ⟨rfl, rfl⟩
      · have c4 : 8 ≤ bit := by omega
        clear h c1
        go_enter Try.func22, Try.ntmps22
        go_wp2
        go_ret
        exact ⟨rfl, rfl⟩

theorem MapIs.below {w1 : World} (h : MapIs w bm n D) (hb : Below w.heap.size w w1) : MapIs w1 bm n D := MapIs.kept h (bgrown hb) (by simp)
theorem lt_of_cell {w : World} {b o : Nat} {v : Value} (h : w.cell? ⟨b, o, none⟩ = some v) : b < w.heap.size := by
  apply Classical.byContradiction
  intro hn
  have : w.heap[b]? = none := by simp; omega
  simp [World.cell?, this] at h
theorem cell_below {w w1 : World} {b o : Nat} {v : Value} (h : w.cell? ⟨b, o, none⟩ = some v) (hb : Below w.heap.size w w1) : w1.cell? ⟨b, o, none⟩ = some v := by
  rw [← h]; exact hb.cell (p := ⟨b, o, none⟩) (lt_of_cell h)

set_option maxRecDepth 100000 in
set_option maxHeartbeats 1000000 in
theorem good_yes (hc : w.cell? ⟨cb, 0, none⟩ = some (.map (some bm))) (hm : MapIs w bm n D) (he : (Lit.int .i64 e).wf = true) (bit tag now : Int) (h1 : 1 ≤ tag) (h2 : tag ≤ now) (h3 : now ≤ 18446744073709551615) (h0 : 0 ≤ bit) (h8 : bit < 8) :
    Calls Try.prog 22 #[.pointer (some ⟨cb, 0, none⟩), .int .i64 e, .int .i64 bit, .int .u64 tag, .int .u64 now] w fun r w' => r = .returned (.bool (passUp D e bit tag (now - tag).toNat)) ∧ Below w.heap.size w w' := by
  have b1 : (tag == 0) = false := by simp; omega
  have b2 : ¬ now < tag := by omega
  have b3 : ¬ bit < 0 := by omega
  have b4 : ¬ 8 ≤ bit := by omega
  have HC := Lib.hid hc
  have HM := Lib.hid hm
  have HE := Lib.hid he
  have H8 := Lib.hid (And.intro h0 h8)
  have H3 := Lib.hid (And.intro h1 h3)
  clear hc hm he h1 h3 h0 h8
  go_enter Try.func22, Try.ntmps22
  go_wp2
  go_loopw [3] (fun v wr => ∃ k : Int, v = .int .u64 k ∧ tag ≤ k ∧ k ≤ now ∧ Hid (passUp D e bit tag (now - tag).toNat = passUp D e bit k (now - k).toNat) ∧ Hid (Below w.heap.size w wr)) (fun v _ => (now - intOf v).toNat)
  case atStart => exact ⟨tag, rfl, by omega, h2, rfl, Below.refl _ _⟩
  case round =>
    obtain ⟨k, rfl, hk1, hk2, HP, HB⟩ := hrel
    by_cases hlt : k < now
    · have hw : IntKind.u64.wrap (k + 1) = k + 1 := by rw [IntKind.wrap_u64]; have := H3.out; omega
      have HW := Lib.hid hw
      have hkw : kwf e (k + 1) := ⟨HE.out, by have := H3.out; simp only [Lit.wf, IntKind.min, IntKind.max, IntKind.signed, IntKind.bits, Bool.and_eq_true, decide_eq_true_eq]; simp; omega⟩
      have HK := Lib.hid (passes_calls (cell_below HC.out HB.out) (MapIs.below HM.out HB.out) hkw bit H8.out.1 H8.out.2)
      clear hw hkw
      have HS := Lib.hid (show passUp D e bit k (now - k).toNat = (passD D e bit (k + 1) && passUp D e bit (k + 1) (now - (k + 1)).toNat) from by
        rw [show (now - k).toNat = (now - (k + 1)).toNat + 1 from by omega]; exact passUp_succ _ _ _ _ _)
      go_wp2_with fail
      rw [HW.out]
      refine HK.out.mono ?_
      rintro r w1 ⟨rfl, hb1⟩
      cases hp : passD D e bit (k + 1) with
      | true =>
        rw [hp] at HS
        have HB1 := Lib.hid hb1
        clear hp hb1
        go_wp2_with fail
        go_roundw
        case rel => exact ⟨k + 1, rfl, by omega, by omega, by show _ = _; rw [HP.out, HS.out, Bool.true_and], bthen HB.out HB1.out⟩
        case measure => simp [intOf]; omega
      | false =>
        rw [hp] at HS
        have HB1 := Lib.hid hb1
        clear hp hb1
        go_wp2_with fail
        go_ret
        exact ⟨by rw [HP.out, HS.out]; rfl, bthen HB.out HB1.out⟩
    · have HZ := Lib.hid (show passUp D e bit k (now - k).toNat = true from by rw [show (now - k).toNat = 0 from by omega]; rfl)
      go_wp2
      go_ret
      exact ⟨by rw [HP.out, HZ.out]; rfl, HB.out⟩

/-- What a chain says. -/
theorem good_calls (hc : w.cell? ⟨cb, 0, none⟩ = some (.map (some bm))) (hm : MapIs w bm n D) (he : (Lit.int .i64 e).wf = true) (bit tag now : Int) (ht : (Lit.int .u64 tag).wf = true) (hn : (Lit.int .u64 now).wf = true) :
    Calls Try.prog 22 #[.pointer (some ⟨cb, 0, none⟩), .int .i64 e, .int .i64 bit, .int .u64 tag, .int .u64 now] w fun r w' => r = .returned (.bool (goodD D e bit tag now)) ∧ Below w.heap.size w w' := by
  simp only [Lit.wf, Bool.and_eq_true, decide_eq_true_eq] at ht hn
  have t0 : 0 ≤ tag := ht.1
  have n1 : now ≤ 18446744073709551615 := hn.2
  unfold goodD
  by_cases h : tag = 0 ∨ now < tag ∨ bit < 0 ∨ 8 ≤ bit
  · rw [if_pos h]
    refine (good_no tag now bit e _ h).mono ?_
    rintro r w' ⟨rfl, rfl⟩
    exact ⟨rfl, Below.refl _ _⟩
  · rw [if_neg h]
    exact good_yes hc hm he bit tag now (by omega) (by omega) n1 (by omega) (by omega)

set_option maxRecDepth 100000 in
theorem len_calls (hc : w.cell? ⟨cb, 0, none⟩ = some (.map (some bm))) (hm : MapIs w bm n D) :
    Calls Try.prog 27 #[.pointer (some ⟨cb, 0, none⟩)] w fun r w' => r = .returned (.int .i64 (Maps.size D)) ∧ w = w' := by
  have hl := hm.len
  go_enter Try.func27, Try.ntmps27
  go_wp2
  go_ret
  exact ⟨rfl, rfl⟩
end
end Go.Proofs.Ytllhmpbfnbbldaa.ChCore
