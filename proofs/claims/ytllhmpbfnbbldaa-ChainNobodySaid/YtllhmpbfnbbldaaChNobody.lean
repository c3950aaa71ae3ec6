/- The walk of ChainNobody: chains that nobody made; no conditions. -/
import Derived.Test.YtllhmpbfnbbldaaChAwake
import Derived.Test.YtllhmpbfnbbldaaPChainNobodyx1
import Derived.WalkSpells
import Derived.OpenShut
namespace Go.Proofs.Ytllhmpbfnbbldaa.ChNobody
set_option linter.unusedSimpArgs false
set_option linter.unusedVariables false
open Go.RowKit Go.Maps Go.Proofs.Ytllhmpbfnbbldaa.Util Go.Proofs.Ytllhmpbfnbbldaa.ChMap Go.Proofs.Ytllhmpbfnbbldaa.ChCore Go.Proofs.Ytllhmpbfnbbldaa.ChAwake
open Go.Proofs.YtllhmpbfnbbldaaW.PrintWords Go.Proofs.YtllhmpbfnbbldaaW.PrintLast Go.Proofs.YtllhmpbfnbbldaaW.PrintMore
open Go.Proofs.Ytllhmpbfnbbldaa.PChainNobody

/-- Of no records: good is what is asked in the very generation. -/
def goodN (bit tag now : Int) : Bool := if tag = 0 ∨ now < tag ∨ bit < 0 ∨ 8 ≤ bit then false else decide (tag = now)

theorem refGood (e bit tag now : Int) (ht : 0 ≤ tag) : springhouseref19_Good.f 3 [] e bit tag now = some (goodN bit tag now) := by
  unfold springhouseref19_Good.f goodN
  by_cases c1 : tag < 1
  · rw [if_pos c1, if_pos (by omega)]; simp [springhouseref19_Good.j0]
  · rw [if_neg c1]
    by_cases c2 : bit < 0
    · rw [if_pos c2, if_pos (by omega)]; simp [springhouseref19_Good.j0]
    · rw [if_neg c2]
      by_cases c3 : bit > 7
      · rw [if_pos c3, if_pos (by omega)]; simp [springhouseref19_Good.j0]
      · rw [if_neg c3]
        by_cases c4 : now < tag
        · rw [if_pos (by omega)]; simp [springhouseref19_Good.j0, c4]
        · rw [if_neg (by omega)]
          simp only [springhouseref19_Good.j0, decide_eq_true_eq]
          rw [if_neg c4]
          simp only [springhouseref19_Good.l0]
          by_cases c5 : tag < now
          · rw [if_pos c5]
            simp only [springhouseref19_Known.f, springhouseref19_Known.l0, List.length_nil]
            rw [if_neg (by simp), Option.bind_some]
            simp; omega
          · rw [if_neg c5]; simp; omega

section
variable {w : World} {cb : Nat} {e g : Int}
set_option maxRecDepth 100000 in
theorem known_nil : Calls Try.prog 24 #[.pointer none, .int .i64 e, .int .u64 g] w fun r w' => r = .returned (.tuple #[.int .u8 0, .bool false]) ∧ w = w' := by
  go_enter Try.func24, Try.ntmps24
  go_wp2
  go_ret2
  exact ⟨rfl, rfl⟩
set_option maxRecDepth 100000 in
theorem known_odd (hc : w.cell? ⟨cb, 0, none⟩ = some (.map none)) (hk : kwf e g) : Calls Try.prog 24 #[.pointer (some ⟨cb, 0, none⟩), .int .i64 e, .int .u64 g] w fun r w' => r = .returned (.tuple #[.int .u8 0, .bool false]) ∧ w = w' := by
  have hl := Maps.look_nil (w := w) true law Try.underlying45 (zero5 w) (key_is e g hk)
  rw [if_pos rfl] at hl
  unfold kv at hl
  go_enter Try.func24, Try.ntmps24
  go_wp2
  go_ret2
  exact ⟨rfl, rfl⟩
set_option maxRecDepth 100000 in
theorem passes_none (p : Value) (bit : Int) (h : Calls Try.prog 24 #[p, .int .i64 e, .int .u64 g] w fun r w' => r = .returned (.tuple #[.int .u8 0, .bool false]) ∧ w = w') :
    Calls Try.prog 32 #[p, .int .i64 e, .int .i64 bit, .int .u64 g] w fun r w' => r = .returned (.bool false) ∧ w = w' := by
  have H := Lib.hid h
  clear h
  go_enter Try.func32, Try.ntmps32
  go_wp2_with fail
  refine H.out.mono ?_
  rintro r _ ⟨rfl, rfl⟩
  go_wp2_with fail
  go_ret
  exact ⟨rfl, rfl⟩
set_option maxRecDepth 100000 in
theorem good_none (p : Value) (bit tag now : Int) (ht : (Lit.int .u64 tag).wf = true) (hn : (Lit.int .u64 now).wf = true) (h : ∀ g, (Lit.int .u64 g).wf = true → Calls Try.prog 24 #[p, .int .i64 e, .int .u64 g] w fun r w' => r = .returned (.tuple #[.int .u8 0, .bool false]) ∧ w = w') :
    Calls Try.prog 22 #[p, .int .i64 e, .int .i64 bit, .int .u64 tag, .int .u64 now] w fun r w' => r = .returned (.bool (goodN bit tag now)) ∧ w = w' := by
  have t0 := bounds_u64 ht
  have n0 := bounds_u64 hn
  unfold goodN
  by_cases c : tag = 0 ∨ now < tag ∨ bit < 0 ∨ 8 ≤ bit
  · rw [if_pos c]
    exact good_no tag now bit e p c
  · rw [if_neg c]
    have hp := passes_none p bit (h (IntKind.u64.wrap (tag + 1)) (wf_wrap _ _))
    have HP := Lib.hid hp
    have b1 : (tag == 0) = false := by simp; omega
    have b2 : ¬ now < tag := by omega
    have b3 : ¬ bit < 0 := by omega
    have b4 : ¬ 8 ≤ bit := by omega
    clear hp h c
    by_cases c5 : tag < now
    · have HD := Lib.hid (decide_eq_false (show ¬ tag = now by omega))
      clear ht hn t0 n0
      go_enter Try.func22, Try.ntmps22
      go_wp2
      refine wp_loop_rounds 1 ?_
      rw [rounds_succ]
      go_wp2_with fail
      refine HP.out.mono ?_
      rintro r _ ⟨rfl, rfl⟩
      go_wp2_with fail
      go_ret
      exact ⟨by rw [HD.out]; rfl, rfl⟩
    · have HD := Lib.hid (decide_eq_true (show tag = now by omega))
      clear ht hn t0 n0
      go_enter Try.func22, Try.ntmps22
      go_wp2
      refine wp_loop_rounds 1 ?_
      rw [rounds_succ]
      go_wp2_with fail
      go_ret
      exact ⟨by rw [HD.out]; rfl, rfl⟩
set_option maxRecDepth 100000 in
theorem forget_nil : Calls Try.prog 26 #[.pointer none, .int .i64 e, .int .u64 g] w fun r w' => r = .returned (.int .i64 0) ∧ w = w' := by
  go_enter Try.func26, Try.ntmps26
  go_wp2
  go_ret
  exact ⟨rfl, rfl⟩
set_option maxRecDepth 100000 in
theorem forget_odd (hc : w.cell? ⟨cb, 0, none⟩ = some (.map none)) : Calls Try.prog 26 #[.pointer (some ⟨cb, 0, none⟩), .int .i64 e, .int .u64 g] w fun r w' => r = .returned (.int .i64 0) ∧ w' = w.alloc (.mapIter none 0 #[] 0) := by
  have hc2 : (w.alloc (.mapIter none 0 #[] 0)).cell? ⟨cb, 0, none⟩ = some (.map none) := cell_below hc ((Below.refl _ _).alloc (Nat.le_refl _) _)
  have hrg := run_range_nilMap (P := Try.prog) w 45 58 5 Try.underlying45
  have hnx : ∀ ty, (Instr.next (.pointer (some ⟨w.heap.size, 0, none⟩)) false ty).run Try.prog (w.alloc (.mapIter none 0 #[] 0)) = _ := fun ty => run_next_nilMap w ty 0 0 #[]
  have hln : ∀ (W : World) ty, (Builtin.len_ #[45] ty #[.map none]).run Try.prog W = .ok (.int .i64 0) W := fun W ty => Maps.len_nil (w := W) Try.underlying45 ty
  go_enter Try.func26, Try.ntmps26
  go_wp2
  refine wp_loop_rounds 1 ?_
  rw [rounds_succ]
  go_wp2
  go_ret
  exact ⟨rfl, rfl⟩
set_option maxRecDepth 100000 in
theorem len_nil' : Calls Try.prog 27 #[.pointer none] w fun r w' => r = .returned (.int .i64 0) ∧ w = w' := by
  go_enter Try.func27, Try.ntmps27
  go_wp2
  go_ret
  exact ⟨rfl, rfl⟩
set_option maxRecDepth 100000 in
theorem len_odd (hc : w.cell? ⟨cb, 0, none⟩ = some (.map none)) : Calls Try.prog 27 #[.pointer (some ⟨cb, 0, none⟩)] w fun r w' => r = .returned (.int .i64 0) ∧ w = w' := by
  have hln : ∀ (W : World) ty, (Builtin.len_ #[45] ty #[.map none]).run Try.prog W = .ok (.int .i64 0) W := fun W ty => Maps.len_nil (w := W) Try.underlying45 ty
  go_enter Try.func27, Try.ntmps27
  go_wp2
  go_ret
  exact ⟨rfl, rfl⟩
set_option maxRecDepth 100000 in
theorem add_nil (s : Value) : Calls Try.prog 23 #[.pointer none, s] w fun r w' => r = .returned (.int .i64 0) ∧ w = w' := by
  go_enter Try.func23, Try.ntmps23
  go_wp2
  go_ret
  exact ⟨rfl, rfl⟩

/-- The row's own question. -/
theorem ref_calls (e bit tag now : Int) (ht : (Lit.int .u64 tag).wf = true) : Calls Try.prog 25 #[.slice none 0 0, .int .i64 e, .int .i64 bit, .int .u64 tag, .int .u64 now] w fun r w' => r = .returned (.bool (goodN bit tag now)) ∧ Below w.heap.size w w' :=
  springhouseref19_Good.calls 3 none 0 [] e bit tag now _ w (Kd.C_nil _ _) (Nat.le_refl _) (refGood e bit tag now (bounds_u64 ht).1)

set_option maxRecDepth 100000 in
set_option maxHeartbeats 1000000 in
theorem walk (a0 : Int) (w0 : (Lit.int .i64 a0).wf = true) (a1 : Int) (w1 : (Lit.int .i64 a1).wf = true) (a2 : Int) (w2 : (Lit.int .u64 a2).wf = true) (a3 : Int) (w3 : (Lit.int .u64 a3).wf = true) (w : World) :
    Calls Try.prog 8 #[.int .i64 a0, .int .i64 a1, .int .u64 a2, .int .u64 a3] w fun e w' => e = .returned (.bool true) ∧ Below w.heap.size w w' := by
  have W0 := Lib.hid w0
  have W2 := Lib.hid w2
  have W3 := Lib.hid w3
  clear w0 w1 w2 w3
  obtain ⟨W, hW⟩ : ∃ W : World, W = w.alloc (.cells #[.map none] 47) := ⟨_, rfl⟩
  have hc : W.cell? ⟨w.heap.size, 0, none⟩ = some (.map none) := by rw [hW]; simp
  have HB := Lib.hid (show Below w.heap.size w W from by rw [hW]; exact (Below.refl _ _).alloc (Nat.le_refl _) _)
  have HC := Lib.hid hc
  clear hc
  go_enter Try.func8, Try.ntmps8
  go_wp2_with fail
  rw [← hW]
  clear hW
  refine known_nil.mono ?_
  rintro _ _ ⟨rfl, rfl⟩
  go_wp2_with fail
  refine (known_odd HC.out ⟨W0.out, W2.out⟩).mono ?_
  rintro _ _ ⟨rfl, rfl⟩
  go_wp2_with fail
  obtain ⟨b, hb⟩ : ∃ b, goodN a1 a2 a3 = b := ⟨_, rfl⟩
  have hR := ref_calls (w := W) a0 a1 a2 a3 W2.out
  have hG1 : ∀ V : World, Calls Try.prog 22 #[.pointer none, .int .i64 a0, .int .i64 a1, .int .u64 a2, .int .u64 a3] V fun r w' => r = .returned (.bool (goodN a1 a2 a3)) ∧ V = w' := fun V =>
    good_none _ a1 a2 a3 W2.out W3.out (fun g _ => known_nil)
  have hG2 : ∀ V : World, V.cell? ⟨w.heap.size, 0, none⟩ = some (.map none) → Calls Try.prog 22 #[.pointer (some ⟨w.heap.size, 0, none⟩), .int .i64 a0, .int .i64 a1, .int .u64 a2, .int .u64 a3] V fun r w' => r = .returned (.bool (goodN a1 a2 a3)) ∧ V = w' := fun V hV =>
    good_none _ a1 a2 a3 W2.out W3.out (fun g hg => known_odd hV ⟨W0.out, hg⟩)
  rw [hb] at hR hG1 hG2
  have HR := Lib.hid hR
  have HG1 := Lib.hid hG1
  have HG2 := Lib.hid hG2
  clear hR hG1 hG2 hb
  refine HR.out.mono ?_
  rintro _ W1 ⟨rfl, hb⟩
  have HB1 := Lib.hid hb
  have HC1 := Lib.hid (cell_below HC.out hb)
  clear hb
  go_wp2_with fail
  refine (HG1.out _).mono ?_
  rintro _ _ ⟨rfl, rfl⟩
  go_wp2_with fail
  refine (HG2.out _ HC1.out).mono ?_
  rintro _ _ ⟨rfl, rfl⟩
  go_wp2_with fail
  refine forget_nil.mono ?_
  rintro _ _ ⟨rfl, rfl⟩
  go_wp2_with fail
  refine (forget_odd HC1.out).mono ?_
  rintro _ _ ⟨rfl, rfl⟩
  have hbi : Below W1.heap.size W1 (W1.alloc (.mapIter none 0 #[] 0)) := (Below.refl _ _).alloc (Nat.le_refl _) _
  generalize W1.alloc (.mapIter none 0 #[] 0) = V at hbi
  have HB2 := Lib.hid (bthen HB1.out hbi)
  have HC2 := Lib.hid (cell_below HC1.out hbi)
  clear hbi
  go_wp2_with fail
  refine len_nil'.mono ?_
  rintro _ _ ⟨rfl, rfl⟩
  go_wp2_with fail
  refine (len_odd HC2.out).mono ?_
  rintro _ _ ⟨rfl, rfl⟩
  go_wp2_with fail
  refine (add_nil _).mono ?_
  rintro _ _ ⟨rfl, rfl⟩
  go_wp2_with fail
  refine (awake_calls _).mono ?_
  rintro _ w5 ⟨rfl, hb5⟩
  have HB5 := Lib.hid (bthen (a := V) ((Below.refl _ _).alloc (Nat.le_refl _) _) hb5)
  clear hb5
  go_wp2_with fail
  go_ret
  exact ⟨rfl, bthen HB.out (bthen HB2.out HB5.out)⟩
end
end Go.Proofs.Ytllhmpbfnbbldaa.ChNobody
