/- The walk of ChainForgets: what is forgotten makes nothing good; no conditions. -/
import Derived.Test.YtllhmpbfnbbldaaChForget
namespace Go.Proofs.Ytllhmpbfnbbldaa.ChForgets
set_option linter.unusedSimpArgs false
set_option linter.unusedVariables false
open Go.RowKit Go.Maps Go.Proofs.Ytllhmpbfnbbldaa.Util Go.Proofs.Ytllhmpbfnbbldaa.ChMap Go.Proofs.Ytllhmpbfnbbldaa.ChCore Go.Proofs.Ytllhmpbfnbbldaa.ChAdd Go.Proofs.Ytllhmpbfnbbldaa.ChNew Go.Proofs.Ytllhmpbfnbbldaa.ChView Go.Proofs.Ytllhmpbfnbbldaa.ChAwake Go.Proofs.Ytllhmpbfnbbldaa.ChParts Go.Proofs.Ytllhmpbfnbbldaa.ChAddsPure Go.Proofs.Ytllhmpbfnbbldaa.ChOpen Go.Proofs.Ytllhmpbfnbbldaa.ChAdds Go.Proofs.Ytllhmpbfnbbldaa.ChForget
open Go.Proofs.YtllhmpbfnbbldaaW.PrintWords Go.Proofs.YtllhmpbfnbbldaaW.PrintLast Go.Proofs.YtllhmpbfnbbldaaW.PrintMore
open Go.Proofs.Ytllhmpbfnbbldaa.PChainParts

section
variable {D0 D : DataW Unit} {ext gen e bit tag now : Int}
theorem wf_mid {g : Int} (ht : 0 ≤ tag) (hn : now ≤ 18446744073709551615) (h1 : tag < g) (h2 : g ≤ now) : (Lit.int .u64 g).wf = true := by
  simp only [Lit.wf, Bool.and_eq_true, decide_eq_true_eq]
  have : IntKind.u64.max = 18446744073709551615 := rfl
  have : IntKind.u64.min = 0 := rfl
  omega
theorem forgets_less (hI : Inv D0 D ext gen (fun _ => false)) (he : (Lit.int .i64 e).wf = true) (ht : (Lit.int .u64 tag).wf = true) (hn : (Lit.int .u64 now).wf = true) (h : goodD D e bit tag now = true) : goodD D0 e bit tag now = true := by
  have t0 := (bounds_u64 ht).1
  have n1 := (bounds_u64 hn).2
  unfold goodD at h ⊢
  by_cases c : tag = 0 ∨ now < tag ∨ bit < 0 ∨ 8 ≤ bit
  · rw [if_pos c] at h; cases h
  · rw [if_neg c] at h ⊢
    rw [passUp_iff] at h ⊢
    intro g h1 h2
    have hp := h g h1 h2
    obtain ⟨i1, i2⟩ := hI e g ⟨he, wf_mid t0 n1 h1 (by omega)⟩
    unfold passD at hp ⊢
    by_cases k : e = ext ∧ g ≤ gen
    · rw [i2 k rfl] at hp; cases hp
    · obtain ⟨j1, j2⟩ := i1 k
      rw [← j1, ← j2]; exact hp
theorem forgets_other (hI : Inv D0 D ext gen (fun _ => false)) (he : (Lit.int .i64 e).wf = true) (ht : (Lit.int .u64 tag).wf = true) (hn : (Lit.int .u64 now).wf = true) (h : ¬ (e = ext ∧ tag < gen)) : goodD D e bit tag now = goodD D0 e bit tag now := by
  have t0 := (bounds_u64 ht).1
  have n1 := (bounds_u64 hn).2
  unfold goodD
  by_cases c : tag = 0 ∨ now < tag ∨ bit < 0 ∨ 8 ≤ bit
  · rw [if_pos c, if_pos c]
  · rw [if_neg c, if_neg c]
    refine passUp_congr fun g h1 h2 => ?_
    obtain ⟨j1, j2⟩ := (hI e g ⟨he, wf_mid t0 n1 h1 (by omega)⟩).1 (fun k => h ⟨k.1, by omega⟩)
    unfold passD
    rw [j1, j2]
end

set_option maxRecDepth 100000 in
set_option maxHeartbeats 4000000 in
theorem walk (A : Option Addr) (len cap : Nat) (l : List S39) (w : World) (hl : l.length = len) (hC : Kd.C k39 w A len l) (hle : len ≤ cap) (hmx : cap ≤ maxLen) (hwf : ∀ i, i < len → rwf (rd_T39 l i))
    (a1 : Int) (w1 : (Lit.int .i64 a1).wf = true) (a2 : Int) (w2 : (Lit.int .u64 a2).wf = true) (x : ChOpen.Ask) (hx : x.ok) :
    Calls Try.prog 9 #[.slice A len cap, .int .i64 a1, .int .u64 a2, .agg #[.int .i64 x.e, .int .i64 x.bit, .int .u64 x.tag, .int .u64 x.now]] w fun e w' => e = .returned (.bool true) ∧ Below w.heap.size w w' := by
  obtain ⟨W, hW⟩ : ∃ W : World, W = w.alloc (.cells #[.int .i64 x.e, .int .i64 x.bit, .int .u64 x.tag, .int .u64 x.now] 41) := ⟨_, rfl⟩
  have hbW : Below w.heap.size w W := by rw [hW]; exact (Below.refl _ _).alloc (Nat.le_refl _) _
  obtain ⟨m, D, HF, HN, HI, HS⟩ := few_new' A len cap l W hl (Kd.C_below hC hbW) hle hmx hwf
  have HX := Lib.hid hx
  clear hC hwf hl hle hmx hx w1 w2
  go_enter Try.func9, Try.ntmps9
  go_wp2_with fail
  rw [← hW]
  have x0 : W.cell? ⟨w.heap.size, 0, none⟩ = some (.int .i64 x.e) := by rw [hW]; simp
  have x1 : W.cell? ⟨w.heap.size, 1, none⟩ = some (.int .i64 x.bit) := by rw [hW]; simp
  have x2 : W.cell? ⟨w.heap.size, 2, none⟩ = some (.int .u64 x.tag) := by rw [hW]; simp
  have x3 : W.cell? ⟨w.heap.size, 3, none⟩ = some (.int .u64 x.now) := by rw [hW]; simp
  have HW := Lib.hid hbW
  clear hW hbW
  refine HF.out.mono ?_
  rintro _ _ ⟨rfl, rfl⟩
  go_wp2_with fail
  refine HN.out.mono ?_
  rintro _ W1 ⟨cb, bm, n, rfl, hc, hm, hbm, hb⟩
  have HB := Lib.hid hb
  have HC := Lib.hid hc
  have HM := Lib.hid hm
  have HBM := Lib.hid hbm
  clear HN HF hc hm hbm hb
  have y0 := cell_below x0 HB.out
  have y1 := cell_below x1 HB.out
  have y2 := cell_below x2 HB.out
  have y3 := cell_below x3 HB.out
  clear x0 x1 x2 x3
  go_wp2_with fail
  obtain ⟨b, hb⟩ : ∃ b, goodD D x.e x.bit x.tag x.now = b := ⟨_, rfl⟩
  have HGB := Lib.hid hb
  clear hb
  refine (good_is HC.out HM.out _ _ _ _ HX.out.1 HX.out.2.2.1 HX.out.2.2.2 b HGB.out).mono ?_
  rintro _ W2 ⟨rfl, hb2⟩
  have HB2 := Lib.hid hb2
  have z0 := cell_below y0 hb2
  have z1 := cell_below y1 hb2
  have z2 := cell_below y2 hb2
  have z3 := cell_below y3 hb2
  have HC2 := Lib.hid (cell_below HC.out hb2)
  have HM2 := Lib.hid (MapIs.below HM.out hb2)
  clear hb2 y0 y1 y2 y3
  go_wp2_with fail
  refine (forget_calls HC2.out HM2.out).mono ?_
  rintro _ W3 ⟨⟨k, rfl⟩, hg, n3, D3, hm3, hi3⟩
  have y0 := cell_grown HM2.out hg z0
  have y1 := cell_grown HM2.out hg z1
  have y2 := cell_grown HM2.out hg z2
  have y3 := cell_grown HM2.out hg z3
  have HC3 := Lib.hid (cell_grown HM2.out hg HC2.out)
  have HM3 := Lib.hid hm3
  have HI3 := Lib.hid hi3
  have HB3 : Hid (Below w.heap.size w W3) := (bthen HW.out (bthen HB.out HB2.out)).grown hg (bthen HW.out (bthen HB.out HB2.out)).size (fun k hk => by cases hk; exact Nat.le_trans HW.out.size HBM.out)
  clear hg hm3 hi3 z0 z1 z2 z3
  obtain ⟨c, hc⟩ : ∃ c, goodD D3 x.e x.bit x.tag x.now = c := ⟨_, rfl⟩
  have P1 : Hid (c = true → b = true) := fun h => by
    rw [← hc] at h; rw [← HGB.out]; exact forgets_less HI3.out HX.out.1 HX.out.2.2.1 HX.out.2.2.2 h
  have P2 : Hid (¬ (x.e = a1 ∧ x.tag < a2) → c = b) := fun h => by
    rw [← hc, ← HGB.out]; exact forgets_other HI3.out HX.out.1 HX.out.2.2.1 HX.out.2.2.2 h
  have HGC := Lib.hid hc
  clear hc
  go_wp2_with fail
  refine (good_is HC3.out HM3.out _ _ _ _ HX.out.1 HX.out.2.2.1 HX.out.2.2.2 c HGC.out).mono ?_
  rintro _ W4 ⟨rfl, hb4⟩
  have z0 := cell_below y0 hb4
  have z1 := cell_below y1 hb4
  have z2 := cell_below y2 hb4
  have z3 := cell_below y3 hb4
  have HB4 := Lib.hid (bthen HB3.out hb4)
  clear hb4 y0 y1 y2 y3
  clear HGB HGC HM HM2 HM3 HC HC2 HC3 HB HB2 HB3 HI HS HI3
  cases b <;> cases c <;> go_wp2_with fail
  all_goals first
    | (refine (awake_calls _).mono ?_
       rintro _ w5 ⟨rfl, hb5⟩
       go_wp2_with fail
       go_ret
       exact ⟨rfl, bthen HB4.out hb5⟩)
    | (exfalso; refine absurd (P2.out ?_) ?_ <;> first | omega | decide)
    | (exfalso; refine absurd (P1.out ?_) ?_ <;> simp; done)
end Go.Proofs.Ytllhmpbfnbbldaa.ChForgets
