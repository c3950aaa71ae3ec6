/- The walk of ChainAdds: what another record changes; no conditions. -/
import Derived.Test.YtllhmpbfnbbldaaChParts
import Derived.Test.YtllhmpbfnbbldaaChAddsPure
import Derived.Test.YtllhmpbfnbbldaaChOpen
namespace Go.Proofs.Ytllhmpbfnbbldaa.ChAdds
set_option linter.unusedSimpArgs false
set_option linter.unusedVariables false
open Go.RowKit Go.Maps Go.Proofs.Ytllhmpbfnbbldaa.Util Go.Proofs.Ytllhmpbfnbbldaa.ChMap Go.Proofs.Ytllhmpbfnbbldaa.ChCore Go.Proofs.Ytllhmpbfnbbldaa.ChAdd Go.Proofs.Ytllhmpbfnbbldaa.ChNew Go.Proofs.Ytllhmpbfnbbldaa.ChView Go.Proofs.Ytllhmpbfnbbldaa.ChAwake Go.Proofs.Ytllhmpbfnbbldaa.ChParts Go.Proofs.Ytllhmpbfnbbldaa.ChAddsPure Go.Proofs.Ytllhmpbfnbbldaa.ChOpen
open Go.Proofs.YtllhmpbfnbbldaaW.PrintWords Go.Proofs.YtllhmpbfnbbldaaW.PrintLast Go.Proofs.YtllhmpbfnbbldaaW.PrintMore
open Go.Proofs.Ytllhmpbfnbbldaa.PChainParts

theorem MapIs.exact {w : World} {bm n : Nat} {D : DataW Unit} (h : MapIs w bm n D) : MapIs w bm (Maps.size D) D := by
  obtain ⟨es, clock, hb, F, hs, hD⟩ := h
  refine ⟨es, clock, hb, F, ?_, hD⟩
  subst hD
  rw [size_eq, length_read]
  exact Nat.le_refl _
theorem size_addD : ∀ (l : List S39) {D : DataW Unit}, Tidy D → (∀ r ∈ l, rwf r) → Maps.size (addD D l) ≤ Maps.size D + l.length
  | [], D, _, _ => Nat.le_refl _
  | r :: l, D, h, hw => by
    have h1 : Tidy (addR D r) := h.put (kl_key _ _ (hw r (by simp)).key) _
    have h2 := size_addD l h1 (fun x hx => hw x (by simp [hx]))
    have h3 : Maps.size (addR D r) ≤ Maps.size D + 1 := by
      unfold addR
      rw [size_put h]
      split <;> omega
    show Maps.size (addD (addR D r) l) ≤ _
    simp only [List.length_cons]
    omega
theorem wf_mem {l : List S39} (h : ∀ i, i < l.length → rwf (rd_T39 l i)) : ∀ r ∈ l, rwf r := by
  intro r hr
  obtain ⟨i, hi, rfl⟩ := List.mem_iff_getElem.1 hr
  have := h i hi
  unfold rd_T39 at this
  rwa [Int.toNat_natCast, List.getD_eq_getElem?_getD, List.getElem?_eq_getElem hi] at this

/-- few and New, with the row behind a name, and how much the map holds. -/
theorem few_new' (A : Option Addr) (len cap : Nat) (l : List S39) (w : World) (hl : l.length = len) (hC : Kd.C k39 w A len l) (hle : len ≤ cap) (hmx : cap ≤ maxLen) (hwf : ∀ i, i < len → rwf (rd_T39 l i)) :
    ∃ (m : Nat) (D : DataW Unit), Hid (Calls Try.prog 20 #[.slice A len cap, .int .i64 40] w fun r w' => r = .returned (.slice A m cap) ∧ w = w') ∧ Hid (Calls Try.prog 19 #[.slice A m cap] w (Made w D)) ∧ Hid (IsMap D) ∧ Hid (Maps.size D ≤ 40) := by
  refine ⟨(l.take 40).length, addD (.map []) (l.take 40), few_is A len cap l hl hle hmx w, new_few A len cap l hl w hC hle hwf, isMap_addD _ isMap_empty, ?_⟩
  subst hl
  have := size_addD (l.take 40) tidy_empty (wf_mem (take_wf hwf 40))
  have h2 : (l.take 40).length ≤ 40 := by rw [List.length_take]; omega
  have h3 : Maps.size (.map [] : DataW Unit) = 0 := rfl
  show Maps.size (addD (.map []) (l.take 40)) ≤ 40
  omega

/-- A new block of one record. -/
theorem row_of (w : World) (r : S39) : Kd.C k39 (w.alloc (.cells #[.int .u64 r.f0, .int .u64 r.f1, .int .i64 r.f2, .int .u64 r.f3, .int .u8 r.f4] 39)) (some ⟨w.heap.size, 0, none⟩) [r].length [r] := by
  refine ⟨rfl, by simp, fun _ => ⟨_, rfl, fun j p hj => ?_⟩⟩
  cases j with
  | succ j => simp at hj
  | zero =>
    simp at hj
    subst hj
    refine ⟨_, rfl, k39_mk _ r, fun i u hu => ?_⟩
    match i, hu with
    | 0, hu => simp at hu; subst hu; simp [Addr.add]
    | 1, hu => simp at hu; subst hu; simp [Addr.add]
    | 2, hu => simp at hu; subst hu; simp [Addr.add]
    | 3, hu => simp at hu; subst hu; simp [Addr.add]
    | 4, hu => simp at hu; subst hu; simp [Addr.add]
    | i + 5, hu => simp at hu
theorem add_one {w : World} {cb bm n : Nat} {D : DataW Unit} (r : S39) (hr : rwf r) (hc : w.cell? ⟨cb, 0, none⟩ = some (.map (some bm))) (hm : MapIs w bm n D) (hn : Maps.size D ≤ 40) :
    Calls Try.prog 23 #[.pointer (some ⟨cb, 0, none⟩), .slice (some ⟨w.heap.size, 0, none⟩) 1 1] (w.alloc (.cells #[.int .u64 r.f0, .int .u64 r.f1, .int .i64 r.f2, .int .u64 r.f3, .int .u8 r.f4] 39)) (Added (w.alloc (.cells #[.int .u64 r.f0, .int .u64 r.f1, .int .i64 r.f2, .int .u64 r.f3, .int .u8 r.f4] 39)) bm (addR D r)) := by
  have hb : Below w.heap.size w (w.alloc (.cells #[.int .u64 r.f0, .int .u64 r.f1, .int .i64 r.f2, .int .u64 r.f3, .int .u8 r.f4] 39)) := (Below.refl _ _).alloc (Nat.le_refl _) _
  refine add_calls (D := D) (n := Maps.size D) _ 1 [r] (row_of w r) (by simp) (fun i hi => ?_) (cell_below hc hb) (MapIs.exact (MapIs.below hm hb)) (by simp; unfold maxLen; omega)
  obtain rfl : i = 0 := by simpa using hi
  exact hr

/-- The law's own test. -/
theorem test_is (f bit : Int) (hf : (Lit.int .u8 f).wf = true) (h0 : 0 ≤ bit) (h8 : bit < 8) : ((f / 2 ^ min (IntKind.u64.wrap (Go.bits .and .i64 bit 7)).toNat 8).tmod 2 = 1) ↔ nm f bit = true := by
  have bf := bounds_u8 hf
  obtain ⟨a, rfl⟩ := Int.eq_ofNat_of_zero_le bf.1
  obtain ⟨k, rfl⟩ := Int.eq_ofNat_of_zero_le h0
  have hk : k < 8 := by omega
  have e1 : IntKind.u64.wrap (Go.bits .and .i64 (k : Int) 7) = (k : Int) := by
    have : ∀ k : Nat, k < 8 → IntKind.u64.wrap (Go.bits .and .i64 (k : Int) 7) = (k : Int) := by decide
    exact this k hk
  rw [e1, Int.toNat_natCast, Nat.min_eq_left (by omega), nm_nat a k (by omega) hk, Nat.testBit_eq_decide_div_mod_eq]
  rw [show ((2 : Int) ^ k) = ((2 ^ k : Nat) : Int) from by simp, Int.tmod_eq_emod_of_nonneg (Int.ediv_nonneg (Int.natCast_nonneg _) (Int.natCast_nonneg _))]
  rw [decide_eq_true_eq]
  rw [show ((a : Int) / ((2 ^ k : Nat) : Int)) = ((a / 2 ^ k : Nat) : Int) from by simp]
  omega

set_option maxRecDepth 100000 in
set_option maxHeartbeats 8000000 in
theorem walk (A : Option Addr) (len cap : Nat) (l : List S39) (w : World) (hl : l.length = len) (hC : Kd.C k39 w A len l) (hle : len ≤ cap) (hmx : cap ≤ maxLen) (hwf : ∀ i, i < len → rwf (rd_T39 l i))
    (r : S39) (hr : rwf r) (x : ChOpen.Ask) (hx : x.ok) :
    Calls Try.prog 7 #[.slice A len cap, .agg #[.int .u64 r.f0, .int .u64 r.f1, .int .i64 r.f2, .int .u64 r.f3, .int .u8 r.f4], .agg #[.int .i64 x.e, .int .i64 x.bit, .int .u64 x.tag, .int .u64 x.now]] w fun e w' => e = .returned (.bool true) ∧ Below w.heap.size w w' := by
  have hb0 : ∀ o1 o2, Below w.heap.size w ((w.alloc o1).alloc o2) := fun o1 o2 => ((Below.refl _ _).alloc (Nat.le_refl _) _).alloc (by simp) _
  obtain ⟨W, hW⟩ : ∃ W : World, W = (w.alloc (.cells #[.int .u64 r.f0, .int .u64 r.f1, .int .i64 r.f2, .int .u64 r.f3, .int .u8 r.f4] 39)).alloc (.cells #[.int .i64 x.e, .int .i64 x.bit, .int .u64 x.tag, .int .u64 x.now] 41) := ⟨_, rfl⟩
  have hbW : Below w.heap.size w W := by rw [hW]; exact hb0 _ _
  obtain ⟨m, D, HF, HN, HI, HS⟩ := few_new' A len cap l W hl (Kd.C_below hC hbW) hle hmx hwf
  have HR := Lib.hid hr
  have HX := Lib.hid hx
  clear hC hwf hl hle hmx hr hx hb0
  go_enter Try.func7, Try.ntmps7
  go_wp2_with fail
  rw [← hW]
  have r0 : W.cell? ⟨w.heap.size, 0, none⟩ = some (.int .u64 r.f0) := by rw [hW]; simp
  have r1 : W.cell? ⟨w.heap.size, 1, none⟩ = some (.int .u64 r.f1) := by rw [hW]; simp
  have r2 : W.cell? ⟨w.heap.size, 2, none⟩ = some (.int .i64 r.f2) := by rw [hW]; simp
  have r3 : W.cell? ⟨w.heap.size, 3, none⟩ = some (.int .u64 r.f3) := by rw [hW]; simp
  have r4 : W.cell? ⟨w.heap.size, 4, none⟩ = some (.int .u8 r.f4) := by rw [hW]; simp
  have x0 : W.cell? ⟨w.heap.size + 1, 0, none⟩ = some (.int .i64 x.e) := by rw [hW]; simp
  have x1 : W.cell? ⟨w.heap.size + 1, 1, none⟩ = some (.int .i64 x.bit) := by rw [hW]; simp
  have x2 : W.cell? ⟨w.heap.size + 1, 2, none⟩ = some (.int .u64 x.tag) := by rw [hW]; simp
  have x3 : W.cell? ⟨w.heap.size + 1, 3, none⟩ = some (.int .u64 x.now) := by rw [hW]; simp
  have HW := Lib.hid hbW
  clear hW hbW
  refine HF.out.mono ?_
  rintro _ _ ⟨rfl, rfl⟩
  go_wp2_with fail
  refine HN.out.mono ?_
  rintro _ W1 ⟨cb, bm, n, rfl, hc, hm, hbm, hb⟩
  have HB := Lib.hid hb
  have HC := Lib.hid hc
  have HM := Lib.hid hm
  have HBM := Lib.hid hbm
  clear HN HF hc hm hbm hb
  have y0 := cell_below x0 HB.out
  have y1 := cell_below x1 HB.out
  have y2 := cell_below x2 HB.out
  have y3 := cell_below x3 HB.out
  have s0 := cell_below r0 HB.out
  have s1 := cell_below r1 HB.out
  have s2 := cell_below r2 HB.out
  have s3 := cell_below r3 HB.out
  have s4 := cell_below r4 HB.out
  clear x0 x1 x2 x3 r0 r1 r2 r3 r4
  obtain ⟨b, hb⟩ : ∃ b, goodD D x.e x.bit x.tag x.now = b := ⟨_, rfl⟩
  obtain ⟨c, hc⟩ : ∃ c, goodD (addR D r) x.e x.bit x.tag x.now = c := ⟨_, rfl⟩
  have P1 : Hid (¬ (r.f2 = x.e ∧ x.tag < r.f3 ∧ r.f3 ≤ x.now) → c = b) := fun h => by
    rw [← hb, ← hc]; exact adds_other HR.out HX.out.1 HX.out.2.2.1 HX.out.2.2.2 h
  have P2 : Hid (r.f2 = x.e ∧ x.tag < r.f3 ∧ r.f3 ≤ x.now → 0 ≤ x.bit → x.bit < 8 → (r.f4 / 2 ^ min (IntKind.u64.wrap (Go.bits .and .i64 x.bit 7)).toNat 8).tmod 2 = 1 → c = false) := fun h h0 h8 h1 => by
    rw [← hc]; exact adds_named HI.out HR.out (MapIs.mask_wf HM.out HR.out.key) h h0 h8 ((test_is _ _ HR.out.2.2.2.2 h0 h8).1 h1)
  have P3 : Hid ((0 ≤ x.bit → x.bit < 8 → ¬ (r.f4 / 2 ^ min (IntKind.u64.wrap (Go.bits .and .i64 x.bit 7)).toNat 8).tmod 2 = 1) → b = true → c = true) := fun h h1 => by
    rw [← hc]; exact adds_kept HI.out HR.out (MapIs.mask_wf HM.out HR.out.key) HX.out.1 HX.out.2.2.1 HX.out.2.2.2 (fun h0 h8 => by
      have := h h0 h8
      rw [test_is _ _ HR.out.2.2.2.2 h0 h8] at this
      simpa using this) (by rw [hb]; exact h1)
  have HGB := Lib.hid hb
  have HGC := Lib.hid hc
  clear hb hc
  go_wp2_with fail
  refine (good_is HC.out HM.out _ _ _ _ HX.out.1 HX.out.2.2.1 HX.out.2.2.2 b HGB.out).mono ?_
  rintro _ W2 ⟨rfl, hb2⟩
  have HB2 := Lib.hid hb2
  have z0 := cell_below y0 hb2
  have z1 := cell_below y1 hb2
  have z2 := cell_below y2 hb2
  have z3 := cell_below y3 hb2
  have t0 := cell_below s0 hb2
  have t1 := cell_below s1 hb2
  have t2 := cell_below s2 hb2
  have t3 := cell_below s3 hb2
  have t4 := cell_below s4 hb2
  have HC2 := Lib.hid (cell_below HC.out hb2)
  have HM2 := Lib.hid (MapIs.below HM.out hb2)
  clear hb2 y0 y1 y2 y3 s0 s1 s2 s3 s4
  go_wp2_with fail
  refine (add_one r HR.out HC2.out HM2.out HS.out).mono ?_
  rintro _ W3 ⟨⟨k, rfl⟩, hg, n3, hm3⟩
  have hba : Below W2.heap.size W2 (W2.alloc (.cells #[.int .u64 r.f0, .int .u64 r.f1, .int .i64 r.f2, .int .u64 r.f3, .int .u8 r.f4] 39)) := (Below.refl _ _).alloc (Nat.le_refl _) _
  have hma := MapIs.below HM2.out hba
  have y0 := cell_grown hma hg (cell_below z0 hba)
  have y1 := cell_grown hma hg (cell_below z1 hba)
  have y2 := cell_grown hma hg (cell_below z2 hba)
  have y3 := cell_grown hma hg (cell_below z3 hba)
  have s2 := cell_grown hma hg (cell_below t2 hba)
  have s3 := cell_grown hma hg (cell_below t3 hba)
  have s4 := cell_grown hma hg (cell_below t4 hba)
  have HC3 := Lib.hid (cell_grown hma hg (cell_below HC2.out hba))
  have HM3 := Lib.hid hm3
  have HB3 : Hid (Below w.heap.size w W3) := (bthen HW.out (bthen HB.out (bthen HB2.out hba))).grown hg (bthen HW.out (bthen HB.out (bthen HB2.out hba))).size (fun k hk => by cases hk; exact Nat.le_trans HW.out.size HBM.out)
  clear hg hm3 hba hma z0 z1 z2 z3 t0 t1 t2 t3 t4
  go_wp2_with fail
  refine (good_is HC3.out HM3.out _ _ _ _ HX.out.1 HX.out.2.2.1 HX.out.2.2.2 c HGC.out).mono ?_
  rintro _ W4 ⟨rfl, hb4⟩
  have z0 := cell_below y0 hb4
  have z1 := cell_below y1 hb4
  have z2 := cell_below y2 hb4
  have z3 := cell_below y3 hb4
  have t2 := cell_below s2 hb4
  have t3 := cell_below s3 hb4
  have t4 := cell_below s4 hb4
  have HB4 := Lib.hid (bthen HB3.out hb4)
  clear hb4 y0 y1 y2 y3 s2 s3 s4
  clear HGB HGC HM HM2 HM3 HC HC2 HC3 HB HB2 HB3 HI HS
  cases b <;> cases c <;> go_wp2_with fail
  all_goals first
    | (refine (awake_calls _).mono ?_
       rintro _ w5 ⟨rfl, hb5⟩
       go_wp2_with fail
       go_ret
       exact ⟨rfl, bthen HB4.out hb5⟩)
    | exact absurd (P1.out (by omega)) (by decide)
    | exact absurd (P2.out (by omega) (by omega) (by omega) (by assumption)) (by decide)
    | exact absurd (P3.out (fun h0 h8 => by first | assumption | omega) (by simp)) (by simp)
end Go.Proofs.Ytllhmpbfnbbldaa.ChAdds
