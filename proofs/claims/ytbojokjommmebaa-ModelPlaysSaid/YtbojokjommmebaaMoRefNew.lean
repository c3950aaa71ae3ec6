/- The reference: New. -/
import Derived.Test.YtbojokjommmebaaMoRefRows
namespace Go.Proofs.Ytbojokjommmebaa.MoRefNew
set_option linter.unusedSimpArgs false
set_option linter.unusedVariables false
open Go.RowKit Go.Proofs.YtbojokjommmebaaW.PrintWords Go.Proofs.YtbojokjommmebaaW.PrintLast Go.Proofs.YtbojokjommmebaaW.PrintMore Go.Proofs.Ytbojokjommmebaa.PModelPlays Go.Proofs.Ytbojokjommmebaa.MoMem Go.Proofs.Ytbojokjommmebaa.MoGo Go.Proofs.Ytbojokjommmebaa.MoPut Go.Proofs.Ytbojokjommmebaa.MoWrite Go.Proofs.Ytbojokjommmebaa.MoLoose Go.Proofs.Ytbojokjommmebaa.MoPure Go.Proofs.Ytbojokjommmebaa.MoRefMem Go.Proofs.Ytbojokjommmebaa.MoRefPut Go.Proofs.Ytbojokjommmebaa.MoRefWrite Go.Proofs.Ytbojokjommmebaa.MoRefTrim Go.Proofs.Ytbojokjommmebaa.MoRefRows
theorem make43 (n : Nat) (hn : n ≤ 512) (W : World) : (Instr.makeSlice 43 (.int .i64 (n : Int)) (.int .i64 (n : Int))).run Try.prog W = .ok (.slice (some ⟨W.heap.size, 0, none⟩) n n) (W.alloc (.cells (madeCells #[.string ByteArray.empty] n) 9)) := by
  obtain ⟨i, hi, h1⟩ := Option.map_eq_some_iff.1 info9
  simp only [Prod.mk.injEq] at h1
  have := run_make (P := Try.prog) W 43 9 i (.string ByteArray.empty) Try.underlying43 hi h1.1 .i64 .i64 (n : Int) (n : Int) (by omega) (Int.le_refl _) (by rw [h1.2.2]; omega) (by omega)
  rw [this, h1.2.1, Nat.mul_one]; rfl
section
variable {W W' : World} {base rb n : Nat}
/-- An array half made. -/
structure Half (W V : World) (rb n : Nat) (F : List ByteArray) (g0 g2 : Nat) : Prop where
  few : n ≤ 512
  lf : F.length = n
  lo : W.heap.size ≤ rb
  ne : g0 ≠ rb
  hd : V.heap[rb]? = some (.cells #[.slice (some ⟨g0, 0, none⟩) n n, .slice none 0 0, .slice (some ⟨g2, 0, none⟩) n n] 46 (0, 0))
  o0 : V.ownsRow W.heap.size 9 1 (.slice (some ⟨g0, 0, none⟩) n n) n (encs Value.string F)
  o2 : V.ownsRow W.heap.size 4 1 (.slice (some ⟨g2, 0, none⟩) n n) n (encs Value.bool (List.replicate n false))
  bl : Below W.heap.size W V
theorem name_world {E : Act → World → Prop} {a : Act} {V : World} (P : World → Prop) (hP : P V) (h : ∀ V, P V → E a V) : E a V := h V hP
theorem made_own {α : Type} (enc : α → Value) (x : α) {V : World} {b g t : Nat} (hn : n ≤ 512) (hb : b ≤ g) (hone : (enc x).cells = #[enc x]) (hh : V.heap[g]? = some (.cells (madeCells #[enc x] n) t (0, 0))) :
    V.ownsRow b t 1 (.slice (some ⟨g, 0, none⟩) n n) n (encs enc (List.replicate n x)) := by
  refine ⟨by simp [encs], .inr ⟨g, n, _, rfl, hb, hh, Nat.le_refl _, by unfold maxLen; omega, by rw [size_madeCells, Nat.mul_one], ?_⟩⟩
  rw [Nat.mul_one, List.take_of_length_le (by rw [Array.length_toList, size_madeCells]; exact Nat.le_refl _)]
  simp [madeCells, encs]
  apply List.ext_getElem?
  intro i
  simp only [List.getElem?_map, List.getElem?_range, List.getElem?_replicate]
  by_cases hi : i < n
  · rw [List.getElem?_range hi, if_pos hi]; simp [Nat.mod_one]
  · rw [List.getElem?_eq_none (by simpa using hi), if_neg hi]; rfl
theorem half_a (hn : n ≤ 512) (W : World) : Half W (((W.drew.alloc (.cells (madeCells #[.string ByteArray.empty] n) 9)).alloc (.cells (madeCells #[.bool false] n) 4)).alloc (.cells #[.slice (some ⟨W.heap.size, 0, none⟩) n n, .slice none 0 0, .slice (some ⟨W.heap.size + 1, 0, none⟩) n n] 46)) (W.heap.size + 1 + 1) n (List.replicate n ByteArray.empty) W.heap.size (W.heap.size + 1) := by
  have e1 : (W.drew.alloc (.cells (madeCells #[.string ByteArray.empty] n) 9)).heap.size = W.heap.size + 1 := by simp
  have e2 : ((W.drew.alloc (.cells (madeCells #[.string ByteArray.empty] n) 9)).alloc (.cells (madeCells #[.bool false] n) 4)).heap.size = W.heap.size + 1 + 1 := by simp
  refine ⟨hn, by simp, by omega, by omega, ?_, ?_, ?_, ?_⟩
  · rw [← e2]; exact alloc_at _ _
  · exact made_own Value.string ByteArray.empty hn (Nat.le_refl _) rfl (blk_alloc (blk_alloc (alloc_at W.drew _) _) _)
  · refine made_own Value.bool false hn (by omega) rfl (blk_alloc ?_ _)
    rw [← e1]; exact alloc_at _ _
  · exact ((((Below.refl _ _).drew).alloc (Nat.le_refl _) _).alloc (by simp) _).alloc (by simp; omega) _
theorem half_b (hn : n ≤ 512) (W : World) : Half W (((W.drew.alloc (.cells (madeCells #[.bool false] n) 4)).alloc (.cells (madeCells #[.string ByteArray.empty] n) 9)).alloc (.cells #[.slice (some ⟨W.heap.size + 1, 0, none⟩) n n, .slice none 0 0, .slice (some ⟨W.heap.size, 0, none⟩) n n] 46)) (W.heap.size + 1 + 1) n (List.replicate n ByteArray.empty) (W.heap.size + 1) W.heap.size := by
  have e1 : (W.drew.alloc (.cells (madeCells #[.bool false] n) 4)).heap.size = W.heap.size + 1 := by simp
  have e2 : ((W.drew.alloc (.cells (madeCells #[.bool false] n) 4)).alloc (.cells (madeCells #[.string ByteArray.empty] n) 9)).heap.size = W.heap.size + 1 + 1 := by simp
  refine ⟨hn, by simp, by omega, by omega, ?_, ?_, ?_, ?_⟩
  · rw [← e2]; exact alloc_at _ _
  · refine made_own Value.string ByteArray.empty hn (by omega) rfl (blk_alloc ?_ _)
    rw [← e1]; exact alloc_at _ _
  · exact made_own Value.bool false hn (Nat.le_refl _) rfl (blk_alloc (blk_alloc (alloc_at W.drew _) _) _)
  · exact ((((Below.refl _ _).drew).alloc (Nat.le_refl _) _).alloc (by simp) _).alloc (by simp; omega) _
theorem Half.below {W V V' : World} {F : List ByteArray} {g0 g2 : Nat} (h : Half W V rb n F g0 g2) (hb : Below V.heap.size V V') : Half W V' rb n F g0 g2 :=
  ⟨h.few, h.lf, h.lo, h.ne, blk_below h.hd hb, own_move h.o0 (fun k hk => hb.block k (own_lt h.o0 hk)), own_move h.o2 (fun k hk => hb.block k (own_lt h.o2 hk)), bthen h.bl hb⟩
theorem Half.set {W V : World} {F : List ByteArray} {g0 g2 : Nat} (h : Half W V rb n F g0 g2) (k : Nat) (x : ByteArray) : Half W (V.setCell ⟨g0, k, none⟩ (.string x)) rb n (F.set k x) g0 g2 := by
  have hf := Fr.setCell V g0 k (.string x)
  have hs := (h.o0.stored k (.string x)).1
  rw [encs_set] at hs
  refine ⟨h.few, by rw [List.length_set]; exact h.lf, h.lo, h.ne, hf.at h.hd (fun e => h.ne e.symm), hs, own_move h.o2 (fun j hj => hf.block j (own_lt h.o2 hj) ?_), hf.below h.bl (fun j hj => by rw [hj]; exact own_ge h.o0 rfl)⟩
  obtain ⟨c1, hc1⟩ := own_typ h.o0 (k := g0) rfl
  obtain ⟨c2, hc2⟩ := own_typ h.o2 hj
  exact typ_ne hc2 hc1 (by decide)
theorem Half.row {W V : World} {F : List ByteArray} {g0 g2 : Nat} (h : Half W V rb n F g0 g2) (k : Nat) (hk : k < n) : V.cell? ⟨g0, k, none⟩ = some (.string (F.getD k ByteArray.empty)) ∧ V.frozen? ⟨g0, k, none⟩ = false := by
  obtain ⟨g, c, hv, hx, hfz⟩ := own_at h.o0 k hk
  injection hv with e1 _ _
  injection e1 with e1
  injection e1 with e1
  subst e1
  exact ⟨by rw [hx, encs_get (d := ByteArray.empty) _ _ (by rw [h.lf]; exact hk)], hfz⟩
theorem conv_z64d (W : World) : (convert 33 9 (.slice (some ⟨W.heap.size, 0, none⟩) 64 64)).run Try.prog (W.alloc (.cells (v8 z64).toArray 5)).drew = .ok (.string (strOfNums z64)) (W.alloc (.cells (v8 z64).toArray 5)).drew :=
  Kd.C_string Try.underlying33 Try.underlying5 Try.underlying9 (Kd.C_below (z64_row W) ((Below.refl _ _).drew))
theorem new_at {W V V3 : World} {F : List ByteArray} {g0 g2 : Nat} {u : Value} (h : Half W V rb n F g0 g2) (Z : Nat → Prop) (hz : ∀ k, Z k → k < W.heap.size) (ho : V3.ownsRow V.heap.size 9 1 u n (encs Value.string F)) (hb : Below V.heap.size V V3) :
    RefAt (V3.setCell ⟨rb, 1, none⟩ u) W.heap.size Z rb n F F (List.replicate n false) (.slice (some ⟨g0, 0, none⟩) n n) u (.slice (some ⟨g2, 0, none⟩) n n) ∧ Below W.heap.size W (V3.setCell ⟨rb, 1, none⟩ u) := by
  have hf := Fr.setCell V3 rb 1 u
  have hV := h.bl.size
  have h3 := h.below hb
  have hu : ∀ k, u.ownBlock = some k → V.heap.size ≤ k := fun k hk => own_ge ho hk
  have hrb := blk_in h.hd
  refine ⟨⟨h.few, h.lf, h.lf, by simp, h.lo, blk_set h3.hd 1 u, ?_, ?_, ?_, ?_, ?_⟩, hf.below h3.bl (fun k hk => by rw [hk]; exact h.lo)⟩
  · exact own_move h3.o0 (fun k hk => hf.block k (own_lt h3.o0 hk) (fun e => by
      injection hk with hk
      exact h.ne (hk.trans e)))
  · exact own_lower (own_move ho (fun k hk => hf.block k (own_lt ho hk) (fun e => by have := hu k hk; omega))) hV
  · exact own_move h3.o2 (fun k hk => hf.block k (own_lt h3.o2 hk) (fun e => by
      obtain ⟨c, hc⟩ := own_typ h3.o2 hk
      exact typ_ne hc h3.hd (by decide) e))
  · intro k hk hk2
    have h1 := own_lt h.o0 hk
    have h2 := hu k hk2
    omega
  · intro k hk hzk
    have h1 := hz k hzk
    have h2 : W.heap.size ≤ k := by
      rcases hk with rfl | hk | hk | hk
      · exact h.lo
      · exact own_ge h.o0 hk
      · exact Nat.le_trans hV (hu k hk)
      · exact own_ge h.o2 hk
    omega
theorem rep_map {α : Type} (f : Bk → α) (n : Nat) : (List.replicate n zb).map f = List.replicate n (f zb) := List.map_replicate ..
theorem ref_rep {W : World} {base : Nat} {Z : Nat → Prop} {F : List ByteArray} {v0 v1 v2 : Value} (hF : F = List.replicate n (strOfNums z64)) (h : RefAt W base Z rb n F F (List.replicate n false) v0 v1 v2) : RefE W base Z rb (List.replicate n zb) := by
  refine ⟨v0, v1, v2, ?_⟩
  rw [hF] at h
  unfold RefB
  rw [List.length_replicate, rep_map, rep_map, rep_map]
  exact h
set_option maxRecDepth 100000 in
set_option maxHeartbeats 4000000 in
theorem new_ref (hn : n ≤ 512) (Z : Nat → Prop) (hz : ∀ k, Z k → k < W.heap.size) : Calls Try.prog 8 #[.int .i64 (n : Int)] W fun e W' => (∃ rb, e = .returned (.pointer (some ⟨rb, 0, none⟩)) ∧ RefE W' W.heap.size Z rb (List.replicate n zb)) ∧ Below W.heap.size W W' := by
  have h4 := make4 n hn
  have h43 := make43 n hn
  have HA := Lib.hid (half_a hn W)
  have HB := Lib.hid (half_b hn W)
  generalize hm0 : madeCells #[.string ByteArray.empty] n = m0 at *
  generalize hm4 : madeCells #[.bool false] n = m4 at *
  have HZ := Lib.hid hz
  have hmk := run_z64
  have hcz := conv_z64d
  clear hm0 hm4 hz
  go_enter Try.func8, Try.ntmps8
  go_wp2_with (fail)
  go_region
  all_goals
    refine name_world (fun V => ∃ g0 g2, Half W V (W.heap.size + 1 + 1) n (List.replicate n ByteArray.empty) g0 g2) (by first | exact ⟨_, _, HA.out⟩ | exact ⟨_, _, HB.out⟩) ?_
    rintro V ⟨g0, g2, hh⟩
    have HH := Lib.hid hh
    obtain ⟨rb, hrb⟩ : ∃ rb, rb = W.heap.size + 1 + 1 := ⟨_, rfl⟩
    rw [← hrb] at HH ⊢
    clear hh HA HB h4 h43 hrb
    go_wp2_with (fail)
    go_loopw [4] (fun v4 wr => ∃ (k : Nat) (F : List ByteArray), v4 = .int .i64 (k : Int) ∧ k ≤ n ∧ Hid (F.take k = List.replicate k (strOfNums z64)) ∧ Hid (Half W wr rb n F g0 g2)) (fun v4 _ => ((n : Int) - intOf v4).toNat)
    case atStart => exact ⟨0, _, rfl, by omega, Lib.hid (by simp), HH⟩
    case round =>
      clear HH
      obtain ⟨k, F, rfl, hk, HT, HH⟩ := hrel
      by_cases hlt : k < n
      · have c0 : wr.cell? ⟨rb, 0, none⟩ = some (.slice (some ⟨g0, 0, none⟩) n n) := by rw [blk_cell HH.out.hd]; rfl
        have c0' : ∀ o, (wr.alloc o).cell? ⟨rb, 0, none⟩ = some (.slice (some ⟨g0, 0, none⟩) n n) := fun o => by rw [blk_cell (blk_alloc HH.out.hd o)]; rfl
        have x0 := fun o => ((HH.out.below ((Below.refl _ _).alloc (Nat.le_refl _) o)).row k hlt).1
        have f0 := fun o => ((HH.out.below ((Below.refl _ _).alloc (Nat.le_refl _) o)).row k hlt).2
        have HT2 : Hid ((F.set k (strOfNums z64)).take (k + 1) = List.replicate (k + 1) (strOfNums z64)) := by
          apply Lib.hid
          have hl : k < F.length := by rw [HH.out.lf]; exact hlt
          rw [List.take_succ_eq_append_getElem (by rw [List.length_set]; exact hl), List.take_set_of_le (Nat.le_refl k), HT.out, List.getElem_set_self, List.replicate_succ']
        have HS := Lib.hid ((HH.out.below (((Below.refl wr.heap.size wr).alloc (Nat.le_refl _) (.cells (v8 z64).toArray 5)).drew)).set k (strOfNums z64))
        have HS2 := Lib.hid (((HH.out.below ((Below.refl wr.heap.size wr).alloc (Nat.le_refl _) (.cells (v8 z64).toArray 5))).set k (strOfNums z64)).below ((Below.refl _ _).drew))
        go_wp2_with (fail)
        go_region
        all_goals
          refine name_world (fun V => Half W V rb n (F.set k (strOfNums z64)) g0 g2) (by first | exact HS.out | exact HS2.out) ?_
          intro V hV
          have HV := Lib.hid hV
          clear hV c0 c0' x0 f0
          go_wp2_with (fail)
          go_roundw
          case rel => exact ⟨k + 1, _, rfl, by omega, HT2, HV⟩
          case measure => simp [intOf]; omega
      · have hge : ¬ ((k : Int) < (n : Int)) := by omega
        obtain rfl : k = n := by omega
        have hF : F = List.replicate k (strOfNums z64) := by rw [← HT.out, List.take_of_length_le (by rw [HH.out.lf]; exact Nat.le_refl _)]
        have c0 : wr.cell? ⟨rb, 0, none⟩ = some (.slice (some ⟨g0, 0, none⟩) k k) := by rw [blk_cell HH.out.hd]; rfl
        have c1 : wr.cell? ⟨rb, 1, none⟩ = some (.slice none 0 0) := by rw [blk_cell HH.out.hd]; rfl
        have f1 : wr.frozen? ⟨rb, 1, none⟩ = false := blk_frozen HH.out.hd _
        have hrb := blk_in HH.out.hd
        obtain ⟨A, c, hv, hr⟩ := own_reads_of (d := ByteArray.empty) HH.out.o0
        obtain ⟨e1, e2⟩ : A = some ⟨g0, 0, none⟩ ∧ c = k := by injection hv with e1 _ e3; exact ⟨e1.symm, e3.symm⟩
        subst e1 e2
        have HR := Lib.hid hr
        have HF := Lib.hid hF
        have HLF := Lib.hid HH.out.lf
        clear hlt hF hv hr
        go_wp2_with (first
          | (refine gate_builtin (b := .append) (xs := #[.tmp 25, .tmp 29]) rfl ?_; at_builtin; refine print_append_row_of (w0 := wr) Value.string ByteArray.empty wr.heap.size rfl (.tmp 25) (.tmp 29) 43 9 (.string ByteArray.empty) 16 rfl Try.underlying43 info9 rfl (by decide) (fun _ => rfl) _ [] F _ c c rfl rfl (none_yet wr 9) (HR.out.below ((Below.refl _ _).alloc (Nat.le_refl _) _)) ((Below.refl _ _).alloc (Nat.le_refl _) _) (by simp) (by simp; omega) ?_; intro v3 W3 ho hb hg hat; rw [List.nil_append, HLF.out] at ho; have b1 := (hb.cell (cell_lt c1)).trans c1; have g1 := (hb.frozen (p := ⟨rb, 1, none⟩) hrb).trans f1; obtain ⟨A3, c3, hv3, hl3⟩ := own_slice1 ho; have HO := Lib.hid (new_at HH.out Z HZ.out ho hb); rw [hv3] at HO ⊢; clear ho hb hg hat c0 c1 f1 hv3))
        go_ret
        exact ⟨⟨rb, rfl, ref_rep HF.out HO.out.1⟩, HO.out.2⟩
end
end Go.Proofs.Ytbojokjommmebaa.MoRefNew
