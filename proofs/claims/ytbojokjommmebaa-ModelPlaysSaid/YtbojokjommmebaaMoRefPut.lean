/- The reference: Has, put, Flush. -/
import Derived.Test.YtbojokjommmebaaMoRefMem
namespace Go.Proofs.Ytbojokjommmebaa.MoRefPut
set_option linter.unusedSimpArgs false
set_option linter.unusedVariables false
open Go.RowKit Go.Proofs.YtbojokjommmebaaW.PrintWords Go.Proofs.YtbojokjommmebaaW.PrintLast Go.Proofs.YtbojokjommmebaaW.PrintMore Go.Proofs.Ytbojokjommmebaa.PModelPlays Go.Proofs.Ytbojokjommmebaa.MoMem Go.Proofs.Ytbojokjommmebaa.MoGo Go.Proofs.Ytbojokjommmebaa.MoRefMem
section
variable {W W' : World} {base rb n : Nat} {Z Y : Nat → Prop} {F S : List ByteArray} {L : List Bool} {v0 v1 v2 : Value}
set_option maxRecDepth 100000 in
theorem has_calls (h : RefAt W base Z rb n F S L v0 v1 v2) (i : Int) : Calls Try.prog 16 #[.pointer (some ⟨rb, 0, none⟩), .int .i64 i] W fun e W' => e = .returned (.bool (decide (0 ≤ i ∧ i < (n : Int)))) ∧ W' = W := by
  have c0 := h.c0
  have hf := h.few
  obtain ⟨A, c, hv, hc⟩ := own_slice1 h.o0
  rw [hv] at c0
  clear h hv
  by_cases h0 : 0 ≤ i
  · by_cases h1 : i < (n : Int)
    · rw [decide_eq_true (show 0 ≤ i ∧ i < (n : Int) from ⟨h0, h1⟩)]
      go_enter Try.func16, Try.ntmps16
      go_wp2
      go_ret
      exact ⟨rfl, rfl⟩
    · rw [decide_eq_false (show ¬ (0 ≤ i ∧ i < (n : Int)) from fun h => h1 h.2)]
      have h2 : (n : Int) ≤ i := by omega
      have h3 : decide (i < (n : Int)) = false := decide_eq_false h1
      clear h1
      go_enter Try.func16, Try.ntmps16
      go_wp2
      go_ret
      exact ⟨by simp [h3], rfl⟩
  · rw [decide_eq_false (show ¬ (0 ≤ i ∧ i < (n : Int)) from fun h => h0 h.1)]
    have h2 : i < 0 := by omega
    clear h0
    go_enter Try.func16, Try.ntmps16
    go_wp2
    go_ret
    exact ⟨rfl, rfl⟩
theorem encs_set {α : Type} (enc : α → Value) (xs : List α) (i : Nat) (x : α) : (encs enc xs).set i (enc x) = encs enc (xs.set i x) := by simp [encs, List.map_set]
theorem set_s (h : RefAt W base Z rb n F S L v0 v1 v2) (i : Nat) (hi : i < n) (x : ByteArray) {g c : Nat} (hv : v1 = .slice (some ⟨g, 0, none⟩) n c) :
    RefAt (W.setCell ⟨g, i, none⟩ (.string x)) base Z rb n F (S.set i x) L v0 v1 v2 := by
  have hf := Fr.setCell W g i (.string x)
  have hg : v1.ownBlock = some g := by rw [hv]; rfl
  refine ⟨h.few, h.lf, by rw [List.length_set]; exact h.ls, h.ll, h.lo, hf.at h.hd (fun e => h.n1 g hg e.symm), ?_, ?_, ?_, h.ne, h.ap⟩
  · exact own_move h.o0 (fun k hk => hf.block k (own_lt h.o0 hk) (fun e => h.ne k hk (by rw [e]; exact hg)))
  · have ho := h.o1
    rw [hv] at ho ⊢
    have := (ho.stored i (.string x)).1
    rw [encs_set] at this
    exact this
  · exact own_move h.o2 (fun k hk => hf.block k (own_lt h.o2 hk) (fun e => h.n12 g k hg hk e.symm))
theorem set_l (h : RefAt W base Z rb n F S L v0 v1 v2) (i : Nat) (hi : i < n) (x : Bool) {g c : Nat} (hv : v2 = .slice (some ⟨g, 0, none⟩) n c) :
    RefAt (W.setCell ⟨g, i, none⟩ (.bool x)) base Z rb n F S (L.set i x) v0 v1 v2 := by
  have hf := Fr.setCell W g i (.bool x)
  have hg : v2.ownBlock = some g := by rw [hv]; rfl
  refine ⟨h.few, h.lf, h.ls, by rw [List.length_set]; exact h.ll, h.lo, hf.at h.hd (fun e => h.n2 g hg e.symm), ?_, ?_, ?_, h.ne, h.ap⟩
  · exact own_move h.o0 (fun k hk => hf.block k (own_lt h.o0 hk) (fun e => h.n02 k g hk hg e))
  · exact own_move h.o1 (fun k hk => hf.block k (own_lt h.o1 hk) (fun e => h.n12 k g hk hg e))
  · have ho := h.o2
    rw [hv] at ho ⊢
    have := (ho.stored i (.bool x)).1
    rw [encs_set] at this
    exact this
set_option maxRecDepth 100000 in
theorem put_calls (h : RefAt W base Z rb n F S L v0 v1 v2) (i : Nat) (hi : i < n) (x : ByteArray) :
    Calls Try.prog 30 #[.pointer (some ⟨rb, 0, none⟩), .int .i64 (i : Int), .string x] W fun e W' => (∃ v, e = .returned v) ∧ RefAt W' base Z rb n F (S.set i x) (L.set i true) v0 v1 v2 ∧ Fr W W' (NZ base Z) := by
  obtain ⟨g1, c1, hv1, x1, f1⟩ := own_at h.o1 i hi
  obtain ⟨g2, c2, hv2, _, _⟩ := own_at h.o2 i hi
  rw [encs_get (d := ByteArray.empty) _ _ (by rw [h.ls]; exact hi)] at x1
  have h1 := set_s h i hi x hv1
  obtain ⟨g2', c2', hv2', x2, f2⟩ := own_at h1.o2 i hi
  obtain ⟨rfl, rfl⟩ : g2' = g2 ∧ c2' = c2 := by rw [hv2] at hv2'; injection hv2' with e1 e2 e3; injection e1 with e1; injection e1 with e1; exact ⟨e1.symm, e3.symm⟩
  rw [encs_get (d := false) _ _ (by rw [h.ll]; exact hi)] at x2
  have h2 := set_l h1 i hi true hv2
  have a1 := h.c1
  have a2 := h1.c2
  rw [hv1] at a1
  rw [hv2] at a2
  have hfr : Fr W ((W.setCell ⟨g1, i, none⟩ (.string x)).setCell ⟨g2', i, none⟩ (.bool true)) (NZ base Z) :=
    ((Fr.setCell W g1 i (.string x)).mono (fun k hk => by rw [hk]; exact ⟨own_ge h.o1 (by rw [hv1]; rfl), h.ap _ (.inr (.inr (.inl (by rw [hv1]; rfl))))⟩)).trans
      ((Fr.setCell _ g2' i (.bool true)).mono (fun k hk => by rw [hk]; exact ⟨own_ge h.o2 (by rw [hv2]; rfl), h.ap _ (.inr (.inr (.inr (by rw [hv2]; rfl))))⟩)) (fun k hk => .inl hk)
  have hf := h.few
  have HF := Lib.hid (And.intro h2 hfr)
  clear h h1 h2 hfr hv1 hv2 hv2'
  go_enter Try.func30, Try.ntmps30
  go_wp2
  go_end0
  exact ⟨⟨_, rfl⟩, HF.out.1, HF.out.2⟩
theorem info9 : (Try.prog.info? 9).map (fun i => (i.zero, i.size, i.bytes)) = some (some (.string ByteArray.empty), 1, 16) := by kernel_rfl
theorem info4 : (Try.prog.info? 4).map (fun i => (i.zero, i.size, i.bytes)) = some (some (.bool false), 1, 1) := by kernel_rfl
theorem none_yet (W : World) (t : TypeId) : (W.alloc (.cells #[] t)).ownsRow W.heap.size t 1 (.slice (some ⟨W.heap.size, 0, none⟩) 0 0) ([] : List ByteArray).length (encs Value.string []) :=
  ⟨by simp [encs], .inr ⟨W.heap.size, 0, #[], rfl, Nat.le_refl _, alloc_at _ _, by simp, by unfold maxLen; omega, by simp, by simp [encs]⟩⟩
theorem make4 (n : Nat) (hn : n ≤ 512) (W : World) : (Instr.makeSlice 44 (.int .i64 (n : Int)) (.int .i64 (n : Int))).run Try.prog W = .ok (.slice (some ⟨W.heap.size, 0, none⟩) n n) (W.alloc (.cells (madeCells #[.bool false] n) 4)) := by
  obtain ⟨i, hi, h1⟩ := Option.map_eq_some_iff.1 info4
  simp only [Prod.mk.injEq] at h1
  have := run_make (P := Try.prog) W 44 4 i (.bool false) Try.underlying44 hi h1.1 .i64 .i64 (n : Int) (n : Int) (by omega) (Int.le_refl _) (by rw [h1.2.2]; omega) (by omega)
  rw [this, h1.2.1, Nat.mul_one]; rfl
/-- The world behind a new row and the head's first slice. -/
theorem flush_mid (h : RefAt W base Z rb n F S L v0 v1 v2) {W3 : World} (hb : Below W.heap.size W W3) (u : Value) (o : Obj) :
    ((W3.setCell ⟨rb, 0, none⟩ u).alloc o).cell? ⟨rb, 2, none⟩ = some v2 ∧ ((W3.setCell ⟨rb, 0, none⟩ u).alloc o).frozen? ⟨rb, 2, none⟩ = false := by
  have h3 := blk_alloc (blk_set (blk_below h.hd hb) 0 u) o
  exact ⟨by rw [blk_cell h3]; rfl, blk_frozen h3 _⟩
theorem flush_at (h : RefAt W base Z rb n F S L v0 v1 v2) (hz : ∀ k, Z k → k < W.heap.size) (hbase : base ≤ W.heap.size) {W3 : World} {u : Value} (ho : W3.ownsRow W.heap.size 9 1 u n (encs Value.string S)) (hb : Below W.heap.size W W3) :
    RefAt (((W3.setCell ⟨rb, 0, none⟩ u).alloc (.cells (madeCells #[.bool false] n) 4)).setCell ⟨rb, 2, none⟩ (.slice (some ⟨W3.heap.size, 0, none⟩) n n)) base Z rb n S S (List.replicate n false) u v1 (.slice (some ⟨W3.heap.size, 0, none⟩) n n) ∧
    Fr W (((W3.setCell ⟨rb, 0, none⟩ u).alloc (.cells (madeCells #[.bool false] n) 4)).setCell ⟨rb, 2, none⟩ (.slice (some ⟨W3.heap.size, 0, none⟩) n n)) (NZ base Z) := by
  obtain ⟨V, hV⟩ : ∃ V, V = (((W3.setCell ⟨rb, 0, none⟩ u).alloc (.cells (madeCells #[.bool false] n) 4)).setCell ⟨rb, 2, none⟩ (.slice (some ⟨W3.heap.size, 0, none⟩) n n)) := ⟨_, rfl⟩
  have hrb := blk_in h.hd
  have hs3 := hb.size
  have h3 := blk_set (blk_alloc (blk_set (blk_below h.hd hb) 0 u) (.cells (madeCells #[.bool false] n) 4)) 2 (.slice (some ⟨W3.heap.size, 0, none⟩) n n)
  rw [← hV] at h3 ⊢
  have f1 : Fr W3 (W3.setCell ⟨rb, 0, none⟩ u) (fun k => k = rb) := Fr.setCell W3 rb 0 u
  have f2 : Fr (W3.setCell ⟨rb, 0, none⟩ u) ((W3.setCell ⟨rb, 0, none⟩ u).alloc (.cells (madeCells #[.bool false] n) 4)) (fun k => k = rb) := Fr.of_below ((Below.refl _ _).alloc (Nat.le_refl _) _) _
  have f3 : Fr ((W3.setCell ⟨rb, 0, none⟩ u).alloc (.cells (madeCells #[.bool false] n) 4)) V (fun k => k = rb) := by rw [hV]; exact Fr.setCell _ rb 2 _
  have fr : Fr W3 V (fun k => k = rb) := (f1.trans f2 (fun k hk => .inl hk)).trans f3 (fun k hk => .inl hk)
  have frW : Fr W V (fun k => k = rb) := (Fr.of_below hb (fun k => k = rb)).trans fr (fun k hk => .inl hk)
  have hsz : (W3.setCell ⟨rb, 0, none⟩ u).heap.size = W3.heap.size := by simp
  have hnew : V.heap[W3.heap.size]? = some (.cells (madeCells #[.bool false] n) 4 (0, 0)) := by
    rw [hV, Below.heap_setCell _ _ _ _ (show W3.heap.size ≠ rb from by omega), ← hsz]
    exact alloc_at _ _
  have hn2 : ∀ k, u.ownBlock = some k → W.heap.size ≤ k := fun k hk => own_ge ho hk
  refine ⟨⟨h.few, h.ls, h.ls, by simp, h.lo, h3, ?_, ?_, ?_, ?_, ?_⟩, ?_⟩
  · exact own_lower (own_move ho (fun k hk => fr.block k (own_lt ho hk) (fun e => by have := hn2 k hk; omega))) hbase
  · exact own_move h.o1 (fun k hk => frW.block k (own_lt h.o1 hk) (h.n1 k hk))
  · refine ⟨by simp [encs], .inr ⟨W3.heap.size, n, _, rfl, by omega, hnew, Nat.le_refl _, by have := h.few; unfold maxLen; omega, by rw [size_madeCells, Nat.mul_one], ?_⟩⟩
    rw [Nat.mul_one, List.take_of_length_le (by rw [Array.length_toList, size_madeCells]; exact Nat.le_refl _)]
    simp [madeCells, encs]
    apply List.ext_getElem?
    intro i
    simp only [List.getElem?_map, List.getElem?_range, List.getElem?_replicate]
    by_cases hi : i < n
    · rw [List.getElem?_range hi, if_pos hi]; simp [Nat.mod_one]
    · rw [List.getElem?_eq_none (by simpa using hi), if_neg hi]; rfl
  · intro k hk hk2
    have := hn2 k hk
    have := own_lt h.o1 hk2
    omega
  · intro k hk hzk
    have := hz k hzk
    rcases hk with rfl | hk | hk | hk
    · exact h.ap _ (.inl rfl) hzk
    · have := hn2 k hk; omega
    · exact h.ap _ (.inr (.inr (.inl hk))) hzk
    · injection hk with hk
      have : W3.heap.size = k := hk
      omega
  · exact frW.mono (fun k hk => by rw [hk]; exact ⟨h.lo, h.ap _ (.inl rfl)⟩)
set_option maxRecDepth 100000 in
theorem flush_ref (h : RefAt W base Z rb n F S L v0 v1 v2) (hz : ∀ k, Z k → k < W.heap.size) (hbase : base ≤ W.heap.size) : Calls Try.prog 20 #[.pointer (some ⟨rb, 0, none⟩)] W fun e W' => (∃ v, e = .returned v) ∧ (∃ v0' v2', RefAt W' base Z rb n S S (List.replicate n false) v0' v1 v2') ∧ Fr W W' (NZ base Z) := by
  have a0 := h.c0
  have a1 := h.c1
  have f0 := h.fz 0
  have hlt := blk_in h.hd
  have hfew := h.few
  obtain ⟨A, c, hv, hr⟩ := own_reads_of (d := ByteArray.empty) h.o1
  rw [hv] at a1
  have HR := Lib.hid hr
  have HH := Lib.hid h
  have HLS := Lib.hid h.ls
  have hmk := make4 n (by omega)
  have HZ := Lib.hid hz
  have HBS := Lib.hid hbase
  clear h hr hv hz hbase
  go_enter Try.func20, Try.ntmps20
  go_wp2_with (first
    | (refine gate_builtin (b := .append) (xs := #[.tmp 3, .tmp 7]) rfl ?_; at_builtin; refine print_append_row_of (w0 := W) Value.string ByteArray.empty W.heap.size rfl (.tmp 3) (.tmp 7) 43 9 (.string ByteArray.empty) 16 rfl Try.underlying43 info9 rfl (by decide) (fun _ => rfl) _ [] S A n c rfl rfl (none_yet W 9) (HR.out.below ((Below.refl _ _).alloc (Nat.le_refl _) _)) ((Below.refl _ _).alloc (Nat.le_refl _) _) (by simp) (by simp; omega) ?_; intro v3 W3 ho hb hg hat; rw [List.nil_append, HLS.out] at ho; have b0 := (hb.cell (cell_lt a0)).trans a0; have g0 := (hb.frozen (p := ⟨rb, 0, none⟩) hlt).trans f0; obtain ⟨A3, c3, hv3, hl3⟩ := own_slice1 ho; have HO := Lib.hid (flush_at HH.out HZ.out HBS.out ho hb); rw [hv3] at HO; obtain ⟨b2, g2⟩ := flush_mid HH.out hb (.slice A3 n c3) (.cells (madeCells #[.bool false] n) 4); rw [hv3]; clear ho hb hg hat hv3 a0 a1 f0))
  go_end0
  exact ⟨⟨_, rfl⟩, ⟨_, _, HO.out.1⟩, HO.out.2⟩
end
end Go.Proofs.Ytbojokjommmebaa.MoRefPut
