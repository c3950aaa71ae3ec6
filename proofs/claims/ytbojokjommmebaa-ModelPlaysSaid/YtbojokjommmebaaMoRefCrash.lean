/- The reference: Crash. -/
import Derived.Test.YtbojokjommmebaaMoJoin
namespace Go.Proofs.Ytbojokjommmebaa.MoRefCrash
set_option linter.unusedSimpArgs false
set_option linter.unusedVariables false
open Go.RowKit Go.Proofs.YtbojokjommmebaaW.PrintWords Go.Proofs.YtbojokjommmebaaW.PrintLast Go.Proofs.YtbojokjommmebaaW.PrintMore Go.Proofs.Ytbojokjommmebaa.PModelPlays Go.Proofs.Ytbojokjommmebaa.MoMem Go.Proofs.Ytbojokjommmebaa.MoGo Go.Proofs.Ytbojokjommmebaa.MoPut Go.Proofs.Ytbojokjommmebaa.MoWrite Go.Proofs.Ytbojokjommmebaa.MoLoose Go.Proofs.Ytbojokjommmebaa.MoCrash Go.Proofs.Ytbojokjommmebaa.MoReg Go.Proofs.Ytbojokjommmebaa.MoKeeps Go.Proofs.Ytbojokjommmebaa.MoPure Go.Proofs.Ytbojokjommmebaa.MoRefMem Go.Proofs.Ytbojokjommmebaa.MoRefPut Go.Proofs.Ytbojokjommmebaa.MoRefWrite Go.Proofs.Ytbojokjommmebaa.MoRefTrim Go.Proofs.Ytbojokjommmebaa.MoRefRows Go.Proofs.Ytbojokjommmebaa.MoRefNew Go.Proofs.Ytbojokjommmebaa.MoRefSame Go.Proofs.Ytbojokjommmebaa.MoJoin
section
variable {P : Program} {md : Region.Mode} {ops : Array Oper} {Q : Exit → Act → World → Prop} {S : World → Prop} {fuel : Nat} {listed : Array Bool} {a : Act} {w w' : World}
/-- A store comes up. -/
theorem any_store (i : Nat) (hr : Region.ready md ops listed = [i]) (hi : decide (i < ops.size) = true) (hd : (opr ops i).dst = none) (hc : Region.wanted (opr ops i) (yielded ops a.tmps) = true)
    (he : (execOp a.eval (opr ops i)).run P w = .ok .skip w') (hS : S w') (hp : wpAnyH P md ops Q S fuel (listed.setIfInBounds i true) a w') : wpAnyH P md ops Q S (fuel + 1) listed a w := by
  refine wpAnyH_ready hr (by simp) (AllReadyH.cons (opr_is (of_decide_eq_true hi)) (fun K hK => ?_) AllReadyH.nil)
  rw [if_pos hc]
  unfold Oper.wp
  rw [he]
  refine hK.out _ _ hS (fun _ => ?_)
  rw [hd]; exact hp
theorem exec_storeV {ev : Operand → Value} {o : Oper} (ty : TypeId) (x y : Operand) (p : Addr) (s : ByteArray) (u : Value) (hz : ∀ w, (Go.sizeOf ty).run Try.prog w = .ok 1 w) (ho : o.op = .store ty x y) (hx : ev x = .pointer (some p)) (hy : ev y = .string s) (hc : w.cell? p = some u) (hf : w.frozen? p = false) :
    (execOp ev o).run Try.prog w = .ok .skip (w.setCell p (.string s)) := by
  unfold execOp
  simp [ho, hx, hy, Instr.storeAt, Instr.sureAddr, Sem.run_bind, Sem.run_pure, go_sem, hc, hf, hz]
theorem exec_idx30 {ev : Operand → Value} {o : Oper} (x ix : Operand) (ad : Addr) (n c k : Nat) (ho : o.op = .indexAddr 30 x ix) (hx : ev x = .slice (some ad) n c) (hi : ev ix = .int .i64 (k : Int)) (hk : k < n) : (execOp ev o).run Try.prog w = .ok (.value (.pointer (some (ad.add k)))) w := by
  have h1 : ¬ ((k : Int) < 0) := by omega
  have h2 : (k : Int) < n := by omega
  have he : Try.prog.elem 30 = 3 := by kernel_rfl
  have hs : (Go.sizeOf 3).run Try.prog w = .ok 1 w := by kernel_rfl
  unfold execOp
  simp [ho, hx, hi, go_sem, Try.underlying30, h1, h2, he, hs]
end
section
variable {W V V3 : World} {base rb n : Nat} {Z : Nat → Prop} {F S G : List ByteArray} {L : List Bool} {v0 v1 v2 u : Value}
/-- A new row of what is fixed. -/
theorem ref_set0 (h : RefAt V base Z rb n F S L v0 v1 v2) (hz : ∀ k, Z k → k < V.heap.size) (hbase : base ≤ V.heap.size) (ho : V3.ownsRow V.heap.size 9 1 u n (encs Value.string G)) (hG : G.length = n) (hb : Below V.heap.size V V3) :
    RefAt (V3.setCell ⟨rb, 0, none⟩ u) base Z rb n G S L u v1 v2 ∧ Fr V (V3.setCell ⟨rb, 0, none⟩ u) (fun k => k = rb) := by
  have hf := Fr.setCell V3 rb 0 u
  have h3 := RefAt.below h hb
  have hu : ∀ k, u.ownBlock = some k → V.heap.size ≤ k := fun k hk => own_ge ho hk
  have hrb := blk_in h.hd
  refine ⟨⟨h.few, hG, h.ls, h.ll, h.lo, blk_set h3.hd 0 u, ?_, ?_, ?_, ?_, ?_⟩, (Fr.of_below hb (fun k => k = rb)).trans hf (fun k hk => .inl hk)⟩
  · exact own_lower (own_move ho (fun k hk => hf.block k (own_lt ho hk) (fun e => by have := hu k hk; omega))) hbase
  · exact own_move h3.o1 (fun k hk => hf.block k (own_lt h3.o1 hk) (h3.n1 k hk))
  · exact own_move h3.o2 (fun k hk => hf.block k (own_lt h3.o2 hk) (h3.n2 k hk))
  · intro k hk hk2
    have h1 := own_lt h.o1 hk2
    have h2 := hu k hk
    omega
  · intro k hk hzk
    have h1 := hz k hzk
    rcases hk with rfl | hk | hk | hk
    · exact h.ap _ (.inl rfl) hzk
    · have := hu k hk; omega
    · exact h.ap _ (.inr (.inr (.inl hk))) hzk
    · exact h.ap _ (.inr (.inr (.inr hk))) hzk
theorem ref_set1 (h : RefAt V base Z rb n F S L v0 v1 v2) (hz : ∀ k, Z k → k < V.heap.size) (hbase : base ≤ V.heap.size) (ho : V3.ownsRow V.heap.size 9 1 u n (encs Value.string G)) (hG : G.length = n) (hb : Below V.heap.size V V3) :
    RefAt (V3.setCell ⟨rb, 1, none⟩ u) base Z rb n F G L v0 u v2 ∧ Fr V (V3.setCell ⟨rb, 1, none⟩ u) (fun k => k = rb) := by
  have hf := Fr.setCell V3 rb 1 u
  have h3 := RefAt.below h hb
  have hu : ∀ k, u.ownBlock = some k → V.heap.size ≤ k := fun k hk => own_ge ho hk
  have hrb := blk_in h.hd
  refine ⟨⟨h.few, h.lf, hG, h.ll, h.lo, blk_set h3.hd 1 u, ?_, ?_, ?_, ?_, ?_⟩, (Fr.of_below hb (fun k => k = rb)).trans hf (fun k hk => .inl hk)⟩
  · exact own_move h3.o0 (fun k hk => hf.block k (own_lt h3.o0 hk) (h3.n0 k hk))
  · exact own_lower (own_move ho (fun k hk => hf.block k (own_lt ho hk) (fun e => by have := hu k hk; omega))) hbase
  · exact own_move h3.o2 (fun k hk => hf.block k (own_lt h3.o2 hk) (h3.n2 k hk))
  · intro k hk hk2
    have h1 := own_lt h.o0 hk
    have h2 := hu k hk2
    omega
  · intro k hk hzk
    have h1 := hz k hzk
    rcases hk with rfl | hk | hk | hk
    · exact h.ap _ (.inl rfl) hzk
    · exact h.ap _ (.inr (.inl hk)) hzk
    · have := hu k hk; omega
    · exact h.ap _ (.inr (.inr (.inr hk))) hzk
/-- One of what is fixed. -/
theorem set_f (h : RefAt W base Z rb n F S L v0 v1 v2) (i : Nat) (x : ByteArray) {g c : Nat} (hv : v0 = .slice (some ⟨g, 0, none⟩) n c) :
    RefAt (W.setCell ⟨g, i, none⟩ (.string x)) base Z rb n (F.set i x) S L v0 v1 v2 := by
  have hf := Fr.setCell W g i (.string x)
  have hg : v0.ownBlock = some g := by rw [hv]; rfl
  refine ⟨h.few, by rw [List.length_set]; exact h.lf, h.ls, h.ll, h.lo, hf.at h.hd (fun e => h.n0 g hg e.symm), ?_, ?_, ?_, h.ne, h.ap⟩
  · have ho := h.o0
    rw [hv] at ho ⊢
    have := (ho.stored i (.string x)).1
    rw [encs_set] at this
    exact this
  · exact own_move h.o1 (fun k hk => hf.block k (own_lt h.o1 hk) (fun e => h.ne g hg (by rw [← e]; exact hk)))
  · exact own_move h.o2 (fun k hk => hf.block k (own_lt h.o2 hk) (fun e => h.n02 g k hg hk e.symm))
theorem settle_d_now (b : Bk) : b.settle.d = b.now := by
  rw [← settle_now b]
  have h := settle_l b
  unfold Bk.now
  rw [h, if_neg (by decide)]
theorem set_settle_D (y : List Bk) (m : Nat) : (y.set m (y.getD m zb).settle).map fD = (y.map fD).set m (strOfNums (y.getD m zb).now) := by
  rw [List.map_set]
  congr 1
  show strOfNums (y.getD m zb).settle.d = _
  rw [settle_d_now]
theorem set_settle_now (y : List Bk) (m i : Nat) : ((y.set m (y.getD m zb).settle).getD i zb).now = (y.getD i zb).now := by
  rw [getD_set_if]
  split
  · rename_i h; rw [← h.1, settle_now]
  · rfl
theorem clr_D (y : List Bk) : (y.map clrB).map fD = y.map fD := by rw [List.map_map]; rfl
theorem clr_S (y : List Bk) : (y.map clrB).map fS = y.map fD := by
  rw [List.map_map]
  refine List.map_congr_left (fun b _ => ?_)
  show strOfNums (clrB b).now = strOfNums b.d
  unfold Bk.now clrB
  rw [if_neg (by simp)]
theorem clr_L (y : List Bk) : (y.map clrB).map fL = List.replicate y.length false := by
  apply List.ext_getElem?
  intro i
  rw [List.getElem?_map, List.getElem?_map, List.getElem?_replicate]
  by_cases h : i < y.length
  · rw [List.getElem?_eq_getElem h, if_pos h]; rfl
  · rw [List.getElem?_eq_none (by omega), if_neg h]; rfl
theorem ref_clr {y : List Bk} (hy : y.length = n) (h : RefAt W base Z rb n (y.map fD) (y.map fD) (List.replicate n false) v0 v1 v2) : RefE W base Z rb (y.map clrB) := by
  refine ⟨v0, v1, v2, ?_⟩
  unfold RefB
  rw [List.length_map, clr_D, clr_S, clr_L, hy]
  exact h
def RCrash (W : World) (Z : Nat → Prop) (r : Option (List Bk)) (e : Ending) (W' : World) : Prop :=
  match r with
  | none => e = .returned (.tuple #[.pointer none, .int .i64 3]) ∧ Below W.heap.size W W'
  | some x => ∃ nb, e = .returned (.tuple #[.pointer (some ⟨nb, 0, none⟩), .int .i64 0]) ∧ RefE W' W.heap.size Z nb x ∧ Below W.heap.size W W'
theorem own_reads_slice {e : TypeId} {v : Value} {xs : List ByteArray} (h : W.ownsRow base e 1 v n (encs Value.string xs)) (hn : 0 < n) : ∃ g c, v = .slice (some ⟨g, 0, none⟩) n c := by
  obtain ⟨g, c, hv, _⟩ := own_at h 0 hn
  exact ⟨g, c, hv⟩
set_option maxRecDepth 100000 in
set_option maxHeartbeats 16000000 in
theorem rcrash_calls {Y : Nat → Prop} {bs : List Bk} (h : RefE W base Y rb bs) (hz : ∀ k, Z k → k < W.heap.size) (A : Option Addr) (c2 : Nat) (l : List Int) (hr : Kd.C (Kd.int .i64) W A l.length l) (hc2 : l.length ≤ c2) :
    Calls Try.prog 24 #[.pointer (some ⟨rb, 0, none⟩), .slice A l.length c2] W (RCrash W Z (crashL bs l)) := by
  have hmx := Kd.C_max hr
  obtain ⟨A0, c0, h0, hc0, hqq⟩ := refE_d h
  clear hqq
  have hf := h.few
  have HR0 := Lib.hid h
  have HL := Lib.hid hr
  have HZ := Lib.hid hz
  obtain ⟨n, hn⟩ : ∃ n, n = bs.length := ⟨_, rfl⟩
  rw [← hn] at h0 hc0 hf
  have HN := Lib.hid hn
  have HNEW := Lib.hid (new_ref (W := W) hf Z hz)
  obtain ⟨R, hR⟩ : ∃ R, R = crashL bs l := ⟨_, rfl⟩
  rw [← hR]
  have HRR := Lib.hid hR
  clear h hr hn hR hz
  go_enter Try.func24, Try.ntmps24
  go_wp2_with (fail)
  refine HNEW.out.mono ?_
  rintro _ W1 ⟨⟨xb, rfl, hx⟩, hb⟩
  obtain ⟨v0, v1, v2, hx⟩ := hx
  have hx2 : RefAt W1 W.heap.size Z xb n (List.replicate n (strOfNums z64)) (List.replicate n (strOfNums z64)) (List.replicate n false) v0 v1 v2 := by
    have := hx
    unfold RefB at this
    rw [List.length_replicate, rep_map, rep_map, rep_map] at this
    exact this
  have HX1 := Lib.hid hx2
  have HB1 := Lib.hid hb
  have HR1 := Lib.hid (HR0.out.below hb)
  have HZ1 := Lib.hid (show ∀ k, Z k → k < W1.heap.size from fun k hk => Nat.lt_of_lt_of_le (HZ.out k hk) hb.size)
  clear hx hx2 hb h0 HNEW
  obtain ⟨w0, w1, w2, hw⟩ := HR1.out
  obtain ⟨A1, c1, hv1, hrd⟩ := own_reads_of (d := ByteArray.empty) (RefAt.o0 hw)
  have p0 := RefAt.c0 hw
  rw [hv1] at p0
  rw [← HN.out] at p0 hrd
  have q0 := RefAt.c0 HX1.out
  have f0 := RefAt.fz HX1.out 0
  have hxlt := blk_in HX1.out.hd
  have hrlt1 := blk_in (RefAt.hd hw)
  have HRD := Lib.hid hrd
  have HLF := Lib.hid (show (bs.map fD).length = n from by rw [List.length_map, HN.out])
  clear hw hv1 hrd
  go_wp2_with (first
    | (refine gate_builtin (b := .append) (xs := #[.tmp 15, .tmp 19]) rfl ?_; at_builtin; refine print_append_row_of (w0 := W1) Value.string ByteArray.empty W1.heap.size rfl (.tmp 15) (.tmp 19) 43 9 (.string ByteArray.empty) 16 rfl Try.underlying43 info9 rfl (by decide) (fun _ => rfl) _ [] (bs.map fD) A1 n c1 rfl rfl (none_yet W1 9) (HRD.out.below ((Below.refl _ _).alloc (Nat.le_refl _) _)) ((Below.refl _ _).alloc (Nat.le_refl _) _) (by simp) (by simp; omega) ?_; intro v3 W3 ho hb hg hat; rw [List.nil_append, HLF.out] at ho; have b0 := (hb.cell (cell_lt q0)).trans q0; have g0 := (hb.frozen (p := ⟨xb, 0, none⟩) hxlt).trans f0; obtain ⟨A3, c3, hv3, hl3⟩ := own_slice1 ho; have HO := Lib.hid (ref_set0 HX1.out HZ1.out HB1.out.size ho HLF.out hb); rw [hv3] at HO ⊢; clear ho hb hg hat hv3 p0 q0 f0))
  have HXS := Lib.hid (show ∃ v0 v1 v2, RefAt (W3.setCell ⟨xb, 0, none⟩ (.slice A3 n c3)) W.heap.size Z xb n (bs.map fD) (List.replicate n (strOfNums z64)) (List.replicate n false) v0 v1 v2 from ⟨_, _, _, HO.out.1⟩)
  have HBS := Lib.hid (HO.out.2.below HB1.out (fun k hk => by rw [hk]; exact HX1.out.lo))
  obtain ⟨W4, hW4⟩ : ∃ W4, W4 = W3.setCell ⟨xb, 0, none⟩ (.slice A3 n c3) := ⟨_, rfl⟩
  rw [← hW4] at HXS HBS ⊢
  clear HX1 HO hW4 HR1 HB1 HZ1 HRD b0 g0 hxlt hrlt1
  go_loopw [7] (fun v7 wr => ∃ (k : Nat) (y : List Bk), v7 = .int .i64 (k : Int) ∧ k ≤ l.length ∧ Hid (keepL bs bs l = keepL bs y (l.drop k)) ∧ Hid (y.length = n) ∧ Hid (∀ i, (y.getD i zb).now = (bs.getD i zb).now) ∧
    Hid (∃ v0 v1 v2, RefAt wr W.heap.size Z xb n (y.map fD) (List.replicate n (strOfNums z64)) (List.replicate n false) v0 v1 v2) ∧ Hid (Below W.heap.size W wr)) (fun v7 _ => ((l.length : Int) - intOf v7).toNat)
  case atStart => exact ⟨0, bs, rfl, by omega, Lib.hid rfl, Lib.hid HN.out.symm, Lib.hid (fun _ => rfl), HXS, HBS⟩
  case round =>
    clear HXS HBS
    obtain ⟨k, y, rfl, hk, HK, HYL, HYN, HX, HB⟩ := hrel
    by_cases hlt : k < l.length
    · obtain ⟨ad, rfl, hcell⟩ := (Kd.reads_of_C (enc := Value.int .i64) (d := (0 : Int)) (h1 := fun _ => rfl) (Kd.C_below HL.out HB.out)).2.2 (by omega)
      have x0 := hcell k hlt
      have hd : l.drop k = l.getD k 0 :: l.drop (k + 1) := by
        rw [List.drop_eq_getElem_cons hlt, List.getD_eq_getElem?_getD, List.getElem?_eq_getElem hlt]; rfl
      have hkk := HK.out
      rw [hd] at hkk
      simp only [keepL] at hkk
      have hadlt : ad.block < W.heap.size := by
        obtain ⟨ad', e', hcell'⟩ := (Kd.reads_of_C (enc := Value.int .i64) (d := (0 : Int)) (h1 := fun _ => rfl) HL.out).2.2 (by omega)
        injection e' with e'
        subst e'
        have := cell_lt (hcell' k hlt)
        have hb2 : (ad.add k).block = ad.block := by unfold Addr.add; split <;> rfl
        omega
      clear hd hcell
      have HR := Lib.hid (HR0.out.below HB.out)
      generalize l.getD k 0 = a at *
      have XK := Lib.hid x0
      have hha := has_is HR.out a
      rw [← HN.out] at hkk
      clear x0
      by_cases hin : 0 ≤ a ∧ a < (n : Int)
      · obtain ⟨m, rfl⟩ := Int.eq_ofNat_of_zero_le hin.1
        have hm : m < n := by omega
        rw [Int.toNat_natCast] at hkk
        have HHAS := Lib.hid (show decide (0 ≤ (m : Int) ∧ (m : Int) < (bs.length : Int)) = true from decide_eq_true (by rw [← HN.out]; exact hin))
        obtain ⟨AL, cl, l2, _, lc⟩ := refE_l HR.out
        rw [← HN.out] at l2 lc
        obtain ⟨gl, rfl, xl⟩ := lc m hm
        have HL2 := Lib.hid l2
        cases hl : (bs.getD m zb).l with
        | false =>
          rw [hl] at xl hkk
          rw [if_neg (by simp)] at hkk
          have hRn : R = none := by rw [HRR.out]; unfold crashL; rw [hkk]; rfl
          have HRN := Lib.hid hRn
          have XL := Lib.hid xl
          clear hkk hl hin hRn xl l2 lc hha hadlt
          go_wp2_with (fail)
          refine wp_region_held (S := fun w' => Below wr.heap.size wr w') (by kernel_rfl) ?_
          have SS : Below wr.heap.size wr { wr with drawn := wr.drawn + 1 } := (Below.refl _ _).drew
          refine take 0 29 (.pointer (some ⟨rb, 0, none⟩)) (by kernel_rfl) (by kernel_rfl) (by kernel_rfl) (by kernel_rfl) (by kernel_rfl) (fun _ _ _ h => h) (by kernel_rfl) (fun _ _ => by kernel_rfl) SS ?_
          refine take 1 30 (.slice (some ad) l.length c2) (by kernel_rfl) (by kernel_rfl) (by kernel_rfl) (by kernel_rfl) (by kernel_rfl) (fun _ _ _ h => h) (by kernel_rfl) (fun _ _ => by kernel_rfl) SS ?_
          refine take 2 31 (.int .i64 (k : Int)) (by kernel_rfl) (by kernel_rfl) (by kernel_rfl) (by kernel_rfl) (by kernel_rfl) (fun _ _ _ h => h) (by kernel_rfl) (fun _ _ => by kernel_rfl) SS ?_
          refine take 3 32 (.pointer (some (ad.add k))) (by kernel_rfl) (by kernel_rfl) (by kernel_rfl) (by kernel_rfl) (by kernel_rfl) (fun _ _ _ h => h) (by kernel_rfl) (fun w' hS => exec_idx30 (.tmp 30) (.tmp 31) ad l.length c2 k (by kernel_rfl) (by kernel_rfl) (by kernel_rfl) hlt) SS ?_
          refine take 4 33 (.int .i64 (m : Int)) (by kernel_rfl) (by kernel_rfl) (by kernel_rfl) (by kernel_rfl) (by kernel_rfl) (fun _ _ _ h => h) (by kernel_rfl) (fun w' hS => exec_load3 (.tmp 32) (ad.add k) (m : Int) (by kernel_rfl) (by kernel_rfl) ((hS.cell (cell_lt XK.out)).trans XK.out)) SS ?_
          try simp only [Act.put, List.setIfInBounds_toArray, List.set_cons_zero, List.set_cons_succ]
          refine any_call 5 34 16 #[.pointer (some ⟨rb, 0, none⟩), .int .i64 (m : Int)] (by kernel_rfl) (by kernel_rfl) (by kernel_rfl) (by kernel_rfl) (by kernel_rfl) ?_
          refine (has_is (HR.out.below SS) (m : Int)).mono ?_
          rintro _ W2 ⟨rfl, hw⟩
          rw [HHAS.out]
          subst hw
          refine ⟨_, rfl, SS, ?_⟩
          try simp only [Act.put, List.setIfInBounds_toArray, List.set_cons_zero, List.set_cons_succ]
          refine take 6 35 (.bool false) (by kernel_rfl) (by kernel_rfl) (by kernel_rfl) (by kernel_rfl) (by kernel_rfl) (fun _ _ _ h => h) (by kernel_rfl) (fun _ _ => by kernel_rfl) SS ?_
          refine take 7 36 (.bool false) (by kernel_rfl) (by kernel_rfl) (by kernel_rfl) (by kernel_rfl) (by kernel_rfl) (fun _ _ _ h => h) (by kernel_rfl) (fun _ _ => by kernel_rfl) SS ?_
          refine take 8 37 (.pointer (some ⟨rb, 0, none⟩)) (by kernel_rfl) (by kernel_rfl) (by kernel_rfl) (by kernel_rfl) (by kernel_rfl) (fun _ _ _ h => h) (by kernel_rfl) (fun _ _ => by kernel_rfl) SS ?_
          refine take 9 38 (.pointer (some ⟨rb, 0, none⟩)) (by kernel_rfl) (by kernel_rfl) (by kernel_rfl) (by kernel_rfl) (by kernel_rfl) (fun _ _ _ h => h) (by kernel_rfl) (fun _ _ => by kernel_rfl) SS ?_
          refine take 10 39 (.pointer (some ⟨rb, 2, none⟩)) (by kernel_rfl) (by kernel_rfl) (by kernel_rfl) (by kernel_rfl) (by kernel_rfl) (fun _ _ _ h => h) (by kernel_rfl) (fun _ _ => by kernel_rfl) SS ?_
          refine take 11 40 (.slice (some ⟨gl, 0, none⟩) n cl) (by kernel_rfl) (by kernel_rfl) (by kernel_rfl) (by kernel_rfl) (by kernel_rfl) (fun _ _ _ h => h) (by kernel_rfl) (fun w' hS => exec_loadS 44 (.tmp 39) ⟨rb, 2, none⟩ (some ⟨gl, 0, none⟩) n cl (fun _ => by kernel_rfl) (by kernel_rfl) (by kernel_rfl) ((hS.cell (cell_lt HL2.out)).trans HL2.out)) SS ?_
          refine take 12 41 (.slice (some ad) l.length c2) (by kernel_rfl) (by kernel_rfl) (by kernel_rfl) (by kernel_rfl) (by kernel_rfl) (fun _ _ _ h => h) (by kernel_rfl) (fun _ _ => by kernel_rfl) SS ?_
          refine take 13 42 (.int .i64 (k : Int)) (by kernel_rfl) (by kernel_rfl) (by kernel_rfl) (by kernel_rfl) (by kernel_rfl) (fun _ _ _ h => h) (by kernel_rfl) (fun _ _ => by kernel_rfl) SS ?_
          refine take 14 43 (.pointer (some (ad.add k))) (by kernel_rfl) (by kernel_rfl) (by kernel_rfl) (by kernel_rfl) (by kernel_rfl) (fun _ _ _ h => h) (by kernel_rfl) (fun w' hS => exec_idx30 (.tmp 41) (.tmp 42) ad l.length c2 k (by kernel_rfl) (by kernel_rfl) (by kernel_rfl) hlt) SS ?_
          refine take 15 44 (.int .i64 (m : Int)) (by kernel_rfl) (by kernel_rfl) (by kernel_rfl) (by kernel_rfl) (by kernel_rfl) (fun _ _ _ h => h) (by kernel_rfl) (fun w' hS => exec_load3 (.tmp 43) (ad.add k) (m : Int) (by kernel_rfl) (by kernel_rfl) ((hS.cell (cell_lt XK.out)).trans XK.out)) SS ?_
          refine take 16 45 (.pointer (some ⟨gl, m, none⟩)) (by kernel_rfl) (by kernel_rfl) (by kernel_rfl) (by kernel_rfl) (by kernel_rfl) (fun _ _ _ h => h) (by kernel_rfl) (fun w' hS => exec_idx44 (.tmp 40) (.tmp 44) gl n cl m (by kernel_rfl) (by kernel_rfl) (by kernel_rfl) hm) SS ?_
          refine take 17 46 (.bool false) (by kernel_rfl) (by kernel_rfl) (by kernel_rfl) (by kernel_rfl) (by kernel_rfl) (fun _ _ _ h => h) (by kernel_rfl) (fun w' hS => exec_loadV 4 (.tmp 45) ⟨gl, m, none⟩ _ (fun _ => by kernel_rfl) (by kernel_rfl) (by kernel_rfl) ((hS.cell (cell_lt XL.out)).trans XL.out)) SS ?_
          refine take 18 47 (.bool true) (by kernel_rfl) (by kernel_rfl) (by kernel_rfl) (by kernel_rfl) (by kernel_rfl) (fun _ _ _ h => h) (by kernel_rfl) (fun _ _ => by kernel_rfl) SS ?_
          refine take 19 48 (.bool true) (by kernel_rfl) (by kernel_rfl) (by kernel_rfl) (by kernel_rfl) (by kernel_rfl) (fun _ _ _ h => h) (by kernel_rfl) (fun _ _ => by kernel_rfl) SS ?_
          try simp only [Act.put, List.setIfInBounds_toArray, List.set_cons_zero, List.set_cons_succ]
          refine wpAnyH_done (by kernel_rfl) ?_ _
          have HB2 := Lib.hid (bthen HB.out SS)
          clear SS
          go_wp2_with (fail)
          go_ret2
          rw [HRN.out]
          exact ⟨rfl, HB2.out⟩
        | true =>
          rw [hl] at xl hkk
          rw [if_pos ⟨by omega, by omega, rfl⟩] at hkk
          have XL := Lib.hid xl
          have HK2 := Lib.hid hkk
          have HYL2 := Lib.hid (show (y.set m (y.getD m zb).settle).length = n from by rw [List.length_set]; exact HYL.out)
          have HYN2 := Lib.hid (show ∀ i, ((y.set m (y.getD m zb).settle).getD i zb).now = (bs.getD i zb).now from fun i => (set_settle_now y m i).trans (HYN.out i))
          have HYM := Lib.hid (show (y.set m (y.getD m zb).settle).map fD = (y.map fD).set m (strOfNums (bs.getD m zb).now) from by rw [set_settle_D, HYN.out m])
          obtain ⟨AS, cs, s1, _, sc⟩ := refE_s HR.out
          rw [← HN.out] at s1 sc
          obtain ⟨gs, rfl, xs⟩ := sc m hm
          have HRS0 := Lib.hid s1
          have XS0 := Lib.hid xs
          obtain ⟨z0, z1, z2, hz⟩ := HX.out
          obtain ⟨gf, cf, hv0, xf, ff⟩ := own_at (RefAt.o0 hz) m hm
          have q0 := RefAt.c0 hz
          have hgl := own_ge (RefAt.o0 hz) (k := gf) (by rw [hv0]; rfl)
          have hne0 := RefAt.n0 hz gf (by rw [hv0]; rfl)
          have HXR0 := Lib.hid hz
          have HV0 := Lib.hid hv0
          rw [hv0] at q0
          rw [encs_get (d := ByteArray.empty) _ _ (by rw [List.length_map, HYL.out]; exact hm)] at xf
          have HXF0 := Lib.hid q0
          have XF0 := Lib.hid (And.intro xf ff)
          have HGE := Lib.hid hgl
          have hrlt : rb < W.heap.size := by obtain ⟨a1, a2, a3, h1⟩ := HR0.out; exact blk_in (RefAt.hd h1)
          have hslt : gs < W.heap.size := by
            obtain ⟨a1, a2, a3, h1⟩ := HR0.out
            obtain ⟨g', c', e1, _, _⟩ := own_at (RefAt.o1 h1) m (by rw [← HN.out]; exact hm)
            have e2 := MoRefMem.own_lt (RefAt.o1 h1) (k := g') (by rw [e1]; rfl)
            have e3 := (HB.out.cell (cell_lt (RefAt.c1 h1))).trans (RefAt.c1 h1)
            rw [s1, e1] at e3
            injection e3 with e3
            injection e3 with e3 _ _
            injection e3 with e3
            injection e3 with e3
            omega
          have hadb : (ad.add k).block = ad.block := by unfold Addr.add; split <;> rfl
          have HNN := Lib.hid (show (¬ xb = gf) ∧ (¬ (ad.add k).block = gf) ∧ (¬ rb = gf) ∧ (¬ gs = gf) from ⟨fun e => hne0 e.symm, by rw [hadb]; omega, by omega, by omega⟩)
          obtain ⟨sm, hsm⟩ : ∃ sm, sm = strOfNums (bs.getD m zb).now := ⟨_, rfl⟩
          rw [← hsm] at HYM XS0
          clear hkk hl hin xl l2 lc hha hadlt s1 sc xs hz hv0 q0 hgl hne0 xf ff hrlt hslt hadb hsm
          go_wp2_with (fail)
          refine wp_region_held (S := fun w' => Below wr.heap.size wr w') (by kernel_rfl) ?_
          have SS : Below wr.heap.size wr { wr with drawn := wr.drawn + 1 } := (Below.refl _ _).drew
          refine take 0 29 (.pointer (some ⟨rb, 0, none⟩)) (by kernel_rfl) (by kernel_rfl) (by kernel_rfl) (by kernel_rfl) (by kernel_rfl) (fun _ _ _ h => h) (by kernel_rfl) (fun _ _ => by kernel_rfl) SS ?_
          refine take 1 30 (.slice (some ad) l.length c2) (by kernel_rfl) (by kernel_rfl) (by kernel_rfl) (by kernel_rfl) (by kernel_rfl) (fun _ _ _ h => h) (by kernel_rfl) (fun _ _ => by kernel_rfl) SS ?_
          refine take 2 31 (.int .i64 (k : Int)) (by kernel_rfl) (by kernel_rfl) (by kernel_rfl) (by kernel_rfl) (by kernel_rfl) (fun _ _ _ h => h) (by kernel_rfl) (fun _ _ => by kernel_rfl) SS ?_
          refine take 3 32 (.pointer (some (ad.add k))) (by kernel_rfl) (by kernel_rfl) (by kernel_rfl) (by kernel_rfl) (by kernel_rfl) (fun _ _ _ h => h) (by kernel_rfl) (fun w' hS => exec_idx30 (.tmp 30) (.tmp 31) ad l.length c2 k (by kernel_rfl) (by kernel_rfl) (by kernel_rfl) hlt) SS ?_
          refine take 4 33 (.int .i64 (m : Int)) (by kernel_rfl) (by kernel_rfl) (by kernel_rfl) (by kernel_rfl) (by kernel_rfl) (fun _ _ _ h => h) (by kernel_rfl) (fun w' hS => exec_load3 (.tmp 32) (ad.add k) (m : Int) (by kernel_rfl) (by kernel_rfl) ((hS.cell (cell_lt XK.out)).trans XK.out)) SS ?_
          try simp only [Act.put, List.setIfInBounds_toArray, List.set_cons_zero, List.set_cons_succ]
          refine any_call 5 34 16 #[.pointer (some ⟨rb, 0, none⟩), .int .i64 (m : Int)] (by kernel_rfl) (by kernel_rfl) (by kernel_rfl) (by kernel_rfl) (by kernel_rfl) ?_
          refine (has_is (HR.out.below SS) (m : Int)).mono ?_
          rintro _ W2 ⟨rfl, hw⟩
          rw [HHAS.out]
          subst hw
          refine ⟨_, rfl, SS, ?_⟩
          try simp only [Act.put, List.setIfInBounds_toArray, List.set_cons_zero, List.set_cons_succ]
          refine take 6 35 (.bool false) (by kernel_rfl) (by kernel_rfl) (by kernel_rfl) (by kernel_rfl) (by kernel_rfl) (fun _ _ _ h => h) (by kernel_rfl) (fun _ _ => by kernel_rfl) SS ?_
          refine take 7 36 (.bool false) (by kernel_rfl) (by kernel_rfl) (by kernel_rfl) (by kernel_rfl) (by kernel_rfl) (fun _ _ _ h => h) (by kernel_rfl) (fun _ _ => by kernel_rfl) SS ?_
          refine take 8 37 (.pointer (some ⟨rb, 0, none⟩)) (by kernel_rfl) (by kernel_rfl) (by kernel_rfl) (by kernel_rfl) (by kernel_rfl) (fun _ _ _ h => h) (by kernel_rfl) (fun _ _ => by kernel_rfl) SS ?_
          refine take 9 38 (.pointer (some ⟨rb, 0, none⟩)) (by kernel_rfl) (by kernel_rfl) (by kernel_rfl) (by kernel_rfl) (by kernel_rfl) (fun _ _ _ h => h) (by kernel_rfl) (fun _ _ => by kernel_rfl) SS ?_
          refine take 10 39 (.pointer (some ⟨rb, 2, none⟩)) (by kernel_rfl) (by kernel_rfl) (by kernel_rfl) (by kernel_rfl) (by kernel_rfl) (fun _ _ _ h => h) (by kernel_rfl) (fun _ _ => by kernel_rfl) SS ?_
          refine take 11 40 (.slice (some ⟨gl, 0, none⟩) n cl) (by kernel_rfl) (by kernel_rfl) (by kernel_rfl) (by kernel_rfl) (by kernel_rfl) (fun _ _ _ h => h) (by kernel_rfl) (fun w' hS => exec_loadS 44 (.tmp 39) ⟨rb, 2, none⟩ (some ⟨gl, 0, none⟩) n cl (fun _ => by kernel_rfl) (by kernel_rfl) (by kernel_rfl) ((hS.cell (cell_lt HL2.out)).trans HL2.out)) SS ?_
          refine take 12 41 (.slice (some ad) l.length c2) (by kernel_rfl) (by kernel_rfl) (by kernel_rfl) (by kernel_rfl) (by kernel_rfl) (fun _ _ _ h => h) (by kernel_rfl) (fun _ _ => by kernel_rfl) SS ?_
          refine take 13 42 (.int .i64 (k : Int)) (by kernel_rfl) (by kernel_rfl) (by kernel_rfl) (by kernel_rfl) (by kernel_rfl) (fun _ _ _ h => h) (by kernel_rfl) (fun _ _ => by kernel_rfl) SS ?_
          refine take 14 43 (.pointer (some (ad.add k))) (by kernel_rfl) (by kernel_rfl) (by kernel_rfl) (by kernel_rfl) (by kernel_rfl) (fun _ _ _ h => h) (by kernel_rfl) (fun w' hS => exec_idx30 (.tmp 41) (.tmp 42) ad l.length c2 k (by kernel_rfl) (by kernel_rfl) (by kernel_rfl) hlt) SS ?_
          refine take 15 44 (.int .i64 (m : Int)) (by kernel_rfl) (by kernel_rfl) (by kernel_rfl) (by kernel_rfl) (by kernel_rfl) (fun _ _ _ h => h) (by kernel_rfl) (fun w' hS => exec_load3 (.tmp 43) (ad.add k) (m : Int) (by kernel_rfl) (by kernel_rfl) ((hS.cell (cell_lt XK.out)).trans XK.out)) SS ?_
          refine take 16 45 (.pointer (some ⟨gl, m, none⟩)) (by kernel_rfl) (by kernel_rfl) (by kernel_rfl) (by kernel_rfl) (by kernel_rfl) (fun _ _ _ h => h) (by kernel_rfl) (fun w' hS => exec_idx44 (.tmp 40) (.tmp 44) gl n cl m (by kernel_rfl) (by kernel_rfl) (by kernel_rfl) hm) SS ?_
          refine take 17 46 (.bool true) (by kernel_rfl) (by kernel_rfl) (by kernel_rfl) (by kernel_rfl) (by kernel_rfl) (fun _ _ _ h => h) (by kernel_rfl) (fun w' hS => exec_loadV 4 (.tmp 45) ⟨gl, m, none⟩ _ (fun _ => by kernel_rfl) (by kernel_rfl) (by kernel_rfl) ((hS.cell (cell_lt XL.out)).trans XL.out)) SS ?_
          refine take 18 47 (.bool false) (by kernel_rfl) (by kernel_rfl) (by kernel_rfl) (by kernel_rfl) (by kernel_rfl) (fun _ _ _ h => h) (by kernel_rfl) (fun _ _ => by kernel_rfl) SS ?_
          refine take 19 48 (.bool false) (by kernel_rfl) (by kernel_rfl) (by kernel_rfl) (by kernel_rfl) (by kernel_rfl) (fun _ _ _ h => h) (by kernel_rfl) (fun _ _ => by kernel_rfl) SS ?_
          try simp only [Act.put, List.setIfInBounds_toArray, List.set_cons_zero, List.set_cons_succ]
          refine wpAnyH_done (by kernel_rfl) ?_ _
          refine name_world (fun V => V = { wr with drawn := wr.drawn + 1 }) rfl ?_
          intro W2 hW2
          have hdw : Below wr.heap.size wr W2 := by rw [hW2]; exact (Below.refl _ _).drew
          have HDW := Lib.hid hdw
          clear hW2 hdw SS
          go_wp2_with (fail)
          have hdw := HDW.out
          have HXF := Lib.hid ((hdw.cell (cell_lt HXF0.out)).trans HXF0.out)
          have HRS := Lib.hid ((hdw.cell (cell_lt HRS0.out)).trans HRS0.out)
          have XS := Lib.hid ((hdw.cell (cell_lt XS0.out)).trans XS0.out)
          have XK2 := Lib.hid ((hdw.cell (cell_lt XK.out)).trans XK.out)
          have XF := Lib.hid (show W2.cell? ⟨gf, m, none⟩ = _ ∧ W2.frozen? ⟨gf, m, none⟩ = false from ⟨(hdw.cell (cell_lt XF0.out.1)).trans XF0.out.1, (hdw.frozen (p := ⟨gf, m, none⟩) (cell_lt XF0.out.1)).trans XF0.out.2⟩)
          have HXR := Lib.hid (RefAt.below HXR0.out hdw)
          have HB2 := Lib.hid (bthen HB.out hdw)
          have HN0 := HN
          clear HN
          have HN := HNN
          clear XK hdw HDW
          have XK := XK2
          refine wp_region_held (S := fun w' => Fr W2 w' (fun k => k = gf)) (by kernel_rfl) ?_
          have SS : Fr W2 { W2 with drawn := W2.drawn + 1 } (fun k => k = gf) := Fr.of_below ((Below.refl _ _).drew) _
          refine take 0 49 (.pointer (some ⟨xb, 0, none⟩)) (by kernel_rfl) (by kernel_rfl) (by kernel_rfl) (by kernel_rfl) (by kernel_rfl) (fun _ _ _ h => h) (by kernel_rfl) (fun _ _ => by kernel_rfl) SS ?_
          refine take 1 50 (.pointer (some ⟨xb, 0, none⟩)) (by kernel_rfl) (by kernel_rfl) (by kernel_rfl) (by kernel_rfl) (by kernel_rfl) (fun _ _ _ h => h) (by kernel_rfl) (fun _ _ => by kernel_rfl) SS ?_
          refine take 2 51 (.pointer (some ⟨xb, 0, none⟩)) (by kernel_rfl) (by kernel_rfl) (by kernel_rfl) (by kernel_rfl) (by kernel_rfl) (fun _ _ _ h => h) (by kernel_rfl) (fun _ _ => by kernel_rfl) SS ?_
          refine take 3 52 (.slice (some ⟨gf, 0, none⟩) n cf) (by kernel_rfl) (by kernel_rfl) (by kernel_rfl) (by kernel_rfl) (by kernel_rfl) (fun _ _ _ h => h) (by kernel_rfl) (fun w' hS => exec_loadS 43 (.tmp 51) ⟨xb, 0, none⟩ (some ⟨gf, 0, none⟩) n cf (fun _ => by kernel_rfl) (by kernel_rfl) (by kernel_rfl) (Fr.cell hS HXF.out HN.out.1)) SS ?_
          refine take 4 53 (.slice (some ad) l.length c2) (by kernel_rfl) (by kernel_rfl) (by kernel_rfl) (by kernel_rfl) (by kernel_rfl) (fun _ _ _ h => h) (by kernel_rfl) (fun _ _ => by kernel_rfl) SS ?_
          refine take 5 54 (.int .i64 (k : Int)) (by kernel_rfl) (by kernel_rfl) (by kernel_rfl) (by kernel_rfl) (by kernel_rfl) (fun _ _ _ h => h) (by kernel_rfl) (fun _ _ => by kernel_rfl) SS ?_
          refine take 6 55 (.pointer (some (ad.add k))) (by kernel_rfl) (by kernel_rfl) (by kernel_rfl) (by kernel_rfl) (by kernel_rfl) (fun _ _ _ h => h) (by kernel_rfl) (fun w' hS => exec_idx30 (.tmp 53) (.tmp 54) ad l.length c2 k (by kernel_rfl) (by kernel_rfl) (by kernel_rfl) hlt) SS ?_
          refine take 7 56 (.int .i64 (m : Int)) (by kernel_rfl) (by kernel_rfl) (by kernel_rfl) (by kernel_rfl) (by kernel_rfl) (fun _ _ _ h => h) (by kernel_rfl) (fun w' hS => exec_load3 (.tmp 55) (ad.add k) (m : Int) (by kernel_rfl) (by kernel_rfl) (Fr.cell hS XK.out HN.out.2.1)) SS ?_
          refine take 8 57 (.pointer (some ⟨rb, 0, none⟩)) (by kernel_rfl) (by kernel_rfl) (by kernel_rfl) (by kernel_rfl) (by kernel_rfl) (fun _ _ _ h => h) (by kernel_rfl) (fun _ _ => by kernel_rfl) SS ?_
          refine take 9 58 (.pointer (some ⟨rb, 0, none⟩)) (by kernel_rfl) (by kernel_rfl) (by kernel_rfl) (by kernel_rfl) (by kernel_rfl) (fun _ _ _ h => h) (by kernel_rfl) (fun _ _ => by kernel_rfl) SS ?_
          refine take 10 59 (.pointer (some ⟨rb, 1, none⟩)) (by kernel_rfl) (by kernel_rfl) (by kernel_rfl) (by kernel_rfl) (by kernel_rfl) (fun _ _ _ h => h) (by kernel_rfl) (fun _ _ => by kernel_rfl) SS ?_
          refine take 11 60 (.slice (some ⟨gs, 0, none⟩) n cs) (by kernel_rfl) (by kernel_rfl) (by kernel_rfl) (by kernel_rfl) (by kernel_rfl) (fun _ _ _ h => h) (by kernel_rfl) (fun w' hS => exec_loadS 43 (.tmp 59) ⟨rb, 1, none⟩ (some ⟨gs, 0, none⟩) n cs (fun _ => by kernel_rfl) (by kernel_rfl) (by kernel_rfl) (Fr.cell hS HRS.out HN.out.2.2.1)) SS ?_
          refine take 12 61 (.slice (some ad) l.length c2) (by kernel_rfl) (by kernel_rfl) (by kernel_rfl) (by kernel_rfl) (by kernel_rfl) (fun _ _ _ h => h) (by kernel_rfl) (fun _ _ => by kernel_rfl) SS ?_
          refine take 13 62 (.int .i64 (k : Int)) (by kernel_rfl) (by kernel_rfl) (by kernel_rfl) (by kernel_rfl) (by kernel_rfl) (fun _ _ _ h => h) (by kernel_rfl) (fun _ _ => by kernel_rfl) SS ?_
          refine take 14 63 (.pointer (some (ad.add k))) (by kernel_rfl) (by kernel_rfl) (by kernel_rfl) (by kernel_rfl) (by kernel_rfl) (fun _ _ _ h => h) (by kernel_rfl) (fun w' hS => exec_idx30 (.tmp 61) (.tmp 62) ad l.length c2 k (by kernel_rfl) (by kernel_rfl) (by kernel_rfl) hlt) SS ?_
          refine take 15 64 (.int .i64 (m : Int)) (by kernel_rfl) (by kernel_rfl) (by kernel_rfl) (by kernel_rfl) (by kernel_rfl) (fun _ _ _ h => h) (by kernel_rfl) (fun w' hS => exec_load3 (.tmp 63) (ad.add k) (m : Int) (by kernel_rfl) (by kernel_rfl) (Fr.cell hS XK.out HN.out.2.1)) SS ?_
          refine take 16 65 (.pointer (some ⟨gs, m, none⟩)) (by kernel_rfl) (by kernel_rfl) (by kernel_rfl) (by kernel_rfl) (by kernel_rfl) (fun _ _ _ h => h) (by kernel_rfl) (fun w' hS => exec_idx43 (.tmp 60) (.tmp 64) gs n cs m (by kernel_rfl) (by kernel_rfl) (by kernel_rfl) hm) SS ?_
          refine take 17 66 (.string sm) (by kernel_rfl) (by kernel_rfl) (by kernel_rfl) (by kernel_rfl) (by kernel_rfl) (fun _ _ _ h => h) (by kernel_rfl) (fun w' hS => exec_loadV 9 (.tmp 65) ⟨gs, m, none⟩ _ (fun _ => by kernel_rfl) (by kernel_rfl) (by kernel_rfl) (Fr.cell hS XS.out HN.out.2.2.2)) SS ?_
          refine take 18 67 (.pointer (some ⟨gf, m, none⟩)) (by kernel_rfl) (by kernel_rfl) (by kernel_rfl) (by kernel_rfl) (by kernel_rfl) (fun _ _ _ h => h) (by kernel_rfl) (fun w' hS => exec_idx43 (.tmp 52) (.tmp 56) gf n cf m (by kernel_rfl) (by kernel_rfl) (by kernel_rfl) hm) SS ?_
          try simp only [Act.put, List.setIfInBounds_toArray, List.set_cons_zero, List.set_cons_succ]
          refine any_store 19 (by kernel_rfl) (by kernel_rfl) (by kernel_rfl) (by kernel_rfl) (exec_storeV 9 (.tmp 67) (.tmp 66) ⟨gf, m, none⟩ sm _ (fun _ => by kernel_rfl) (by kernel_rfl) (by kernel_rfl) (by kernel_rfl) XF.out.1 XF.out.2) (SS.trans (Fr.setCell _ gf m _) (fun k hk => .inl hk)) ?_
          try simp only [Act.put, List.setIfInBounds_toArray, List.set_cons_zero, List.set_cons_succ]
          try simp only [Act.put, List.setIfInBounds_toArray, List.set_cons_zero, List.set_cons_succ]
          refine wpAnyH_done (by kernel_rfl) ?_ _
          clear SS
          have HXN := Lib.hid (set_f (RefAt.below HXR.out ((Below.refl W2.heap.size W2).drew)) m sm HV0.out)
          have HBN := Lib.hid ((Fr.setCell { W2 with drawn := W2.drawn + 1 } gf m (.string sm)).below (bthen HB2.out ((Below.refl W2.heap.size W2).drew)) (fun k hk => by rw [hk]; exact HGE.out))
          go_wp2_with (fail)
          go_roundw
          case rel => exact ⟨k + 1, _, rfl, by omega, HK2, HYL2, HYN2, ⟨_, _, _, by rw [HYM.out]; exact HXN.out⟩, HBN⟩
          case measure => simp [intOf]; omega
      · have HHAS := Lib.hid (show decide (0 ≤ a ∧ a < (bs.length : Int)) = false from decide_eq_false (by rw [← HN.out]; exact hin))
        rw [if_neg (fun h => hin ⟨h.1, h.2.1⟩)] at hkk
        have hRn : R = none := by rw [HRR.out]; unfold crashL; rw [hkk]; rfl
        have HRN := Lib.hid hRn
        clear hkk hin hRn hha hadlt
        go_wp2_with (fail)
        refine wp_region_held (S := fun w' => Below wr.heap.size wr w') (by kernel_rfl) ?_
        have SS : Below wr.heap.size wr { wr with drawn := wr.drawn + 1 } := (Below.refl _ _).drew
        refine take 0 29 (.pointer (some ⟨rb, 0, none⟩)) (by kernel_rfl) (by kernel_rfl) (by kernel_rfl) (by kernel_rfl) (by kernel_rfl) (fun _ _ _ h => h) (by kernel_rfl) (fun _ _ => by kernel_rfl) SS ?_
        refine take 1 30 (.slice (some ad) l.length c2) (by kernel_rfl) (by kernel_rfl) (by kernel_rfl) (by kernel_rfl) (by kernel_rfl) (fun _ _ _ h => h) (by kernel_rfl) (fun _ _ => by kernel_rfl) SS ?_
        refine take 2 31 (.int .i64 (k : Int)) (by kernel_rfl) (by kernel_rfl) (by kernel_rfl) (by kernel_rfl) (by kernel_rfl) (fun _ _ _ h => h) (by kernel_rfl) (fun _ _ => by kernel_rfl) SS ?_
        refine take 3 32 (.pointer (some (ad.add k))) (by kernel_rfl) (by kernel_rfl) (by kernel_rfl) (by kernel_rfl) (by kernel_rfl) (fun _ _ _ h => h) (by kernel_rfl) (fun w' hS => exec_idx30 (.tmp 30) (.tmp 31) ad l.length c2 k (by kernel_rfl) (by kernel_rfl) (by kernel_rfl) hlt) SS ?_
        refine take 4 33 (.int .i64 a) (by kernel_rfl) (by kernel_rfl) (by kernel_rfl) (by kernel_rfl) (by kernel_rfl) (fun _ _ _ h => h) (by kernel_rfl) (fun w' hS => exec_load3 (.tmp 32) (ad.add k) a (by kernel_rfl) (by kernel_rfl) ((hS.cell (cell_lt XK.out)).trans XK.out)) SS ?_
        try simp only [Act.put, List.setIfInBounds_toArray, List.set_cons_zero, List.set_cons_succ]
        refine any_call 5 34 16 #[.pointer (some ⟨rb, 0, none⟩), .int .i64 a] (by kernel_rfl) (by kernel_rfl) (by kernel_rfl) (by kernel_rfl) (by kernel_rfl) ?_
        refine (has_is (HR.out.below SS) a).mono ?_
        rintro _ W2 ⟨rfl, hw⟩
        rw [HHAS.out]
        subst hw
        refine ⟨_, rfl, SS, ?_⟩
        try simp only [Act.put, List.setIfInBounds_toArray, List.set_cons_zero, List.set_cons_succ]
        refine take 6 35 (.bool true) (by kernel_rfl) (by kernel_rfl) (by kernel_rfl) (by kernel_rfl) (by kernel_rfl) (fun _ _ _ h => h) (by kernel_rfl) (fun _ _ => by kernel_rfl) SS ?_
        refine take 7 36 (.bool true) (by kernel_rfl) (by kernel_rfl) (by kernel_rfl) (by kernel_rfl) (by kernel_rfl) (fun _ _ _ h => h) (by kernel_rfl) (fun _ _ => by kernel_rfl) SS ?_
        refine off 8 37 (by kernel_rfl) (by kernel_rfl) (by kernel_rfl) (by kernel_rfl) (by kernel_rfl) (fun _ _ _ h => h) (by kernel_rfl) SS ?_
        refine off 9 38 (by kernel_rfl) (by kernel_rfl) (by kernel_rfl) (by kernel_rfl) (by kernel_rfl) (fun _ _ _ h => h) (by kernel_rfl) SS ?_
        refine off 10 39 (by kernel_rfl) (by kernel_rfl) (by kernel_rfl) (by kernel_rfl) (by kernel_rfl) (fun _ _ _ h => h) (by kernel_rfl) SS ?_
        refine off 11 40 (by kernel_rfl) (by kernel_rfl) (by kernel_rfl) (by kernel_rfl) (by kernel_rfl) (fun _ _ _ h => h) (by kernel_rfl) SS ?_
        refine off 12 41 (by kernel_rfl) (by kernel_rfl) (by kernel_rfl) (by kernel_rfl) (by kernel_rfl) (fun _ _ _ h => h) (by kernel_rfl) SS ?_
        refine off 13 42 (by kernel_rfl) (by kernel_rfl) (by kernel_rfl) (by kernel_rfl) (by kernel_rfl) (fun _ _ _ h => h) (by kernel_rfl) SS ?_
        refine off 14 43 (by kernel_rfl) (by kernel_rfl) (by kernel_rfl) (by kernel_rfl) (by kernel_rfl) (fun _ _ _ h => h) (by kernel_rfl) SS ?_
        refine off 15 44 (by kernel_rfl) (by kernel_rfl) (by kernel_rfl) (by kernel_rfl) (by kernel_rfl) (fun _ _ _ h => h) (by kernel_rfl) SS ?_
        refine off 16 45 (by kernel_rfl) (by kernel_rfl) (by kernel_rfl) (by kernel_rfl) (by kernel_rfl) (fun _ _ _ h => h) (by kernel_rfl) SS ?_
        refine off 17 46 (by kernel_rfl) (by kernel_rfl) (by kernel_rfl) (by kernel_rfl) (by kernel_rfl) (fun _ _ _ h => h) (by kernel_rfl) SS ?_
        refine off 18 47 (by kernel_rfl) (by kernel_rfl) (by kernel_rfl) (by kernel_rfl) (by kernel_rfl) (fun _ _ _ h => h) (by kernel_rfl) SS ?_
        refine take 19 48 (.bool true) (by kernel_rfl) (by kernel_rfl) (by kernel_rfl) (by kernel_rfl) (by kernel_rfl) (fun _ _ _ h => h) (by kernel_rfl) (fun _ _ => by kernel_rfl) SS ?_
        try simp only [Act.put, List.setIfInBounds_toArray, List.set_cons_zero, List.set_cons_succ]
        refine wpAnyH_done (by kernel_rfl) ?_ _
        have HB2 := Lib.hid (bthen HB.out SS)
        clear SS
        go_wp2_with (fail)
        go_ret2
        rw [HRN.out]
        exact ⟨rfl, HB2.out⟩
    · have hge : ¬ ((k : Int) < (l.length : Int)) := by omega
      obtain rfl : k = l.length := by omega
      have hkk := HK.out
      rw [List.drop_length] at hkk
      simp only [keepL] at hkk
      have hRs : R = some (y.map clrB) := by rw [HRR.out]; unfold crashL; rw [hkk]; rfl
      have HRS := Lib.hid hRs
      obtain ⟨z0, z1, z2, hz⟩ := HX.out
      obtain ⟨A1, c1, hv1, hrd⟩ := own_reads_of (d := ByteArray.empty) (RefAt.o0 hz)
      have p0 := RefAt.c0 hz
      have q1 := RefAt.c1 hz
      have f1 := RefAt.fz hz 1
      have hxlt := blk_in hz.hd
      rw [hv1] at p0
      have HRD := Lib.hid hrd
      have HZX := Lib.hid hz
      have HLF := Lib.hid (show (y.map fD).length = n from by rw [List.length_map, HYL.out])
      have HZW := Lib.hid (show ∀ k, Z k → k < wr.heap.size from fun k hk => Nat.lt_of_lt_of_le (HZ.out k hk) HB.out.size)
      clear hlt hkk hRs hz hv1 hrd
      go_wp2_with (first
        | (refine gate_builtin (b := .append) (xs := #[.tmp 69, .tmp 73]) rfl ?_; at_builtin; refine print_append_row_of (w0 := wr) Value.string ByteArray.empty wr.heap.size rfl (.tmp 69) (.tmp 73) 43 9 (.string ByteArray.empty) 16 rfl Try.underlying43 info9 rfl (by decide) (fun _ => rfl) _ [] (y.map fD) A1 n c1 rfl rfl (none_yet wr 9) (HRD.out.below ((Below.refl _ _).alloc (Nat.le_refl _) _)) ((Below.refl _ _).alloc (Nat.le_refl _) _) (by simp) (by simp; omega) ?_; intro v3 W3 ho hb hg hat; rw [List.nil_append, HLF.out] at ho; have b1 := (hb.cell (cell_lt q1)).trans q1; have g1 := (hb.frozen (p := ⟨xb, 1, none⟩) hxlt).trans f1; obtain ⟨A3, c3, hv3, hl3⟩ := own_slice1 ho; have HO := Lib.hid (ref_set1 HZX.out HZW.out HB.out.size ho HLF.out hb); rw [hv3] at HO ⊢; clear ho hb hg hat hv3 p0 q1 f1))
      go_ret2
      rw [HRS.out]
      exact ⟨xb, rfl, ref_clr HYL.out HO.out.1, HO.out.2.below HB.out (fun k hk => by rw [hk]; exact HZX.out.lo)⟩
end
end Go.Proofs.Ytbojokjommmebaa.MoRefCrash
