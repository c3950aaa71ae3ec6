/- Same and what it calls: rows of blocks compared. -/
import Derived.Test.YtbojokjommmebaaMoSame
namespace Go.Proofs.Ytbojokjommmebaa.MoCmp
set_option linter.unusedSimpArgs false
set_option linter.unusedVariables false
open Go.RowKit Go.Proofs.YtbojokjommmebaaW.PrintWords Go.Proofs.YtbojokjommmebaaW.PrintLast Go.Proofs.YtbojokjommmebaaW.PrintMore Go.Proofs.Ytbojokjommmebaa.PModelPlays Go.Proofs.Ytbojokjommmebaa.MoMem Go.Proofs.Ytbojokjommmebaa.MoGo Go.Proofs.Ytbojokjommmebaa.MoNow Go.Proofs.Ytbojokjommmebaa.MoRead Go.Proofs.Ytbojokjommmebaa.MoPut Go.Proofs.Ytbojokjommmebaa.MoWrite Go.Proofs.Ytbojokjommmebaa.MoLoose Go.Proofs.Ytbojokjommmebaa.MoNew Go.Proofs.Ytbojokjommmebaa.MoCrash Go.Proofs.Ytbojokjommmebaa.MoEq Go.Proofs.Ytbojokjommmebaa.MoSame
theorem same1_calls (x y : Bk) (hx : x.Ok) (hy : y.Ok) (W : World) : Calls Try.prog 33 #[.agg (bcells x).toArray, .agg (bcells y).toArray] W fun e W' => e = .returned (.bool (eqB x y)) ∧ Below W.heap.size W W' := by
  by_cases hd : x.d = y.d
  · cases hl : (x.l == y.l) with
    | false =>
      have e : eqB x y = false := by unfold eqB; rw [hl]; simp
      rw [e]; exact same1_nl x y hx hy W hd hl
    | true =>
      have e : eqB x y = decide (x.now = y.now) := by unfold eqB; rw [hl, decide_eq_true hd]; simp
      rw [e]; exact same1_eq x y hx hy W hd hl
  · have e : eqB x y = false := by unfold eqB; rw [decide_eq_false hd]; simp
    rw [e]; exact same1_ne x y hx hy W hd
/-- Are two rows one? -/
def eqK (xs ys : List Bk) (k : Nat) : Bool := (List.range k).all fun i => eqB (xs.getD i zb) (ys.getD i zb)
def eqL (xs ys : List Bk) : Bool := decide (xs.length = ys.length) && eqK xs ys xs.length
theorem eqK_succ (xs ys : List Bk) (k : Nat) : eqK xs ys (k + 1) = (eqK xs ys k && eqB (xs.getD k zb) (ys.getD k zb)) := by
  unfold eqK
  rw [List.range_succ, List.all_append]; simp
theorem eqK_false {xs ys : List Bk} {k n : Nat} (hk : k < n) (h : eqB (xs.getD k zb) (ys.getD k zb) = false) : eqK xs ys n = false := by
  unfold eqK
  rw [List.all_eq_false]
  exact ⟨k, List.mem_range.2 hk, by rw [h]; simp⟩
theorem box_one {wr W2 : World} {x : Bk} (hB : W2.heap[wr.heap.size]? = some (.cells Z69 69 (0, 0))) (hbw : Below wr.heap.size wr W2) (hx : x.Ok) :
    W2.there wr.heap.size 0 (bcells x).toArray.size ∧ (W2.setCells wr.heap.size 0 (bcells x)).heap[wr.heap.size]? = some (.cells (bcells x).toArray 69 (0, 0)) ∧ Below wr.heap.size wr (W2.setCells wr.heap.size 0 (bcells x)) := by
  obtain ⟨t1, t2⟩ := all_facts hB Z69_size hx
  exact ⟨t1, t2, (Fr.setCells W2 wr.heap.size 0 (bcells x)).below hbw (fun k hk => by omega)⟩
section
variable {W W' : World} {ab lb ab2 lb2 : Nat} {xs ys : List Bk}
set_option maxRecDepth 100000 in
theorem equal_ne (A B : Option Addr) (n m c d : Nat) (hn : n ≤ 512) (hm : m ≤ 512) (h : n ≠ m) (f : Value) (W : World) : Calls Try.prog 32 #[.slice A n c, .slice B m d, f] W fun e W' => e = .returned (.bool false) ∧ W' = W := by
  have hne : ((n : Int) == (m : Int)) = false := by simp; omega
  have hne2 : ((n : Int) != (m : Int)) = true := by simp; omega
  clear h
  go_enter Try.func32, Try.ntmps32
  go_wp2
  go_ret
  exact ⟨rfl, rfl⟩
set_option maxRecDepth 100000 in
set_option maxHeartbeats 4000000 in
theorem equal_calls (h : ArrAt W ab lb xs) (h' : ArrAt W ab2 lb2 ys) (c d : Nat) (hl : xs.length = ys.length) :
    Calls Try.prog 32 #[.slice (some ⟨lb, 0, none⟩) xs.length c, .slice (some ⟨lb2, 0, none⟩) ys.length d, .func (.func 33) #[] #[]] W fun e W' => e = .returned (.bool (eqK xs ys xs.length)) ∧ Below W.heap.size W W' := by
  rw [← hl]
  have hf := h.few
  have HH := Lib.hid h
  have HH2 := Lib.hid h'
  obtain ⟨L, hL⟩ : ∃ L, L = xs.length := ⟨_, rfl⟩
  have hL2 : L = ys.length := hL.trans hl
  rw [← hL] at hf ⊢
  have HL := Lib.hid hL
  have HL2 := Lib.hid hL2
  clear h h' hL hL2 hl
  go_enter Try.func32, Try.ntmps32
  go_wp2_with (fail)
  go_loopw [17] (fun v17 wr => ∃ (k : Nat), v17 = .int .i64 (k : Int) ∧ k ≤ L ∧ Hid (eqK xs ys k = true) ∧ Hid (Below W.heap.size W wr)) (fun v17 _ => ((L : Int) - intOf v17).toNat)
  case atStart => exact ⟨0, rfl, by omega, Lib.hid (by simp [eqK]), Lib.hid (Below.refl _ _)⟩
  case round =>
    obtain ⟨k, rfl, hk, HK, HB⟩ := hrel
    by_cases hlt : k < L
    · have ha := HH.out.below HB.out
      have ha2 := HH2.out.below HB.out
      have hi : k < xs.length := by rw [← HL.out]; exact hlt
      have hi2 : k < ys.length := by rw [← HL2.out]; exact hlt
      have HRG := Lib.hid (ha.range k hi)
      have HRG2 := Lib.hid (ha2.range k hi2)
      have hok := ha.ok k
      have hok2 := ha2.ok k
      have hsu := eqK_succ xs ys k
      have hfa := @eqK_false xs ys k L hlt
      have HLT := Lib.hid (And.intro ha.lb_lt ha2.lb_lt)
      rw [HK.out, Bool.true_and] at hsu
      have HAB := Lib.hid (fun V (hb : Below wr.heap.size wr V) => (ha2.below hb).range k hi2)
      generalize xs.getD k zb = x at *
      generalize ys.getD k zb = y at *
      have HC := Lib.hid (same1_calls x y hok hok2)
      have HSZ := Lib.hid (show (Try.prog.info? 69).map (·.size) = some (bcells x).length from by rw [bcells_len hok]; exact size69)
      have HSZ' := Lib.hid (show (Try.prog.info? 69).map (·.size) = some (bcells x).toArray.size from by rw [List.size_toArray, bcells_len hok]; exact size69)
      have HSZ2 := Lib.hid (show (Try.prog.info? 69).map (·.size) = some (bcells y).length from by rw [bcells_len hok2]; exact size69)
      have HSZ2' := Lib.hid (show (Try.prog.info? 69).map (·.size) = some (bcells y).toArray.size from by rw [List.size_toArray, bcells_len hok2]; exact size69)
      have HOK := Lib.hid hok
      have HOK2 := Lib.hid hok2
      cases hq : eqB x y with
      | false =>
        have HE := Lib.hid (hfa hq)
        rw [hq] at HC
        clear ha ha2 hi hi2 hok hok2 hsu hfa hq
        go_wp2_with (first
          | (refine gate_ (.load 69 (.tmp 20)) rfl ?_; refine wpList_load_mid rfl 69 (.tmp 20) rfl lb (k * 129) rfl (bcells x) _ HRG.out Try.underlying69 rfl HSZ.out ?_)
          | (refine gate_ (.alloc 69) rfl ?_; have F0 := F1.out; refine wpList_alloc_agg rfl 69 rfl Z69 zero69 ?_; intro W3 hB hbw; obtain ⟨t, f, b⟩ := box_one hB hbw HOK2.out; have T2 := Lib.hid t; have F2 := Lib.hid (And.intro (blk_below F0 b) f); have B2 := Lib.hid (bthen B1.out b); clear t f b hB hbw F0 F1)
          | (refine gate_ (.alloc 69) rfl ?_; refine wpList_alloc_agg rfl 69 rfl Z69 zero69 ?_; intro W2 hB hbw; obtain ⟨t, f, b⟩ := box_one hB hbw HOK.out; have T1 := Lib.hid t; have F1 := Lib.hid f; have B1 := Lib.hid b; clear t f b hB hbw)
          | (refine gate_ (.store 69 (.tmp 8) (.tmp 21)) rfl ?_; refine wpList_store_mid rfl 69 (.tmp 8) (.tmp 21) rfl _ 0 (bcells x).toArray rfl rfl T1.out HSZ'.out (all_oneCell_toArray bcells_one) ?_)
          | (refine gate_ (.load 69 (.tmp 24)) rfl ?_; refine wpList_load_mid rfl 69 (.tmp 24) rfl lb2 (k * 129) rfl (bcells y) _ (HAB.out _ B1.out) Try.underlying69 rfl HSZ2.out ?_)
          | (refine gate_ (.store 69 (.tmp 9) (.tmp 25)) rfl ?_; refine wpList_store_mid rfl 69 (.tmp 9) (.tmp 25) rfl _ 0 (bcells y).toArray rfl rfl T2.out HSZ2'.out (all_oneCell_toArray bcells_one) ?_)
          | (refine gate_ (.load 69 (.tmp 8)) rfl ?_; refine wpList_load_mid rfl 69 (.tmp 8) rfl _ 0 rfl (bcells x) _ (box_all F2.out.1) Try.underlying69 rfl HSZ.out ?_)
          | (refine gate_ (.load 69 (.tmp 9)) rfl ?_; refine wpList_load_mid rfl 69 (.tmp 9) rfl _ 0 rfl (bcells y) _ (box_all F2.out.2) Try.underlying69 rfl HSZ2.out ?_)
          | (go_at_call 33; refine (HC.out _).mono ?_; rintro _ W4 ⟨rfl, hb4⟩; have H4 := Lib.hid (bthen B2.out hb4); clear hb4))
        rw [HE.out]
        go_ret
        exact ⟨rfl, bthen HB.out H4.out⟩
      | true =>
        have HE := Lib.hid (hsu.trans hq)
        rw [hq] at HC
        clear ha ha2 hi hi2 hok hok2 hsu hfa hq
        go_wp2_with (first
          | (refine gate_ (.load 69 (.tmp 20)) rfl ?_; refine wpList_load_mid rfl 69 (.tmp 20) rfl lb (k * 129) rfl (bcells x) _ HRG.out Try.underlying69 rfl HSZ.out ?_)
          | (refine gate_ (.alloc 69) rfl ?_; have F0 := F1.out; refine wpList_alloc_agg rfl 69 rfl Z69 zero69 ?_; intro W3 hB hbw; obtain ⟨t, f, b⟩ := box_one hB hbw HOK2.out; have T2 := Lib.hid t; have F2 := Lib.hid (And.intro (blk_below F0 b) f); have B2 := Lib.hid (bthen B1.out b); clear t f b hB hbw F0 F1)
          | (refine gate_ (.alloc 69) rfl ?_; refine wpList_alloc_agg rfl 69 rfl Z69 zero69 ?_; intro W2 hB hbw; obtain ⟨t, f, b⟩ := box_one hB hbw HOK.out; have T1 := Lib.hid t; have F1 := Lib.hid f; have B1 := Lib.hid b; clear t f b hB hbw)
          | (refine gate_ (.store 69 (.tmp 8) (.tmp 21)) rfl ?_; refine wpList_store_mid rfl 69 (.tmp 8) (.tmp 21) rfl _ 0 (bcells x).toArray rfl rfl T1.out HSZ'.out (all_oneCell_toArray bcells_one) ?_)
          | (refine gate_ (.load 69 (.tmp 24)) rfl ?_; refine wpList_load_mid rfl 69 (.tmp 24) rfl lb2 (k * 129) rfl (bcells y) _ (HAB.out _ B1.out) Try.underlying69 rfl HSZ2.out ?_)
          | (refine gate_ (.store 69 (.tmp 9) (.tmp 25)) rfl ?_; refine wpList_store_mid rfl 69 (.tmp 9) (.tmp 25) rfl _ 0 (bcells y).toArray rfl rfl T2.out HSZ2'.out (all_oneCell_toArray bcells_one) ?_)
          | (refine gate_ (.load 69 (.tmp 8)) rfl ?_; refine wpList_load_mid rfl 69 (.tmp 8) rfl _ 0 rfl (bcells x) _ (box_all F2.out.1) Try.underlying69 rfl HSZ.out ?_)
          | (refine gate_ (.load 69 (.tmp 9)) rfl ?_; refine wpList_load_mid rfl 69 (.tmp 9) rfl _ 0 rfl (bcells y) _ (box_all F2.out.2) Try.underlying69 rfl HSZ2.out ?_)
          | (go_at_call 33; refine (HC.out _).mono ?_; rintro _ W4 ⟨rfl, hb4⟩; have H4 := Lib.hid (bthen B2.out hb4); clear hb4))
        go_roundw
        case rel => exact ⟨k + 1, rfl, by omega, HE, Lib.hid (bthen HB.out H4.out)⟩
        case measure => simp [intOf]; omega
    · have hge : ¬ ((k : Int) < (L : Int)) := by omega
      obtain rfl : k = L := by omega
      clear hlt
      go_wp2_with (fail)
      rw [HK.out]
      go_ret
      exact ⟨rfl, HB.out⟩
/-- An array that nobody made. -/
def NotMade (p : Option Addr) (W : World) : Prop := ∀ n, Calls Try.prog 31 #[.pointer p] (W.drewN n) fun e W' => e = .returned (.bool false) ∧ W' = W.drewN n
theorem same_none (p q : Option Addr) (W : World) (hp : Calls Try.prog 31 #[.pointer p] W fun e W' => e = .returned (.bool false) ∧ W' = W) (hq : Calls Try.prog 31 #[.pointer q] W fun e W' => e = .returned (.bool false) ∧ W' = W) :
    Calls Try.prog 12 #[.pointer p, .pointer q] W fun e W' => e = .returned (.bool true) ∧ W' = W := by
  have HP := Lib.hid hp
  have HQ := Lib.hid hq
  clear hp hq
  go_enter Try.func12, Try.ntmps12
  go_wp2_with (go_at_call 31; first | (with_reducible refine HP.out.mono ?_; rintro _ _ ⟨rfl, rfl⟩) | (with_reducible refine HQ.out.mono ?_; rintro _ _ ⟨rfl, rfl⟩))
  go_ret
  exact ⟨rfl, rfl⟩
set_option maxRecDepth 100000 in
set_option maxHeartbeats 4000000 in
theorem same_calls (h : ArrAt W ab lb xs) (h' : ArrAt W ab2 lb2 ys) : Calls Try.prog 12 #[.pointer (some ⟨ab, 0, none⟩), .pointer (some ⟨ab2, 0, none⟩)] W fun e W' => e = .returned (.bool (eqL xs ys)) ∧ Below W.heap.size W W' := by
  obtain ⟨c, hc, c0, c1⟩ := h.head
  obtain ⟨d, hd, d0, d1⟩ := h'.head
  have HP := Lib.hid (real_is true c1)
  have HQ := Lib.hid (real_is true d1)
  have hbd : Below W.heap.size W W.drew := (Below.refl _ _).drew
  have HE : Hid (Calls Try.prog 32 #[.slice (some ⟨lb, 0, none⟩) xs.length c, .slice (some ⟨lb2, 0, none⟩) ys.length d, .func (.func 33) #[] #[]] W.drew fun e W' => e = .returned (.bool (eqL xs ys)) ∧ Below W.drew.heap.size W.drew W') := by
    apply Lib.hid
    unfold eqL
    by_cases hl : xs.length = ys.length
    · rw [decide_eq_true hl, Bool.true_and]
      exact equal_calls (h.below hbd) (h'.below hbd) c d hl
    · rw [decide_eq_false hl, Bool.false_and]
      refine (equal_ne _ _ _ _ c d h.few h'.few hl _ _).mono ?_
      rintro _ w ⟨rfl, rfl⟩
      exact ⟨rfl, Below.refl _ _⟩
  have HBD := Lib.hid hbd
  generalize eqL xs ys = R at *
  generalize xs.length = n at *
  generalize ys.length = m at *
  clear h h' c1 d1 hbd
  go_enter Try.func12, Try.ntmps12
  go_wp2_with (go_at_call 31; first | (with_reducible refine HP.out.mono ?_; rintro _ W2 ⟨rfl, hw⟩; replace hw := hw.symm; subst hw) | (with_reducible refine HQ.out.mono ?_; rintro _ W2 ⟨rfl, hw⟩; replace hw := hw.symm; subst hw))
  go_region_held3 (fun w' => w'.cell? ⟨ab, 0, none⟩ = some (.slice (some ⟨lb, 0, none⟩) n c) ∧ w'.cell? ⟨ab2, 0, none⟩ = some (.slice (some ⟨lb2, 0, none⟩) m d)) (go_keep)
    ((go_at_call 32; refine HE.out.mono ?_; rintro _ W4 ⟨rfl, hb4⟩; have c9 := (hb4.cell (p := ⟨ab, 0, none⟩) (cell_lt c0)).trans c0; have d9 := (hb4.cell (p := ⟨ab2, 0, none⟩) (cell_lt d0)).trans d0; have H4 := Lib.hid hb4; clear hb4))
  go_wp2_with (fail)
  go_ret
  exact ⟨rfl, bthen HBD.out H4.out⟩
end
end Go.Proofs.Ytbojokjommmebaa.MoCmp
