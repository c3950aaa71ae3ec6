/- What is written, flushed and kept, of lists of blocks alone. -/
import Derived.Test.YtbojokjommmebaaMoCmp
namespace Go.Proofs.Ytbojokjommmebaa.MoPure
set_option linter.unusedSimpArgs false
set_option linter.unusedVariables false
open Go.RowKit Go.Proofs.Ytbojokjommmebaa.MoMem Go.Proofs.Ytbojokjommmebaa.MoGo Go.Proofs.Ytbojokjommmebaa.MoNow Go.Proofs.Ytbojokjommmebaa.MoRead Go.Proofs.Ytbojokjommmebaa.MoPut Go.Proofs.Ytbojokjommmebaa.MoWrite Go.Proofs.Ytbojokjommmebaa.MoLoose Go.Proofs.Ytbojokjommmebaa.MoNew Go.Proofs.Ytbojokjommmebaa.MoCrash Go.Proofs.Ytbojokjommmebaa.MoEq Go.Proofs.Ytbojokjommmebaa.MoSame Go.Proofs.Ytbojokjommmebaa.MoCmp
theorem getD_set_if (bs : List Bk) (k i : Nat) (b : Bk) : (bs.set k b).getD i zb = if k = i ∧ k < bs.length then b else bs.getD i zb := by
  rw [List.getD_eq_getElem?_getD, List.getElem?_set]
  by_cases e : k = i
  · subst e
    by_cases h : k < bs.length
    · simp [h]
    · simp [h]
  · rw [if_neg e, if_neg (fun h => e h.1), List.getD_eq_getElem?_getD]
theorem getD_map (f : Bk → Bk) (bs : List Bk) (i : Nat) (h : i < bs.length) : (bs.map f).getD i zb = f (bs.getD i zb) := by
  rw [List.getD_eq_getElem?_getD, List.getD_eq_getElem?_getD, List.getElem?_map, List.getElem?_eq_getElem h]; rfl
theorem getD_out (bs : List Bk) (i : Nat) (h : bs.length ≤ i) : bs.getD i zb = zb := by
  rw [List.getD_eq_getElem?_getD, List.getElem?_eq_none h]; rfl
theorem putK_get (bs : List Bk) (lba : Nat) (x : List Int) : ∀ n, lba + n ≤ bs.length → ∀ i, (putK bs lba x n).getD i zb = if lba ≤ i ∧ i < lba + n then ⟨(bs.getD i zb).d, x, true⟩ else bs.getD i zb
  | 0, h, i => by rw [if_neg (by omega)]; rfl
  | n + 1, h, i => by
    simp only [putK]
    rw [getD_set_if, putK_len, putK_get bs lba x n (by omega) i, putK_get bs lba x n (by omega) (lba + n)]
    rw [if_neg (show ¬(lba ≤ lba + n ∧ lba + n < lba + n) from by omega)]
    by_cases e : lba + n = i
    · subst e
      rw [if_pos ⟨rfl, by omega⟩, if_pos (by omega)]
    · rw [if_neg (fun h => e h.1)]
      by_cases c : lba ≤ i ∧ i < lba + n
      · rw [if_pos c, if_pos (by omega)]
      · rw [if_neg c, if_neg (by omega)]
theorem putL_len (bs : List Bk) (lba : Nat) (x : List Int) (n : Nat) : (putL bs lba x n).length = bs.length := by
  unfold putL; rw [putK_len]; split
  · rfl
  · rw [List.length_map]
theorem putL_zero (bs : List Bk) (lba : Nat) (x : List Int) : putL bs lba x 0 = bs := rfl
theorem putL_get (bs : List Bk) (lba : Nat) (x : List Int) (n : Nat) (hn : 0 < n) (h : lba + n ≤ bs.length) (i : Nat) (hi : i < bs.length) :
    (putL bs lba x n).getD i zb = if lba ≤ i ∧ i < lba + n then ⟨(bs.getD i zb).settle.d, x, true⟩ else (bs.getD i zb).settle := by
  unfold putL
  rw [if_neg (by omega), putK_get _ _ _ _ (by rw [List.length_map]; exact h), getD_map _ _ _ hi]
theorem settle_l (b : Bk) : b.settle.l = false := by
  unfold Bk.settle
  split
  · rfl
  · rename_i h; simpa using h
theorem settle_now (b : Bk) : b.settle.now = b.now := by
  have h := settle_l b
  unfold Bk.now
  rw [if_neg (by rw [h]; decide)]
  unfold Bk.settle
  split <;> rfl
theorem putL_loose (bs : List Bk) (lba : Nat) (x : List Int) (n : Nat) (hn : 0 < n) (h : lba + n ≤ bs.length) (i : Nat) (hi : i < bs.length) : ((putL bs lba x n).getD i zb).l = decide (lba ≤ i ∧ i < lba + n) := by
  rw [putL_get bs lba x n hn h i hi]
  split
  · rename_i c; rw [decide_eq_true c]
  · rename_i c; rw [decide_eq_false c, settle_l]
theorem looseK_range (bs : List Bk) (lba n : Nat) : ∀ k, (∀ i, i < k → (bs.getD i zb).l = decide (lba ≤ i ∧ i < lba + n)) → looseK bs k = (List.range' lba (min n (k - lba))).map fun i : Nat => (i : Int)
  | 0, _ => by simp [looseK]
  | k + 1, h => by
    rw [looseK_succ, looseK_range bs lba n k (fun i hi => h i (by omega)), h k (by omega)]
    by_cases c : lba ≤ k ∧ k < lba + n
    · rw [decide_eq_true c, if_pos rfl]
      rw [show min n (k + 1 - lba) = min n (k - lba) + 1 from by omega, List.range'_concat, List.map_append]
      congr 2
      simp
      omega
    · rw [decide_eq_false c, if_neg (by decide), List.append_nil]
      congr 2
      omega
theorem loose_putL (bs : List Bk) (lba : Nat) (x : List Int) (n : Nat) (hn : 0 < n) (h : lba + n ≤ bs.length) : looseK (putL bs lba x n) bs.length = (List.range' lba n).map fun i : Nat => (i : Int) := by
  rw [looseK_range _ lba n _ (fun i hi => putL_loose bs lba x n hn h i hi), show min n (bs.length - lba) = n from by omega]
theorem loose_one (bs : List Bk) (lba : Nat) (x : List Int) (h : lba < bs.length) : looseK (putL bs lba x 1) bs.length = [(lba : Int)] := by
  rw [loose_putL bs lba x 1 (by omega) (by omega)]; rfl
theorem loose_len (bs : List Bk) (lba : Nat) (x : List Int) (n : Nat) (hn : 0 < n) (h : lba + n ≤ bs.length) : (looseK (putL bs lba x n) bs.length).length = n := by
  rw [loose_putL bs lba x n hn h]; simp
theorem put_now (bs : List Bk) (lba : Nat) (x : List Int) (h : lba < bs.length) : ((putL bs lba x 1).getD lba zb).now = x := by
  rw [putL_get bs lba x 1 (by omega) (by omega) lba h, if_pos (by omega)]; rfl
theorem crash_flush (bs : List Bk) : crashL (bs.map Bk.settle) [] = some ((bs.map Bk.settle).map clrB) := by
  simp [crashL, keepL]
theorem clr_settle (b : Bk) : clrB b.settle = b.settle := by
  have h := settle_l b
  unfold clrB
  generalize b.settle = c at *
  obtain ⟨d, s, l⟩ := c
  simp only at h
  rw [h]
theorem clr_flush (bs : List Bk) : (bs.map Bk.settle).map clrB = bs.map Bk.settle := by
  rw [List.map_map]
  exact List.map_congr_left (fun b _ => clr_settle b)
theorem eqB_refl (b : Bk) : eqB b b = true := by unfold eqB; simp
theorem eqL_refl (bs : List Bk) : eqL bs bs = true := by
  unfold eqL eqK
  rw [decide_eq_true rfl, Bool.true_and, List.all_eq_true]
  intro i _
  exact eqB_refl _
end Go.Proofs.Ytbojokjommmebaa.MoPure
