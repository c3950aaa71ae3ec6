/- real, ready, settle, Flush. -/
import Derived.Test.YtbojokjommmebaaMoMem
namespace Go.Proofs.Ytbojokjommmebaa.MoGo
set_option linter.unusedSimpArgs false
set_option linter.unusedVariables false
open Go.RowKit Go.Proofs.YtbojokjommmebaaW.PrintWords Go.Proofs.YtbojokjommmebaaW.PrintLast Go.Proofs.YtbojokjommmebaaW.PrintMore Go.Proofs.Ytbojokjommmebaa.MoMem
section
variable {W W' : World} {ab lb : Nat} {bs : List Bk} {S : Nat → Prop}
theorem real_nil (W : World) : Calls Try.prog 31 #[.pointer none] W fun e W' => e = .returned (.bool false) ∧ W' = W := by
  go_enter Try.func31, Try.ntmps31
  go_wp2
  go_ret
  exact ⟨rfl, rfl⟩
theorem real_is (b : Bool) (hc : W.cell? ⟨ab, 1, none⟩ = some (.bool b)) : Calls Try.prog 31 #[.pointer (some ⟨ab, 0, none⟩)] W fun e W' => e = .returned (.bool b) ∧ W' = W := by
  go_enter Try.func31, Try.ntmps31
  go_wp2
  go_ret
  exact ⟨by simp, rfl⟩
/-- Why nothing is done with blocks. -/
def readyE (len : Nat) (lba n : Int) : Int := if lba < 0 ∨ (len : Int) ≤ lba ∨ n < 0 ∨ (len : Int) - lba < n then 3 else 0
theorem ready_nil (lba n : Int) (W : World) : Calls Try.prog 28 #[.pointer none, .int .i64 lba, .int .i64 n] W fun e W' => e = .returned (.int .i64 2) ∧ W' = W := by
  have HR := real_nil W
  go_enter Try.func28, Try.ntmps28
  go_wp2_with (go_at_call 31; refine HR.mono ?_; rintro _ _ ⟨rfl, rfl⟩)
  go_ret
  exact ⟨rfl, rfl⟩
theorem ready_odd (lba n : Int) (hc : W.cell? ⟨ab, 1, none⟩ = some (.bool false)) : Calls Try.prog 28 #[.pointer (some ⟨ab, 0, none⟩), .int .i64 lba, .int .i64 n] W fun e W' => e = .returned (.int .i64 2) ∧ W' = W := by
  have HR := real_is false hc
  clear hc
  go_enter Try.func28, Try.ntmps28
  go_wp2_with (go_at_call 31; refine HR.mono ?_; rintro _ _ ⟨rfl, rfl⟩)
  go_ret
  exact ⟨rfl, rfl⟩
set_option maxRecDepth 100000 in
theorem ready_calls (h : ArrAt W ab lb bs) (lba n : Int) : Calls Try.prog 28 #[.pointer (some ⟨ab, 0, none⟩), .int .i64 lba, .int .i64 n] W fun e W' => e = .returned (.int .i64 (readyE bs.length lba n)) ∧ W' = W := by
  obtain ⟨c, hc, c0, c1⟩ := h.head
  have HR := Lib.hid (real_is true c1)
  have hf := h.few
  clear h c1
  generalize bs.length = L at *
  by_cases p1 : lba < 0
  · have e : readyE L lba n = 3 := by unfold readyE; rw [if_pos (.inl p1)]
    rw [e]
    clear e
    go_enter Try.func28, Try.ntmps28
    go_wp2_with (go_at_call 31; refine HR.out.mono ?_; rintro _ _ ⟨rfl, rfl⟩)
    go_ret
    exact ⟨rfl, rfl⟩
  by_cases p2 : (L : Int) ≤ lba
  · have e : readyE L lba n = 3 := by unfold readyE; rw [if_pos (.inr (.inl p2))]
    rw [e]
    clear e
    go_enter Try.func28, Try.ntmps28
    go_wp2_with (go_at_call 31; refine HR.out.mono ?_; rintro _ _ ⟨rfl, rfl⟩)
    go_ret
    exact ⟨rfl, rfl⟩
  by_cases p3 : n < 0
  · have e : readyE L lba n = 3 := by unfold readyE; rw [if_pos (.inr (.inr (.inl p3)))]
    rw [e]
    clear e
    go_enter Try.func28, Try.ntmps28
    go_wp2_with (go_at_call 31; refine HR.out.mono ?_; rintro _ _ ⟨rfl, rfl⟩)
    go_ret
    exact ⟨rfl, rfl⟩
  by_cases p4 : (L : Int) - lba < n
  · have e : readyE L lba n = 3 := by unfold readyE; rw [if_pos (.inr (.inr (.inr p4)))]
    rw [e]
    clear e
    go_enter Try.func28, Try.ntmps28
    go_wp2_with (go_at_call 31; refine HR.out.mono ?_; rintro _ _ ⟨rfl, rfl⟩)
    go_ret
    exact ⟨rfl, rfl⟩
  · have e : readyE L lba n = 0 := by unfold readyE; rw [if_neg (by omega)]
    rw [e]
    clear e
    go_enter Try.func28, Try.ntmps28
    go_wp2_with (go_at_call 31; refine HR.out.mono ?_; rintro _ _ ⟨rfl, rfl⟩)
    go_ret
    exact ⟨rfl, rfl⟩

theorem size65 : (Try.prog.info? 65).map (·.size) = some 64 := by kernel_rfl
theorem sz65 {l : List Int} (h : Sec l) : (Try.prog.info? 65).map (·.size) = some (v8 l).length := by rw [v8_len, h.len]; exact size65
theorem sz65' {l : List Int} (h : Sec l) : (Try.prog.info? 65).map (·.size) = some (v8 l).toArray.size := by rw [List.size_toArray]; exact sz65 h
theorem set_same (bs : List Bk) (i : Nat) (hi : i < bs.length) : bs.set i (bs.getD i zb) = bs := by
  apply List.ext_getElem?
  intro k
  rw [List.getElem?_set]
  by_cases e : i = k
  · subst e
    rw [if_pos rfl, if_pos hi, List.getD_eq_getElem?_getD, List.getElem?_eq_getElem hi]; rfl
  · rw [if_neg e]
theorem getD_set (bs : List Bk) (i : Nat) (b : Bk) (hi : i < bs.length) : (bs.set i b).getD i zb = b := by
  rw [List.getD_eq_getElem?_getD, List.getElem?_set, if_pos rfl, if_pos hi]; rfl
/-- What is fixed is overwritten. -/
theorem seg_d {b b' : Bk} (h : b.Ok) (h' : b'.Ok) (hs : b'.s = b.s) (hl : b'.l = b.l) : ∀ j, j < 129 → (bcells b')[j]? = if j < 0 then (bcells b)[j]? else if j < 0 + (v8 b'.d).length then (v8 b'.d)[j - 0]? else (bcells b)[j]? := by
  intro j hj
  rw [if_neg (by omega), v8_len, h'.d.len]
  by_cases c : j < 64
  · rw [if_pos (by omega), bcells_d h' j c]; rfl
  · rw [if_neg (by omega)]
    by_cases c2 : j = 128
    · subst c2; rw [bcells_l h', bcells_l h, hl]
    · obtain ⟨k, rfl⟩ : ∃ k, j = 64 + k := ⟨j - 64, by omega⟩
      rw [bcells_s h' k (by omega), bcells_s h k (by omega), hs]
theorem seg_s {b b' : Bk} (h : b.Ok) (h' : b'.Ok) (hd : b'.d = b.d) (hl : b'.l = b.l) : ∀ j, j < 129 → (bcells b')[j]? = if j < 64 then (bcells b)[j]? else if j < 64 + (v8 b'.s).length then (v8 b'.s)[j - 64]? else (bcells b)[j]? := by
  intro j hj
  rw [v8_len, h'.s.len]
  by_cases c : j < 64
  · rw [if_pos c, bcells_d h' j c, bcells_d h j c, hd]
  · rw [if_neg c]
    by_cases c2 : j = 128
    · subst c2; rw [if_neg (by omega), bcells_l h', bcells_l h, hl]
    · obtain ⟨k, rfl⟩ : ∃ k, j = 64 + k := ⟨j - 64, by omega⟩
      rw [if_pos (by omega), bcells_s h' k (by omega), show 64 + k - 64 = k from by omega]
theorem seg_l {b b' : Bk} (h : b.Ok) (h' : b'.Ok) (hd : b'.d = b.d) (hs : b'.s = b.s) : ∀ j, j < 129 → (bcells b')[j]? = if j < 128 then (bcells b)[j]? else if j < 128 + [Value.bool b'.l].length then [Value.bool b'.l][j - 128]? else (bcells b)[j]? := by
  intro j hj
  by_cases c : j < 128
  · rw [if_pos c]
    by_cases c1 : j < 64
    · rw [bcells_d h' j c1, bcells_d h j c1, hd]
    · obtain ⟨k, rfl⟩ : ∃ k, j = 64 + k := ⟨j - 64, by omega⟩
      rw [bcells_s h' k (by omega), bcells_s h k (by omega), hs]
  · obtain rfl : j = 128 := by omega
    rw [if_neg c, if_pos (by simp), bcells_l h']; rfl
/-- A block's mark is written. -/
theorem put_l (h : ArrAt W ab lb bs) (i : Nat) (hi : i < bs.length) (l : Bool) : ArrAt (W.setCell ⟨lb, i * 129 + 128, none⟩ (.bool l)) ab lb (bs.set i ⟨(bs.getD i zb).d, (bs.getD i zb).s, l⟩) :=
  h.put i 128 [.bool l] ⟨(bs.getD i zb).d, (bs.getD i zb).s, l⟩ hi ⟨(h.ok i).d, (h.ok i).s⟩ (by simp) (seg_l (h.ok i) ⟨(h.ok i).d, (h.ok i).s⟩ rfl rfl)
theorem Fr.setCell (W : World) (b o : Nat) (v : Value) : Fr W (W.setCell ⟨b, o, none⟩ v) (fun k => k = b) := Fr.setCells W b o [v]
set_option maxRecDepth 100000 in
set_option maxHeartbeats 1000000 in
theorem settle_calls (h : ArrAt W ab lb bs) (i : Nat) (hi : i < bs.length) : Calls Try.prog 36 #[.pointer (some ⟨lb, i * 129, none⟩)] W fun e W' => (∃ v, e = .returned v) ∧ ArrAt W' ab lb (bs.set i (bs.getD i zb).settle) ∧ Fr W W' (fun k => k = lb) := by
  have hl := h.loose i hi
  obtain ⟨b, hb⟩ : ∃ b, b = bs.getD i zb := ⟨_, rfl⟩
  have hok : b.Ok := by rw [hb]; exact h.ok i
  rw [← hb] at hl ⊢
  cases hbl : b.l with
  | false =>
    have e : bs.set i b.settle = bs := by
      unfold Bk.settle
      rw [hbl, if_neg (by decide), hb]
      exact set_same bs i hi
    rw [e]
    rw [hbl] at hl
    have HH := Lib.hid h
    clear h e hb hok hbl hi
    generalize i * 129 = o at *
    go_enter Try.func36, Try.ntmps36
    go_wp2
    go_end0
    exact ⟨⟨_, rfl⟩, HH.out, Fr.refl _ _⟩
  | true =>
    have r1 := h.range_s i hi
    have t1 := h.there i hi 0 64 (by omega)
    have s1 : ArrAt (W.setCells lb (i * 129 + 0) (v8 b.s)) ab lb (bs.set i ⟨b.s, b.s, b.l⟩) := h.put i 0 (v8 b.s) ⟨b.s, b.s, b.l⟩ hi ⟨hok.s, hok.s⟩ (by rw [v8_len, hok.s.len]; omega) (by
      rw [← hb]; exact seg_d hok ⟨hok.s, hok.s⟩ rfl rfl)
    have hi2 : i < (bs.set i ⟨b.s, b.s, b.l⟩).length := by rw [List.length_set]; exact hi
    have s2 := put_l s1 i hi2 false
    have c2 := s1.loose i hi2
    have f2 := s1.froz (i * 129 + 128)
    rw [getD_set bs i _ hi] at s2 c2
    rw [List.set_set] at s2
    have e : b.settle = ⟨b.s, b.s, false⟩ := by unfold Bk.settle; rw [if_pos hbl]
    rw [e]
    rw [Nat.add_zero] at s2 c2 f2 t1
    rw [← hb] at r1
    have hfr : Fr W ((W.setCells lb (i * 129) (v8 b.s)).setCell ⟨lb, i * 129 + 128, none⟩ (.bool false)) (fun k => k = lb) := (Fr.setCells W lb _ _).trans (Fr.setCell _ _ _ _) (fun k hk => .inl hk)
    rw [hbl] at hl c2
    have HF := Lib.hid (And.intro s2 hfr)
    have HR := Lib.hid r1
    have HT := Lib.hid t1
    have HS := Lib.hid hok.s
    clear h s1 s2 hfr e hb hok hbl hi hi2 r1 t1
    generalize i * 129 = o at *
    obtain ⟨bd, sl, bl⟩ := b
    simp only at *
    go_enter Try.func36, Try.ntmps36
    go_wp2_with (first
      | (refine gate_ (.load 65 (.tmp 10)) rfl ?_; refine wpList_load_mid rfl 65 (.tmp 10) rfl lb (o + 64) rfl (v8 sl) _ HR.out Try.underlying65 rfl (sz65 HS.out) ?_)
      | (refine gate_ (.store 65 (.tmp 14) (.tmp 11)) rfl ?_; refine wpList_store_mid rfl 65 (.tmp 14) (.tmp 11) rfl lb o (v8 sl).toArray rfl rfl (by rw [List.size_toArray, v8_len, HS.out.len]; exact HT.out) (sz65' HS.out) (all_oneCell_toArray (v8_one _)) ?_))
    go_end0
    exact ⟨⟨_, rfl⟩, HF.out.1, HF.out.2⟩
/-- The first k settled. -/
def settleK (bs : List Bk) : Nat → List Bk
  | 0 => bs
  | k + 1 => (settleK bs k).set k ((settleK bs k).getD k zb).settle
theorem settleK_len (bs : List Bk) : ∀ k, (settleK bs k).length = bs.length
  | 0 => rfl
  | k + 1 => by simp only [settleK]; rw [List.length_set, settleK_len bs k]
theorem settleK_get (bs : List Bk) : ∀ k i, (settleK bs k)[i]? = if i < k then bs[i]?.map Bk.settle else bs[i]?
  | 0, i => by simp [settleK]
  | k + 1, i => by
    simp only [settleK]
    rw [List.getElem?_set, settleK_len]
    by_cases e : k = i
    · subst e
      rw [if_pos rfl]
      by_cases hk : k < bs.length
      · rw [if_pos hk, if_pos (Nat.lt_succ_self k), List.getD_eq_getElem?_getD, settleK_get bs k k, if_neg (by omega), List.getElem?_eq_getElem hk]; rfl
      · rw [if_neg hk, if_pos (Nat.lt_succ_self k), List.getElem?_eq_none (by omega)]; rfl
    · rw [if_neg e, settleK_get bs k i]
      by_cases c : i < k
      · rw [if_pos c, if_pos (by omega)]
      · rw [if_neg c, if_neg (by omega)]
theorem settleK_all (bs : List Bk) : settleK bs bs.length = bs.map Bk.settle := by
  apply List.ext_getElem?
  intro i
  rw [settleK_get, List.getElem?_map]
  by_cases c : i < bs.length
  · rw [if_pos c]
  · rw [if_neg c, List.getElem?_eq_none (by omega)]; rfl
theorem flush_nil (W : World) : Calls Try.prog 19 #[.pointer none] W fun e W' => e = .returned (.int .i64 2) ∧ W' = W := by
  have HR := real_nil W
  go_enter Try.func19, Try.ntmps19
  go_wp2_with (go_at_call 31; refine HR.mono ?_; rintro _ _ ⟨rfl, rfl⟩)
  go_ret
  exact ⟨rfl, rfl⟩
set_option maxRecDepth 100000 in
set_option maxHeartbeats 1000000 in
theorem flush_calls (h : ArrAt W ab lb bs) : Calls Try.prog 19 #[.pointer (some ⟨ab, 0, none⟩)] W fun e W' => e = .returned (.int .i64 0) ∧ ArrAt W' ab lb (bs.map Bk.settle) ∧ Fr W W' (fun k => k = lb) := by
  obtain ⟨c, hc, c0, c1⟩ := h.head
  have HR := Lib.hid (real_is true c1)
  have hf := h.few
  have HH := Lib.hid h
  have HALL := Lib.hid (settleK_all bs)
  have HLEN := Lib.hid (settleK_len bs)
  obtain ⟨L, hL⟩ : ∃ L, L = bs.length := ⟨_, rfl⟩
  rw [← hL] at hc c0 hf HALL HLEN
  have HL := Lib.hid hL
  clear h c1 hL
  go_enter Try.func19, Try.ntmps19
  go_wp2_with (go_at_call 31; refine HR.out.mono ?_; rintro _ W2 ⟨rfl, hw⟩; replace hw := hw.symm; subst hw)
  clear c0
  go_loopw [12] (fun v12 wr => ∃ k : Nat, v12 = .int .i64 (k : Int) ∧ k ≤ L ∧ Hid (ArrAt wr ab lb (settleK bs k)) ∧ Hid (Fr W wr (fun k => k = lb))) (fun v12 _ => ((L : Int) - intOf v12).toNat)
  case atStart => exact ⟨0, rfl, by omega, HH, Lib.hid (Fr.refl _ _)⟩
  case round =>
    obtain ⟨k, rfl, hk, HA, HFr⟩ := hrel
    by_cases hlt : k < L
    · have hi : k < (settleK bs k).length := by rw [HLEN.out]; exact hlt
      obtain ⟨c, hc, c0, c1⟩ := HA.out.head
      rw [HLEN.out] at hc c0
      have HC := Lib.hid (settle_calls HA.out k hi)
      clear hi
      go_wp2_with (go_at_call 36; refine HC.out.mono ?_; rintro _ W2 ⟨⟨vv, rfl⟩, h1, h2⟩; have HA2 := Lib.hid h1; have HF2 := Lib.hid (HFr.out.trans h2 (fun k hk => .inl hk)); clear h1 h2)
      go_roundw
      case rel => exact ⟨k + 1, rfl, by omega, HA2, HF2⟩
      case measure => simp [intOf]; omega
    · have hge : ¬ ((k : Int) < (L : Int)) := by omega
      obtain rfl : k = L := by omega
      clear hlt
      go_wp2_with (fail)
      go_ret
      exact ⟨rfl, by rw [← HALL.out]; exact HA.out, HFr.out⟩
end
end Go.Proofs.Ytbojokjommmebaa.MoGo
