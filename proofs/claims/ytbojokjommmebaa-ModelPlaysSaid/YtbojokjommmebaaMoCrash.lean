/- Crash. -/
import Derived.Test.YtbojokjommmebaaMoNew
namespace Go.Proofs.Ytbojokjommmebaa.MoCrash
set_option linter.unusedSimpArgs false
set_option linter.unusedVariables false
open Go.RowKit Go.Proofs.YtbojokjommmebaaW.PrintWords Go.Proofs.YtbojokjommmebaaW.PrintLast Go.Proofs.YtbojokjommmebaaW.PrintMore Go.Proofs.Ytbojokjommmebaa.PModelPlays Go.Proofs.Ytbojokjommmebaa.MoMem Go.Proofs.Ytbojokjommmebaa.MoGo Go.Proofs.Ytbojokjommmebaa.MoNow Go.Proofs.Ytbojokjommmebaa.MoRead Go.Proofs.Ytbojokjommmebaa.MoPut Go.Proofs.Ytbojokjommmebaa.MoWrite Go.Proofs.Ytbojokjommmebaa.MoLoose Go.Proofs.Ytbojokjommmebaa.MoNew
def clrB (b : Bk) : Bk := ⟨b.d, b.s, false⟩
def keepL (o : List Bk) : List Bk → List Int → Option (List Bk)
  | x, [] => some x
  | x, a :: r => if 0 ≤ a ∧ a < (o.length : Int) ∧ (o.getD a.toNat zb).l = true then keepL o (x.set a.toNat (x.getD a.toNat zb).settle) r else none
def crashL (o : List Bk) (kept : List Int) : Option (List Bk) := (keepL o o kept).map fun x => x.map clrB
def clrK (bs : List Bk) : Nat → List Bk
  | 0 => bs
  | k + 1 => (clrK bs k).set k (clrB ((clrK bs k).getD k zb))
theorem clrK_len (bs : List Bk) : ∀ k, (clrK bs k).length = bs.length
  | 0 => rfl
  | k + 1 => by simp only [clrK]; rw [List.length_set, clrK_len bs k]
theorem clrK_get (bs : List Bk) : ∀ k i, (clrK bs k)[i]? = if i < k then bs[i]?.map clrB else bs[i]?
  | 0, i => by simp [clrK]
  | k + 1, i => by
    simp only [clrK]
    rw [List.getElem?_set, clrK_len]
    by_cases e : k = i
    · subst e
      rw [if_pos rfl]
      by_cases hk : k < bs.length
      · rw [if_pos hk, if_pos (Nat.lt_succ_self k), List.getD_eq_getElem?_getD, clrK_get bs k k, if_neg (by omega), List.getElem?_eq_getElem hk]; rfl
      · rw [if_neg hk, if_pos (Nat.lt_succ_self k), List.getElem?_eq_none (by omega)]; rfl
    · rw [if_neg e, clrK_get bs k i]
      by_cases c : i < k
      · rw [if_pos c, if_pos (by omega)]
      · rw [if_neg c, if_neg (by omega)]
theorem clrK_all (bs : List Bk) : clrK bs bs.length = bs.map clrB := by
  apply List.ext_getElem?
  intro i
  rw [clrK_get, List.getElem?_map]
  by_cases c : i < bs.length
  · rw [if_pos c]
  · rw [if_neg c, List.getElem?_eq_none (by omega)]; rfl
section
variable {W W' : World} {ab lb : Nat} {bs : List Bk} {S : Nat → Prop}
theorem clone_arr {W1 : World} (h : ArrAt W ab lb bs) {g c : Nat} (h1 : W.heap.size ≤ g) (h2 : bs.length ≤ c) (h3 : c ≤ maxLen)
    (h4 : ∃ cur, W1.heap[g]? = some (.cells cur 69 (0, 0)) ∧ bs.length * 129 ≤ cur.size ∧ ∀ i, i < bs.length → (bs.getD i zb).Ok ∧ ∀ j, j < 129 → cur[i * 129 + j]? = (bcells (bs.getD i zb))[j]?) :
    ArrAt (W1.alloc (.cells #[.slice (some ⟨g, 0, none⟩) bs.length c, .bool true] 58)) W1.heap.size g bs := by
  obtain ⟨cur, e1, e2, e3⟩ := h4
  have := blk_in e1
  exact ⟨by omega, h.few, ⟨c, h2, h3, alloc_at _ _⟩, ⟨cur, blk_alloc e1 _, e2, e3⟩⟩
def CrashPost (W : World) (r : Option (List Bk)) (e : Ending) (W' : World) : Prop :=
  match r with
  | none => e = .returned (.tuple #[.pointer none, .int .i64 3]) ∧ Below W.heap.size W W'
  | some x => ∃ nb mb, e = .returned (.tuple #[.pointer (some ⟨nb, 0, none⟩), .int .i64 0]) ∧ ArrAt W' nb mb x ∧ W.heap.size ≤ nb ∧ W.heap.size ≤ mb ∧ Below W.heap.size W W'
theorem crash_nilodd (p : Option Addr) (hp : ∀ W, Calls Try.prog 31 #[.pointer p] W fun e W' => e = .returned (.bool false) ∧ W' = W) (v : Value) (W : World) : Calls Try.prog 23 #[.pointer p, v] W fun e W' => e = .returned (.tuple #[.pointer none, .int .i64 2]) ∧ W' = W := by
  have HR := hp W
  clear hp
  go_enter Try.func23, Try.ntmps23
  go_wp2_with (go_at_call 31; refine HR.mono ?_; rintro _ _ ⟨rfl, rfl⟩)
  go_ret2
  exact ⟨rfl, rfl⟩
set_option maxRecDepth 100000 in
set_option maxHeartbeats 4000000 in
theorem crash_calls (h : ArrAt W ab lb bs) (A : Option Addr) (c2 : Nat) (l : List Int) (hr : Kd.C (Kd.int .i64) W A l.length l) (hc2 : l.length ≤ c2) :
    Calls Try.prog 23 #[.pointer (some ⟨ab, 0, none⟩), .slice A l.length c2] W (CrashPost W (crashL bs l)) := by
  have hmx := Kd.C_max hr
  obtain ⟨c, hc, c0, c1⟩ := h.head
  have HR := Lib.hid (real_is true c1)
  have hf := h.few
  have HH := Lib.hid h
  have HC := Lib.hid (clone_blocks h c)
  have HL := Lib.hid hr
  obtain ⟨n, hn⟩ : ∃ n, n = bs.length := ⟨_, rfl⟩
  rw [← hn] at HC hc c0 hf
  have HN := Lib.hid hn
  clear h c1 hr hn
  go_enter Try.func23, Try.ntmps23
  go_wp2_with (first
    | (go_at_call 31; refine HR.out.mono ?_; rintro _ W2 ⟨rfl, hw⟩; replace hw := hw.symm; subst hw)
    | (go_at_call 37; refine HC.out.mono ?_; rintro _ W1 ⟨g, c3, rfl, y1, y2, y3, y4, y5⟩; have HA := Lib.hid (clone_arr HH.out y1 y2 y3 y4); have HG := Lib.hid (And.intro y1 (bthen y5 ((Below.refl _ _).alloc (Nat.le_refl W1.heap.size) (.cells #[.slice (some ⟨g, 0, none⟩) bs.length c3, .bool true] 58)))); have HZ := Lib.hid y5.size; rw [← HN.out] at HA HG; clear y1 y2 y3 y4 y5; rw [← HN.out]))
  obtain ⟨W0, hW0⟩ : ∃ W0, W0 = (W1.alloc (.cells #[.slice (some ⟨g, 0, none⟩) n c3, .bool true] 58)) := ⟨_, rfl⟩
  rw [← hW0] at HA HG ⊢
  obtain ⟨nb, hnb⟩ : ∃ nb, nb = W1.heap.size := ⟨_, rfl⟩
  rw [← hnb] at HA HZ ⊢
  clear hW0 hnb c0 HC
  obtain ⟨R, hR⟩ : ∃ R, R = crashL bs l := ⟨_, rfl⟩
  rw [← hR]
  have HRR := Lib.hid hR
  clear hR
  go_loopw [22] (fun v22 wr => ∃ (k : Nat) (x : List Bk), v22 = .int .i64 (k : Int) ∧ k ≤ l.length ∧ Hid (keepL bs bs l = keepL bs x (l.drop k)) ∧ Hid (x.length = n) ∧ Hid (ArrAt wr nb g x) ∧ Hid (Below W.heap.size W wr)) (fun v22 _ => ((l.length : Int) - intOf v22).toNat)
  case atStart => exact ⟨0, bs, rfl, by omega, Lib.hid rfl, Lib.hid HN.out.symm, HA, Lib.hid HG.out.2⟩
  case round =>
    clear HA
    obtain ⟨k, x, rfl, hk, HK, HXL, HX, HB⟩ := hrel
    by_cases hlt : k < l.length
    · obtain ⟨ad, rfl, hcell⟩ := (Kd.reads_of_C (enc := Value.int .i64) (d := (0 : Int)) (h1 := fun _ => rfl) (Kd.C_below HL.out HB.out)).2.2 (by omega)
      have x0 := hcell k hlt
      have hd : l.drop k = l.getD k 0 :: l.drop (k + 1) := by
        rw [List.drop_eq_getElem_cons hlt, List.getD_eq_getElem?_getD, List.getElem?_eq_getElem hlt]; rfl
      have hkk := HK.out
      rw [hd] at hkk
      simp only [keepL] at hkk
      clear hd hcell
      have ho := HH.out.below HB.out
      generalize l.getD k 0 = a at *
      have HRD := Lib.hid (ready_calls ho a 1)
      rw [← HN.out] at HRD hkk
      by_cases hin : 0 ≤ a ∧ a < (n : Int)
      · obtain ⟨m, rfl⟩ := Int.eq_ofNat_of_zero_le hin.1
        have hm : m < n := by omega
        have hm2 : m < bs.length := by rw [← HN.out]; exact hm
        rw [ready_in hm] at HRD
        obtain ⟨co, hco, o0, _⟩ := ho.head
        rw [← HN.out] at hco o0
        have ol := ho.loose m hm2
        rw [Int.toNat_natCast] at hkk
        cases hl : (bs.getD m zb).l with
        | false =>
          rw [hl] at ol hkk
          rw [if_neg (by simp)] at hkk
          have hRn : R = none := by rw [HRR.out]; unfold crashL; rw [hkk]; rfl
          have HRN := Lib.hid hRn
          clear hkk ho hl hm2 hin hRn
          go_wp2_with (go_at_call 28; refine HRD.out.mono ?_; rintro _ W2 ⟨rfl, hw⟩; replace hw := hw.symm; subst hw)
          go_ret2
          rw [HRN.out]
          exact ⟨rfl, HB.out⟩
        | true =>
          rw [hl] at ol hkk
          rw [if_pos ⟨by omega, by omega, rfl⟩] at hkk
          have hmx2 : m < x.length := by rw [HXL.out]; exact hm
          have HS := Lib.hid (settle_calls HX.out m hmx2)
          obtain ⟨cn, hcn, n0, _⟩ := HX.out.head
          rw [HXL.out] at hcn n0
          have HK2 := Lib.hid hkk
          have HXL2 := Lib.hid (show (x.set m (x.getD m zb).settle).length = n from by rw [List.length_set]; exact HXL.out)
          clear hkk ho hl hm2 hin hmx2
          go_wp2_with (first
            | (go_at_call 28; refine HRD.out.mono ?_; rintro _ W2 ⟨rfl, hw⟩; replace hw := hw.symm; subst hw)
            | (go_at_call 36; refine HS.out.mono ?_; rintro _ W2 ⟨⟨vv, rfl⟩, h1, h2⟩; have HX2 := Lib.hid h1; have HB2 := Lib.hid (h2.below HB.out (fun k hk => by rw [hk]; exact HG.out.1)); clear h1 h2))
          go_roundw
          case rel => exact ⟨k + 1, _, rfl, by omega, HK2, HXL2, HX2, HB2⟩
          case measure => simp [intOf]; omega
      · rw [ready_out hin] at HRD
        rw [if_neg (fun h => hin ⟨h.1, h.2.1⟩)] at hkk
        have hRn : R = none := by rw [HRR.out]; unfold crashL; rw [hkk]; rfl
        have HRN := Lib.hid hRn
        clear hkk ho hin hRn
        go_wp2_with (go_at_call 28; refine HRD.out.mono ?_; rintro _ W2 ⟨rfl, hw⟩; replace hw := hw.symm; subst hw)
        go_ret2
        rw [HRN.out]
        exact ⟨rfl, HB.out⟩
    · have hge : ¬ ((k : Int) < (l.length : Int)) := by omega
      obtain rfl : k = l.length := by omega
      have hkk := HK.out
      rw [List.drop_length] at hkk
      simp only [keepL] at hkk
      have hRs : R = some (x.map clrB) := by rw [HRR.out]; unfold crashL; rw [hkk]; rfl
      have HRS := Lib.hid hRs
      obtain ⟨cn, hcn, n0, _⟩ := HX.out.head
      rw [HXL.out] at hcn n0
      clear hlt hkk hRs
      go_wp2_with (fail)
      clear n0
      go_loopw [54] (fun v54 wr2 => ∃ (q : Nat), v54 = .int .i64 (q : Int) ∧ q ≤ n ∧ Hid (ArrAt wr2 nb g (clrK x q)) ∧ Hid (Below W.heap.size W wr2)) (fun v54 _ => ((n : Int) - intOf v54).toNat)
      case atStart => exact ⟨0, rfl, by omega, HX, HB⟩
      case round =>
        obtain ⟨q, rfl, hq, HY, HB2⟩ := hrel
        by_cases hlq : q < n
        · have hq2 : q < (clrK x q).length := by rw [clrK_len, HXL.out]; exact hlq
          obtain ⟨cy, hcy, y0, _⟩ := HY.out.head
          rw [clrK_len, HXL.out] at hcy y0
          have y1 := HY.out.loose q hq2
          have y2 := HY.out.froz (q * 129 + 128)
          have HP := Lib.hid (put_l HY.out q hq2 false)
          have HB3 := Lib.hid ((Fr.setCell wr g (q * 129 + 128) (.bool false)).below HB2.out (fun k hk => by rw [hk]; exact HG.out.1))
          clear hq2
          go_wp2_with (fail)
          go_roundw
          case rel => exact ⟨q + 1, rfl, by omega, HP, HB3⟩
          case measure => simp [intOf]; omega
        · have hge2 : ¬ ((q : Int) < (n : Int)) := by omega
          obtain rfl : q = n := by omega
          clear hlq
          go_wp2_with (fail)
          go_ret2
          rw [show crashL bs l = some (x.map clrB) from HRR.out.symm.trans HRS.out]
          refine ⟨nb, g, rfl, ?_, HZ.out, HG.out.1, HB2.out⟩
          rw [← clrK_all, HXL.out]
          exact HY.out
end
end Go.Proofs.Ytbojokjommmebaa.MoCrash
