/- put, Write, Trim, Loose. -/
import Derived.Test.YtbojokjommmebaaMoRead
namespace Go.Proofs.Ytbojokjommmebaa.MoPut
set_option linter.unusedSimpArgs false
set_option linter.unusedVariables false
open Go.RowKit Go.Proofs.YtbojokjommmebaaW.PrintWords Go.Proofs.YtbojokjommmebaaW.PrintLast Go.Proofs.YtbojokjommmebaaW.PrintMore Go.Proofs.Ytbojokjommmebaa.MoMem Go.Proofs.Ytbojokjommmebaa.MoGo Go.Proofs.Ytbojokjommmebaa.MoNow Go.Proofs.Ytbojokjommmebaa.MoRead
/-- The first k blocks from lba on, loosely written. -/
def putK (bs : List Bk) (lba : Nat) (x : List Int) : Nat → List Bk
  | 0 => bs
  | k + 1 => (putK bs lba x k).set (lba + k) ⟨((putK bs lba x k).getD (lba + k) zb).d, x, true⟩
theorem putK_len (bs : List Bk) (lba : Nat) (x : List Int) : ∀ k, (putK bs lba x k).length = bs.length
  | 0 => rfl
  | k + 1 => by simp only [putK]; rw [List.length_set, putK_len bs lba x k]
/-- What a writing leaves. -/
def putL (bs : List Bk) (lba : Nat) (x : List Int) (n : Nat) : List Bk := putK (if n = 0 then bs else bs.map Bk.settle) lba x n
section
variable {W W' : World} {ab lb : Nat} {bs : List Bk} {S : Nat → Prop}
theorem Fr.cell {a : Addr} {v : Value} (h : Fr W W' S) (hc : W.cell? a = some v) (hn : ¬ S a.block) : W'.cell? a = some v := by
  rw [← hc]
  exact World.cell?_of_block (w := W) (h.block a.block (cell_lt hc) hn)
theorem size5 : (Try.prog.info? 5).map (·.size) = some 1 := by kernel_rfl
theorem copy_in (h : ArrAt W ab lb bs) (i : Nat) (hi : i < bs.length) (x : List Int) (hx : Sec x) (ad : Addr) (c : Nat) (hs : ∀ j v, (v8 x)[j]? = some v → W.cell? (ad.add j) = some v) :
    ∀ ty, (Builtin.copy_ #[33, 33] ty #[.slice (some ⟨lb, i * 129 + 64, none⟩) 64 64, .slice (some ad) 64 c]).run Try.prog W = .ok (goInt 64) (W.setCells lb (i * 129 + 64) (v8 x)) := by
  intro ty
  have ht := h.there i hi 64 64 (by omega)
  have hl : (v8 x).length = 64 := by rw [v8_len, hx.len]
  have := run_copy_cells (P := Try.prog) W 33 33 ty 5 lb (i * 129 + 64) 64 64 ad 64 c (v8 x) Try.underlying33 size5 (by rw [hl]; rfl) hs (fun j hj => (ht j (by omega)).1) (fun j hj => (ht j (by omega)).2) (v8_one x)
  rw [hl] at this
  exact this
theorem put_in (h : ArrAt W ab lb bs) (i : Nat) (hi : i < bs.length) (x : List Int) (hx : Sec x) :
    ArrAt (W.setCells lb (i * 129 + 64) (v8 x)) ab lb (bs.set i ⟨(bs.getD i zb).d, x, (bs.getD i zb).l⟩) ∧ (W.setCells lb (i * 129 + 64) (v8 x)).cell? ⟨ab, 1, none⟩ = some (.bool true) ∧
    (W.setCells lb (i * 129 + 64) (v8 x)).cell? ⟨lb, i * 129 + 128, none⟩ = some (.bool (bs.getD i zb).l) ∧ (W.setCells lb (i * 129 + 64) (v8 x)).frozen? ⟨lb, i * 129 + 128, none⟩ = false ∧
    ArrAt ((W.setCells lb (i * 129 + 64) (v8 x)).setCell ⟨lb, i * 129 + 128, none⟩ (.bool true)) ab lb (bs.set i ⟨(bs.getD i zb).d, x, true⟩) := by
  have hok := h.ok i
  have s1 : ArrAt (W.setCells lb (i * 129 + 64) (v8 x)) ab lb (bs.set i ⟨(bs.getD i zb).d, x, (bs.getD i zb).l⟩) :=
    h.put i 64 (v8 x) ⟨(bs.getD i zb).d, x, (bs.getD i zb).l⟩ hi ⟨hok.d, hx⟩ (by rw [v8_len, hx.len]; omega) (seg_s hok ⟨hok.d, hx⟩ rfl rfl)
  have hi2 : i < (bs.set i ⟨(bs.getD i zb).d, x, (bs.getD i zb).l⟩).length := by rw [List.length_set]; exact hi
  obtain ⟨_, _, _, c1⟩ := s1.head
  have c2 := s1.loose i hi2
  have s2 := put_l s1 i hi2 true
  rw [getD_set bs i _ hi] at c2 s2
  rw [List.set_set] at s2
  exact ⟨s1, c1, c2, s1.froz _, s2⟩
set_option maxRecDepth 100000 in
set_option maxHeartbeats 1000000 in
/-- The loop of put. -/
theorem put_calls (h : ArrAt W ab lb bs) (lba n : Nat) (hln : lba + n ≤ bs.length) (A : Option Addr) (c : Nat) (x : List Int) (hx : Sec x) (hr : Kd.C (Kd.int .u8) W A x.length x) (hA : ∀ ad, A = some ad → ad.block ≠ lb) :
    Calls Try.prog 29 #[.pointer (some ⟨ab, 0, none⟩), .int .i64 (lba : Int), .int .i64 (n : Int), .slice A 64 c] W fun e W' => (∃ v, e = .returned v) ∧ ArrAt W' ab lb (putL bs lba x n) ∧ Fr W W' (fun k => k = lb) := by
  have HF := Lib.hid (flush_calls h)
  have HH := Lib.hid h
  have hf := h.few
  obtain ⟨ad, rfl, hcell⟩ := (Kd.reads_of_C (enc := Value.int .u8) (d := (0 : Int)) (h1 := fun _ => rfl) hr).2.2 (by rw [hx.len]; omega)
  have hne := hA ad rfl
  have HX := Lib.hid (show ∀ wr, Fr W wr (fun k => k = lb) → ∀ j v, (v8 x)[j]? = some v → wr.cell? (ad.add j) = some v from by
    intro wr hfr j v hv
    have hj : j < x.length := by have := (List.getElem?_eq_some_iff.1 hv).1; rw [v8_len] at this; exact this
    have e : v = .int .u8 (x.getD j 0) := by
      unfold v8 at hv
      rw [List.getElem?_map, List.getElem?_eq_getElem hj] at hv
      rw [List.getD_eq_getElem?_getD, List.getElem?_eq_getElem hj]
      exact (Option.some.inj hv).symm
    have hb : (ad.add j).block = ad.block := by unfold Addr.add; split <;> rfl
    rw [e]
    exact Fr.cell hfr (hcell j hj) (by rw [hb]; exact hne))
  have HSX := Lib.hid hx
  obtain ⟨L, hL⟩ : ∃ L, L = bs.length := ⟨_, rfl⟩
  rw [← hL] at hln hf
  clear h hr hA hcell hx hne
  by_cases hn : n = 0
  · obtain ⟨BS, hBS⟩ : ∃ BS, BS = bs := ⟨_, rfl⟩
    have e : putL bs lba x n = putK BS lba x n := by unfold putL; rw [if_pos hn, hBS]
    rw [e]
    have HLEN := Lib.hid (show ∀ k, (putK BS lba x k).length = L from fun k => by rw [putK_len, hBS, hL])
    have HST := Lib.hid (show ArrAt W ab lb (putK BS lba x 0) from by rw [hBS]; exact HH.out)
    have hn0 : ¬ (0 < (n : Int)) := by omega
    clear e hBS hL hn
    go_enter Try.func29, Try.ntmps29
    go_wp2_with (fail)
    go_loopw [14] (fun v14 wr => ∃ k : Nat, v14 = .int .i64 (k : Int) ∧ k ≤ n ∧ Hid (ArrAt wr ab lb (putK BS lba x k)) ∧ Hid (Fr W wr (fun k => k = lb))) (fun v14 _ => ((n : Int) - intOf v14).toNat)
    case atStart => exact ⟨0, rfl, by omega, HST, Lib.hid (Fr.refl _ _)⟩
    case round =>
      obtain ⟨k, rfl, hk, HA, HFr⟩ := hrel
      by_cases hlt : k < n
      · omega
      · have hge : ¬ ((k : Int) < (n : Int)) := by omega
        obtain rfl : k = n := by omega
        clear hlt
        go_wp2_with (fail)
        go_end0
        exact ⟨⟨_, rfl⟩, HA.out, HFr.out⟩
  · obtain ⟨BS, hBS⟩ : ∃ BS, BS = bs.map Bk.settle := ⟨_, rfl⟩
    have e : putL bs lba x n = putK BS lba x n := by unfold putL; rw [if_neg hn, hBS]
    rw [e]
    have HLEN := Lib.hid (show ∀ k, (putK BS lba x k).length = L from fun k => by rw [putK_len, hBS, List.length_map, hL])
    have HST := Lib.hid (show ∀ W2, ArrAt W2 ab lb (bs.map Bk.settle) → ArrAt W2 ab lb (putK BS lba x 0) from fun W2 hh => by rw [hBS]; exact hh)
    have hn0 : 0 < (n : Int) := by omega
    clear e hBS hL hn
    go_enter Try.func29, Try.ntmps29
    go_wp2_with (go_at_call 19; refine HF.out.mono ?_; rintro _ W2 ⟨rfl, h1, h2⟩; have HA2 := Lib.hid (HST.out W2 h1); have HF2 := Lib.hid h2; clear h1 h2)
    go_loopw [14] (fun v14 wr => ∃ k : Nat, v14 = .int .i64 (k : Int) ∧ k ≤ n ∧ Hid (ArrAt wr ab lb (putK BS lba x k)) ∧ Hid (Fr W wr (fun k => k = lb))) (fun v14 _ => ((n : Int) - intOf v14).toNat)
    case atStart => exact ⟨0, rfl, by omega, HA2, HF2⟩
    case round =>
      obtain ⟨k, rfl, hk, HA, HFr⟩ := hrel
      by_cases hlt : k < n
      · have hi : lba + k < (putK BS lba x k).length := by rw [HLEN.out]; omega
        obtain ⟨cc, hcc, c0, _⟩ := HA.out.head
        have hcp := copy_in HA.out (lba + k) hi x HSX.out ad c (HX.out wr HFr.out)
        obtain ⟨s1, c1, c2, f2, s2⟩ := put_in HA.out (lba + k) hi x HSX.out
        obtain ⟨cd, hcd, d0, _⟩ := s1.head
        rw [List.length_set] at hcd d0
        rw [HLEN.out] at hcc c0 hcd d0
        have HS2 := Lib.hid s2
        have HF3 := Lib.hid ((HFr.out.trans (Fr.setCells wr lb ((lba + k) * 129 + 64) (v8 x)) (fun k hk => .inl hk)).trans (Fr.setCell _ lb ((lba + k) * 129 + 128) (.bool true)) (fun k hk => .inl hk))
        clear s1 s2 hi
        go_wp2_with (simp only [hcp])
        go_roundw
        case rel => exact ⟨k + 1, rfl, by omega, HS2, HF3⟩
        case measure => simp [intOf]; omega
      · have hge : ¬ ((k : Int) < (n : Int)) := by omega
        obtain rfl : k = n := by omega
        clear hlt
        go_wp2_with (fail)
        go_end0
        exact ⟨⟨_, rfl⟩, HA.out, HFr.out⟩
end
end Go.Proofs.Ytbojokjommmebaa.MoPut
