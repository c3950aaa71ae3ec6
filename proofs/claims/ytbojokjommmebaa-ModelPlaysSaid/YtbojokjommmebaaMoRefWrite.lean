/- The reference: Write, Trim, of blocks. -/
import Derived.Test.YtbojokjommmebaaMoRefPut
import Derived.Test.YtbojokjommmebaaMoPure
namespace Go.Proofs.Ytbojokjommmebaa.MoRefWrite
set_option linter.unusedSimpArgs false
set_option linter.unusedVariables false
open Go.RowKit Go.Proofs.YtbojokjommmebaaW.PrintWords Go.Proofs.YtbojokjommmebaaW.PrintLast Go.Proofs.YtbojokjommmebaaW.PrintMore Go.Proofs.Ytbojokjommmebaa.PModelPlays Go.Proofs.Ytbojokjommmebaa.MoMem Go.Proofs.Ytbojokjommmebaa.MoGo Go.Proofs.Ytbojokjommmebaa.MoPut Go.Proofs.Ytbojokjommmebaa.MoPure Go.Proofs.Ytbojokjommmebaa.MoRefMem Go.Proofs.Ytbojokjommmebaa.MoRefPut
def fD (b : Bk) : ByteArray := strOfNums b.d
def fS (b : Bk) : ByteArray := strOfNums b.now
def fL (b : Bk) : Bool := b.l
/-- The reference's array of these blocks. -/
def RefB (W : World) (base : Nat) (Z : Nat → Prop) (rb : Nat) (bs : List Bk) (v0 v1 v2 : Value) : Prop := RefAt W base Z rb bs.length (bs.map fD) (bs.map fS) (bs.map fL) v0 v1 v2
def RefE (W : World) (base : Nat) (Z : Nat → Prop) (rb : Nat) (bs : List Bk) : Prop := ∃ v0 v1 v2, RefB W base Z rb bs v0 v1 v2
theorem map_put (bs : List Bk) (i : Nat) (x : List Int) : (bs.set i ⟨(bs.getD i zb).d, x, true⟩).map fD = bs.map fD := by
  rw [List.map_set]
  apply List.ext_getElem?
  intro k
  rw [List.getElem?_set]
  by_cases e : i = k
  · subst e
    rw [if_pos rfl]
    by_cases h : i < bs.length
    · rw [if_pos (by rw [List.length_map]; exact h), List.getElem?_map, List.getElem?_eq_getElem h, List.getD_eq_getElem?_getD, List.getElem?_eq_getElem h]; rfl
    · rw [if_neg (by rw [List.length_map]; exact h), List.getElem?_eq_none (by rw [List.length_map]; omega)]
  · rw [if_neg e]
theorem settle_D (bs : List Bk) : (bs.map Bk.settle).map fD = bs.map fS := by
  rw [List.map_map]
  refine List.map_congr_left (fun b _ => ?_)
  show strOfNums b.settle.d = strOfNums b.now
  rw [← settle_now b]
  have h := settle_l b
  unfold Bk.now
  rw [h, if_neg (by decide)]
theorem settle_S (bs : List Bk) : (bs.map Bk.settle).map fS = bs.map fS := by
  rw [List.map_map]
  refine List.map_congr_left (fun b _ => ?_)
  show strOfNums b.settle.now = strOfNums b.now
  rw [settle_now]
theorem settle_L (bs : List Bk) : (bs.map Bk.settle).map fL = List.replicate bs.length false := by
  apply List.ext_getElem?
  intro i
  rw [List.getElem?_map, List.getElem?_map, List.getElem?_replicate]
  by_cases h : i < bs.length
  · rw [List.getElem?_eq_getElem h, if_pos h]
    show some (bs[i].settle.l) = some false
    rw [settle_l]
  · rw [List.getElem?_eq_none (by omega), if_neg h]; rfl
section
variable {W W' : World} {base rb n : Nat} {Z Y : Nat → Prop} {bs : List Bk} {v0 v1 v2 : Value}
theorem RefE.fr_Z (h : RefE W base Z rb bs) {z : Nat} (hz : Z z) (hf : Fr W W' (fun k => k = z)) : RefE W' base Z rb bs := by
  obtain ⟨v0, v1, v2, h⟩ := h
  exact ⟨v0, v1, v2, RefAt.far h hz hf⟩
theorem RefE.below (h : RefE W base Z rb bs) (hb : Below W.heap.size W W') : RefE W' base Z rb bs := by
  obtain ⟨v0, v1, v2, h⟩ := h
  exact ⟨v0, v1, v2, RefAt.below h hb⟩
theorem RefE.few (h : RefE W base Z rb bs) : bs.length ≤ 512 := by
  obtain ⟨v0, v1, v2, h⟩ := h
  exact RefAt.few h
theorem has_is (h : RefE W base Z rb bs) (i : Int) : Calls Try.prog 16 #[.pointer (some ⟨rb, 0, none⟩), .int .i64 i] W fun e W' => e = .returned (.bool (decide (0 ≤ i ∧ i < (bs.length : Int)))) ∧ W' = W := by
  obtain ⟨v0, v1, v2, h⟩ := h
  exact has_calls h i
theorem flushE (h : RefE W base Z rb bs) (hz : ∀ k, Z k → k < W.heap.size) (hb : base ≤ W.heap.size) :
    Calls Try.prog 20 #[.pointer (some ⟨rb, 0, none⟩)] W fun e W' => (∃ v, e = .returned v) ∧ RefE W' base Z rb (bs.map Bk.settle) ∧ Fr W W' (NZ base Z) := by
  obtain ⟨v0, v1, v2, h⟩ := h
  refine (flush_ref h hz hb).mono ?_
  rintro e W' ⟨h1, ⟨v0', v2', h2⟩, h3⟩
  refine ⟨h1, ⟨v0', v1, v2', ?_⟩, h3⟩
  unfold RefB
  rw [List.length_map, settle_D, settle_S, settle_L]
  exact h2
theorem putE (h : RefE W base Z rb bs) (i : Nat) (hi : i < bs.length) (x : List Int) :
    Calls Try.prog 30 #[.pointer (some ⟨rb, 0, none⟩), .int .i64 (i : Int), .string (strOfNums x)] W fun e W' => (∃ v, e = .returned v) ∧ RefE W' base Z rb (bs.set i ⟨(bs.getD i zb).d, x, true⟩) ∧ Fr W W' (NZ base Z) := by
  obtain ⟨v0, v1, v2, h⟩ := h
  refine (put_calls h i hi (strOfNums x)).mono ?_
  rintro e W' ⟨h1, h2, h3⟩
  refine ⟨h1, ⟨v0, v1, v2, ?_⟩, h3⟩
  unfold RefB
  rw [List.length_set, map_put, List.map_set, List.map_set]
  exact h2
theorem writeE_out (h : RefE W base Z rb bs) (i : Int) (v : Value) (ho : ¬(0 ≤ i ∧ i < (bs.length : Int))) : Calls Try.prog 11 #[.pointer (some ⟨rb, 0, none⟩), .int .i64 i, v] W fun e W' => e = .returned (.int .i64 3) ∧ W' = W := by
  have HR := has_is h i
  rw [decide_eq_false ho] at HR
  clear h ho
  go_enter Try.func11, Try.ntmps11
  go_wp2_with (go_at_call 16; refine HR.mono ?_; rintro _ _ ⟨rfl, rfl⟩)
  go_ret
  exact ⟨rfl, rfl⟩
theorem str_len (l : List Int) : (strOfNums l).size = l.length := by
  simp [strOfNums, ByteArray.size]
theorem writeE_len (h : RefE W base Z rb bs) (k : Nat) (hk : k < bs.length) (l : List Int) (hl : l.length ≠ 64) (hm : l.length ≤ 9223372036854775807) : Calls Try.prog 11 #[.pointer (some ⟨rb, 0, none⟩), .int .i64 (k : Int), .string (strOfNums l)] W fun e W' => e = .returned (.int .i64 1) ∧ W' = W := by
  have HR := has_is h (k : Int)
  rw [decide_eq_true (show 0 ≤ (k : Int) ∧ (k : Int) < (bs.length : Int) from ⟨by omega, by omega⟩)] at HR
  have hs := str_len l
  generalize strOfNums l = s at *
  rw [← hs] at hl hm
  have hne : ((s.size : Int) == 64) = false := by simp; omega
  have hne2 : ((s.size : Int) != 64) = true := by simp; omega
  clear h hk hl hs
  go_enter Try.func11, Try.ntmps11
  go_wp2_with (go_at_call 16; refine HR.mono ?_; rintro _ _ ⟨rfl, rfl⟩)
  go_ret
  exact ⟨rfl, rfl⟩
theorem writeE (h : RefE W base Z rb bs) (hz : ∀ k, Z k → k < W.heap.size) (hb : base ≤ W.heap.size) (k : Nat) (hk : k < bs.length) (x : List Int) (hx : x.length = 64) :
    Calls Try.prog 11 #[.pointer (some ⟨rb, 0, none⟩), .int .i64 (k : Int), .string (strOfNums x)] W fun e W' => e = .returned (.int .i64 0) ∧ RefE W' base Z rb (putL bs k x 1) ∧ Fr W W' (NZ base Z) := by
  have HR := Lib.hid (has_is h (k : Int))
  rw [decide_eq_true (show 0 ≤ (k : Int) ∧ (k : Int) < (bs.length : Int) from ⟨by omega, by omega⟩)] at HR
  have HF := Lib.hid (flushE h hz hb)
  have hs := str_len x
  rw [hx] at hs
  have HP := Lib.hid (fun W2 (h2 : RefE W2 base Z rb (bs.map Bk.settle)) => putE h2 k (by rw [List.length_map]; exact hk) x)
  generalize strOfNums x = s at *
  have hs2 : (s.size : Int) = 64 := by omega
  have HS := Lib.hid hs
  clear h hz hb hk hx hs
  go_enter Try.func11, Try.ntmps11
  go_wp2_with (first
    | (go_at_call 16; refine HR.out.mono ?_; rintro _ W2 ⟨rfl, hw⟩; replace hw := hw.symm; subst hw)
    | (go_at_call 20; refine HF.out.mono ?_; rintro _ W2 ⟨⟨vv, rfl⟩, h1, h2⟩; have H1 := Lib.hid (And.intro h1 h2); clear h1 h2)
    | (go_at_call 30; refine (HP.out _ H1.out.1).mono ?_; rintro _ W3 ⟨⟨vv3, rfl⟩, h1, h2⟩; have H2 := Lib.hid (And.intro h1 (H1.out.2.trans h2 (fun k hk => .inl hk))); clear h1 h2))
  go_ret
  exact ⟨rfl, H2.out.1, H2.out.2⟩
end
end Go.Proofs.Ytbojokjommmebaa.MoRefWrite
