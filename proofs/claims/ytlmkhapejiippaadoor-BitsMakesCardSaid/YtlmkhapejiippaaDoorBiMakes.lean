/- BitsMakes. -/
import Derived.Test.YtlmkhapejiippaaDoorBiAwake
namespace Go.Proofs.YtlmkhapejiippaaDoor.BiMakes
set_option linter.unusedSimpArgs false
set_option linter.unusedVariables false
open Go.RowKit Go.Proofs.YtlmkhapejiippaaDoorW.PrintWords Go.Proofs.YtlmkhapejiippaaDoorW.PrintLast Go.Proofs.YtlmkhapejiippaaDoorW.PrintMore Go.Proofs.YtlmkhapejiippaaDoor.PBitsPlays Go.Proofs.YtlmkhapejiippaaDoor.BiPop Go.Proofs.YtlmkhapejiippaaDoor.BiPure Go.Proofs.YtlmkhapejiippaaDoor.BiRef Go.Proofs.YtlmkhapejiippaaDoor.BiCore Go.Proofs.YtlmkhapejiippaaDoor.BiHas Go.Proofs.YtlmkhapejiippaaDoor.BiSeek Go.Proofs.YtlmkhapejiippaaDoor.BiNew Go.Proofs.YtlmkhapejiippaaDoor.BiAll Go.Proofs.YtlmkhapejiippaaDoor.BiList Go.Proofs.YtlmkhapejiippaaDoor.BiSame Go.Proofs.YtlmkhapejiippaaDoor.BiState Go.Proofs.YtlmkhapejiippaaDoor.BiPlay Go.Proofs.YtlmkhapejiippaaDoor.BiAwake
theorem has_nil (i : Int) (w : World) : Calls Tryd.prog 18 #[.pointer none, .int .i64 i] w fun e w' => e = .returned (.bool false) ∧ w' = w := by
  have HR := room_nil i w
  go_enter Tryd.func18, Tryd.ntmps18
  go_wp2_with (go_at_call 30; refine HR.mono ?_; rintro _ _ ⟨rfl, rfl⟩)
  go_ret
  exact ⟨rfl, rfl⟩
theorem put_nil (i : Int) (w : World) : Calls Tryd.prog 16 #[.pointer none, .int .i64 i] w fun e w' => e = .returned (.bool false) ∧ w' = w := by
  have HR := room_nil i w
  go_enter Tryd.func16, Tryd.ntmps16
  go_wp2_with (go_at_call 30; refine HR.mono ?_; rintro _ _ ⟨rfl, rfl⟩)
  go_ret
  exact ⟨rfl, rfl⟩
theorem drop_nil (i : Int) (w : World) : Calls Tryd.prog 17 #[.pointer none, .int .i64 i] w fun e w' => e = .returned (.bool false) ∧ w' = w := by
  have HR := has_nil i w
  go_enter Tryd.func17, Tryd.ntmps17
  go_wp2_with (go_at_call 18; refine HR.mono ?_; rintro _ _ ⟨rfl, rfl⟩)
  go_ret
  exact ⟨rfl, rfl⟩
/-- Nothing at all, and an unmade set. -/
structure Nob (w W : World) (zb : Nat) : Prop where
  set : ∃ lb, w.heap.size ≤ lb ∧ SetAt W zb lb false 0 []
  b0 : Below w.heap.size w W
  tab : TabAt 0 Lib.deBruijn64tab w
section
variable {w W W' : World} {zb : Nat}
theorem Nob.below (h : Nob w W zb) (hb : Below W.heap.size W W') : Nob w W' zb := by
  obtain ⟨lb, h1, h2⟩ := h.set
  exact ⟨⟨lb, h1, h2.below hb⟩, bthen h.b0 hb, h.tab⟩
theorem ok0 : Ok 0 [] := zero_ok 0 (by omega)
theorem Nob.make (hb : Below w.heap.size w W) (hT : TabAt 0 Lib.deBruijn64tab w) : Nob w (W.alloc (.cells #[.slice none 0 0, .int .i64 0, .bool false] 38)) W.heap.size := by
  have hB : Below W.heap.size W (W.alloc (.cells #[.slice none 0 0, .int .i64 0, .bool false] 38)) := (Below.refl _ _).alloc (Nat.le_refl _) _
  have hs := hb.size
  refine ⟨⟨W.heap.size + 1, by omega, ok0, by omega, none, 0, ?_, ?_, ?_, Nat.le_refl _, by unfold maxLen; omega, .inl ⟨rfl, rfl, rfl⟩⟩, bthen hb hB, hT⟩
  · rw [cell_of_row _ _ _ _ _ _ (alloc_at _ _)]; rfl
  · rw [cell_of_row _ _ _ _ _ _ (alloc_at _ _)]; rfl
  · rw [cell_of_row _ _ _ _ _ _ (alloc_at _ _)]; rfl
theorem n13 (h : Nob w W zb) : Calls Tryd.prog 13 #[.pointer (some ⟨zb, 0, none⟩)] W fun e W' => (∃ v, e = .returned v) ∧ Nob w W' zb := by
  obtain ⟨lb, h1, h2⟩ := h.set
  exact (clear_calls h2).mono fun e W' hh => ⟨hh.1, ⟨lb, h1, hh.2.1⟩, below_own h.b0 hh.2.2 h1, h.tab⟩
theorem n13' (h : Nob w W zb) : Calls Tryd.prog 13 #[.pointer none] W fun e W' => (∃ v, e = .returned v) ∧ Nob w W' zb :=
  (clear_nil W).mono fun e W' hh => ⟨hh.1, h.below (below_same hh.2)⟩
theorem n14 (h : Nob w W zb) (i : Int) : Calls Tryd.prog 14 #[.pointer none, .int .i64 i] W fun e W' => e = .returned (.tuple #[.int .i64 0, .bool false]) ∧ Nob w W' zb :=
  (next_nil i W).mono fun e W' hh => ⟨hh.1, h.below (below_same hh.2)⟩
theorem n15 (h : Nob w W zb) (i : Int) : Calls Tryd.prog 15 #[.pointer (some ⟨zb, 0, none⟩), .int .i64 i] W fun e W' => e = .returned (.tuple #[.int .i64 0, .bool false]) ∧ Nob w W' zb := by
  obtain ⟨lb, h1, h2⟩ := h.set
  have := free_calls h2 (tab_below h.tab h.b0) i
  rw [show 0 - i.toNat = 0 from by omega] at this
  exact this.mono fun e W' hh => ⟨hh.1, h.below (below_same hh.2)⟩
theorem n16 (h : Nob w W zb) (i : Int) : Calls Tryd.prog 16 #[.pointer (some ⟨zb, 0, none⟩), .int .i64 i] W fun e W' => e = .returned (.bool false) ∧ Nob w W' zb := by
  obtain ⟨lb, h1, h2⟩ := h.set
  exact (put_no h2 i (by omega)).mono fun e W' hh => ⟨hh.1, h.below (below_same hh.2)⟩
theorem n16' (h : Nob w W zb) (i : Int) : Calls Tryd.prog 16 #[.pointer none, .int .i64 i] W fun e W' => e = .returned (.bool false) ∧ Nob w W' zb :=
  (put_nil i W).mono fun e W' hh => ⟨hh.1, h.below (below_same hh.2)⟩
theorem n17 (h : Nob w W zb) (i : Int) : Calls Tryd.prog 17 #[.pointer none, .int .i64 i] W fun e W' => e = .returned (.bool false) ∧ Nob w W' zb :=
  (drop_nil i W).mono fun e W' hh => ⟨hh.1, h.below (below_same hh.2)⟩
theorem n18 (h : Nob w W zb) (i : Int) : Calls Tryd.prog 18 #[.pointer (some ⟨zb, 0, none⟩), .int .i64 i] W fun e W' => e = .returned (.bool false) ∧ Nob w W' zb := by
  obtain ⟨lb, h1, h2⟩ := h.set
  have e : hasB 0 [] i = false := by unfold hasB; simp; omega
  have := has_calls h2 i
  rw [e] at this
  exact this.mono fun e W' hh => ⟨hh.1, h.below (below_same hh.2)⟩
theorem n11 (h : Nob w W zb) : Calls Tryd.prog 11 #[.pointer (some ⟨zb, 0, none⟩)] W fun e W' => e = .returned (.int .i64 0) ∧ Nob w W' zb := by
  obtain ⟨lb, h1, h2⟩ := h.set
  exact (len_calls h2).mono fun e W' hh => ⟨hh.1, h.below (below_same hh.2)⟩
theorem n11' (h : Nob w W zb) : Calls Tryd.prog 11 #[.pointer none] W fun e W' => e = .returned (.int .i64 0) ∧ Nob w W' zb :=
  (len_nil W).mono fun e W' hh => ⟨hh.1, h.below (below_same hh.2)⟩
theorem n12 (h : Nob w W zb) : Calls Tryd.prog 12 #[.pointer none] W fun e W' => e = .returned (.int .i64 0) ∧ Nob w W' zb :=
  (count_nil W).mono fun e W' hh => ⟨hh.1, h.below (below_same hh.2)⟩
def NAll (w : World) (zb : Nat) (e : Ending) (W' : World) : Prop := ∃ A c, e = .returned (.slice A 0 c) ∧ Nob w W' zb
theorem n19 (h : Nob w W zb) : Calls Tryd.prog 19 #[.pointer (some ⟨zb, 0, none⟩)] W (NAll w zb) := by
  obtain ⟨lb, h1, h2⟩ := h.set
  refine (all_calls h2 (tab_below h.tab h.b0)).mono fun e W' ⟨v, he, hr, hb⟩ => ?_
  obtain ⟨A, c, rfl, _, _⟩ := Kd.R_reads hr
  exact ⟨A, c, he, h.below hb⟩
theorem n9 (h : Nob w W zb) : Calls Tryd.prog 9 #[.pointer (some ⟨zb, 0, none⟩)] W fun e W' => e = .returned (.pointer none) ∧ Nob w W' zb := by
  obtain ⟨lb, h1, h2⟩ := h.set
  exact (clone_unmade h2).mono fun e W' hh => ⟨hh.1, h.below (below_same hh.2)⟩
theorem n9' (h : Nob w W zb) : Calls Tryd.prog 9 #[.pointer none] W fun e W' => e = .returned (.pointer none) ∧ Nob w W' zb :=
  (clone_nil W).mono fun e W' hh => ⟨hh.1, h.below (below_same hh.2)⟩
theorem n8 (h : Nob w W zb) : Calls Tryd.prog 8 #[] W fun e W' => e = .returned (.bool true) ∧ Nob w W' zb :=
  (awake_calls W (tab_below h.tab h.b0)).mono fun e W' hh => ⟨hh.1, h.below hh.2⟩
end
theorem new_count {w : World} {sb lb n : Nat} (h : SetAt w sb lb true n (List.replicate ((n + 63) / 64) 0)) : Calls Tryd.prog 12 #[.pointer (some ⟨sb, 0, none⟩)] w fun e w' => e = .returned (.int .i64 0) ∧ Below w.heap.size w w' := by
  have := count_calls h
  have e : (List.range n).filter (bit (List.replicate ((n + 63) / 64) 0)) = [] := by
    rw [List.filter_eq_nil_iff]
    intro k _
    unfold bit
    rw [List.getD_eq_getElem?_getD, List.getElem?_replicate]
    split <;> simp
  rw [e] at this
  exact this
theorem m13 {w W : World} {zb : Nat} (h : Nob w W zb) (p : Option Addr) (hp : p = none ∨ p = some ⟨zb, 0, none⟩) : Calls Tryd.prog 13 #[.pointer p] W fun e W' => (∃ v, e = .returned v) ∧ Nob w W' zb := by
  rcases hp with rfl | rfl
  · exact n13' h
  · exact n13 h
theorem m16 {w W : World} {zb : Nat} (h : Nob w W zb) (p : Option Addr) (hp : p = none ∨ p = some ⟨zb, 0, none⟩) (i : Int) : Calls Tryd.prog 16 #[.pointer p, .int .i64 i] W fun e W' => e = .returned (.bool false) ∧ Nob w W' zb := by
  rcases hp with rfl | rfl
  · exact n16' h i
  · exact n16 h i
theorem m11 {w W : World} {zb : Nat} (h : Nob w W zb) (p : Option Addr) (hp : p = none ∨ p = some ⟨zb, 0, none⟩) : Calls Tryd.prog 11 #[.pointer p] W fun e W' => e = .returned (.int .i64 0) ∧ Nob w W' zb := by
  rcases hp with rfl | rfl
  · exact n11' h
  · exact n11 h
theorem m9 {w W : World} {zb : Nat} (h : Nob w W zb) (p : Option Addr) (hp : p = none ∨ p = some ⟨zb, 0, none⟩) : Calls Tryd.prog 9 #[.pointer p] W fun e W' => e = .returned (.pointer none) ∧ Nob w W' zb := by
  rcases hp with rfl | rfl
  · exact n9' h
  · exact n9 h
set_option maxRecDepth 100000 in
set_option maxHeartbeats 1000000 in
theorem makes_bad (w : World) (n : Int) (hn : n < 0 ∨ 4096 < n) (i : Int) (hT : TabAt 0 Lib.deBruijn64tab w) : Calls Tryd.prog 5 #[.int .i64 (n : Int), .int .i64 i] w (AwPost w) := by
  have HT := Lib.hid hT
  have HN := new_bad n hn w
  have HB := Lib.hid (Below.refl w.heap.size w)
  clear hT
  rcases hn with hn | hn
  all_goals
    go_enter Tryd.func5, Tryd.ntmps5
    go_wp2_with (first
      | (go_at_call 6; refine HN.mono ?_; rintro _ W ⟨rfl, hw⟩; replace hw := hw.symm; subst hw; clear HN)
      | (go_at_call 13; refine (n13' (Nob.make HB.out HT.out)).mono ?_; rintro _ W' ⟨⟨xx, rfl⟩, hs⟩; have HS := Lib.hid hs; clear HB hs)
      | (go_at_call 13; refine (m13 HS.out _ (by first | exact .inl rfl | exact .inr rfl)).mono ?_; rintro _ W' ⟨⟨xx, rfl⟩, hs⟩; have n0 := Lib.hid hs; clear HS hs; have HS := n0; clear n0)
      | (go_at_call 14; refine (n14 HS.out _).mono ?_; rintro _ W' ⟨rfl, hs⟩; have n0 := Lib.hid hs; clear HS hs; have HS := n0; clear n0)
      | (go_at_call 15; refine (n15 HS.out _).mono ?_; rintro _ W' ⟨rfl, hs⟩; have n0 := Lib.hid hs; clear HS hs; have HS := n0; clear n0)
      | (go_at_call 16; refine (m16 HS.out _ (by first | exact .inl rfl | exact .inr rfl) _).mono ?_; rintro _ W' ⟨rfl, hs⟩; have n0 := Lib.hid hs; clear HS hs; have HS := n0; clear n0)
      | (go_at_call 17; refine (n17 HS.out _).mono ?_; rintro _ W' ⟨rfl, hs⟩; have n0 := Lib.hid hs; clear HS hs; have HS := n0; clear n0)
      | (go_at_call 18; refine (n18 HS.out _).mono ?_; rintro _ W' ⟨rfl, hs⟩; have n0 := Lib.hid hs; clear HS hs; have HS := n0; clear n0)
      | (go_at_call 11; refine (m11 HS.out _ (by first | exact .inl rfl | exact .inr rfl)).mono ?_; rintro _ W' ⟨rfl, hs⟩; have n0 := Lib.hid hs; clear HS hs; have HS := n0; clear n0)
      | (go_at_call 12; refine (n12 HS.out).mono ?_; rintro _ W' ⟨rfl, hs⟩; have n0 := Lib.hid hs; clear HS hs; have HS := n0; clear n0)
      | (go_at_call 19; refine (n19 HS.out).mono ?_; rintro _ W' ⟨AA, cc, rfl, hs⟩; have n0 := Lib.hid hs; clear HS hs; have HS := n0; clear n0)
      | (go_at_call 9; refine (m9 HS.out _ (by first | exact .inl rfl | exact .inr rfl)).mono ?_; rintro _ W' ⟨rfl, hs⟩; have n0 := Lib.hid hs; clear HS hs; have HS := n0; clear n0)
      | (go_at_call 8; refine (n8 HS.out).mono ?_; rintro _ W' ⟨rfl, hs⟩; have n0 := Lib.hid hs; clear HS hs; have HS := n0; clear n0))
    go_ret
    exact ⟨rfl, HS.out.b0⟩
set_option maxRecDepth 100000 in
set_option maxHeartbeats 1000000 in
theorem makes_good (w : World) (n : Nat) (hn : n ≤ 4096) (i : Int) (hT : TabAt 0 Lib.deBruijn64tab w) : Calls Tryd.prog 5 #[.int .i64 (n : Int), .int .i64 i] w (AwPost w) := by
  have HT := Lib.hid hT
  have HN := new_calls n hn w
  clear hT
  go_enter Tryd.func5, Tryd.ntmps5
  go_wp2_with (first
    | (go_at_call 6; refine HN.mono ?_; rintro _ W ⟨sb, lb, rfl, hs, h1, h2, hb⟩; have HS1 := Lib.hid hs; have HB := Lib.hid hb; clear HN hs h1 h2 hb)
    | (go_at_call 11; refine (len_calls HS1.out).mono ?_; rintro _ W ⟨rfl, hw⟩; replace hw := hw.symm; subst hw)
    | (go_at_call 12; refine (new_count HS1.out).mono ?_; rintro _ W ⟨rfl, hb⟩; have n0 := Lib.hid (bthen HB.out hb); clear HS1 HB hb; have HB := n0; clear n0)
    | (go_at_call 13; refine (n13' (Nob.make HB.out HT.out)).mono ?_; rintro _ W' ⟨⟨xx, rfl⟩, hs⟩; have HS := Lib.hid hs; clear HB hs)
    | (go_at_call 13; refine (m13 HS.out _ (by first | exact .inl rfl | exact .inr rfl)).mono ?_; rintro _ W' ⟨⟨xx, rfl⟩, hs⟩; have n0 := Lib.hid hs; clear HS hs; have HS := n0; clear n0)
    | (go_at_call 14; refine (n14 HS.out _).mono ?_; rintro _ W' ⟨rfl, hs⟩; have n0 := Lib.hid hs; clear HS hs; have HS := n0; clear n0)
    | (go_at_call 15; refine (n15 HS.out _).mono ?_; rintro _ W' ⟨rfl, hs⟩; have n0 := Lib.hid hs; clear HS hs; have HS := n0; clear n0)
    | (go_at_call 16; refine (m16 HS.out _ (by first | exact .inl rfl | exact .inr rfl) _).mono ?_; rintro _ W' ⟨rfl, hs⟩; have n0 := Lib.hid hs; clear HS hs; have HS := n0; clear n0)
    | (go_at_call 17; refine (n17 HS.out _).mono ?_; rintro _ W' ⟨rfl, hs⟩; have n0 := Lib.hid hs; clear HS hs; have HS := n0; clear n0)
    | (go_at_call 18; refine (n18 HS.out _).mono ?_; rintro _ W' ⟨rfl, hs⟩; have n0 := Lib.hid hs; clear HS hs; have HS := n0; clear n0)
    | (go_at_call 11; refine (m11 HS.out _ (by first | exact .inl rfl | exact .inr rfl)).mono ?_; rintro _ W' ⟨rfl, hs⟩; have n0 := Lib.hid hs; clear HS hs; have HS := n0; clear n0)
    | (go_at_call 12; refine (n12 HS.out).mono ?_; rintro _ W' ⟨rfl, hs⟩; have n0 := Lib.hid hs; clear HS hs; have HS := n0; clear n0)
    | (go_at_call 19; refine (n19 HS.out).mono ?_; rintro _ W' ⟨AA, cc, rfl, hs⟩; have n0 := Lib.hid hs; clear HS hs; have HS := n0; clear n0)
    | (go_at_call 9; refine (m9 HS.out _ (by first | exact .inl rfl | exact .inr rfl)).mono ?_; rintro _ W' ⟨rfl, hs⟩; have n0 := Lib.hid hs; clear HS hs; have HS := n0; clear n0)
    | (go_at_call 8; refine (n8 HS.out).mono ?_; rintro _ W' ⟨rfl, hs⟩; have n0 := Lib.hid hs; clear HS hs; have HS := n0; clear n0))
  go_ret
  exact ⟨rfl, HS.out.b0⟩
end Go.Proofs.YtlmkhapejiippaaDoor.BiMakes
