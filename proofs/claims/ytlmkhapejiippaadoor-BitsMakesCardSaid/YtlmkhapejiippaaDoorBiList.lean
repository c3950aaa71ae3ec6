/- All. -/
import Derived.Test.YtlmkhapejiippaaDoorBiAll
namespace Go.Proofs.YtlmkhapejiippaaDoor.BiList
set_option linter.unusedSimpArgs false
set_option linter.unusedVariables false
open Go.RowKit Go.Proofs.YtlmkhapejiippaaDoorW.PrintWords Go.Proofs.YtlmkhapejiippaaDoorW.PrintLast Go.Proofs.YtlmkhapejiippaaDoorW.PrintMore Go.Proofs.YtlmkhapejiippaaDoor.PBitsPlays Go.Proofs.YtlmkhapejiippaaDoor.BiPop Go.Proofs.YtlmkhapejiippaaDoor.BiPure Go.Proofs.YtlmkhapejiippaaDoor.BiRef Go.Proofs.YtlmkhapejiippaaDoor.BiCore Go.Proofs.YtlmkhapejiippaaDoor.BiSeek Go.Proofs.YtlmkhapejiippaaDoor.BiNew
section
variable {w w' : World} {sb lb n : Nat} {mk : Bool} {ws : List Nat}
theorem tab_below {w w' : World} (hT : TabAt 0 Lib.deBruijn64tab w) (hb : Below w.heap.size w w') : TabAt 0 Lib.deBruijn64tab w' := by
  intro j hj
  have h := hT j hj
  rw [hb.cell (p := ⟨0, j, none⟩) (BiCore.cell_lt h)]; exact h
def AllPost (w : World) (l : List Int) (e : Ending) (w' : World) : Prop := ∃ v, e = .returned v ∧ Kd.R (Kd.int .i64) 3 w' w.heap.size (fun _ => True) v l ∧ Below w.heap.size w w'
theorem all_nil (w : World) : Calls Tryd.prog 19 #[.pointer none] w (AllPost w []) := by
  have HN := next_nil 0 w
  go_enter Tryd.func19, Tryd.ntmps19
  go_wp2_with (go_at_call 14; refine HN.mono ?_; rintro _ W ⟨rfl, hw⟩; replace hw := hw.symm; subst hw)
  go_loop [3, 5] (fun v3 v5 => v3 = .slice none 0 0 ∧ v5 = .bool false) (fun v3 v5 => 0)
  case atStart => exact ⟨rfl, rfl⟩
  case round =>
    obtain ⟨rfl, rfl⟩ := hrel
    go_wp2
    go_ret
    exact ⟨_, rfl, Kd.R_nil _ _ _ _ _, Below.refl _ _⟩
theorem posl_hit {j i : Nat} (h : nx (bit ws) true (n - j) j = some i) : posl (i + 1) ws = posl j ws ++ [(i : Int)] ∧ i < n ∧ j ≤ i := by
  obtain ⟨h1, h2, h3⟩ := filter_hit (bit ws) n j i h
  refine ⟨?_, h2, h3⟩
  unfold posl
  rw [h1, List.map_append]; rfl
set_option maxRecDepth 100000 in
set_option maxHeartbeats 8000000 in
theorem all_calls (h : SetAt w sb lb mk n ws) (hT : TabAt 0 Lib.deBruijn64tab w) : Calls Tryd.prog 19 #[.pointer (some ⟨sb, 0, none⟩)] w (AllPost w (posl n ws)) := by
  have hn := h.1.few
  have hnx : ∀ (W : World), Below w.heap.size w W → ∀ k : Nat, Calls Tryd.prog 14 #[.pointer (some ⟨sb, 0, none⟩), .int .i64 (k : Int)] W fun e w' =>
    e = .returned (.tuple #[.int .i64 (ans (nx (bit ws) true (n - k) k)).1, .bool (ans (nx (bit ws) true (n - k) k)).2]) ∧ w' = W := fun W hW k => next_calls (h.below hW) (tab_below hT hW) k
  have H0 := hnx w (Below.refl _ _) 0
  have HN := Lib.hid hnx
  have HB := Lib.hid (Below.refl w.heap.size w)
  obtain ⟨r0, hr0⟩ : ∃ r, r = nx (bit ws) true (n - 0) 0 := ⟨_, rfl⟩
  rw [← hr0] at H0
  have HR0 := Lib.hid hr0
  clear h hT hnx hr0
  obtain ⟨a0, ha0⟩ : ∃ a, a = ans r0 := ⟨_, rfl⟩
  rw [← ha0] at H0
  have HA0 := Lib.hid ha0
  clear ha0
  go_enter Tryd.func19, Tryd.ntmps19
  go_wp2_with (go_at_call 14; refine H0.mono ?_; rintro _ W ⟨rfl, hw⟩; replace hw := hw.symm; subst hw)
  go_loopg [3, 4, 5] (n + 1) (fun kq v3 v4 v5 wr => ∃ (j : Nat) (xs : List Int) (r : Option Nat), n + 1 ≤ kq + j ∧ j ≤ n ∧ v4 = .int .i64 (ans r).1 ∧ v5 = .bool (ans r).2 ∧ Hid (r = nx (bit ws) true (n - j) j) ∧ Hid (xs = posl j ws) ∧ Hid (Kd.R (Kd.int .i64) 3 wr w.heap.size (fun _ => True) v3 xs) ∧ Hid (Below w.heap.size w wr))
  case atStart => exact ⟨0, [], r0, by omega, by omega, by rw [HA0.out], by rw [HA0.out], HR0, Lib.hid rfl, Lib.hid (Kd.R_nil _ _ _ _ _), HB⟩
  case round =>
    obtain ⟨j, xs, r, hkq, hj, rfl, rfl, HR, HX, HO, HBr⟩ := hrel
    clear HR0 HA0 H0 HB
    cases r with
    | none =>
      have hx : xs = posl n ws := by
        rw [HX.out]
        unfold posl
        rw [filter_end (bit ws) n j hj HR.out.symm]
      have HX2 := Lib.hid hx
      clear hx
      have e1 : (ans none).2 = false := rfl
      rw [e1]
      clear e1
      go_wp2_with (fail)
      go_ret
      exact ⟨_, rfl, by rw [← HX2.out]; exact HO.out, HBr.out⟩
    | some i =>
      obtain ⟨p1, p2, p3⟩ := posl_hit HR.out.symm
      have hlen : xs.length ≤ 4096 := by
        have := posl_len (ws := ws) j
        rw [← HX.out] at this; omega
      have HLEN := Lib.hid hlen
      rw [← HX.out] at p1
      have e1 : (ans (some i)).2 = true := rfl
      have e2 : (ans (some i)).1 = (i : Int) := rfl
      rw [e1, e2]
      clear e1 e2 HX HR hlen
      obtain ⟨ys, hys⟩ : ∃ ys, ys = xs ++ [(i : Int)] := ⟨_, rfl⟩
      rw [← hys] at p1
      have HY := Lib.hid hys
      have HP := Lib.hid p1
      clear p1 hys
      obtain ⟨r2, hr2⟩ : ∃ r, r = nx (bit ws) true (n - (i + 1)) (i + 1) := ⟨_, rfl⟩
      have hn2 : ∀ (W : World), Below w.heap.size w W → Calls Tryd.prog 14 #[.pointer (some ⟨sb, 0, none⟩), .int .i64 ((i : Int) + 1)] W fun e w' => e = .returned (.tuple #[.int .i64 (ans r2).1, .bool (ans r2).2]) ∧ w' = W := by
        intro W hW
        have := HN.out W hW (i + 1)
        rw [← hr2] at this
        exact this
      have HN2 := Lib.hid hn2
      have HR2 := Lib.hid hr2
      clear hn2 hr2
      have HB := HBr
      go_wp2_with (first | ((with_reducible refine gate_builtin (b := .append) (xs := #[.tmp 19, .tmp 21]) rfl ?_); at_builtin; refine Kd.R_append (Kd.int .i64) (w0 := w) w.heap.size rfl (.tmp 19) (.tmp 21) 42 3 (.int .i64 0) 8 rfl Tryd.underlying42 info3 rfl (by decide) (by omega) u3 xs (i : Int) [.int .i64 (i : Int)] (fun _ => True) (fun _ => False) rfl rfl ?aP (fun _ hk => hk.elim) ?aF ?aO ?aB ?aS ?aL ?_; (case aP => exact rfl); (case aB => exact (by repeat (first | (with_reducible first | exact HB.out | apply below_alloc | apply pw_below_drewN | apply below_drew1) | exact HB.out))); (case aF => exact (fun _ _ => trivial)); (case aO => exact (by (with_reducible repeat (first | apply Kd.R_alloc | apply Kd.R_drewN | apply Kd.R_drew)); exact HO.out)); (case aS => exact (below_size (by repeat (first | (with_reducible first | exact HB.out | apply below_alloc | apply pw_below_drewN | apply below_drew1) | exact HB.out)))); (case aL => have := HLEN.out; omega); intro v108 w7 ho hb hg hat; rw [← HY.out] at ho; have n0_ := Lib.hid hb; have n1_ := Lib.hid ho; clear HB HBr HO; have HB := n0_; have HO109 := n1_; clear n0_ n1_; clear ho hb hg hat) | (go_at_call 14; refine (HN2.out _ HB.out).mono ?_; rintro _ W ⟨rfl, hw⟩; replace hw := hw.symm; subst hw))
      go_roundg (n - i)
      case measure => omega
      case rel => exact ⟨i + 1, ys, r2, by omega, by omega, rfl, rfl, HR2, Lib.hid HP.out.symm, HO109, HB⟩
end
end Go.Proofs.YtlmkhapejiippaaDoor.BiList
