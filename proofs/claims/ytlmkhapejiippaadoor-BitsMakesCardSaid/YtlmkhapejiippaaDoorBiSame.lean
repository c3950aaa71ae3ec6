/- same: a set answers as its row does. -/
import Derived.Test.YtlmkhapejiippaaDoorBiList
namespace Go.Proofs.YtlmkhapejiippaaDoor.BiSame
set_option linter.unusedSimpArgs false
set_option linter.unusedVariables false
open Go.RowKit Go.Proofs.YtlmkhapejiippaaDoorW.PrintWords Go.Proofs.YtlmkhapejiippaaDoorW.PrintLast Go.Proofs.YtlmkhapejiippaaDoorW.PrintMore Go.Proofs.YtlmkhapejiippaaDoor.PBitsPlays Go.Proofs.YtlmkhapejiippaaDoor.BiPop Go.Proofs.YtlmkhapejiippaaDoor.BiPure Go.Proofs.YtlmkhapejiippaaDoor.BiRef Go.Proofs.YtlmkhapejiippaaDoor.BiCore Go.Proofs.YtlmkhapejiippaaDoor.BiHas Go.Proofs.YtlmkhapejiippaaDoor.BiSeek Go.Proofs.YtlmkhapejiippaaDoor.BiNew Go.Proofs.YtlmkhapejiippaaDoor.BiList
theorem RC {α : Type} {d : Kd α} {e base n c : Nat} {ok : Nat → Prop} {W : World} {A : Option Addr} {xs : List α} (h : d.R e W base ok (.slice A n c) xs) : n = xs.length ∧ xs.length ≤ c ∧ d.C W A xs.length xs := by
  obtain ⟨A', c', e1, h1, h2⟩ := Kd.R_reads h
  injection e1 with e1 e2 e3
  subst e1; subst e3
  exact ⟨e2, h1, h2⟩
theorem below_same {w w' : World} (h : w' = w) : Below w.heap.size w w' := by rw [h]; exact Below.refl _ _
section
variable {w w' : World} {sb lb : Nat} {mk : Bool} {ws : List Nat}
set_option maxRecDepth 100000 in
set_option maxHeartbeats 8000000 in
theorem same_calls (A : Option Addr) (c0 : Nat) (l : List Bool) (i : Int) (h : SetAt w sb lb mk l.length ws) (hT : TabAt 0 Lib.deBruijn64tab w) (hr : Kd.C Kd.bool w A l.length l) (hc : l.length ≤ c0) (hl : l = row l.length ws) :
    Calls Tryd.prog 10 #[.pointer (some ⟨sb, 0, none⟩), .slice A l.length c0, .int .i64 i] w fun e w' => e = .returned (.bool true) ∧ Below w.heap.size w w' := by
  have hn := h.1.few
  obtain ⟨r1, hr1⟩ : ∃ r, r = ans (nx (bit ws) true (l.length - i.toNat) i.toNat) := ⟨_, rfl⟩
  obtain ⟨r2, hr2⟩ : ∃ r, r = ans (nx (bit ws) false (l.length - i.toNat) i.toNat) := ⟨_, rfl⟩
  obtain ⟨cnt, hcnt⟩ : ∃ c : Nat, c = ((List.range l.length).filter (bit ws)).length := ⟨_, rfl⟩
  obtain ⟨hb, hhb⟩ : ∃ b, b = hasB l.length ws i := ⟨_, rfl⟩
  obtain ⟨ys, hys⟩ : ∃ y, y = posl l.length ws := ⟨_, rfl⟩
  have k14 := Lib.hid (fun W (hW : Below w.heap.size w W) => (next_calls (h.below hW) (tab_below hT hW) i).mono (R' := fun e W' => e = .returned (.tuple #[.int .i64 r1.1, .bool r1.2]) ∧ Below W.heap.size W W') (fun e W' hh => ⟨by rw [hr1]; exact hh.1, below_same hh.2⟩))
  have k15 := Lib.hid (fun W (hW : Below w.heap.size w W) => (free_calls (h.below hW) (tab_below hT hW) i).mono (R' := fun e W' => e = .returned (.tuple #[.int .i64 r2.1, .bool r2.2]) ∧ Below W.heap.size W W') (fun e W' hh => ⟨by rw [hr2]; exact hh.1, below_same hh.2⟩))
  have k11 := Lib.hid (fun W (hW : Below w.heap.size w W) => (len_calls (h.below hW)).mono (R' := fun e W' => e = .returned (.int .i64 (l.length : Int)) ∧ Below W.heap.size W W') (fun e W' hh => ⟨hh.1, below_same hh.2⟩))
  have k12 := Lib.hid (fun W (hW : Below w.heap.size w W) => (count_calls (h.below hW)).mono (R' := fun e W' => e = .returned (.int .i64 (cnt : Int)) ∧ Below W.heap.size W W') (fun e W' hh => ⟨by rw [hcnt]; exact hh.1, hh.2⟩))
  have k18 := Lib.hid (fun W (hW : Below w.heap.size w W) => (has_calls (h.below hW) i).mono (R' := fun e W' => e = .returned (.bool hb) ∧ Below W.heap.size W W') (fun e W' hh => ⟨by rw [hhb]; exact hh.1, below_same hh.2⟩))
  have k19 := Lib.hid (fun W (hW : Below w.heap.size w W) => all_calls (h.below hW) (tab_below hT hW))
  rw [← hys] at k19
  obtain ⟨rr, hrr⟩ : ∃ rr : Bool → Int × Bool, rr = fun b => ans (nx (bit ws) b (l.length - i.toNat) i.toNat) := ⟨_, rfl⟩
  have e1 : r1 = rr true := by rw [hrr, hr1]
  have e2 : r2 = rr false := by rw [hrr, hr2]
  rw [e1] at k14
  rw [e2] at k15
  have k24 := Lib.hid (fun W (hW : Below w.heap.size w W) (b : Bool) => (springhouseref06_Next.calls 5000 A c0 l i b (rr b).1 (rr b).2 W (Kd.C_below hr hW) hc (by have := ref_next (ws := ws) hn i b; rw [← hl] at this; rw [this, hrr])))
  clear e1 e2 hrr
  have k25 := Lib.hid (fun W (hW : Below w.heap.size w W) => (springhouseref06_Count.calls 5000 A c0 l (cnt : Int) W (Kd.C_below hr hW) hc (by have := ref_count (ws := ws) hn; rw [← hl] at this; rw [this, hcnt])).mono (R' := fun e W' => e = .returned (.int .i64 (cnt : Int)) ∧ Below W.heap.size W W') (fun e W' hh => ⟨hh.1, hh.2.below⟩))
  have k22 := Lib.hid (fun W (hW : Below w.heap.size w W) => (springhouseref06_Has.calls A c0 l i hb W (Kd.C_below hr hW) hc (by have := ref_has (n := l.length) (ws := ws) i; rw [← hl] at this; rw [this, hhb])).mono (R' := fun e W' => e = .returned (.bool hb) ∧ Below W.heap.size W W') (fun e W' hh => ⟨hh.1, hh.2.below⟩))
  have k27 := Lib.hid (fun W (hW : Below w.heap.size w W) => springhouseref06_All.calls 5000 A c0 l ys W (Kd.C_below hr hW) hc (by have := ref_all (ws := ws) hn; rw [← hl] at this; rw [this, hys]))
  have hys4 : ys.length ≤ 4096 := by rw [hys]; have := posl_len (ws := ws) l.length; omega
  have k26 := Lib.hid (fun (W : World) A1 c1 A2 c2 (h1 : Kd.C (Kd.int .i64) W A1 ys.length ys) (h2 : ys.length ≤ c1) (h3 : Kd.C (Kd.int .i64) W A2 ys.length ys) (h4 : ys.length ≤ c2) => (springhouseref05_Same.calls 5000 A1 c1 ys A2 c2 ys true W h1 h2 h3 h4 (same_self ys hys4)).mono (R' := fun e W' => e = .returned (.bool true) ∧ Below W.heap.size W W') (fun e W' hh => ⟨hh.1, hh.2.below⟩))
  have HB := Lib.hid (Below.refl w.heap.size w)
  clear hr1 hr2 hcnt hhb hys h hT hr hl hys4
  go_enter Tryd.func10, Tryd.ntmps10
  go_wp2_with (first
    | (go_at_call 14; refine (k14.out _ HB.out).mono ?_; rintro _ W' ⟨rfl, hW⟩; have n0 := Lib.hid (bthen HB.out hW); clear HB hW; have HB := n0; clear n0)
    | (go_at_call 15; refine (k15.out _ HB.out).mono ?_; rintro _ W' ⟨rfl, hW⟩; have n0 := Lib.hid (bthen HB.out hW); clear HB hW; have HB := n0; clear n0)
    | (go_at_call 11; refine (k11.out _ HB.out).mono ?_; rintro _ W' ⟨rfl, hW⟩; have n0 := Lib.hid (bthen HB.out hW); clear HB hW; have HB := n0; clear n0)
    | (go_at_call 12; refine (k12.out _ HB.out).mono ?_; rintro _ W' ⟨rfl, hW⟩; have n0 := Lib.hid (bthen HB.out hW); clear HB hW; have HB := n0; clear n0)
    | (go_at_call 18; refine (k18.out _ HB.out).mono ?_; rintro _ W' ⟨rfl, hW⟩; have n0 := Lib.hid (bthen HB.out hW); clear HB hW; have HB := n0; clear n0)
    | (go_at_call 22; refine (k22.out _ HB.out).mono ?_; rintro _ W' ⟨rfl, hW⟩; have n0 := Lib.hid (bthen HB.out hW); clear HB hW; have HB := n0; clear n0)
    | (go_at_call 24; refine (k24.out _ HB.out _).mono ?_; rintro _ W' ⟨rfl, hW⟩; have n0 := Lib.hid (bthen HB.out hW); clear HB hW; have HB := n0; clear n0)
    | (go_at_call 25; refine (k25.out _ HB.out).mono ?_; rintro _ W' ⟨rfl, hW⟩; have n0 := Lib.hid (bthen HB.out hW); clear HB hW; have HB := n0; clear n0)
    | (go_at_call 19; refine (k19.out _ HB.out).mono ?_; rintro _ W' ⟨v1, rfl, hv, hW⟩; obtain ⟨A1, cc1, rfl, _, _⟩ := Kd.R_reads hv; have HV1 := Lib.hid hv; have n0 := Lib.hid (bthen HB.out hW); clear HB hW hv; have HB := n0; clear n0)
    | (go_at_call 27; refine (k27.out _ HB.out).mono ?_; rintro _ W' ⟨v2, rfl, hv, hW⟩; obtain ⟨A2, cc2, rfl, _, _⟩ := Kd.R_reads hv; have HV2 := Lib.hid hv; have HV3 := Lib.hid (Kd.R_below HV1.out hW); have n0 := Lib.hid (bthen HB.out hW); clear HB hW hv; have HB := n0; clear n0)
    | (go_at_call 26; refine (k26.out _ _ _ _ _ (RC HV3.out).2.2 (RC HV3.out).2.1 (RC HV2.out).2.2 (RC HV2.out).2.1).mono ?_; rintro _ W' ⟨rfl, hW⟩; have n0 := Lib.hid (bthen HB.out hW); clear HB hW; have HB := n0; clear n0))
  go_ret
  exact ⟨by simp, HB.out⟩
end
end Go.Proofs.YtlmkhapejiippaaDoor.BiSame
