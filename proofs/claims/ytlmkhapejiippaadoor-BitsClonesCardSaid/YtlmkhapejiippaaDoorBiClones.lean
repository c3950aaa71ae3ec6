/- BitsClones; and the calls on nothing, for BitsMakes. -/
import Derived.Test.YtlmkhapejiippaaDoorBiAwake
namespace Go.Proofs.YtlmkhapejiippaaDoor.BiClones
set_option linter.unusedSimpArgs false
set_option linter.unusedVariables false
open Go.RowKit Go.Proofs.YtlmkhapejiippaaDoorW.PrintWords Go.Proofs.YtlmkhapejiippaaDoorW.PrintLast Go.Proofs.YtlmkhapejiippaaDoorW.PrintMore Go.Proofs.YtlmkhapejiippaaDoor.PBitsPlays Go.Proofs.YtlmkhapejiippaaDoor.BiPop Go.Proofs.YtlmkhapejiippaaDoor.BiPure Go.Proofs.YtlmkhapejiippaaDoor.BiRef Go.Proofs.YtlmkhapejiippaaDoor.BiCore Go.Proofs.YtlmkhapejiippaaDoor.BiHas Go.Proofs.YtlmkhapejiippaaDoor.BiSeek Go.Proofs.YtlmkhapejiippaaDoor.BiNew Go.Proofs.YtlmkhapejiippaaDoor.BiAll Go.Proofs.YtlmkhapejiippaaDoor.BiList Go.Proofs.YtlmkhapejiippaaDoor.BiSame Go.Proofs.YtlmkhapejiippaaDoor.BiState Go.Proofs.YtlmkhapejiippaaDoor.BiPlay Go.Proofs.YtlmkhapejiippaaDoor.BiAwake

/-- A set, its copy, and the row of both. -/
structure Two (W0 w W : World) (sb lb tb mb n : Nat) (ws us vs : List Nat) (v : Value) : Prop where
  set1 : SetAt W sb lb true n ws
  set2 : SetAt W tb mb true n us
  row : Kd.R Kd.bool 4 W W0.heap.size (fun k => k ≠ lb ∧ k ≠ mb) v (BiPure.row n vs)
  b0 : Below W0.heap.size W0 W
  lb0 : W0.heap.size ≤ lb
  mb0 : W0.heap.size ≤ mb
  tab : TabAt 0 Lib.deBruijn64tab W0
  n1 : sb ≠ mb
  n2 : lb ≠ mb
  n3 : tb ≠ lb
section
variable {W0 w w1 W W' : World} {sb lb tb mb n : Nat} {ws us vs : List Nat} {v : Value}
theorem Two.below (h : Two W0 w W sb lb tb mb n ws us vs v) (hb : Below W.heap.size W W') : Two W0 w W' sb lb tb mb n ws us vs v where
  set1 := h.set1.below hb
  set2 := h.set2.below hb
  row := Kd.R_below h.row hb
  b0 := bthen h.b0 hb
  lb0 := h.lb0
  mb0 := h.mb0
  tab := h.tab
  n1 := h.n1
  n2 := h.n2
  n3 := h.n3
theorem Two.fst (h : Two W0 w W sb lb tb mb n ws us ws v) : St W0 W W sb lb n ws ws v := ⟨h.set1, Kd.R_mono h.row (fun _ hk => hk.1), h.b0, World.grownBy.refl _ _, h.lb0, h.tab⟩
theorem Two.snd (h : Two W0 w W sb lb tb mb n ws us us v) : St W0 W W tb mb n us us v := ⟨h.set2, Kd.R_mono h.row (fun _ hk => hk.2), h.b0, World.grownBy.refl _ _, h.mb0, h.tab⟩
/-- Behind a play with the first. -/
theorem Two.after {ws' us' : List Nat} {v' : Value} (h : Two W0 w W sb lb tb mb n ws us vs v) (hs : St W0 W W' sb lb n ws' us' v') : Two W0 w W' sb lb tb mb n ws' us vs v where
  set1 := hs.set
  set2 := h.set2.grown h.n3 (fun e => h.n2 e.symm) hs.grown
  row := Kd.R_grown h.row hs.grown (fun k hk e => hk.1 (by injection e))
  b0 := hs.b0
  lb0 := h.lb0
  mb0 := h.mb0
  tab := h.tab
  n1 := h.n1
  n2 := h.n2
  n3 := h.n3
/-- Behind a play with the second. -/
theorem Two.after2 {ws' us' : List Nat} {v' : Value} (h : Two W0 w W sb lb tb mb n ws us vs v) (hs : St W0 W W' tb mb n ws' us' v') : Two W0 w W' sb lb tb mb n ws ws' vs v where
  set1 := h.set1.grown h.n1 h.n2 hs.grown
  set2 := hs.set
  row := Kd.R_grown h.row hs.grown (fun k hk e => hk.2 (by injection e))
  b0 := hs.b0
  lb0 := h.lb0
  mb0 := h.mb0
  tab := h.tab
  n1 := h.n1
  n2 := h.n2
  n3 := h.n3
/-- Behind the cloning. -/
theorem two_of {e : Ending} (h : St W0 w W sb lb n ws ws v) (hc : ClonePost W n ws e W') : ∃ tb mb, e = .returned (.pointer (some ⟨tb, 0, none⟩)) ∧ Two W0 w W' sb lb tb mb n ws ws ws v := by
  obtain ⟨tb, mb, he, hs, h1, h2, hb⟩ := hc
  refine ⟨tb, mb, he, h.set.below hb, hs, ?_, bthen h.b0 hb, h.lb0, Nat.le_trans h.b0.size h2, h.tab, ?_, ?_, ?_⟩
  · refine Kd.R_below ?_ hb
    exact Kd.R_mono (Kd.R_bound h.row) (fun k hk => ⟨hk.1, by have := hk.2.2.1; omega⟩)
  · have := h.set.sb_lt; omega
  · have := h.set.lb_lt; omega
  · have := h.set.lb_lt; omega
def TwoPost (W0 w : World) (sb lb n : Nat) (ws : List Nat) (v : Value) (e : Ending) (W' : World) : Prop := ∃ tb mb, e = .returned (.pointer (some ⟨tb, 0, none⟩)) ∧ Two W0 w W' sb lb tb mb n ws ws ws v
theorem c9 (h : St W0 w W sb lb n ws ws v) : Calls Tryd.prog 9 #[.pointer (some ⟨sb, 0, none⟩)] W (TwoPost W0 w sb lb n ws v) :=
  (clone_calls h.set).mono fun e W' hh => two_of h hh
end
set_option maxRecDepth 100000 in
set_option maxHeartbeats 4000000 in
theorem clones_calls (w : World) (n : Nat) (hn : n < 256) (A1 : Option Addr) (c1 : Nat) (as1 : List S47) (A2 : Option Addr) (c2 : Nat) (as2 : List S47) (A3 : Option Addr) (c3 : Nat) (as3 : List S47)
    (h1 : Kd.C k47 w A1 as1.length as1) (hc1 : as1.length ≤ c1) (h2 : Kd.C k47 w A2 as2.length as2) (hc2 : as2.length ≤ c2) (h3 : Kd.C k47 w A3 as3.length as3) (hc3 : as3.length ≤ c3) (hT : TabAt 0 Lib.deBruijn64tab w) :
    Calls Tryd.prog 4 #[.int .u8 (n : Int), .slice A1 as1.length c1, .slice A2 as2.length c2, .slice A3 as3.length c3] w (AwPost w) := by
  have HN := new_calls n (by omega) w
  have hrr := run_row n (by omega)
  have HT := Lib.hid hT
  have HA1 := Lib.hid h1
  have HA2 := Lib.hid h2
  have HA3 := Lib.hid h3
  clear hT h1 h2 h3
  go_enter Tryd.func4, Tryd.ntmps4
  go_wp2_with (first
    | (go_at_call 6; refine HN.mono ?_; rintro _ W ⟨sb, lb, rfl, hs, h1, h2, hb⟩; have HS1 := Lib.hid (st_new (by omega) hs h2 hb HT.out); clear hs h1 h2 hb HN)
    | (go_at_call 7; refine (play_calls _ _ _ _ _ _ HS1.out HA1.out hc1).mono ?_; rintro _ W ⟨A', c', ws', rfl, hs⟩; have HS2 := Lib.hid hs; clear HS1 hs HA1)
    | (go_at_call 9; refine (c9 HS2.out).mono ?_; rintro _ W ⟨tb, mb, rfl, hs⟩; have HS3 := Lib.hid hs; clear HS2 hs)
    | (go_at_call 10; refine (c10 HS3.out.snd _).mono ?_; rintro _ W ⟨rfl, hs⟩; have HS5 := Lib.hid (HS3.out.after2 hs); clear HS3 hs)
    | (go_at_call 7; refine (play_calls _ _ _ _ _ _ HS5.out.fst HA2.out hc2).mono ?_; rintro _ W ⟨A2', c2', ws2', rfl, hs⟩; have HS6 := Lib.hid (HS5.out.after hs); clear HS5 hs HA2)
    | (go_at_call 7; refine (play_calls _ _ _ _ _ _ HS6.out.snd HA3.out hc3).mono ?_; rintro _ W ⟨A3', c3', ws3', rfl, hs⟩; have HB := Lib.hid hs.b0; clear HS6 hs HA3)
    | (go_at_call 8; refine (awake_calls _ (tab_below HT.out HB.out)).mono ?_; rintro _ W ⟨rfl, hb⟩; have n0 := Lib.hid (bthen HB.out hb); clear HB hb; have HB := n0; clear n0))
  go_ret
  exact ⟨rfl, HB.out⟩
end Go.Proofs.YtlmkhapejiippaaDoor.BiClones
