/- What comes in, opened; the library's table. -/
import Derived.Test.YtlmkhapejiippaaDoorBiAwake
import Derived.Test.YtlmkhapejiippaaDoorRows
import Derived.Deep.Slices
import Derived.ProofKit
import Derived.LaidMore
import Derived.Lib.LaidTab
import Derived.Stop.Joined
namespace Go.Proofs.YtlmkhapejiippaaDoor.BiLaid
set_option linter.unusedSimpArgs false
set_option linter.unusedVariables false
open Go.RowKit Go.ChangeShapes Go.WideShapes Go.Deep Go.Proofs.YtlmkhapejiippaaDoorW.PrintWords Go.Proofs.YtlmkhapejiippaaDoorW.PrintLast Go.Proofs.YtlmkhapejiippaaDoorW.PrintMore Go.Proofs.YtlmkhapejiippaaDoor.PBitsPlays Go.Proofs.YtlmkhapejiippaaDoor.BiAwake
section
variable {H : Type} {enc : TypeId × Value → H} {w : World} {base : Nat} {spare : Nat → Bool} {held : Bool}
theorem fld {P : Program} {cs : List Value} {t : TypeId} {q : IntKind} {n i : Nat} {xs : List (DataW H × List MemPlace)} (ht : P.underlying t = some (.int q)) (hlt : i < xs.length) (h : DataW.trod enc P w base spare held n t cs = xs[i]?) :
    ∃ m, cs = [.int q m] ∧ (Lit.int q m).wf = true := by
  rw [List.getElem?_eq_getElem hlt] at h
  obtain ⟨m, h1, _, h2⟩ := DataW.trod_int ht h
  exact ⟨m, h1, h2⟩
theorem cells47 : Tryd.prog.cellsOf 47 = 2 := by kernel_rfl
theorem cells3 : Tryd.prog.cellsOf 3 = 1 := by kernel_rfl
theorem two {cs : List Value} (h : cs.length = 2) : ∃ a b, cs = [a, b] := by
  match cs, h with
  | [a, b], _ => exact ⟨a, b, rfl⟩
theorem act_cells {n : Nat} {cs : List Value} {x : DataW H × List MemPlace} (h : DataW.trod enc Tryd.prog w base spare held n 47 cs = some x) : ∃ r : S47, cs = [.int .i64 r.f0, .int .i64 r.f1] := by
  obtain ⟨xs, m, _, _, hl, hxl, hf⟩ := DataW.trod_struct Tryd.underlying47 h
  rw [cells47] at hl
  obtain ⟨a, b, rfl⟩ := two hl
  have hx : xs.length = 2 := hxl
  obtain ⟨m0, e0, w0⟩ := fld Tryd.underlying3 (by omega) (hf 0 _ rfl)
  obtain ⟨m1, e1, w1⟩ := fld Tryd.underlying3 (by omega) (hf 1 _ rfl)
  simp [cells3] at e0 e1
  subst e0 e1
  exact ⟨⟨m0, m1⟩, rfl⟩
theorem open_acts {a : Option Addr} {len cap : Nat} {d : DataW H} {p : List MemPlace} (h : DataW.Trod enc Tryd.prog w base spare held 22 (.slice a len cap) d p) :
    ∃ l : List S47, len = l.length ∧ Kd.C k47 w a len l ∧ len ≤ cap := by
  obtain ⟨fuel, hf⟩ := h
  rcases open_slice Tryd.underlying22 hf with ⟨hcs, _⟩ | ⟨ad, len', cap', m, n, D, Pl, hcs, _, hl, hm, hmm, _, hi⟩
  · simp [Value.cells] at hcs
    obtain ⟨rfl, rfl, rfl⟩ := hcs
    exact ⟨[], rfl, Kd.C_nil _ _, Nat.le_refl _⟩
  · simp [Value.cells] at hcs
    obtain ⟨rfl, rfl, rfl⟩ := hcs
    have hlm : len ≤ m := by rw [hmm]; split <;> omega
    have hex : ∀ i, i < len → ∃ r : S47, ∀ j u, [Value.int .i64 r.f0, .int .i64 r.f1][j]? = some u → w.cell? (ad.add (i * 2 + j)) = some u := by
      intro i hil
      obtain ⟨cs', hc, ht⟩ := hi i (by omega)
      obtain ⟨r, rfl⟩ := act_cells ht
      obtain ⟨_, _, hcell⟩ := World.cells?_some hc
      refine ⟨r, fun j u hu => ?_⟩
      have hj : j < 2 := by
        have := (List.getElem?_eq_some_iff.1 hu).1
        simpa using this
      have := hcell j (by rw [cells47]; exact hj)
      rw [cells47, Go.Deep.add_add] at this
      rw [this]; exact hu
    have : Inhabited S47 := ⟨z47⟩
    obtain ⟨f, hfn⟩ := choose_lt hex
    have hlen : ((List.range len).map f).length = len := by simp
    refine ⟨(List.range len).map f, hlen.symm, ⟨hlen, by unfold maxLen at hm; omega, fun _ => ⟨ad, rfl, fun j p hj => ?_⟩⟩, hl⟩
    have hjl : j < len := by
      have := (List.getElem?_eq_some_iff.1 hj).1
      simpa using this
    rw [List.getElem?_map, List.getElem?_range hjl] at hj
    simp at hj
    subst hj
    refine ⟨_, rfl, k47_mk w (f j), fun q u hu => ?_⟩
    exact hfn j hjl q u hu
end
theorem gTab : Tryd.prog.globalNamed "math/bits.deBruijn64tab" = some 0 := by kernel_rfl
theorem tab_met {W : World} (h : laidMetH Tryd.prog [("math/bits.deBruijn64tab", Rows.laid_math_bits_deBruijn64tab)] W) : TabAt 0 Lib.deBruijn64tab W := by
  rw [MakeChecks.laidMetH_plain _ _ _ (by kernel_rfl)] at h
  have e : (Rows.laid_math_bits_deBruijn64tab : DataW Unit) = Lib.tabData .u8 (Lib.deBruijn64tab.map fun x : Nat => (x : Int)) := by kernel_rfl
  rw [e] at h
  have ht := Lib.tabIs_of_head (g := 0) (t := 59) (e := 5) (n := 64) gTab (by kernel_rfl) (by kernel_rfl) (by kernel_rfl) (by kernel_rfl) (by kernel_rfl) h
  intro j hj
  have := ht.cell gTab j (by rw [List.length_map]; exact hj)
  rw [this]
  rw [List.getD_eq_getElem?_getD, List.getD_eq_getElem?_getD, List.getElem?_map, List.getElem?_eq_getElem hj]; rfl
theorem door_tab (os : Os) (args : Array Value) : laidMetH Tryd.prog [("math/bits.deBruijn64tab", Rows.laid_math_bits_deBruijn64tab)] ((World.doorLaid Tryd.prog 400 os).forCall (fun _ _ => 0) ⟨#[], args, []⟩).memory :=
  laidMetH_of_parts3 (fuel := 8) (laidMet_of_run' 8 (by kernel_rfl) (by kernel_rfl)) (by kernel_rfl) (by kernel_rfl)
theorem u8_nat {a : Int} (h : (Lit.int .u8 a).wf = true) : ∃ n : Nat, n < 256 ∧ a = (n : Int) := by
  have h1 : IntKind.u8.min = 0 := by decide
  have h2 : IntKind.u8.max = 255 := by decide
  simp [Lit.wf] at h
  exact ⟨a.toNat, by omega, by omega⟩
theorem plays_walk {W : World} (a : Int) (wa : (Lit.int .u8 a).wf = true) (A : Option Addr) (cap : Nat) (l : List S47) (hC : Kd.C k47 W A l.length l) (hle : l.length ≤ cap) (b : Int) (wb : (Lit.int .i64 b).wf = true) (hT : TabAt 0 Lib.deBruijn64tab W) :
    Calls Tryd.prog 3 #[.int .u8 a, .slice A l.length cap, .int .i64 b] W (AwPost W) := by
  obtain ⟨n, hn, rfl⟩ := u8_nat wa
  exact plays_calls W n hn A cap l b hC hle hT
end Go.Proofs.YtlmkhapejiippaaDoor.BiLaid
