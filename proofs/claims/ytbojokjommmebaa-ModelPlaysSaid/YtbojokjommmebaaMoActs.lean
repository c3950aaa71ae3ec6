/- Acts in memory, and how they are opened. -/
import Derived.Test.YtbojokjommmebaaMoFill
import Derived.Test.YtbojokjommmebaaMoReg
import Derived.Deep.Slices
import Derived.ProofKit
namespace Go.Proofs.Ytbojokjommmebaa.MoActs
set_option linter.unusedSimpArgs false
set_option linter.unusedVariables false
open Go.RowKit Go.ChangeShapes Go.WideShapes Go.Deep Go.Proofs.YtbojokjommmebaaW.PrintWords Go.Proofs.YtbojokjommmebaaW.PrintLast Go.Proofs.YtbojokjommmebaaW.PrintMore Go.Proofs.Ytbojokjommmebaa.MoMem
structure S32 where
  kd : Int
  lba : Int
  n : Int
  sz : Int
  fl : Int
  kept : List Int
def z32 : S32 := ⟨0, 0, 0, 0, 0, []⟩
def k32 : Kd S32 := Kd.iso (Kd.pair (Kd.int .i64) (Kd.pair (Kd.int .i64) (Kd.pair (Kd.int .i64) (Kd.pair (Kd.int .i64) (Kd.pair (Kd.int .u8) (Kd.slice 3 (Kd.int .i64))))))) (fun x : S32 => (x.kd, x.lba, x.n, x.sz, x.fl, x.kept))
theorem k32_open {w : World} {x : S32} {cs : List Value} (h : k32.K w x cs) : ∃ A c, cs = [.int .i64 x.kd, .int .i64 x.lba, .int .i64 x.n, .int .i64 x.sz, .int .u8 x.fl, .slice A x.kept.length c] ∧ x.kept.length ≤ c ∧ Kd.C (Kd.int .i64) w A x.kept.length x.kept := by
  obtain ⟨_, _, rfl, rfl, ⟨_, _, rfl, rfl, ⟨_, _, rfl, rfl, ⟨_, _, rfl, rfl, ⟨_, _, rfl, rfl, ⟨A, c, rfl, h1, h2⟩⟩⟩⟩⟩⟩ := h
  exact ⟨A, c, rfl, h1, h2⟩
theorem k32_mk {w : World} (x : S32) {A : Option Addr} {c : Nat} (h1 : x.kept.length ≤ c) (h2 : Kd.C (Kd.int .i64) w A x.kept.length x.kept) : k32.K w x [.int .i64 x.kd, .int .i64 x.lba, .int .i64 x.n, .int .i64 x.sz, .int .u8 x.fl, .slice A x.kept.length c] :=
  ⟨[.int .i64 x.kd], [.int .i64 x.lba, .int .i64 x.n, .int .i64 x.sz, .int .u8 x.fl, .slice A x.kept.length c], rfl, rfl, ⟨[.int .i64 x.lba], [.int .i64 x.n, .int .i64 x.sz, .int .u8 x.fl, .slice A x.kept.length c], rfl, rfl, ⟨[.int .i64 x.n], [.int .i64 x.sz, .int .u8 x.fl, .slice A x.kept.length c], rfl, rfl, ⟨[.int .i64 x.sz], [.int .u8 x.fl, .slice A x.kept.length c], rfl, rfl, ⟨[.int .u8 x.fl], [.slice A x.kept.length c], rfl, rfl, ⟨A, c, rfl, h1, h2⟩⟩⟩⟩⟩⟩
def rdA (xs : List S32) (i : Nat) : S32 := xs.getD i z32
theorem at_act {w : World} {A : Option Addr} {n : Nat} {xs : List S32} (h : Kd.C k32 w A n xs) (i : Nat) (h1 : i < n) : ∃ ad B c, A = some ad ∧ w.cell? (ad.add (i * 6)) = some (.int .i64 (rdA xs i).kd) ∧ w.cell? ⟨(ad.add (i * 6)).block, (ad.add (i * 6)).off + 1, none⟩ = some (.int .i64 (rdA xs i).lba) ∧
    w.cell? ⟨(ad.add (i * 6)).block, (ad.add (i * 6)).off + 2, none⟩ = some (.int .i64 (rdA xs i).n) ∧ w.cell? ⟨(ad.add (i * 6)).block, (ad.add (i * 6)).off + 3, none⟩ = some (.int .i64 (rdA xs i).sz) ∧
    w.cell? ⟨(ad.add (i * 6)).block, (ad.add (i * 6)).off + 4, none⟩ = some (.int .u8 (rdA xs i).fl) ∧ w.cell? ⟨(ad.add (i * 6)).block, (ad.add (i * 6)).off + 5, none⟩ = some (.slice B (rdA xs i).kept.length c) ∧
    (rdA xs i).kept.length ≤ c ∧ Kd.C (Kd.int .i64) w B (rdA xs i).kept.length (rdA xs i).kept := by
  obtain ⟨ad, c, e, _, hK, hc0⟩ := Kd.C_get h z32 (i : Int) (by omega) (by omega)
  rw [Int.toNat_natCast] at hK hc0
  have hc : ∀ j u, c[j]? = some u → w.cell? (ad.add (i * 6 + j)) = some u := hc0
  obtain ⟨B, cc, rfl, h2, h3⟩ := k32_open hK
  exact ⟨ad, B, cc, e, hc 0 _ rfl, by rw [← add_field _ _ 1 (by omega)]; exact hc 1 _ rfl, by rw [← add_field _ _ 2 (by omega)]; exact hc 2 _ rfl, by rw [← add_field _ _ 3 (by omega)]; exact hc 3 _ rfl, by rw [← add_field _ _ 4 (by omega)]; exact hc 4 _ rfl, by rw [← add_field _ _ 5 (by omega)]; exact hc 5 _ rfl, h2, h3⟩
section
variable {H : Type} {enc : TypeId × Value → H} {w : World} {base : Nat} {spare : Nat → Bool} {held : Bool}
theorem fld {P : Program} {cs : List Value} {t : TypeId} {q : IntKind} {n i : Nat} {xs : List (DataW H × List MemPlace)} (ht : P.underlying t = some (.int q)) (hlt : i < xs.length) (h : DataW.trod enc P w base spare held n t cs = xs[i]?) :
    ∃ m, cs = [.int q m] ∧ (Lit.int q m).wf = true := by
  rw [List.getElem?_eq_getElem hlt] at h
  obtain ⟨m, h1, _, h2⟩ := DataW.trod_int ht h
  exact ⟨m, h1, h2⟩
theorem cells32 : Try.prog.cellsOf 32 = 6 := by kernel_rfl
theorem cells3 : Try.prog.cellsOf 3 = 1 := by kernel_rfl
theorem cells5 : Try.prog.cellsOf 5 = 1 := by kernel_rfl
theorem cells30 : Try.prog.cellsOf 30 = 1 := by kernel_rfl
theorem six {cs : List Value} (h : cs.length = 6) : ∃ a b c d e f, cs = [a, b, c, d, e, f] := by
  match cs, h with
  | [a, b, c, d, e, f], _ => exact ⟨a, b, c, d, e, f, rfl⟩
/-- A slice of numbers that came in. -/
theorem ints_cells {n : Nat} {cs : List Value} {x : DataW H × List MemPlace} (h : DataW.trod enc Try.prog w base spare held n 30 cs = some x) : ∃ A l c, cs = [.slice A l.length c] ∧ l.length ≤ c ∧ Kd.C (Kd.int .i64) w A l.length l := by
  rcases open_slice Try.underlying30 h with ⟨hcs, _⟩ | ⟨ad, len', cap', m, n', D, Pl, hcs, _, hl, hm, hmm, _, hi⟩
  · exact ⟨none, [], 0, hcs, Nat.le_refl _, Kd.C_nil _ _⟩
  · have hlm : len' ≤ m := by rw [hmm]; split <;> omega
    have hex : ∀ i, i < len' → ∃ r : Int, w.cell? (ad.add i) = some (.int .i64 r) := by
      intro i hil
      obtain ⟨cs', hc, ht⟩ := hi i (by omega)
      obtain ⟨r, rfl, _, _⟩ := DataW.trod_int Try.underlying3 ht
      obtain ⟨_, _, hcell⟩ := World.cells?_some hc
      have := hcell 0 (by rw [cells3]; omega)
      rw [cells3, Go.Deep.add_add] at this
      refine ⟨r, ?_⟩
      simpa using this
    obtain ⟨f, hfn⟩ := choose_lt hex
    have hlen : ((List.range len').map f).length = len' := by simp
    refine ⟨some ad, (List.range len').map f, cap', by rw [hlen]; exact hcs, by rw [hlen]; exact hl, ⟨rfl, by rw [hlen]; unfold maxLen at hm; omega, fun _ => ⟨ad, rfl, fun j p hj => ?_⟩⟩⟩
    have hjl : j < len' := by
      have := (List.getElem?_eq_some_iff.1 hj).1
      simpa using this
    rw [List.getElem?_map, List.getElem?_range hjl] at hj
    simp at hj
    subst hj
    refine ⟨[.int .i64 (f j)], rfl, rfl, fun q u hu => ?_⟩
    cases q with
    | succ q => simp at hu
    | zero =>
      simp at hu
      subst hu
      show w.cell? (ad.add (j * 1 + 0)) = _
      rw [Nat.mul_one, Nat.add_zero]; exact hfn j hjl
theorem act_cells {n : Nat} {cs : List Value} {x : DataW H × List MemPlace} (h : DataW.trod enc Try.prog w base spare held n 32 cs = some x) : ∃ r : S32, k32.K w r cs ∧ byte r.fl := by
  obtain ⟨xs, m, _, _, hl, hxl, hf⟩ := DataW.trod_struct Try.underlying32 h
  rw [cells32] at hl
  obtain ⟨a, b, c, d, e, f, rfl⟩ := six hl
  have hx : xs.length = 6 := hxl
  obtain ⟨m0, e0, w0⟩ := fld Try.underlying3 (by omega) (hf 0 _ rfl)
  obtain ⟨m1, e1, w1⟩ := fld Try.underlying3 (by omega) (hf 1 _ rfl)
  obtain ⟨m2, e2, w2⟩ := fld Try.underlying3 (by omega) (hf 2 _ rfl)
  obtain ⟨m3, e3, w3⟩ := fld Try.underlying3 (by omega) (hf 3 _ rfl)
  obtain ⟨m4, e4, w4⟩ := fld Try.underlying5 (by omega) (hf 4 _ rfl)
  have h5 := hf 5 _ rfl
  rw [List.getElem?_eq_getElem (by omega)] at h5
  obtain ⟨A, l, cc, e5, h6, h7⟩ := ints_cells h5
  simp [cells3, cells5, cells30] at e0 e1 e2 e3 e4 e5
  subst e0 e1 e2 e3 e4 e5
  refine ⟨⟨m0, m1, m2, m3, m4, l⟩, k32_mk ⟨m0, m1, m2, m3, m4, l⟩ h6 h7, ?_⟩
  have h1 : IntKind.u8.min = 0 := by decide
  have h2 : IntKind.u8.max = 255 := by decide
  simp [Lit.wf] at w4
  exact ⟨by show 0 ≤ m4; omega, by show m4 < 256; omega⟩
theorem open_acts {a : Option Addr} {len cap : Nat} {d : DataW H} {p : List MemPlace} (h : DataW.Trod enc Try.prog w base spare held 22 (.slice a len cap) d p) :
    ∃ l : List S32, len = l.length ∧ Kd.C k32 w a len l ∧ len ≤ cap ∧ ∀ i, i < len → byte (rdA l i).fl := by
  obtain ⟨fuel, hf⟩ := h
  rcases open_slice Try.underlying22 hf with ⟨hcs, _⟩ | ⟨ad, len', cap', m, n, D, Pl, hcs, _, hl, hm, hmm, _, hi⟩
  · simp [Value.cells] at hcs
    obtain ⟨rfl, rfl, rfl⟩ := hcs
    exact ⟨[], rfl, Kd.C_nil _ _, Nat.le_refl _, fun i hi => absurd hi (Nat.not_lt_zero _)⟩
  · simp [Value.cells] at hcs
    obtain ⟨rfl, rfl, rfl⟩ := hcs
    have hlm : len ≤ m := by rw [hmm]; split <;> omega
    have hex : ∀ i, i < len → ∃ r : S32 × List Value, k32.K w r.1 r.2 ∧ byte r.1.fl ∧ ∀ j u, r.2[j]? = some u → w.cell? (ad.add (i * 6 + j)) = some u := by
      intro i hil
      obtain ⟨cs', hc, ht⟩ := hi i (by omega)
      obtain ⟨r, hr, hb⟩ := act_cells ht
      obtain ⟨_, _, hcell⟩ := World.cells?_some hc
      refine ⟨(r, cs'), hr, hb, fun j u hu => ?_⟩
      have hj : j < 6 := by
        have h1 := (List.getElem?_eq_some_iff.1 hu).1
        have h2 : cs'.length = 6 := k32.K_len hr
        simp only at h1
        omega
      have := hcell j (by rw [cells32]; exact hj)
      rw [cells32, Go.Deep.add_add] at this
      rw [this]; exact hu
    have : Inhabited (S32 × List Value) := ⟨(z32, [])⟩
    obtain ⟨f, hfn⟩ := choose_lt hex
    have hlen : ((List.range len).map fun i => (f i).1).length = len := by simp
    refine ⟨(List.range len).map fun i => (f i).1, hlen.symm, ⟨hlen, by unfold maxLen at hm; omega, fun _ => ⟨ad, rfl, fun j p hj => ?_⟩⟩, hl, fun i hil => ?_⟩
    · have hjl : j < len := by
        have := (List.getElem?_eq_some_iff.1 hj).1
        simpa using this
      rw [List.getElem?_map, List.getElem?_range hjl] at hj
      simp at hj
      subst hj
      exact ⟨(f j).2, k32.K_len (hfn j hjl).1, (hfn j hjl).1, fun q u hu => (hfn j hjl).2.2 q u hu⟩
    · have : rdA ((List.range len).map fun i => (f i).1) i = (f i).1 := by
        unfold rdA
        rw [List.getD_eq_getElem?_getD, List.getElem?_map, List.getElem?_range hil]; rfl
      rw [this]; exact (hfn i hil).2.1
end
end Go.Proofs.Ytbojokjommmebaa.MoActs
