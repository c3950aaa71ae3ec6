/- What comes in, opened: slices of records, and records and questions by value; no conditions. -/
import Derived.Test.YtllhmpbfnbbldaaChAdd
import Derived.Deep.Slices
import Derived.ProofKit
namespace Go.Proofs.Ytllhmpbfnbbldaa.ChOpen
set_option linter.unusedSimpArgs false
set_option linter.unusedVariables false
open Go.RowKit Go.Maps Go.ChangeShapes Go.WideShapes Go.Deep Go.Proofs.Ytllhmpbfnbbldaa.ChMap Go.Proofs.Ytllhmpbfnbbldaa.ChAdd
open Go.Proofs.YtllhmpbfnbbldaaW.PrintWords Go.Proofs.YtllhmpbfnbbldaaW.PrintLast Go.Proofs.YtllhmpbfnbbldaaW.PrintMore
open Go.Proofs.Ytllhmpbfnbbldaa.PChainParts

section
variable {H : Type} {enc : TypeId × Value → H} {w : World} {base : Nat} {spare : Nat → Bool} {held : Bool}

theorem fld {P : Program} {cs : List Value} {t : TypeId} {q : IntKind} {n i : Nat} {xs : List (DataW H × List MemPlace)} (ht : P.underlying t = some (.int q)) (hlt : i < xs.length) (h : DataW.trod enc P w base spare held n t cs = xs[i]?) :
    ∃ m, cs = [.int q m] ∧ (Lit.int q m).wf = true := by
  rw [List.getElem?_eq_getElem hlt] at h
  obtain ⟨m, h1, _, h2⟩ := DataW.trod_int ht h
  exact ⟨m, h1, h2⟩

theorem cells39 : Try.prog.cellsOf 39 = 5 := by kernel_rfl
theorem cells5 : Try.prog.cellsOf 5 = 1 := by kernel_rfl
theorem cells41 : Try.prog.cellsOf 41 = 4 := by kernel_rfl

theorem five {cs : List Value} (h : cs.length = 5) : ∃ a b c d e, cs = [a, b, c, d, e] := by
  match cs, h with
  | [a, b, c, d, e], _ => exact ⟨a, b, c, d, e, rfl⟩
theorem four {cs : List Value} (h : cs.length = 4) : ∃ a b c d, cs = [a, b, c, d] := by
  match cs, h with
  | [a, b, c, d], _ => exact ⟨a, b, c, d, rfl⟩

/-- A record's cells. -/
theorem record_cells {n : Nat} {cs : List Value} {x : DataW H × List MemPlace} (h : DataW.trod enc Try.prog w base spare held n 39 cs = some x) :
    ∃ r : S39, cs = [.int .u64 r.f0, .int .u64 r.f1, .int .i64 r.f2, .int .u64 r.f3, .int .u8 r.f4] ∧ rwf r := by
  obtain ⟨xs, m, _, _, hl, hxl, hf⟩ := DataW.trod_struct Try.underlying39 h
  rw [cells39] at hl
  obtain ⟨a, b, c, d, e, rfl⟩ := five hl
  have hx : xs.length = 5 := hxl
  obtain ⟨m0, e0, w0⟩ := fld Try.underlying22 (by omega) (hf 0 _ rfl)
  obtain ⟨m1, e1, w1⟩ := fld Try.underlying22 (by omega) (hf 1 _ rfl)
  obtain ⟨m2, e2, w2⟩ := fld Try.underlying3 (by omega) (hf 2 _ rfl)
  obtain ⟨m3, e3, w3⟩ := fld Try.underlying22 (by omega) (hf 3 _ rfl)
  obtain ⟨m4, e4, w4⟩ := fld Try.underlying5 (by omega) (hf 4 _ rfl)
  simp [cells22, cells3, cells5] at e0 e1 e2 e3 e4
  subst e0 e1 e2 e3 e4
  exact ⟨⟨m0, m1, m2, m3, m4⟩, rfl, w0, w1, w2, w3, w4⟩

/-- A slice of records that came in. -/
theorem open_records {a : Option Addr} {len cap : Nat} {d : DataW H} {p : List MemPlace} (h : DataW.Trod enc Try.prog w base spare held 32 (.slice a len cap) d p) :
    ∃ l : List S39, l.length = len ∧ Kd.C k39 w a len l ∧ len ≤ cap ∧ cap ≤ maxLen ∧ ∀ i, i < len → rwf (rd_T39 l i) := by
  obtain ⟨fuel, hf⟩ := h
  rcases open_slice Try.underlying32 hf with ⟨hcs, _⟩ | ⟨ad, len', cap', m, n, D, Pl, hcs, _, hl, hm, hmm, _, hi⟩
  · simp [Value.cells] at hcs
    obtain ⟨rfl, rfl, rfl⟩ := hcs
    exact ⟨[], rfl, Kd.C_nil _ _, Nat.le_refl _, by unfold maxLen; omega, fun i hi => absurd hi (Nat.not_lt_zero _)⟩
  · simp [Value.cells] at hcs
    obtain ⟨rfl, rfl, rfl⟩ := hcs
    have hlm : len ≤ m := by rw [hmm]; split <;> omega
    have hex : ∀ i, i < len → ∃ r : S39, rwf r ∧ ∀ j u, [Value.int .u64 r.f0, .int .u64 r.f1, .int .i64 r.f2, .int .u64 r.f3, .int .u8 r.f4][j]? = some u → w.cell? (ad.add (i * 5 + j)) = some u := by
      intro i hil
      obtain ⟨cs', hc, ht⟩ := hi i (by omega)
      obtain ⟨r, rfl, hr⟩ := record_cells ht
      obtain ⟨_, _, hcell⟩ := World.cells?_some hc
      refine ⟨r, hr, fun j u hu => ?_⟩
      have hj : j < 5 := by
        have := (List.getElem?_eq_some_iff.1 hu).1
        simpa using this
      have := hcell j (by rw [cells39]; exact hj)
      rw [cells39, Go.Deep.add_add] at this
      rw [this]; exact hu
    have : Inhabited S39 := ⟨z39⟩
    obtain ⟨f, hfn⟩ := choose_lt hex
    have hlen : ((List.range len).map f).length = len := by simp
    refine ⟨(List.range len).map f, hlen, ⟨hlen, by unfold maxLen at hm; omega, fun _ => ⟨ad, rfl, fun j p hj => ?_⟩⟩, hl, hm, fun i hil => ?_⟩
    · have hjl : j < len := by
        have := (List.getElem?_eq_some_iff.1 hj).1
        simpa using this
      rw [List.getElem?_map, List.getElem?_range hjl] at hj
      simp at hj
      subst hj
      exact ⟨_, rfl, k39_mk _ _, fun i u hu => (hfn j hjl).2 i u hu⟩
    · have : rd_T39 ((List.range len).map f) i = f i := by
        unfold rd_T39
        rw [Int.toNat_natCast, List.getD_eq_getElem?_getD, List.getElem?_map, List.getElem?_range hil]; rfl
      rw [this]; exact (hfn i hil).1

/-- A record that came in by value. -/
theorem open_record {v : Value} {b0 : Nat} {r : Reach} {d : DataW H} {p : List MemPlace} (hv : Value.okWide Try.prog w r b0 39 v) (h : DataW.Trod enc Try.prog w base spare held 39 v d p) :
    ∃ r : S39, v = .agg #[.int .u64 r.f0, .int .u64 r.f1, .int .i64 r.f2, .int .u64 r.f3, .int .u8 r.f4] ∧ rwf r := by
  obtain ⟨cs, rfl, hs⟩ := okWide_struct Try.underlying39 hv
  obtain ⟨fuel, hf⟩ := h
  obtain ⟨r, hr, hw⟩ := record_cells hf
  refine ⟨r, ?_, hw⟩
  simp only [Value.cells] at hr
  obtain ⟨l⟩ := cs
  simp at hr
  rw [hr]

/-- A question. -/
structure Ask where
  e : Int
  bit : Int
  tag : Int
  now : Int
def Ask.ok (x : Ask) : Prop := (Lit.int .i64 x.e).wf = true ∧ (Lit.int .i64 x.bit).wf = true ∧ (Lit.int .u64 x.tag).wf = true ∧ (Lit.int .u64 x.now).wf = true
theorem open_ask {v : Value} {b0 : Nat} {r : Reach} {d : DataW H} {p : List MemPlace} (hv : Value.okWide Try.prog w r b0 41 v) (h : DataW.Trod enc Try.prog w base spare held 41 v d p) :
    ∃ x : Ask, v = .agg #[.int .i64 x.e, .int .i64 x.bit, .int .u64 x.tag, .int .u64 x.now] ∧ x.ok := by
  obtain ⟨cs, rfl, hs⟩ := okWide_struct Try.underlying41 hv
  obtain ⟨fuel, hf⟩ := h
  obtain ⟨xs, m, _, _, hl, hxl, hfl⟩ := DataW.trod_struct Try.underlying41 hf
  rw [cells41] at hl
  obtain ⟨l⟩ := cs
  obtain ⟨a, b, c, e, hl4⟩ := four hl
  simp only [Value.cells] at hl4
  subst hl4
  have hx : xs.length = 4 := hxl
  obtain ⟨m0, e0, w0⟩ := fld Try.underlying3 (by omega) (hfl 0 _ rfl)
  obtain ⟨m1, e1, w1⟩ := fld Try.underlying3 (by omega) (hfl 1 _ rfl)
  obtain ⟨m2, e2, w2⟩ := fld Try.underlying22 (by omega) (hfl 2 _ rfl)
  obtain ⟨m3, e3, w3⟩ := fld Try.underlying22 (by omega) (hfl 3 _ rfl)
  simp [Value.cells, cells22, cells3] at e0 e1 e2 e3
  subst e0 e1 e2 e3
  exact ⟨⟨m0, m1, m2, m3⟩, rfl, w0, w1, w2, w3⟩
end
end Go.Proofs.Ytllhmpbfnbbldaa.ChOpen
