/- The reference's array in memory. -/
import Derived.Test.YtbojokjommmebaaMoFill
import Derived.Test.YtbojokjommmebaaMoReg
namespace Go.Proofs.Ytbojokjommmebaa.MoRefMem
set_option linter.unusedSimpArgs false
set_option linter.unusedVariables false
open Go.RowKit Go.Proofs.YtbojokjommmebaaW.PrintWords Go.Proofs.YtbojokjommmebaaW.PrintLast Go.Proofs.YtbojokjommmebaaW.PrintMore Go.Proofs.Ytbojokjommmebaa.MoMem Go.Proofs.Ytbojokjommmebaa.MoGo
/-- The blocks of an array. -/
def Own (rb : Nat) (v0 v1 v2 : Value) (k : Nat) : Prop := k = rb ∨ v0.ownBlock = some k ∨ v1.ownBlock = some k ∨ v2.ownBlock = some k
/-- What may be written. -/
def NZ (base : Nat) (Z : Nat → Prop) (k : Nat) : Prop := base ≤ k ∧ ¬ Z k
structure RefAt (W : World) (base : Nat) (Z : Nat → Prop) (rb n : Nat) (F S : List ByteArray) (L : List Bool) (v0 v1 v2 : Value) : Prop where
  few : n ≤ 512
  lf : F.length = n
  ls : S.length = n
  ll : L.length = n
  lo : base ≤ rb
  hd : W.heap[rb]? = some (.cells #[v0, v1, v2] 46 (0, 0))
  o0 : W.ownsRow base 9 1 v0 n (encs Value.string F)
  o1 : W.ownsRow base 9 1 v1 n (encs Value.string S)
  o2 : W.ownsRow base 4 1 v2 n (encs Value.bool L)
  ne : ∀ k, v0.ownBlock = some k → v1.ownBlock ≠ some k
  ap : ∀ k, Own rb v0 v1 v2 k → ¬ Z k
section
variable {W W' : World} {base rb n : Nat} {Z Y : Nat → Prop} {F S : List ByteArray} {L : List Bool} {v0 v1 v2 : Value}
theorem own_lt {e : TypeId} {v : Value} {m : Nat} {xs : List Value} (h : W.ownsRow base e 1 v m xs) {k : Nat} (hk : v.ownBlock = some k) : k < W.heap.size := (h.lt k hk).2
theorem own_ge {e : TypeId} {v : Value} {m : Nat} {xs : List Value} (h : W.ownsRow base e 1 v m xs) {k : Nat} (hk : v.ownBlock = some k) : base ≤ k := (h.lt k hk).1
theorem RefAt.own_ge (h : RefAt W base Z rb n F S L v0 v1 v2) {k : Nat} (hk : Own rb v0 v1 v2 k) : base ≤ k := by
  rcases hk with rfl | hk | hk | hk
  · exact h.lo
  · exact MoRefMem.own_ge h.o0 hk
  · exact MoRefMem.own_ge h.o1 hk
  · exact MoRefMem.own_ge h.o2 hk
theorem RefAt.own_lt (h : RefAt W base Z rb n F S L v0 v1 v2) {k : Nat} (hk : Own rb v0 v1 v2 k) : k < W.heap.size := by
  rcases hk with rfl | hk | hk | hk
  · exact blk_in h.hd
  · exact MoRefMem.own_lt h.o0 hk
  · exact MoRefMem.own_lt h.o1 hk
  · exact MoRefMem.own_lt h.o2 hk
theorem RefAt.fr {P : Nat → Prop} (h : RefAt W base Z rb n F S L v0 v1 v2) (hf : Fr W W' P) (hp : ∀ k, Own rb v0 v1 v2 k → ¬ P k) : RefAt W' base Z rb n F S L v0 v1 v2 :=
  ⟨h.few, h.lf, h.ls, h.ll, h.lo, hf.at h.hd (hp _ (.inl rfl)),
    own_move h.o0 (fun k hk => hf.block k (MoRefMem.own_lt h.o0 hk) (hp k (.inr (.inl hk)))),
    own_move h.o1 (fun k hk => hf.block k (MoRefMem.own_lt h.o1 hk) (hp k (.inr (.inr (.inl hk))))),
    own_move h.o2 (fun k hk => hf.block k (MoRefMem.own_lt h.o2 hk) (hp k (.inr (.inr (.inr hk))))), h.ne, h.ap⟩
theorem RefAt.below (h : RefAt W base Z rb n F S L v0 v1 v2) (hb : Below W.heap.size W W') : RefAt W' base Z rb n F S L v0 v1 v2 := h.fr (Fr.of_below hb (fun _ => False)) (fun _ _ h => h)
/-- What is written elsewhere, of Z alone. -/
theorem RefAt.far (h : RefAt W base Z rb n F S L v0 v1 v2) {z : Nat} (hz : Z z) (hf : Fr W W' (fun k => k = z)) : RefAt W' base Z rb n F S L v0 v1 v2 := h.fr hf (fun k hk e => h.ap k hk (by rw [e]; exact hz))
theorem RefAt.reZ (h : RefAt W base Z rb n F S L v0 v1 v2) (hz : ∀ k, Own rb v0 v1 v2 k → ¬ Y k) : RefAt W base Y rb n F S L v0 v1 v2 := ⟨h.few, h.lf, h.ls, h.ll, h.lo, h.hd, h.o0, h.o1, h.o2, h.ne, hz⟩
theorem own_lower {e : TypeId} {v : Value} {m b' : Nat} {xs : List Value} (h : W.ownsRow base e 1 v m xs) (hb : b' ≤ base) : W.ownsRow b' e 1 v m xs := by
  obtain ⟨h1, h2⟩ := h
  refine ⟨h1, ?_⟩
  rcases h2 with h2 | ⟨g, cap, cur, rfl, hg, hh, r⟩
  · exact .inl h2
  · exact .inr ⟨g, cap, cur, rfl, Nat.le_trans hb hg, hh, r⟩
theorem RefAt.lower {b' : Nat} (h : RefAt W base Z rb n F S L v0 v1 v2) (hb : b' ≤ base) : RefAt W b' Z rb n F S L v0 v1 v2 := ⟨h.few, h.lf, h.ls, h.ll, Nat.le_trans hb h.lo, h.hd, own_lower h.o0 hb, own_lower h.o1 hb, own_lower h.o2 hb, h.ne, h.ap⟩
/-- The head's cells. -/
theorem RefAt.c0 (h : RefAt W base Z rb n F S L v0 v1 v2) : W.cell? ⟨rb, 0, none⟩ = some v0 := by rw [cell_of_row W _ _ _ _ _ h.hd]; rfl
theorem RefAt.c1 (h : RefAt W base Z rb n F S L v0 v1 v2) : W.cell? ⟨rb, 1, none⟩ = some v1 := by rw [cell_of_row W _ _ _ _ _ h.hd]; rfl
theorem RefAt.c2 (h : RefAt W base Z rb n F S L v0 v1 v2) : W.cell? ⟨rb, 2, none⟩ = some v2 := by rw [cell_of_row W _ _ _ _ _ h.hd]; rfl
theorem RefAt.fz (h : RefAt W base Z rb n F S L v0 v1 v2) (o : Nat) : W.frozen? ⟨rb, o, none⟩ = false := blk_frozen h.hd _
theorem own_typ {e : TypeId} {v : Value} {m : Nat} {xs : List Value} (h : W.ownsRow base e 1 v m xs) {k : Nat} (hk : v.ownBlock = some k) : ∃ cells, W.heap[k]? = some (.cells cells e (0, 0)) := own_typed h k hk
theorem typ_ne {a b : Nat} {c1 c2 : Array Value} {t1 t2 : TypeId} (h1 : W.heap[a]? = some (.cells c1 t1 (0, 0))) (h2 : W.heap[b]? = some (.cells c2 t2 (0, 0))) (ht : t1 ≠ t2) : a ≠ b := by
  rintro rfl
  rw [h1] at h2
  injection h2 with h2
  injection h2 with _ h2
  exact ht h2
theorem RefAt.n0 (h : RefAt W base Z rb n F S L v0 v1 v2) : ∀ k, v0.ownBlock = some k → k ≠ rb := fun k hk => by obtain ⟨c, hc⟩ := own_typ h.o0 hk; exact typ_ne hc h.hd (by decide)
theorem RefAt.n1 (h : RefAt W base Z rb n F S L v0 v1 v2) : ∀ k, v1.ownBlock = some k → k ≠ rb := fun k hk => by obtain ⟨c, hc⟩ := own_typ h.o1 hk; exact typ_ne hc h.hd (by decide)
theorem RefAt.n2 (h : RefAt W base Z rb n F S L v0 v1 v2) : ∀ k, v2.ownBlock = some k → k ≠ rb := fun k hk => by obtain ⟨c, hc⟩ := own_typ h.o2 hk; exact typ_ne hc h.hd (by decide)
theorem RefAt.n12 (h : RefAt W base Z rb n F S L v0 v1 v2) : ∀ k j, v1.ownBlock = some k → v2.ownBlock = some j → k ≠ j := fun k j hk hj => by
  obtain ⟨c, hc⟩ := own_typ h.o1 hk
  obtain ⟨d, hd⟩ := own_typ h.o2 hj
  exact typ_ne hc hd (by decide)
theorem RefAt.n02 (h : RefAt W base Z rb n F S L v0 v1 v2) : ∀ k j, v0.ownBlock = some k → v2.ownBlock = some j → k ≠ j := fun k j hk hj => by
  obtain ⟨c, hc⟩ := own_typ h.o0 hk
  obtain ⟨d, hd⟩ := own_typ h.o2 hj
  exact typ_ne hc hd (by decide)
/-- An owned row as a slice. -/
theorem own_slice1 {e : TypeId} {v : Value} {m : Nat} {xs : List Value} (h : W.ownsRow base e 1 v m xs) : ∃ A c, v = .slice A m c ∧ m ≤ c := by
  rcases h.2 with ⟨rfl, rfl⟩ | ⟨g, cap, cur, rfl, hg, hh, r1, _⟩
  · exact ⟨none, 0, rfl, Nat.le_refl _⟩
  · exact ⟨_, cap, rfl, r1⟩
theorem own_at {e : TypeId} {v : Value} {m : Nat} {xs : List Value} (h : W.ownsRow base e 1 v m xs) (i : Nat) (hi : i < m) : ∃ g c, v = .slice (some ⟨g, 0, none⟩) m c ∧ W.cell? ⟨g, i, none⟩ = xs[i]? ∧ W.frozen? ⟨g, i, none⟩ = false := by
  obtain ⟨g, cap, rfl, _⟩ := h.form (by omega)
  exact ⟨g, cap, rfl, h.cellAt i (by omega), h.frozenAt i⟩
end
end Go.Proofs.Ytbojokjommmebaa.MoRefMem
