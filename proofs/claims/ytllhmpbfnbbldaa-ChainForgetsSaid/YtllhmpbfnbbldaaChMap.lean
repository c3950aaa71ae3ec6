/- A chain's map: what its operations do, as equations on runs; no conditions but that the keys fit. -/
import Derived.Test.YtllhmpbfnbbldaaPChainPartsx1
import Derived.Maps.OwnSet
import Derived.Maps.OwnOps
import Derived.Maps.RangeWalk
import Derived.WideKeyEntry
import Derived.DeepKeys4
import Derived.Lib.Hide
namespace Go.Proofs.Ytllhmpbfnbbldaa.ChMap
open Go.RowKit Go.Maps
open Go.WideElems (Fit rd rg pl rd_val elemAt)
open Go.ChangeMaps (setBlock heap_setBlock_same heap_setBlock_other)

theorem laidOut : laidOutB Try.prog = true := by kernel_rfl
theorem row58 : (58 : TypeId) < Try.prog.types.size := of_decide_eq_true (by kernel_rfl)
theorem wide58 : (match Try.prog.underlying 58 with | some (.array _ _) | some (.struct _) => true | _ => false) = true := by rw [Try.underlying58]
theorem klaw : WideMaps.KeyLaw Try.prog 58 := deep_law_laid laidOut (m := 3) (by omega) row58 (by kernel_rfl) wide58
theorem law : Keyed Try.prog 58 := Keyed.of_law klaw
theorem zero5 (w : World) : (zeroValue 5).run Try.prog w = .ok (.int .u8 0) w := by kernel_rfl

/-- A key's value, and what it reads as. -/
def kv (e g : Int) : Value := .agg #[.int .i64 e, .int .u64 g]
noncomputable def kl (e g : Int) : Lit := (keyOf Try.prog 58 (kv e g)).getD (.bool false)
def kwf (e g : Int) : Prop := (Lit.int .i64 e).wf = true ∧ (Lit.int .u64 g).wf = true

theorem kt58 : Try.prog.keyType 58 = true := by kernel_rfl
theorem size58 : Try.prog.types.size = 77 := by kernel_rfl
theorem cells58 : Try.prog.cellsOf 58 = 2 := by kernel_rfl
theorem cells3 : Try.prog.cellsOf 3 = 1 := by kernel_rfl
theorem cells22 : Try.prog.cellsOf 22 = 1 := by kernel_rfl
theorem klits_int {P : Program} {d t : Nat} {q : IntKind} {n : Int} (h : P.underlying t = some (.int q)) (hw : (Lit.int q n).wf = true) : P.keyLits (d + 1) t [.int q n] = some [.int q n] := by
  unfold Program.keyLits
  rw [h]
  simp [hw]
theorem klits58 (d : Nat) (e g : Int) (h : kwf e g) : Try.prog.keyLits (d + 2) 58 [.int .i64 e, .int .u64 g] = some [.int .i64 e, .int .u64 g] := by
  have h3 := klits_int (d := d) Try.underlying3 h.1
  have h22 := klits_int (d := d) Try.underlying22 h.2
  unfold Program.keyLits
  rw [Try.underlying58]
  simp [cells58, cells3, cells22, h3, h22]
theorem key_is (e g : Int) (h : kwf e g) : keyOf Try.prog 58 (kv e g) = some (kl e g) := by
  have : (keyOf Try.prog 58 (kv e g)).isSome = true := by
    unfold keyOf
    rw [Try.underlying58, kt58, size58]
    have hf : (kv e g).formed Try.prog 58 = true := by simp [kv, Value.formed, Try.underlying58, cells58]
    simp only [hf, Bool.and_self, if_true]
    have := klits58 76 e g h
    simp only [kv, Value.cells, this]
    rfl
  unfold kl
  cases hk : keyOf Try.prog 58 (kv e g) with
  | none => rw [hk] at this; cases this
  | some x => rfl
theorem kl_inj {e g e' g' : Int} (h : kwf e g) (h' : kwf e' g') (hk : kl e g = kl e' g') : e = e' ∧ g = g' := by
  have := law.inj (key_is e g h) (by rw [hk]; exact key_is e' g' h')
  simpa [kv] using this
theorem kl_key (e g : Int) (h : kwf e g) : WideAt.IsKeyLit (kl e g) := law.key (key_is e g h)

/-- The block is a map of at most n entries that reads as D. -/
def MapIs (w : World) (bm n : Nat) (D : DataW Unit) : Prop := w.ownsMap Try.prog 58 (plainElem Try.prog 5) bm n D
noncomputable def maskD (D : DataW Unit) (e g : Int) : Int := match D.atKey (kl e g) (.lit (.int .u8 0)) with | .lit (.int _ c) => c | _ => 0
noncomputable def hasD (D : DataW Unit) (e g : Int) : Bool := Maps.has D (kl e g)
def m8 (c : Int) : DataW Unit := .lit (.int .u8 c)

section
variable {w : World} {bm n : Nat} {D : DataW Unit} {e g : Int}
theorem MapIs.look2 (h : MapIs w bm n D) (hk : kwf e g) : (Instr.lookup 45 (.map (some bm)) (kv e g) true).run Try.prog w = .ok (.tuple #[.int .u8 (maskD D e g), .bool (hasD D e g)]) w := by
  obtain ⟨v, ps, hrun, hv⟩ := World.ownsMap.look_ok h law Try.underlying45 (zero5 w) (plainElem_int Try.underlying5 (by decide)) (key_is e g hk)
  obtain ⟨c, rfl, hc, hwc⟩ := plainElem_int_inv Try.underlying5 hv
  simp only [Prod.mk.injEq] at hc
  have : maskD D e g = c := by unfold maskD; rw [hc.1]
  rw [this]; exact hrun
theorem MapIs.look1 (h : MapIs w bm n D) (hk : kwf e g) : (Instr.lookup 45 (.map (some bm)) (kv e g) false).run Try.prog w = .ok (.int .u8 (maskD D e g)) w := by
  obtain ⟨c, hrun, hc, hwc⟩ := World.ownsMap.lookup_int h law Try.underlying45 Try.underlying5 (zero5 w) (key_is e g hk)
  have : maskD D e g = c := by unfold maskD; rw [hc]
  rw [this]; exact hrun
theorem MapIs.mask_wf (h : MapIs w bm n D) (hk : kwf e g) : (Lit.int .u8 (maskD D e g)).wf = true := by
  obtain ⟨c, hrun, hc, hwc⟩ := World.ownsMap.lookup_int h law Try.underlying45 Try.underlying5 (zero5 w) (key_is e g hk)
  have : maskD D e g = c := by unfold maskD; rw [hc]
  rw [this]; exact hwc
theorem MapIs.len (h : MapIs w bm n D) (ty : TypeId) : (Builtin.len_ #[45] ty #[.map (some bm)]).run Try.prog w = .ok (.int .i64 (Maps.size D)) w := World.ownsMap.len h Try.underlying45 ty
theorem MapIs.size_le (h : MapIs w bm n D) : Maps.size D ≤ n := World.ownsMap.size_le h
theorem MapIs.isMap (h : MapIs w bm n D) : IsMap D := World.ownsMap.isMap h
theorem MapIs.tidy (h : MapIs w bm n D) : Tidy D := World.ownsMap.tidy h law
theorem MapIs.lt (h : MapIs w bm n D) : bm < w.heap.size := World.ownsMap.lt h
theorem MapIs.kept {w' : World} {row : Option Nat} (h : MapIs w bm n D) (hg : w.grownBy w' row) (hne : some bm ≠ row) : MapIs w' bm n D := World.ownsMap.kept h hg hne

/-- 'm[k] |= x': the entry, and the store behind it. The look-up reads alike ahead of the entry and behind it. -/
theorem MapIs.entry (h : MapIs w bm n D) (hn : n < maxLen) (hk : kwf e g) : ∃ (v0 : Value) (st : Nat) (w1 : World),
    (Instr.mapEntry 45 (.map (some bm)) (kv e g)).run Try.prog w = .ok (.tuple #[v0, goInt st]) w1 ∧ w.grownBy w1 (some bm) ∧
    (Instr.lookup 45 (.map (some bm)) (kv e g) false).run Try.prog w1 = .ok (.int .u8 (maskD D e g)) w1 ∧
    ∀ c : Int, (Lit.int .u8 c).wf = true → ∃ w2, (Instr.entryStore 45 (.map (some bm)) (goInt st) (.int .u8 c)).run Try.prog w1 = .ok () w2 ∧ MapIs w2 bm (n + 1) (D.put (kl e g) (m8 c)) ∧ w.grownBy w2 (some bm) := by
  have h' := h
  obtain ⟨es, clock, hb, F, hs, hD⟩ := h'
  have hsn : es.size < maxLen := by omega
  have hkey := key_is e g hk
  obtain ⟨v0, st, es1, clock1, hrun, hval, hst⟩ := WideElems.entry_then_store klaw Try.underlying45 zero5 hb F hkey
  have hb1 : (setBlock w bm (.map es1 clock1)).heap[bm]? = some (.map es1 clock1) := heap_setBlock_same hb _
  have hgrow : ∀ (o : Obj), w.grownBy (setBlock w bm o) (some bm) := fun o => ⟨rfl, rfl, rfl, by simp [setBlock], fun i _ hi => heap_setBlock_other hb _ (fun e => hi (by rw [e]))⟩
  refine ⟨v0, st, setBlock w bm (.map es1 clock1), hrun, hgrow _, ?_, ?_⟩
  · rcases law.find w hkey es.toList F.keys with ⟨f1, f2⟩ | ⟨j, e0, f1, f2, f3⟩
    · -- a new entry
      have hrun' : (Instr.mapEntry 45 (.map (some bm)) (kv e g)).run Try.prog w = .ok (.tuple #[.int .u8 0, goInt clock]) (setBlock w bm (.map (es.push ⟨kv e g, .int .u8 0, clock⟩) (clock + 1))) := by
        simp [Instr.mapEntry, run_underlying Try.underlying45, MapKept.run_getObj_map hb, law.check w false hkey, f1, MapKept.run_setObj_map _ hb, Result.andThen, setBlock]
      rw [hrun] at hrun'
      have hw : setBlock w bm (.map es1 clock1) = setBlock w bm (.map (es.push ⟨kv e g, .int .u8 0, clock⟩) (clock + 1)) := by
        injection hrun'
      rw [hw] at hb1 ⊢
      rw [heap_setBlock_same hb] at hb1
      have hm : maskD D e g = 0 := by
        rcases Maps.fit_look false law Try.underlying45 (zero5 w) hb F hkey with ⟨_, _, hat⟩ | ⟨e0, y, hm0, hk0, _⟩
        · unfold maskD; rw [hD, hat]
        · exact absurd hk0 (f2 e0 hm0)
      rw [hm]
      have hb2 : (setBlock w bm (.map (es.push ⟨kv e g, .int .u8 0, clock⟩) (clock + 1))).heap[bm]? = some (.map (es.push ⟨kv e g, .int .u8 0, clock⟩) (clock + 1)) := heap_setBlock_same hb _
      have hkeys : ∀ x ∈ (es.push ⟨kv e g, .int .u8 0, clock⟩).toList, ∃ l, keyOf Try.prog 58 x.key = some l := by
        intro x hx
        simp only [Array.toList_push, List.mem_append, List.mem_singleton] at hx
        rcases hx with hx | rfl
        · exact F.keys x hx
        · exact ⟨_, hkey⟩
      rcases law.find (setBlock w bm (.map (es.push ⟨kv e g, .int .u8 0, clock⟩) (clock + 1))) hkey (es.push ⟨kv e g, .int .u8 0, clock⟩).toList hkeys with ⟨_, q2⟩ | ⟨j, e0, q1, q2, q3⟩
      · exact absurd rfl (q2 ⟨kv e g, .int .u8 0, clock⟩ (by simp))
      · have hv : e0.val = .int .u8 0 := by
          have hm0 := List.mem_of_getElem? q2
          simp only [Array.toList_push, List.mem_append, List.mem_singleton] at hm0
          rcases hm0 with hm0 | rfl
          · exact absurd q3 (f2 e0 hm0)
          · rfl
        rw [hv, Array.toList_push] at q1
        simp [Instr.lookup, run_underlying Try.underlying45, MapKept.run_getObj_map hb2, law.check _ _ hkey, q1, Result.andThen]
    · -- one that is there
      have hj : es[j]? = some e0 := by simpa using f2
      have hrun' : (Instr.mapEntry 45 (.map (some bm)) (kv e g)).run Try.prog w = .ok (.tuple #[e0.val, goInt e0.born]) (setBlock w bm (.map es clock)) := by
        have hsame : es.modify j (fun x => { x with key := kv e g }) = es := by
          apply Array.ext'
          rw [Array.toList_modify, ChangeMaps.modify_eq_set _ _ _ _ f2]
          have : ({ e0 with key := kv e g } : MapEntry) = e0 := by rw [← f3]
          rw [this]
          exact WideElems.set_self _ _ _ f2
        simp [Instr.mapEntry, run_underlying Try.underlying45, MapKept.run_getObj_map hb, law.check w false hkey, f1, hj, f3, law.stays w hkey, hsame, MapKept.run_setObj_map _ hb, Result.andThen, setBlock]
      rw [hrun] at hrun'
      have hw : setBlock w bm (.map es1 clock1) = setBlock w bm (.map es clock) := by injection hrun'
      rw [hw]
      have h2 : MapIs (setBlock w bm (.map es clock)) bm n D := ⟨es, clock, heap_setBlock_same hb _, F, hs, hD⟩
      exact h2.look1 hk
  · intro c hc
    obtain ⟨es', clock', r1, r2⟩ := hst (setBlock w bm (.map es1 clock1)) (.int .u8 c) hb1
    obtain ⟨w', hrun2, hown, hg⟩ := World.ownsMap.update h law Try.underlying45 hn hkey (plainElem_int Try.underlying5 hc)
    rw [r2] at hrun2
    have hw' : setBlock w bm (.map es' clock') = w' := by injection hrun2
    have hss : setBlock (setBlock w bm (.map es1 clock1)) bm (.map es' clock') = setBlock w bm (.map es' clock') := by
      simp [setBlock]
    refine ⟨_, r1, ?_, ?_⟩
    · rw [hss, hw']; exact hown
    · rw [hss]; exact hgrow _
end
end Go.Proofs.Ytllhmpbfnbbldaa.ChMap
