/- The walk of a chain's Forget; no conditions but that the chain is one. -/
import Derived.Test.YtllhmpbfnbbldaaChAdds
import Derived.Deep.RegionHeld3
namespace Go.Proofs.Ytllhmpbfnbbldaa.ChForget
set_option linter.unusedSimpArgs false
set_option linter.unusedVariables false
open Go.RowKit Go.Maps Go.Proofs.Ytllhmpbfnbbldaa.Util Go.Proofs.Ytllhmpbfnbbldaa.ChMap Go.Proofs.Ytllhmpbfnbbldaa.ChCore Go.Proofs.Ytllhmpbfnbbldaa.ChAdd Go.Proofs.Ytllhmpbfnbbldaa.ChView
open Go.Proofs.YtllhmpbfnbbldaaW.PrintWords Go.Proofs.YtllhmpbfnbbldaaW.PrintLast Go.Proofs.YtllhmpbfnbbldaaW.PrintMore

theorem klits_int_inv {P : Program} {d t : Nat} {q : IntKind} {cs : List Value} {ls : List Lit} (h : P.underlying t = some (.int q)) (hk : P.keyLits (d + 1) t cs = some ls) : ∃ n, cs = [.int q n] ∧ (Lit.int q n).wf = true := by
  unfold Program.keyLits at hk
  rw [h] at hk
  split at hk <;> simp_all

theorem klits58_inv {d : Nat} {c0 c1 : Value} {ls : List Lit} (h : Try.prog.keyLits (d + 2) 58 [c0, c1] = some ls) : ∃ e g, c0 = .int .i64 e ∧ c1 = .int .u64 g ∧ kwf e g := by
  unfold Program.keyLits at h
  rw [Try.underlying58] at h
  simp [cells58, cells3, cells22, Option.bind_eq_some_iff] at h
  obtain ⟨a, ha, _, ⟨b, hb, _⟩, _⟩ := h
  obtain ⟨e, he, we⟩ := klits_int_inv Try.underlying3 ha
  obtain ⟨g, hg, wg⟩ := klits_int_inv Try.underlying22 hb
  simp at he hg
  exact ⟨e, g, he, hg, we, wg⟩
theorem key_inv {v : Value} {l : Lit} (h : keyOf Try.prog 58 v = some l) : ∃ x : Int × Int, v = kv x.1 x.2 ∧ kwf x.1 x.2 := by
  unfold keyOf at h
  rw [Try.underlying58, kt58, size58] at h
  simp only [Bool.true_and] at h
  split at h
  · rename_i hf
    cases v <;> simp [Value.formed, Try.underlying58] at hf
    rename_i cs
    rw [cells58] at hf
    obtain ⟨cl⟩ := cs
    match cl, hf with
    | [c0, c1], _ =>
      simp only [Value.cells, Option.map_eq_some_iff] at h
      obtain ⟨ls, hls, _⟩ := h
      obtain ⟨e, g, rfl, rfl, hw⟩ := klits58_inv (d := 76) hls
      exact ⟨(e, g), rfl, hw⟩
  · cases h

/-- What a round has done: of an extent's generations up to one those are left that are still to come; all else is as it was. -/
def Inv (D0 D : DataW Unit) (e g : Int) (left : Lit → Bool) : Prop := ∀ e' g', kwf e' g' →
  (¬ (e' = e ∧ g' ≤ g) → hasD D e' g' = hasD D0 e' g' ∧ maskD D e' g' = maskD D0 e' g') ∧ (e' = e ∧ g' ≤ g → left (kl e' g') = false → hasD D e' g' = false)

theorem Inv.start (D0 : DataW Unit) (e g : Int) : Inv D0 D0 e g (Maps.has D0) := fun e' g' _ => ⟨fun _ => ⟨rfl, rfl⟩, fun _ h => h⟩
theorem same_kl {e g e' g' : Int} (h : kwf e g) (h' : kwf e' g') (hs : (kl e' g').sameKey (kl e g) = true) : e' = e ∧ g' = g := kl_inj h' h (WideAt.sameKey_eq hs)
theorem Inv.stays {D0 D : DataW Unit} {e g a b : Int} {left : Lit → Bool} (h : Inv D0 D e g left) (hk : kwf a b) (hn : ¬ (a = e ∧ b ≤ g)) : Inv D0 D e g (fun z => left z && !z.sameKey (kl a b)) := by
  intro e' g' hk'
  refine ⟨(h e' g' hk').1, fun hr hl => (h e' g' hk').2 hr ?_⟩
  cases hs : (kl e' g').sameKey (kl a b) with
  | false => have hl' : (left (kl e' g') && !(kl e' g').sameKey (kl a b)) = false := hl; rw [hs] at hl'; simpa using hl'
  | true =>
    obtain ⟨rfl, rfl⟩ := same_kl hk hk' hs
    exact absurd hr hn
theorem Inv.struck {D0 D : DataW Unit} {e g a b : Int} {left : Lit → Bool} (h : Inv D0 D e g left) (hk : kwf a b) (hr : a = e ∧ b ≤ g) : Inv D0 (D.del (kl a b)) e g (fun z => left z && !z.sameKey (kl a b)) := by
  intro e' g' hk'
  by_cases hc : kl e' g' = kl a b
  · obtain ⟨rfl, rfl⟩ := kl_inj hk' hk hc
    exact ⟨fun hn => absurd hr hn, fun _ _ => has_del_same⟩
  · have h1 : hasD (D.del (kl a b)) e' g' = hasD D e' g' := has_del_other hc
    have h2 : maskD (D.del (kl a b)) e' g' = maskD D e' g' := by unfold maskD; rw [atKey_del_other hc]
    rw [h1, h2]
    refine ⟨(h e' g' hk').1, fun hr' hl => (h e' g' hk').2 hr' ?_⟩
    have hl' : (left (kl e' g') && !(kl e' g').sameKey (kl a b)) = false := hl
    rw [sameKey_ne hc] at hl'
    simpa using hl'

/-- What Forget leaves. -/
def Gone (w : World) (bm : Nat) (D0 : DataW Unit) (e g : Int) (r : Ending) (w' : World) : Prop :=
  (∃ k : Int, r = .returned (.int .i64 k)) ∧ w.grownBy w' (some bm) ∧ ∃ n D, MapIs w' bm n D ∧ Inv D0 D e g (fun _ => false)

section
variable {w : World} {cb bm n : Nat} {D0 : DataW Unit} {e g : Int}
set_option maxRecDepth 100000 in
set_option maxHeartbeats 1000000 in
theorem forget_calls (hc : w.cell? ⟨cb, 0, none⟩ = some (.map (some bm))) (hm : MapIs w bm n D0) :
    Calls Try.prog 26 #[.pointer (some ⟨cb, 0, none⟩), .int .i64 e, .int .u64 g] w (Gone w bm D0 e g) := by
  have hln := hm.len
  have HM := Lib.hid hm
  have HC := Lib.hid hc
  have hmo : w.ownsMap Try.prog 58 (plainElem Try.prog 5) bm n D0 := hm
  have HMO := Lib.hid hmo
  clear hm hmo
  go_enter Try.func26, Try.ntmps26
  go_wp2_with (first
    | (at_range; refine wpList_range_own _ rfl _ 45 rfl 58 5 law Try.underlying45 _ bm n _ rfl HMO.out ?_; intro w0 hrg0 hg0 hs0)
    | go_in)
  go_frame
  clear hln hc
  go_loopw [21] (fun _ wr => ∃ (left : Lit → Bool) (cnt : Nat) (D : DataW Unit), Hid (wr.ranges Try.prog 58 (plainElem Try.prog 5) bm w.heap.size n D left cnt) ∧ Hid (Inv D0 D e g left) ∧ Hid (w.grownBy wr (some bm)))
    (fun _ wr => wr.rangeLeft bm w.heap.size)
  case atStart => exact ⟨_, _, _, hrg0, Inv.start _ _ _, hg0.but _⟩
  case round =>
    obtain ⟨left, cnt, D, HRG, HI, HG⟩ := hrel
    go_wp2_with (first
      | (at_next; refine wpList_next_ranges (α := Int × Int) (β := Int) _ rfl _ rfl 58 law (plainElem Try.prog 5) (fun p => .agg #[.int .i64 p.1, .int .u64 p.2]) (fun c => .int .u8 c) ?_ ?_ bm w.heap.size n _ _ _ rfl HRG.out ?_ ?_)
      | go_in)
    · intro key l h
      obtain ⟨x, rfl, _⟩ := key_inv h
      exact ⟨x, rfl⟩
    · intro v y hv
      obtain ⟨c, rfl, _⟩ := plainElem_int_inv Try.underlying5 hv
      exact ⟨c, rfl⟩
    · -- nothing is left
      intro _ hl0
      have HI0 : Hid (Inv D0 D e g (fun _ => false)) := by
        have := HI.out
        rwa [show left = (fun _ => false) from funext hl0] at this
      have HMD : Hid (MapIs wr bm n D) := HRG.out.owns
      have hln : ∀ ty, (Builtin.len_ #[45] ty #[.map (some bm)]).run Try.prog wr = .ok (.int .i64 (Maps.size D)) wr := HMD.out.len
      have hcr := cell_grown HM.out HG.out HC.out
      clear hl0
      go_wp2
      go_ret
      exact ⟨⟨_, rfl⟩, HG.out, ⟨n, D, HMD.out, HI0.out⟩⟩
    · -- an entry has come
      intro a b c l y0 y1 w1 cnt1 hkey hlx hv hat hrg1 hlt hg1 hs1 hen
      have hkw : kwf a b := by
        obtain ⟨x, hx, hw⟩ := key_inv hkey
        simp [kv] at hx
        rw [hx.1, hx.2]; exact hw
      obtain rfl : kl a b = l := Option.some.inj ((key_is a b hkw).symm.trans hkey)
      have hgw1 := HG.out.andThen hg1 (fun j hj => by cases hj; exact Or.inl (Nat.le_refl _))
      have hba : Below w1.heap.size w1 (w1.alloc (.cells #[.int .i64 a, .int .u64 b] 58)) := (Below.refl _ _).alloc (Nat.le_refl _) _
      have HGA := Lib.hid (hgw1.trans ((bgrown hba).but (some bm)))
      have HRA := Lib.hid (hrg1.alloc (.cells #[.int .i64 a, .int .u64 b] 58))
      have HLT := Lib.hid hlt
      have HRG1 := Lib.hid hrg1
      have HCA := Lib.hid (cell_grown HM.out HGA.out HC.out)
      clear hkey hlx hv hat hrg1 hlt hg1 hs1 hgw1
      by_cases ha : a = e
      · subst ha
        by_cases hb : b ≤ g
        · have HIN := Lib.hid (Inv.struck HI.out hkw ⟨rfl, hb⟩)
          obtain ⟨W, hW⟩ : ∃ W : World, W = w1.alloc (.cells #[.int .i64 a, .int .u64 b] 58) := ⟨_, rfl⟩
          have z0 : W.drew.cell? ⟨w1.heap.size, 0, none⟩ = some (.int .i64 a) := by rw [hW]; simp
          have z1 : W.drew.cell? ⟨w1.heap.size, 1, none⟩ = some (.int .u64 b) := by rw [hW]; simp
          have zc : W.drew.cell? ⟨cb, 0, none⟩ = some (.map (some bm)) := by rw [hW]; exact HCA.out
          have hra : W.drew.ranges Try.prog 58 (plainElem Try.prog 5) bm w.heap.size n D (fun z => left z && !z.sameKey (kl a b)) cnt1 := by rw [hW]; exact HRA.out
          have hga : w.grownBy W.drew (some bm) := by rw [hW]; exact ⟨HGA.out.os, HGA.out.tape, HGA.out.output, HGA.out.size, HGA.out.block⟩
          obtain ⟨W2, cnt2, e1, r2, hle, hturn⟩ := hra.drop law Try.underlying45 (key_is a b hkw) 0
          unfold kv at e1
          rw [strike_twice] at r2
          have S0 := And.intro zc (And.intro z0 z1)
          have hmd : MapIs W.drew bm n D := hra.owns
          have S2 := And.intro (cell_grown hmd hturn.grown zc) (And.intro (cell_grown hmd hturn.grown z0) (cell_grown hmd hturn.grown z1))
          have HG2 := Lib.hid (hga.andThen hturn.grown (fun j hj => by cases hj; exact Or.inr rfl))
          have HR2 := Lib.hid r2
          have HLE := Lib.hid hle
          clear hra hga r2 hturn hmd hle z0 z1 zc
          go_wp2
          rw [← hW]
          clear hW
          go_region_held3 (fun w' => w'.cell? ⟨cb, 0, none⟩ = some (.map (some bm)) ∧ w'.cell? ⟨w1.heap.size, 0, none⟩ = some (.int .i64 a) ∧ w'.cell? ⟨w1.heap.size, 1, none⟩ = some (.int .u64 b))
            (first | exact S0 | exact S2) (first | fail)
          go_wp2
          go_roundw
          case rel => exact ⟨_, cnt2, _, HR2.out, HIN.out, HG2.out⟩
          case measure => rw [HR2.out.left_eq, HRG.out.left_eq]; exact Nat.lt_of_le_of_lt HLE.out HLT.out
        · have HIN := Lib.hid (Inv.stays HI.out hkw (fun h => hb h.2))
          go_wp2
          go_roundw
          case rel => exact ⟨_, cnt1, _, HRA.out, HIN.out, HGA.out⟩
          case measure => rw [HRA.out.left_eq, HRG.out.left_eq]; exact HLT.out
      · have HIN := Lib.hid (Inv.stays HI.out hkw (fun h => ha h.1))
        go_wp2
        go_roundw
        case rel => exact ⟨_, cnt1, _, HRA.out, HIN.out, HGA.out⟩
        case measure => rw [HRA.out.left_eq, HRG.out.left_eq]; exact HLT.out
end
end Go.Proofs.Ytllhmpbfnbbldaa.ChForget
