/- The walks of a chain's Add and New; no conditions but that the records fit and the chain is one. -/
import Derived.Test.YtllhmpbfnbbldaaChCore
import Derived.WalkSpells
import Derived.OpenShut
import Derived.Deep.RegionHeld3
import Derived.Deep.QuietTactic
import Derived.BigQuiet
namespace Go.Proofs.Ytllhmpbfnbbldaa.ChAdd
set_option linter.unusedSimpArgs false
set_option linter.unusedVariables false
open Go.RowKit Go.Maps Go.Proofs.Ytllhmpbfnbbldaa.Util Go.Proofs.Ytllhmpbfnbbldaa.ChMap Go.Proofs.Ytllhmpbfnbbldaa.ChCore
open Go.Proofs.YtllhmpbfnbbldaaW.PrintWords Go.Proofs.YtllhmpbfnbbldaaW.PrintLast Go.Proofs.YtllhmpbfnbbldaaW.PrintMore
open Go.Proofs.Ytllhmpbfnbbldaa.PChainParts

def rwf (r : S39) : Prop := (Lit.int .u64 r.f0).wf = true ∧ (Lit.int .u64 r.f1).wf = true ∧ (Lit.int .i64 r.f2).wf = true ∧ (Lit.int .u64 r.f3).wf = true ∧ (Lit.int .u8 r.f4).wf = true
theorem rwf.key {r : S39} (h : rwf r) : kwf r.f2 r.f3 := ⟨h.2.2.1, h.2.2.2.1⟩

/-- One record more. -/
noncomputable def addR (D : DataW Unit) (r : S39) : DataW Unit := D.put (kl r.f2 r.f3) (m8 (Go.bits .or .u8 (maskD D r.f2 r.f3) r.f4))
noncomputable def addD (D : DataW Unit) (l : List S39) : DataW Unit := l.foldl addR D
theorem addD_snoc (D : DataW Unit) (l : List S39) (r : S39) : addD D (l ++ [r]) = addR (addD D l) r := by simp [addD, List.foldl_append]
theorem addD_next (D : DataW Unit) (l : List S39) (k : Nat) (h : k < l.length) : addD D (l.take (k + 1)) = addR (addD D (l.take k)) (rd_T39 l k) := by
  rw [List.take_succ_eq_append_getElem h, addD_snoc]
  unfold rd_T39
  rw [Int.toNat_natCast, List.getD_eq_getElem?_getD, List.getElem?_eq_getElem h]; rfl

theorem wf_or8 (a b : Int) : (Lit.int .u8 (Go.bits .or .u8 a b)).wf = true := wf_bits _ _ _ _
/-- What Add leaves. -/
def Added (w : World) (bm : Nat) (D : DataW Unit) (r : Ending) (w' : World) : Prop := (∃ k : Int, r = .returned (.int .i64 k)) ∧ w.grownBy w' (some bm) ∧ ∃ n', MapIs w' bm n' D

section
variable {w : World} {cb bm n : Nat} {D : DataW Unit}
theorem cell_lt {w : World} {p : Addr} {v : Value} (h : w.cell? p = some v) : p.block < w.heap.size := by
  apply Classical.byContradiction
  intro hn
  have : w.heap[p.block]? = none := by simp; omega
  simp [World.cell?, this] at h
theorem ne_of_map (hm : MapIs w bm n D) {p : Addr} {v : Value} (h : w.cell? p = some v) : p.block ≠ bm := by
  intro e
  obtain ⟨es, clock, hb, _⟩ := hm
  rw [← e] at hb
  simp [World.cell?, hb] at h
theorem cell_grown {wr : World} (hm : MapIs w bm n D) (hg : w.grownBy wr (some bm)) {p : Addr} {v : Value} (h : w.cell? p = some v) : wr.cell? p = some v := by
  have h1 := cell_lt h
  have h2 := ne_of_map hm h
  rw [← h]
  exact World.cell?_of_block (w := w) (hg.block p.block h1 (by simpa using h2))

set_option maxRecDepth 100000 in
set_option maxHeartbeats 1000000 in
theorem add_calls (A : Option Addr) (c0 : Nat) (l : List S39) (hr : Kd.C k39 w A l.length l) (hlc : l.length ≤ c0) (hwf : ∀ i, i < l.length → rwf (rd_T39 l i)) (hc : w.cell? ⟨cb, 0, none⟩ = some (.map (some bm))) (hm : MapIs w bm n D) (hn : n + l.length < maxLen) :
    Calls Try.prog 23 #[.pointer (some ⟨cb, 0, none⟩), .slice A l.length c0] w (Added w bm (addD D l)) := by
  have hmx := Kd.C_max hr
  have qT : ∀ (w : World) (r : Option Nat), (binOp .eql 45 (.map r) (.map none)).run Try.prog w = .ok (.bool r.isNone) w := fun w r => run_eql_map_nil w _ _ _ r Try.underlying45
  have HR := Lib.hid hr
  have HWF := Lib.hid hwf
  have HC := Lib.hid hc
  have HM := Lib.hid hm
  have HN := Lib.hid hn
  clear hr hwf hm hn
  go_enter Try.func23, Try.ntmps23
  go_wp2
  clear hc qT
  go_loopw [5, 22] (fun v5 v22 wr => ∃ (k : Int) (cnt : Int), v5 = .int .i64 cnt ∧ v22 = .int .i64 k ∧ 0 ≤ k ∧ k ≤ (l.length : Int) ∧ Hid (w.grownBy wr (some bm)) ∧ Hid (MapIs wr bm (n + k.toNat) (addD D (l.take k.toNat)))) (fun _ v22 _ => ((l.length : Int) - intOf v22).toNat)
  case atStart => exact ⟨0, 0, rfl, rfl, by omega, by omega, World.grownBy.refl _ _, HM.out⟩
  case round =>
    obtain ⟨k, cnt, rfl, rfl, hk0, hk1, HG, HMr⟩ := hrel
    by_cases hlt : k < (l.length : Int)
    · obtain ⟨ad, rfl, x0, x1, x2, x3, x4⟩ := at_T39 HR.out k hk0 hlt
      have y0 := cell_grown HM.out HG.out x0
      have y1 := cell_grown HM.out HG.out x1
      have y2 := cell_grown HM.out HG.out x2
      have y3 := cell_grown HM.out HG.out x3
      have y4 := cell_grown HM.out HG.out x4
      clear x0 x1 x2 x3 x4
      generalize hrr : rd_T39 l k = r at *
      have HRR := Lib.hid hrr
      clear hrr
      have yc := cell_grown HM.out HG.out HC.out
      have HRW := Lib.hid (show rwf r from by rw [← HRR.out]; exact HWF.out k.toNat (by omega) |> fun h => by rw [show ((k.toNat : Nat) : Int) = k from by omega] at h; exact h)
      go_wp2
      obtain ⟨W, hW⟩ : ∃ W : World, W = (wr.alloc (.cells #[.int .u64 r.f0, .int .u64 r.f1, .int .i64 r.f2, .int .u64 r.f3, .int .u8 r.f4] 39)).alloc (.cells #[.int .i64 r.f2, .int .u64 r.f3] 58) := ⟨_, rfl⟩
      have hbW : Below wr.heap.size wr W := by rw [hW]; exact ((Below.refl _ _).alloc (Nat.le_refl _) _).alloc (by simp) _
      have z4 : W.cell? ⟨wr.heap.size, 4, none⟩ = some (.int .u8 r.f4) := by rw [hW]; simp
      have z0 : W.cell? ⟨wr.heap.size + 1, 0, none⟩ = some (.int .i64 r.f2) := by rw [hW]; simp
      have z1 : W.cell? ⟨wr.heap.size + 1, 1, none⟩ = some (.int .u64 r.f3) := by rw [hW]; simp
      have zc : W.cell? ⟨cb, 0, none⟩ = some (.map (some bm)) := cell_below yc hbW
      have hMW : MapIs W bm (n + k.toNat) (addD D (l.take k.toNat)) := MapIs.below HMr.out hbW
      rw [← hW]
      clear hW y0 y1 y2 y3 y4 yc
      have HBW := Lib.hid hbW
      have HMW := Lib.hid hMW
      have hl : ∀ nq, (Instr.lookup 45 (.map (some bm)) (.agg #[.int .i64 r.f2, .int .u64 r.f3]) true).run Try.prog (W.drewN nq) = .ok (.tuple #[.int .u8 (maskD (addD D (l.take k.toNat)) r.f2 r.f3), .bool (hasD (addD D (l.take k.toNat)) r.f2 r.f3)]) (W.drewN nq) := fun nq => MapIs.look2 (MapIs.drewN HMW.out nq) HRW.out.key
      clear hbW hMW
      have hor : (Lit.int .u8 (Go.bits .or .u8 (maskD (addD D (l.take k.toNat)) r.f2 r.f3) r.f4)).wf = true := wf_or8 _ _
      have hbig : n + k.toNat < maxLen := by have := HN.out; omega
      have HNX := Lib.hid (addD_next D l k.toNat (by omega))
      have HB2 := Lib.hid hbig
      have HOR := Lib.hid hor
      clear hor hbig
      go_quiet (fail)
      clear hl
      obtain ⟨V, hV⟩ : ∃ V : World, V = W.drewN nq := ⟨_, rfl⟩
      have z4 : V.drew.cell? ⟨wr.heap.size, 4, none⟩ = some (.int .u8 r.f4) := by rw [hV]; exact z4
      have z0 : V.drew.cell? ⟨wr.heap.size + 1, 0, none⟩ = some (.int .i64 r.f2) := by rw [hV]; exact z0
      have z1 : V.drew.cell? ⟨wr.heap.size + 1, 1, none⟩ = some (.int .u64 r.f3) := by rw [hV]; exact z1
      have zc : V.drew.cell? ⟨cb, 0, none⟩ = some (.map (some bm)) := by rw [hV]; exact zc
      have hBV : Below wr.heap.size wr V.drew := by rw [hV]; exact (bdrew HBW.out nq).drew
      have hMV : MapIs V.drew bm (n + k.toNat) (addD D (l.take k.toNat)) := by rw [hV]; exact HMW.out
      rw [← hV]
      clear hV
      obtain ⟨v0, st, V1, e1, g1, e2, e3⟩ := MapIs.entry hMV HB2.out HRW.out.key
      obtain ⟨V2, e4, hM2, g2⟩ := e3 _ HOR.out
      clear e3
      have l0 := MapIs.look1 hMV HRW.out.key
      have S0 := And.intro zc (And.intro z0 (And.intro z1 z4))
      have S1 := And.intro (cell_grown hMV g1 zc) (And.intro (cell_grown hMV g1 z0) (And.intro (cell_grown hMV g1 z1) (cell_grown hMV g1 z4)))
      have S2 := And.intro (cell_grown hMV g2 zc) (And.intro (cell_grown hMV g2 z0) (And.intro (cell_grown hMV g2 z1) (cell_grown hMV g2 z4)))
      have HG2 := Lib.hid (HG.out.trans (((bgrown hBV).but (some bm)).trans g2))
      have HM2 : Hid (MapIs V2 bm (n + (k + 1).toNat) (addD D (l.take (k + 1).toNat))) := by
        show MapIs V2 bm (n + (k + 1).toNat) (addD D (l.take (k + 1).toNat))
        rw [show (k + 1).toNat = k.toNat + 1 from by omega, HNX.out, show ((k.toNat : Nat) : Int) = k from by omega, HRR.out]
        exact hM2
      clear hM2 g1 g2 hBV hMV HNX HRR
      unfold kv at e1 e2 l0
      unfold goInt at e1 e4
      go_wp2
      · go_region_held3 (fun w' => w'.cell? ⟨cb, 0, none⟩ = some (.map (some bm)) ∧ w'.cell? ⟨wr.heap.size + 1, 0, none⟩ = some (.int .i64 r.f2) ∧ w'.cell? ⟨wr.heap.size + 1, 1, none⟩ = some (.int .u64 r.f3) ∧ w'.cell? ⟨wr.heap.size, 4, none⟩ = some (.int .u8 r.f4))
          (first | exact S0 | exact S1 | exact S2) (first | fail)
        all_goals go_wp2
        all_goals go_roundw
        case rel => exact ⟨k + 1, _, rfl, rfl, by omega, by omega, HG2, HM2⟩
        case measure => simp [intOf]; omega
        case rel => exact ⟨k + 1, _, rfl, rfl, by omega, by omega, HG2, HM2⟩
        case measure => simp [intOf]; omega
      · go_region_held3 (fun w' => w'.cell? ⟨cb, 0, none⟩ = some (.map (some bm)) ∧ w'.cell? ⟨wr.heap.size + 1, 0, none⟩ = some (.int .i64 r.f2) ∧ w'.cell? ⟨wr.heap.size + 1, 1, none⟩ = some (.int .u64 r.f3) ∧ w'.cell? ⟨wr.heap.size, 4, none⟩ = some (.int .u8 r.f4))
          (first | exact S0 | exact S1 | exact S2) (first | fail)
        all_goals go_wp2
        all_goals go_roundw
        case rel => exact ⟨k + 1, _, rfl, rfl, by omega, by omega, HG2, HM2⟩
        case measure => simp [intOf]; omega
        case rel => exact ⟨k + 1, _, rfl, rfl, by omega, by omega, HG2, HM2⟩
        case measure => simp [intOf]; omega
    · go_wp2
      have h := HMr.out
      have hkl : k.toNat = l.length := by omega
      rw [hkl, List.take_length] at h
      clear hkl
      go_ret
      exact ⟨⟨cnt, rfl⟩, HG.out, ⟨n + l.length, h⟩⟩
end
end Go.Proofs.Ytllhmpbfnbbldaa.ChAdd
