/- All, Clear, Clone. -/
import Derived.Test.YtlmkhapejiippaaDoorBiNew
import Derived.Test.YtlmkhapejiippaaDoorShelf
namespace Go.Proofs.YtlmkhapejiippaaDoor.BiAll
set_option linter.unusedSimpArgs false
set_option linter.unusedVariables false
open Go.RowKit Go.Proofs.YtlmkhapejiippaaDoorW.PrintWords Go.Proofs.YtlmkhapejiippaaDoorW.PrintLast Go.Proofs.YtlmkhapejiippaaDoorW.PrintMore Go.Proofs.YtlmkhapejiippaaDoor.PBitsPlays Go.Proofs.YtlmkhapejiippaaDoor.BiPop Go.Proofs.YtlmkhapejiippaaDoor.BiPure Go.Proofs.YtlmkhapejiippaaDoor.BiRef Go.Proofs.YtlmkhapejiippaaDoor.BiCore Go.Proofs.YtlmkhapejiippaaDoor.BiSeek Go.Proofs.YtlmkhapejiippaaDoor.BiNew
section
variable {w w' : World} {sb lb n : Nat} {mk : Bool} {ws : List Nat}

/-! ### Clear -/
theorem clear_nil (w : World) : Calls Tryd.prog 13 #[.pointer none] w fun e w' => (∃ v, e = .returned v) ∧ w' = w := by
  go_enter Tryd.func13, Tryd.ntmps13
  go_wp2
  go_end0
  exact ⟨⟨_, rfl⟩, rfl⟩
theorem set_cleared (h : SetAt w sb lb mk n ws) : ∃ A c, w.cell? ⟨sb, 0, none⟩ = some (.slice A ws.length c) ∧ ∃ W, (∀ ty, (Builtin.clear_ #[36] ty #[.slice A ws.length c]).run Tryd.prog w = .ok (.tuple #[]) W) ∧ SetAt W sb lb mk n (List.replicate ws.length 0) ∧ w.grownBy W (some lb) := by
  have hw := h.word
  obtain ⟨h1, h2, A, c, c0, c1, c2, h3, h4, h5⟩ := h
  have hz := zero_ok n h1.few
  rw [← h1.len] at hz
  refine ⟨A, c, c0, ?_⟩
  by_cases h0 : ws.length = 0
  · refine ⟨w, fun ty => ?_, ?_, ⟨rfl, rfl, rfl, Nat.le_refl _, fun _ _ _ => rfl⟩⟩
    · rw [h0]
      cases A <;> simp [Builtin.clear_, run_underlying Tryd.underlying36]
    · refine ⟨hz, h2, A, c, by rw [List.length_replicate]; exact c0, c1, c2, by rw [List.length_replicate]; exact h3, h4, ?_⟩
      rw [List.length_replicate]
      refine h5.imp_right fun ⟨hA, cur, hb, hs, hc⟩ => ⟨hA, cur, hb, hs, fun i hi => by omega⟩
  · rcases h5 with ⟨_, h6, _⟩ | ⟨rfl, cur, hb, hs, hc⟩
    · exact absurd h6 h0
    obtain ⟨A', c', d0, d1, d2, _, h5⟩ := hw
    have hrun : ∀ ty, (Builtin.clear_ #[36] ty #[.slice (some ⟨lb, 0, none⟩) ws.length c]).run Tryd.prog w = .ok (.tuple #[]) (w.setCells lb 0 (List.replicate ws.length (.int .u64 0))) := fun ty =>
      Lib.run_clear_slice w 36 51 ty (.int .u64 0) Tryd.underlying36 zero51 rfl rfl lb 0 ws.length c (by omega) (fun j hj => by rw [Nat.zero_add, (h5 j hj).2.1]; rfl) (fun j hj => by rw [Nat.zero_add, (h5 j hj).2.2])
    have hg : w.grownBy (w.setCells lb 0 (List.replicate ws.length (.int .u64 0))) (some lb) := by
      obtain ⟨s1, s2, s3, s4⟩ := setCells_same lb (List.replicate ws.length (.int .u64 0)) 0 w
      exact ⟨s1, s2, s3, by rw [s4]; exact Nat.le_refl _, fun k _ hk => setCells_far _ _ k (fun he => hk (by rw [he]))⟩
    obtain ⟨cur', e1, e2, e3⟩ := setCells_row (List.replicate ws.length (.int .u64 0)) 0 w cur hb (by simp; omega)
    refine ⟨_, hrun, ⟨hz, h2, _, c, ?_, cell_kept hg c1 h2, cell_kept hg c2 h2, by rw [List.length_replicate]; exact h3, h4, .inr ⟨rfl, cur', e1, by rw [List.length_replicate, e2]; exact hs, fun j hj => ?_⟩⟩, hg⟩
    · rw [List.length_replicate]; exact cell_kept hg c0 h2
    · rw [List.length_replicate] at hj
      rw [← Array.getElem?_toList, e3, List.append_assoc, List.take_zero, List.nil_append, List.getElem?_append_left (by simp; omega), List.getElem?_replicate, if_pos hj, List.getD_eq_getElem?_getD, List.getElem?_replicate, if_pos hj]; rfl
theorem clear_calls (h : SetAt w sb lb mk n ws) : Calls Tryd.prog 13 #[.pointer (some ⟨sb, 0, none⟩)] w fun e w' => (∃ v, e = .returned v) ∧ SetAt w' sb lb mk n (List.replicate ws.length 0) ∧ w.grownBy w' (some lb) := by
  obtain ⟨A, c, c0, W, hrun, h1, h2⟩ := set_cleared h
  have H1 := Lib.hid (And.intro h1 h2)
  clear h h1 h2
  generalize ws.length = L at *
  go_enter Tryd.func13, Tryd.ntmps13
  go_wp2_with (simp only [hrun])
  go_end0
  exact ⟨⟨_, rfl⟩, H1.out.1, H1.out.2⟩

/-! ### Clone -/
theorem clone_nil (w : World) : Calls Tryd.prog 9 #[.pointer none] w fun e w' => e = .returned (.pointer none) ∧ w' = w := by
  go_enter Tryd.func9, Tryd.ntmps9
  go_wp2
  go_ret
  exact ⟨rfl, rfl⟩
theorem clone_unmade (h : SetAt w sb lb false n ws) : Calls Tryd.prog 9 #[.pointer (some ⟨sb, 0, none⟩)] w fun e w' => e = .returned (.pointer none) ∧ w' = w := by
  obtain ⟨A, c, c0, c1, c2, h3, h5⟩ := h.word
  clear h c0 c1 h3 h5
  go_enter Tryd.func9, Tryd.ntmps9
  go_wp2
  go_ret
  exact ⟨rfl, rfl⟩
/-- What cloning a row of words gives. -/
def ClPost (w : World) (ws : List Nat) (e : Ending) (w' : World) : Prop := ∃ g A c, e = .returned (.slice A ws.length c) ∧ w.heap.size ≤ g ∧ ws.length ≤ c ∧ c ≤ maxLen ∧ (A = some ⟨g, 0, none⟩ ∧ ∃ cur, w'.heap[g]? = some (.cells cur 51 (0, 0)) ∧ ws.length ≤ cur.size ∧ (∀ i, i < ws.length → cur[i]? = some (.int .u64 ((ws.getD i 0 : Nat) : Int)))) ∧ Below w.heap.size w w'
theorem sizeOf51 (w : World) : (Go.sizeOf 51).run Tryd.prog w = .ok 1 w := by kernel_rfl
theorem words_clone (h : SetAt w sb lb true n ws) : ∃ A c, w.cell? ⟨sb, 0, none⟩ = some (.slice A ws.length c) ∧ w.cell? ⟨sb, 1, none⟩ = some (.int .i64 (n : Int)) ∧ w.cell? ⟨sb, 2, none⟩ = some (.bool true) ∧ Calls Tryd.prog 23 #[.slice A ws.length c] w (ClPost w ws) := by
  have hw := h.word
  obtain ⟨h1, h2, A, c, c0, c1, c2, h3, h4, h5⟩ := h
  refine ⟨A, c, c0, c1, c2, ?_⟩
  have hl := h1.len
  have hf := h1.few
  rcases h5 with ⟨_, _, h6⟩ | ⟨rfl, cur, hb, hs, hc⟩
  · cases h6
  obtain ⟨A', c', d0, d1, d2, _, h5⟩ := hw
  obtain ⟨i0, hi, e1⟩ := Option.map_eq_some_iff.1 info51
  simp only [Prod.mk.injEq] at e1
  have hm : ∀ j u, (ws.map fun x : Nat => Value.int .u64 (x : Int))[j]? = some u → j < ws.length ∧ u = .int .u64 ((ws.getD j 0 : Nat) : Int) := by
    intro j u hu
    rw [List.getElem?_map, Option.map_eq_some_iff] at hu
    obtain ⟨x, hx, rfl⟩ := hu
    refine ⟨(List.getElem?_eq_some_iff.1 hx).1, ?_⟩
    rw [List.getD_eq_getElem?_getD, hx]; rfl
  refine (Tryd.slices_Clone i0 (.int .u64 0) 1 8 hi e1.1 e1.2.1 e1.2.2 rfl (by omega) sizeOf51 lb 0 ws.length c (ws.map fun x : Nat => Value.int .u64 (x : Int)) w (by simp) (by unfold maxLen; omega) (by omega) ?_ ?_).mono ?_
  · intro j u hu
    obtain ⟨hj, rfl⟩ := hm j u hu
    rw [Nat.zero_add]; exact (h5 j hj).2.1
  · intro u hu
    obtain ⟨x, _, rfl⟩ := List.mem_map.1 hu
    rfl
  · rintro _ w' ⟨v', rfl, ⟨ho1, ho2⟩, hne, hbl⟩
    rcases ho2 with ⟨h7, _⟩ | ⟨g, cap, cur', rfl, g1, g2, g3, g4, g5, g6⟩
    · exact absurd h7 hne
    refine ⟨g, some ⟨g, 0, none⟩, cap, rfl, g1, g3, g4, ⟨rfl, cur', g2, by omega, fun i hi => ?_⟩, hbl⟩
    have h8 : (cur'.toList.take (ws.length * 1))[i]? = (ws.map fun x : Nat => Value.int .u64 (x : Int))[i]? := by rw [g6]
    rw [List.getElem?_take, if_pos (by omega), Array.getElem?_toList] at h8
    rw [h8, List.getElem?_map, List.getElem?_eq_getElem hi, List.getD_eq_getElem?_getD, List.getElem?_eq_getElem hi]; rfl
def ClonePost (w : World) (n : Nat) (ws : List Nat) (e : Ending) (w' : World) : Prop := ∃ sb lb, e = .returned (.pointer (some ⟨sb, 0, none⟩)) ∧ SetAt w' sb lb true n ws ∧ w.heap.size ≤ sb ∧ w.heap.size ≤ lb ∧ Below w.heap.size w w'
set_option maxRecDepth 100000 in
theorem alloc_at (w : World) (o : Obj) : (w.alloc o).heap[w.heap.size]? = some o := Array.getElem?_push_size
theorem clone_fin {w w1 W : World} {k g c' : Nat} {A' : Option Addr} (h : SetAt w sb lb true n ws)
    (Y : (w.drewN k).heap.size ≤ g ∧ ws.length ≤ c' ∧ c' ≤ maxLen ∧ (A' = some ⟨g, 0, none⟩ ∧ ∃ cur, w1.heap[g]? = some (.cells cur 51 (0, 0)) ∧ ws.length ≤ cur.size ∧ (∀ i, i < ws.length → cur[i]? = some (.int .u64 ((ws.getD i 0 : Nat) : Int)))) ∧ Below (w.drewN k).heap.size (w.drewN k) w1)
    (hW1 : Below w1.heap.size w1 W) (hW2 : W.heap[w1.heap.size]? = some (.cells #[.slice A' ws.length c', .int .i64 (n : Int), .bool true] 38 (0, 0))) :
    ClonePost w n ws (.returned (.pointer (some ⟨w1.heap.size, 0, none⟩))) W := by
  obtain ⟨y1, y2, y3, y4, y5⟩ := Y
  have hs : (w.drewN k).heap.size = w.heap.size := by simp
  have hb1 : Below w.heap.size w w1 := by
    have := bthen (bdrew (Below.refl w.heap.size w) k) y5
    exact this
  obtain ⟨rfl, cur, z1, z2, z3⟩ := y4
  · have hg := BiCore.blk_lt z1
    refine ⟨w1.heap.size, g, rfl, ⟨h.1, by omega, _, c', ?_, ?_, ?_, y2, y3, .inr ⟨rfl, cur, by rw [hW1.block g hg]; exact z1, z2, z3⟩⟩, hb1.size, by omega, bthen hb1 hW1⟩
    · rw [cell_of_row W _ _ _ _ _ hW2]; rfl
    · rw [cell_of_row W _ _ _ _ _ hW2]; rfl
    · rw [cell_of_row W _ _ _ _ _ hW2]; rfl
set_option maxHeartbeats 8000000 in
theorem clone_calls (h : SetAt w sb lb true n ws) : Calls Tryd.prog 9 #[.pointer (some ⟨sb, 0, none⟩)] w (ClonePost w n ws) := by
  have HH := Lib.hid h
  obtain ⟨A, c, c0, c1, c2, _⟩ := words_clone h
  have HC : ∀ k, Calls Tryd.prog 23 #[.slice A ws.length c] (w.drewN k) (ClPost (w.drewN k) ws) := by
    intro k
    obtain ⟨A', c', d0, _, _, d3⟩ := words_clone (h.drewN k)
    have e : (w.drewN k).cell? ⟨sb, 0, none⟩ = w.cell? ⟨sb, 0, none⟩ := by simp
    rw [e, c0] at d0
    injection d0 with d0
    injection d0 with d0 _ d1
    subst d0; subst d1
    exact d3
  have hkk : ∀ k w1, Below (w.drewN k).heap.size (w.drewN k) w1 → w1.cell? ⟨sb, 1, none⟩ = some (.int .i64 (n : Int)) := by
    intro k w1 hb
    have e : (w.drewN k).cell? ⟨sb, 1, none⟩ = w.cell? ⟨sb, 1, none⟩ := by simp
    rw [hb.cell (p := ⟨sb, 1, none⟩) (cell_lt (p := ⟨sb, 1, none⟩) (e.trans c1)), e]; exact c1
  have HK := Lib.hid hkk
  have HCC := Lib.hid HC
  clear h HC hkk
  go_enter Tryd.func9, Tryd.ntmps9
  go_wp2_with (fail)
  go_region_with (first | (go_at_call 23; refine (HCC.out _).mono ?_; rintro _ _ ⟨g, A', c', rfl, y1, y2, y3, y4, y5⟩; have z1 := HK.out _ _ y5; have Y := Lib.hid (And.intro y1 (And.intro y2 (And.intro y3 (And.intro y4 y5)))); clear y1 y2 y3 y4 y5) | fail)
  all_goals
    go_wp2
    go_ret
    exact clone_fin HH.out Y.out (by (first | exact (Below.refl _ _).alloc (by simp) _ | exact ((Below.refl _ _).alloc (by simp) _).drew | exact bdrew ((Below.refl _ _).alloc (by simp) _) _)) (by first | exact alloc_at _ _ | exact alloc_at (World.drew _) _ | exact alloc_at (World.drewN _ _) _)
end
end Go.Proofs.YtlmkhapejiippaaDoor.BiAll
