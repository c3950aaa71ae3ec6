/- awake: the page's example. -/
import Derived.Test.YtbojokjommmebaaMoFill
import Derived.Test.YtbojokjommmebaaMoReg
namespace Go.Proofs.Ytbojokjommmebaa.MoAwake
set_option linter.unusedSimpArgs false
set_option linter.unusedVariables false
open Go.RowKit Go.Proofs.YtbojokjommmebaaW.PrintWords Go.Proofs.YtbojokjommmebaaW.PrintLast Go.Proofs.YtbojokjommmebaaW.PrintMore Go.Proofs.Ytbojokjommmebaa.PModelPlays Go.Proofs.Ytbojokjommmebaa.MoMem Go.Proofs.Ytbojokjommmebaa.MoGo Go.Proofs.Ytbojokjommmebaa.MoNow Go.Proofs.Ytbojokjommmebaa.MoRead Go.Proofs.Ytbojokjommmebaa.MoPut Go.Proofs.Ytbojokjommmebaa.MoWrite Go.Proofs.Ytbojokjommmebaa.MoLoose Go.Proofs.Ytbojokjommmebaa.MoNew Go.Proofs.Ytbojokjommmebaa.MoCrash Go.Proofs.Ytbojokjommmebaa.MoEq Go.Proofs.Ytbojokjommmebaa.MoSame Go.Proofs.Ytbojokjommmebaa.MoCmp Go.Proofs.Ytbojokjommmebaa.MoFill Go.Proofs.Ytbojokjommmebaa.MoReg
def a1 : List Bk := putL [zb, zb] 0 (fillL 1 0) 1
def a2 : List Bk := putL a1 1 (fillL 2 0) 1
theorem a2_now : (a2.getD 0 zb).now = fillL 1 0 := by rfl
theorem a2_len : a2.length = 2 := by rfl
theorem a1_len : a1.length = 2 := by rfl
theorem a2_loose : looseK a2 2 = [1] := by rfl
/-- Bytes as a sector, however they came. -/
theorem conv_bytes {W : World} {A : Option Addr} {c : Nat} {l : List Int} (h : Kd.C (Kd.int .u8) W A l.length l) : (convert 33 9 (.slice A l.length c)).run Try.prog W = .ok (.string (strOfNums l)) W :=
  Kd.C_string Try.underlying33 Try.underlying5 Try.underlying9 h
/-- An array, and what it was ahead. -/
structure Ar (w W : World) (ab lb : Nat) (bs : List Bk) : Prop where
  arr : ArrAt W ab lb bs
  lo : w.heap.size ≤ lb
  lo' : w.heap.size ≤ ab
  bl : Below w.heap.size w W
theorem Ar.below {w W W' : World} {ab lb : Nat} {bs : List Bk} (h : Ar w W ab lb bs) (hb : Below W.heap.size W W') : Ar w W' ab lb bs := ⟨h.arr.below hb, h.lo, h.lo', bthen h.bl hb⟩
theorem Ar.step {w W W' : World} {ab lb : Nat} {bs bs' : List Bk} (h : Ar w W ab lb bs) (ha : ArrAt W' ab lb bs') (hf : Fr W W' (fun k => k = lb)) : Ar w W' ab lb bs' :=
  ⟨ha, h.lo, h.lo', hf.below h.bl (fun k hk => by rw [hk]; exact h.lo)⟩
theorem aw_write {w W : World} {ab lb : Nat} {bs : List Bk} (h : Ar w W ab lb bs) (k : Nat) (hk : k < bs.length) (l : List Int) (hs : Sec l) {base : Nat} {v : Value} (hr : Kd.R (Kd.int .u8) 5 W base (fun _ => True) v l) (hb : lb < base) :
    Calls Try.prog 9 #[.pointer (some ⟨ab, 0, none⟩), .int .i64 (k : Int), v] W fun e W' => e = .returned (.int .i64 0) ∧ Ar w W' ab lb (putL bs k l 1) := by
  obtain ⟨g, cap, rfl, hg, _⟩ := Kd.R_form hr (by rw [hs.len]; omega)
  obtain ⟨_, _, hc⟩ := Kd.R_reads' hr
  rw [hs.len]
  refine (write_ok h.arr k hk _ cap l hs hc ?_).mono (fun e W' hh => ⟨hh.1, h.step hh.2.1 hh.2.2⟩)
  intro ad had
  injection had with had
  rw [← had]
  show g ≠ lb
  omega
def AwPost (w : World) (e : Ending) (w' : World) : Prop := e = .returned (.bool true) ∧ Below w.heap.size w w'
/-- What the region at the end reads. -/
structure Rg (w W : World) (ab lb : Nat) (A : Option Addr) (l : List Int) : Prop where
  ar : Ar w W ab lb a2
  by_ : Kd.C (Kd.int .u8) W A l.length l
theorem Rg.below {w W W' : World} {ab lb : Nat} {A : Option Addr} {l : List Int} (h : Rg w W ab lb A l) (hb : Below W.heap.size W W') : Rg w W' ab lb A l := ⟨h.ar.below hb, Kd.C_below h.by_ hb⟩
theorem rg_alloc {w W : World} {ab lb : Nat} {A : Option Addr} {l : List Int} (h : Rg w W ab lb A l) (o : Obj) : Rg w (W.alloc o) ab lb A l := h.below ((Below.refl _ _).alloc (Nat.le_refl _) _)
theorem one_int (W : World) (x : Int) : Kd.C (Kd.int .i64) (W.alloc (.cells #[.int .i64 x] 3)) (some ⟨W.heap.size, 0, none⟩) [x].length [x] := by
  have ho : (W.alloc (.cells #[.int .i64 x] 3)).ownsRow W.heap.size 3 1 (.slice (some ⟨W.heap.size, 0, none⟩) 1 1) [x].length (encs (Value.int .i64) [x]) :=
    ⟨by simp [encs], .inr ⟨W.heap.size, 1, _, by rfl, Nat.le_refl _, alloc_at _ _, by simp, by unfold maxLen; omega, by simp, by simp [encs]⟩⟩
  obtain ⟨A, c, e, h1, h2⟩ := Kd.R_reads (Kd.R_of_own (ok := fun _ => True) (h1 := fun _ => rfl) ho (fun _ _ => trivial))
  injection e with e1 e2 e3
  rw [← e1] at h2
  exact h2
theorem ints_one (A : Option Addr) (c : Nat) (B : Option Addr) (W : World) (h0 : Kd.C (Kd.int .i64) W A [(1 : Int)].length [1]) (hc : [(1 : Int)].length ≤ c) (h1 : Kd.C (Kd.int .i64) W B [(1 : Int)].length [1]) :
    Calls Try.prog 27 #[.slice A 1 c, .slice B 1 1] W fun e W' => e = .returned (.bool true) ∧ Below W.heap.size W W' := ints_same A c [1] B 1 [1] W h0 hc h1 (by decide)
set_option maxRecDepth 100000 in
set_option maxHeartbeats 4000000 in
theorem awake_calls (w : World) : Calls Try.prog 14 #[] w (AwPost w) := by
  have HN := Lib.hid (new_calls 2 (by omega) w)
  go_enter Try.func14, Try.ntmps14
  go_wp2_with (first
    | (go_at_call 7; refine HN.out.mono ?_; rintro _ W ⟨ab, lb, rfl, ha, h1, h2, hb⟩; have H1 := Lib.hid (show Ar w W ab lb [zb, zb] from ⟨ha, h2, h1, hb⟩); clear ha h1 h2 hb HN))
  refine (fill_calls 1 0 _).mono ?_
  rintro _ W1 ⟨v1, rfl, hr, hb⟩
  have HF1 := Lib.hid hr
  have HB1 := Lib.hid (H1.out.below hb)
  have HL1 := Lib.hid H1.out.arr.lb_lt
  clear hr hb
  go_wp2_with (fail)
  refine (aw_write HB1.out 0 (by decide) _ (fill_sec 1 ⟨by omega, by omega⟩) HF1.out HL1.out).mono ?_
  rintro _ W2 ⟨rfl, h2⟩
  have H2 := Lib.hid (show Ar w W2 ab lb a1 from h2)
  clear h2 H1 HF1 HB1 HL1
  go_wp2_with (fail)
  refine (fill_calls 2 0 _).mono ?_
  rintro _ W3 ⟨v3, rfl, hr, hb⟩
  have HF3 := Lib.hid hr
  have HB3 := Lib.hid (H2.out.below hb)
  have HL3 := Lib.hid H2.out.arr.lb_lt
  clear hr hb
  go_wp2_with (fail)
  refine (aw_write HB3.out 1 (by decide) _ (fill_sec 2 ⟨by omega, by omega⟩) HF3.out HL3.out).mono ?_
  rintro _ W4 ⟨rfl, h4⟩
  have H4 := Lib.hid (show Ar w W4 ab lb a2 from h4)
  clear h4 H2 HF3 HB3 HL3
  go_wp2_with (fail)
  refine (read_ok H4.out.arr 0 (by decide)).mono ?_
  rintro _ W5 ⟨v5, rfl, hr, hb⟩
  have hr2 : Kd.R (Kd.int .u8) 5 W5 W4.heap.size (fun _ => True) v5 (fillL 1 0) := hr
  obtain ⟨A, c, rfl, _, hc⟩ := Kd.R_reads hr2
  have HR := Lib.hid (show Rg w W5 ab lb A (fillL 1 0) from ⟨H4.out.below hb, hc⟩)
  clear hr hr2 hc hb H4
  generalize hfl : fillL 1 0 = fl at *
  have HFL := Lib.hid hfl
  have HCV := Lib.hid (fun W' (h : Rg w W' ab lb A fl) => conv_bytes (c := c) h.by_)
  clear hfl
  go_wp2_with (fail)
  refine wp_region_held (S := fun w' => Rg w w' ab lb A fl) (by kernel_rfl) ?_
  have SS : Rg w { W5 with drawn := W5.drawn + 1 } ab lb A fl := HR.out.below ((Below.refl _ _).drew)
  clear HR
  refine take 0 22 (.int .i64 0) (by kernel_rfl) (by kernel_rfl) (by kernel_rfl) (by kernel_rfl) (by kernel_rfl) (fun _ _ _ h => h) (by kernel_rfl) (fun _ _ => by kernel_rfl) SS ?_
  refine take 1 23 (.bool true) (by kernel_rfl) (by kernel_rfl) (by kernel_rfl) (by kernel_rfl) (by kernel_rfl) (fun _ _ _ h => h) (by kernel_rfl) (fun _ _ => by kernel_rfl) SS ?_
  refine take 2 24 (.bool true) (by kernel_rfl) (by kernel_rfl) (by kernel_rfl) (by kernel_rfl) (by kernel_rfl) (fun _ _ _ h => h) (by kernel_rfl) (fun _ _ => by kernel_rfl) SS ?_
  refine take 3 25 (.int .i64 0) (by kernel_rfl) (by kernel_rfl) (by kernel_rfl) (by kernel_rfl) (by kernel_rfl) (fun _ _ _ h => h) (by kernel_rfl) (fun _ _ => by kernel_rfl) SS ?_
  refine take 4 26 (.bool true) (by kernel_rfl) (by kernel_rfl) (by kernel_rfl) (by kernel_rfl) (by kernel_rfl) (fun _ _ _ h => h) (by kernel_rfl) (fun _ _ => by kernel_rfl) SS ?_
  refine take 5 27 (.bool true) (by kernel_rfl) (by kernel_rfl) (by kernel_rfl) (by kernel_rfl) (by kernel_rfl) (fun _ _ _ h => h) (by kernel_rfl) (fun _ _ => by kernel_rfl) SS ?_
  refine take 6 28 (.bool true) (by kernel_rfl) (by kernel_rfl) (by kernel_rfl) (by kernel_rfl) (by kernel_rfl) (fun _ _ _ h => h) (by kernel_rfl) (fun _ _ => by kernel_rfl) SS ?_
  refine take 7 29 (.int .i64 0) (by kernel_rfl) (by kernel_rfl) (by kernel_rfl) (by kernel_rfl) (by kernel_rfl) (fun _ _ _ h => h) (by kernel_rfl) (fun _ _ => by kernel_rfl) SS ?_
  refine take 8 30 (.bool true) (by kernel_rfl) (by kernel_rfl) (by kernel_rfl) (by kernel_rfl) (by kernel_rfl) (fun _ _ _ h => h) (by kernel_rfl) (fun _ _ => by kernel_rfl) SS ?_
  refine take 9 31 (.bool true) (by kernel_rfl) (by kernel_rfl) (by kernel_rfl) (by kernel_rfl) (by kernel_rfl) (fun _ _ _ h => h) (by kernel_rfl) (fun _ _ => by kernel_rfl) SS ?_
  refine take 10 32 (.bool true) (by kernel_rfl) (by kernel_rfl) (by kernel_rfl) (by kernel_rfl) (by kernel_rfl) (fun _ _ _ h => h) (by kernel_rfl) (fun _ _ => by kernel_rfl) SS ?_
  refine take 11 33 (.int .i64 0) (by kernel_rfl) (by kernel_rfl) (by kernel_rfl) (by kernel_rfl) (by kernel_rfl) (fun _ _ _ h => h) (by kernel_rfl) (fun _ _ => by kernel_rfl) SS ?_
  refine take 12 34 (.bool true) (by kernel_rfl) (by kernel_rfl) (by kernel_rfl) (by kernel_rfl) (by kernel_rfl) (fun _ _ _ h => h) (by kernel_rfl) (fun _ _ => by kernel_rfl) SS ?_
  refine take 13 35 (.bool true) (by kernel_rfl) (by kernel_rfl) (by kernel_rfl) (by kernel_rfl) (by kernel_rfl) (fun _ _ _ h => h) (by kernel_rfl) (fun _ _ => by kernel_rfl) SS ?_
  refine take 14 36 (.bool true) (by kernel_rfl) (by kernel_rfl) (by kernel_rfl) (by kernel_rfl) (by kernel_rfl) (fun _ _ _ h => h) (by kernel_rfl) (fun _ _ => by kernel_rfl) SS ?_
  refine take 15 37 (.slice A fl.length c) (by kernel_rfl) (by kernel_rfl) (by kernel_rfl) (by kernel_rfl) (by kernel_rfl) (fun _ _ _ h => h) (by kernel_rfl) (fun _ _ => by kernel_rfl) SS ?_
  refine take 16 38 (.string (strOfNums fl)) (by kernel_rfl) (by kernel_rfl) (by kernel_rfl) (by kernel_rfl) (by kernel_rfl) (fun _ _ _ h => h) (by kernel_rfl) (fun w' hS => exec_convert 33 9 (.tmp 37) (.slice A fl.length c) (by kernel_rfl) (by kernel_rfl) (conv_bytes hS.by_)) SS ?_
  try simp only [Act.put, List.setIfInBounds_toArray, List.set_cons_zero, List.set_cons_succ]
  refine any_call 17 39 10 #[.int .u8 1, .int .i64 0] (by kernel_rfl) (by kernel_rfl) (by kernel_rfl) (by kernel_rfl) (by kernel_rfl) ?_
  refine (fill_calls 1 0 _).mono ?_
  rintro _ W6 ⟨v6, rfl, hr6, hb6⟩
  replace SS := Rg.below SS hb6
  rw [HFL.out] at hr6
  obtain ⟨A6, c6, rfl, hl6, hc6⟩ := Kd.R_reads hr6
  have e6 := conv_bytes (c := c6) hc6
  clear hr6 hb6 hc6 hl6
  refine ⟨_, rfl, SS, ?_⟩
  try simp only [Act.put, List.setIfInBounds_toArray, List.set_cons_zero, List.set_cons_succ]
  try simp only [Act.put, List.setIfInBounds_toArray, List.set_cons_zero, List.set_cons_succ]
  refine any_step 18 40 (.string (strOfNums fl)) (by kernel_rfl) (by kernel_rfl) (by kernel_rfl) (by kernel_rfl) (exec_convert 33 9 (.tmp 39) (.slice A6 fl.length c6) (by kernel_rfl) (by kernel_rfl) e6) (SS) ?_
  try simp only [Act.put, List.setIfInBounds_toArray, List.set_cons_zero, List.set_cons_succ]
  refine take 19 41 (.bool true) (by kernel_rfl) (by kernel_rfl) (by kernel_rfl) (by kernel_rfl) (by kernel_rfl) (fun _ _ _ h => h) (by kernel_rfl) (fun w' hS => exec_streq 9 9 (.tmp 38) (.tmp 40) (strOfNums fl) (strOfNums fl) (by kernel_rfl) (by kernel_rfl) (by kernel_rfl) true (by simp)) SS ?_
  refine take 20 42 (.bool true) (by kernel_rfl) (by kernel_rfl) (by kernel_rfl) (by kernel_rfl) (by kernel_rfl) (fun _ _ _ h => h) (by kernel_rfl) (fun _ _ => by kernel_rfl) SS ?_
  refine take 21 43 (.bool true) (by kernel_rfl) (by kernel_rfl) (by kernel_rfl) (by kernel_rfl) (by kernel_rfl) (fun _ _ _ h => h) (by kernel_rfl) (fun _ _ => by kernel_rfl) SS ?_
  refine take 22 44 (.pointer (some ⟨ab, 0, none⟩)) (by kernel_rfl) (by kernel_rfl) (by kernel_rfl) (by kernel_rfl) (by kernel_rfl) (fun _ _ _ h => h) (by kernel_rfl) (fun _ _ => by kernel_rfl) SS ?_
  try simp only [Act.put, List.setIfInBounds_toArray, List.set_cons_zero, List.set_cons_succ]
  refine wpAnyH_ready (rs := [23, 24]) (by kernel_rfl) (by simp) (all_call 23 45 26 #[.pointer (some ⟨ab, 0, none⟩)] (by kernel_rfl) (by kernel_rfl) (by kernel_rfl) (by kernel_rfl) ?c1 (all_step 24 46 (.slice (some ⟨W6.heap.size, 0, none⟩) 1 1) (by kernel_rfl) (by kernel_rfl) (by kernel_rfl) (by kernel_rfl) (rg_alloc SS (.cells #[.int .i64 1] 3)) ?c2 AllReadyH.nil))
  case c1 =>
    refine (loose_calls SS.ar.arr).mono ?_
    rintro _ W7 ⟨v7, rfl, hr7, hb7⟩
    replace SS := Rg.below SS hb7
    rw [a2_len, a2_loose] at hr7
    obtain ⟨A7, c7, rfl, hlen7, hc7⟩ := Kd.R_reads hr7
    refine ⟨_, rfl, SS, ?_⟩
    try simp only [Act.put, List.setIfInBounds_toArray, List.set_cons_zero, List.set_cons_succ]
    try simp only [Act.put, List.setIfInBounds_toArray, List.set_cons_zero, List.set_cons_succ]
    refine any_step 24 46 (.slice (some ⟨W7.heap.size, 0, none⟩) 1 1) (by kernel_rfl) (by kernel_rfl) (by kernel_rfl) (by kernel_rfl) (by kernel_rfl) (rg_alloc SS (.cells #[.int .i64 1] 3)) ?_
    try simp only [Act.put, List.setIfInBounds_toArray, List.set_cons_zero, List.set_cons_succ]
    replace SS := rg_alloc SS (.cells #[.int .i64 1] 3)
    try simp only [Act.put, List.setIfInBounds_toArray, List.set_cons_zero, List.set_cons_succ]
    refine any_call 25 47 27 #[.slice A7 1 c7, .slice (some ⟨W7.heap.size, 0, none⟩) 1 1] (by kernel_rfl) (by kernel_rfl) (by kernel_rfl) (by kernel_rfl) (by kernel_rfl) ?_
    refine (ints_one A7 c7 _ _ (Kd.C_below hc7 ((Below.refl _ _).alloc (Nat.le_refl _) _)) hlen7 (one_int _ 1)).mono ?_
    rintro _ W8 ⟨rfl, hb8⟩
    replace SS := Rg.below SS hb8
    refine ⟨_, rfl, SS, ?_⟩
    try simp only [Act.put, List.setIfInBounds_toArray, List.set_cons_zero, List.set_cons_succ]
    refine take 26 48 (.bool true) (by kernel_rfl) (by kernel_rfl) (by kernel_rfl) (by kernel_rfl) (by kernel_rfl) (fun _ _ _ h => h) (by kernel_rfl) (fun _ _ => by kernel_rfl) SS ?_
    refine take 27 0 (.bool true) (by kernel_rfl) (by kernel_rfl) (by kernel_rfl) (by kernel_rfl) (by kernel_rfl) (fun _ _ _ h => h) (by kernel_rfl) (fun _ _ => by kernel_rfl) SS ?_
    try simp only [Act.put, List.setIfInBounds_toArray, List.set_cons_zero, List.set_cons_succ]
    refine wpAnyH_done (by kernel_rfl) ?_ _
    have HX := Lib.hid SS.ar.bl
    clear SS HCV
    rename_i Q' K hK
    refine hK _ _ ?_
    refine wp_ret ?_
    change bodyPost Try.prog Try.f14 (AwPost w) Exit.ret _ _
    refine bodyPost_ret (v := .bool true) (by kernel_rfl) (by kernel_rfl) ?_
    exact ⟨rfl, HX.out⟩
  case c2 =>
    replace SS := rg_alloc SS (.cells #[.int .i64 1] 3)
    try simp only [Act.put, List.setIfInBounds_toArray, List.set_cons_zero, List.set_cons_succ]
    try simp only [Act.put, List.setIfInBounds_toArray, List.set_cons_zero, List.set_cons_succ]
    refine any_call 23 45 26 #[.pointer (some ⟨ab, 0, none⟩)] (by kernel_rfl) (by kernel_rfl) (by kernel_rfl) (by kernel_rfl) (by kernel_rfl) ?_
    refine (loose_calls SS.ar.arr).mono ?_
    rintro _ W7 ⟨v7, rfl, hr7, hb7⟩
    replace SS := Rg.below SS hb7
    rw [a2_len, a2_loose] at hr7
    obtain ⟨A7, c7, rfl, hlen7, hc7⟩ := Kd.R_reads hr7
    refine ⟨_, rfl, SS, ?_⟩
    try simp only [Act.put, List.setIfInBounds_toArray, List.set_cons_zero, List.set_cons_succ]
    try simp only [Act.put, List.setIfInBounds_toArray, List.set_cons_zero, List.set_cons_succ]
    refine any_call 25 47 27 #[.slice A7 1 c7, .slice (some ⟨W6.heap.size, 0, none⟩) 1 1] (by kernel_rfl) (by kernel_rfl) (by kernel_rfl) (by kernel_rfl) (by kernel_rfl) ?_
    refine (ints_one A7 c7 _ _ (hc7) hlen7 (Kd.C_below (one_int _ 1) hb7)).mono ?_
    rintro _ W8 ⟨rfl, hb8⟩
    replace SS := Rg.below SS hb8
    refine ⟨_, rfl, SS, ?_⟩
    try simp only [Act.put, List.setIfInBounds_toArray, List.set_cons_zero, List.set_cons_succ]
    refine take 26 48 (.bool true) (by kernel_rfl) (by kernel_rfl) (by kernel_rfl) (by kernel_rfl) (by kernel_rfl) (fun _ _ _ h => h) (by kernel_rfl) (fun _ _ => by kernel_rfl) SS ?_
    refine take 27 0 (.bool true) (by kernel_rfl) (by kernel_rfl) (by kernel_rfl) (by kernel_rfl) (by kernel_rfl) (fun _ _ _ h => h) (by kernel_rfl) (fun _ _ => by kernel_rfl) SS ?_
    try simp only [Act.put, List.setIfInBounds_toArray, List.set_cons_zero, List.set_cons_succ]
    refine wpAnyH_done (by kernel_rfl) ?_ _
    have HX := Lib.hid SS.ar.bl
    clear SS HCV
    rename_i Q' K hK
    refine hK _ _ ?_
    refine wp_ret ?_
    change bodyPost Try.prog Try.f14 (AwPost w) Exit.ret _ _
    refine bodyPost_ret (v := .bool true) (by kernel_rfl) (by kernel_rfl) ?_
    exact ⟨rfl, HX.out⟩
end Go.Proofs.Ytbojokjommmebaa.MoAwake
