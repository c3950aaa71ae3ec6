/- Two arrays and their references side by side. -/
import Derived.Test.YtbojokjommmebaaMoRefSame
import Derived.Test.YtbojokjommmebaaMoKeeps
import Derived.Lib.Bytes
namespace Go.Proofs.Ytbojokjommmebaa.MoJoin
set_option linter.unusedSimpArgs false
set_option linter.unusedVariables false
open Go.RowKit Go.Proofs.YtbojokjommmebaaW.PrintWords Go.Proofs.YtbojokjommmebaaW.PrintLast Go.Proofs.YtbojokjommmebaaW.PrintMore Go.Proofs.Ytbojokjommmebaa.PModelPlays Go.Proofs.Ytbojokjommmebaa.MoMem Go.Proofs.Ytbojokjommmebaa.MoGo Go.Proofs.Ytbojokjommmebaa.MoNow Go.Proofs.Ytbojokjommmebaa.MoRead Go.Proofs.Ytbojokjommmebaa.MoPut Go.Proofs.Ytbojokjommmebaa.MoWrite Go.Proofs.Ytbojokjommmebaa.MoLoose Go.Proofs.Ytbojokjommmebaa.MoNew Go.Proofs.Ytbojokjommmebaa.MoCrash Go.Proofs.Ytbojokjommmebaa.MoSame Go.Proofs.Ytbojokjommmebaa.MoCmp Go.Proofs.Ytbojokjommmebaa.MoFill Go.Proofs.Ytbojokjommmebaa.MoReg Go.Proofs.Ytbojokjommmebaa.MoAwake Go.Proofs.Ytbojokjommmebaa.MoPure Go.Proofs.Ytbojokjommmebaa.MoRefMem Go.Proofs.Ytbojokjommmebaa.MoRefPut Go.Proofs.Ytbojokjommmebaa.MoRefWrite Go.Proofs.Ytbojokjommmebaa.MoRefTrim Go.Proofs.Ytbojokjommmebaa.MoRefRows Go.Proofs.Ytbojokjommmebaa.MoRefNew Go.Proofs.Ytbojokjommmebaa.MoRefSame
/-! ### sectors as strings -/
theorem byte_of {x y : Int} (hx : byte x) (hy : byte y) (h : UInt8.ofNat x.toNat = UInt8.ofNat y.toNat) : x = y := by
  have := congrArg UInt8.toNat h
  simp at this
  have h1 := hx.1
  have h2 := hx.2
  have h3 := hy.1
  have h4 := hy.2
  omega
theorem bytes_of_eq : ∀ {a b : List Int}, (∀ x ∈ a, byte x) → (∀ x ∈ b, byte x) → (a.map fun n => UInt8.ofNat n.toNat) = (b.map fun n => UInt8.ofNat n.toNat) → a = b
  | [], [], _, _, _ => rfl
  | [], _ :: _, _, _, h => by simp at h
  | _ :: _, [], _, _, h => by simp at h
  | x :: a, y :: b, ha, hb, h => by
    simp only [List.map_cons, List.cons.injEq] at h
    rw [byte_of (ha x (by simp)) (hb y (by simp)) h.1, bytes_of_eq (fun z hz => ha z (by simp [hz])) (fun z hz => hb z (by simp [hz])) h.2]
theorem str_ne {a b : List Int} (ha : Sec a) (hb : Sec b) : ((strOfNums a).toList != (strOfNums b).toList) = !decide (a = b) := by
  rw [ByteArray.toList_eq, ByteArray.toList_eq, strOfNums_data, strOfNums_data]
  by_cases h : a = b
  · subst h; simp
  · have : (a.map fun n => UInt8.ofNat n.toNat) ≠ (b.map fun n => UInt8.ofNat n.toNat) := fun e => h (bytes_of_eq ha.byte hb.byte e)
    rw [decide_eq_false h]
    simp only [bne, Bool.not_false, Bool.not_eq_true']
    exact beq_eq_false_iff_ne.2 this
theorem r1_eqB {x y : Bk} (hx : x.Ok) (hy : y.Ok) : r1 x y = eqB x y := by
  unfold r1 eqB
  rw [str_ne hx.d hy.d, str_ne hx.now hy.now]
  cases decide (x.d = y.d) <;> cases decide (x.now = y.now) <;> cases x.l <;> cases y.l <;> rfl
theorem rEq_eqL {xs ys : List Bk} (hx : ∀ i, (xs.getD i zb).Ok) (hy : ∀ i, (ys.getD i zb).Ok) : rEq xs ys = eqL xs ys := by
  unfold rEq eqL rK eqK
  congr 1
  congr 1
  funext i
  exact r1_eqB (hx i) (hy i)
/-! ### two of each -/
def Zof (ab lb bb mb : Nat) (k : Nat) : Prop := k = ab ∨ k = lb ∨ k = bb ∨ k = mb
structure J (w W : World) (ab lb bb mb ra rb : Nat) (x p y q : List Bk) : Prop where
  a : Ar w W ab lb x
  b : Ar w W bb mb y
  n1 : lb ≠ bb
  n2 : lb ≠ mb
  n3 : mb ≠ ab
  r : ∃ v0 v1 v2 u0 u1 u2, RefB W w.heap.size (Zof ab lb bb mb) ra p v0 v1 v2 ∧ RefB W w.heap.size (Zof ab lb bb mb) rb q u0 u1 u2 ∧ ∀ k, Own ra v0 v1 v2 k → ¬ Own rb u0 u1 u2 k
section
variable {w W W' : World} {ab lb bb mb ra rb : Nat} {x p y q : List Bk}
theorem zof_lt (h : J w W ab lb bb mb ra rb x p y q) : ∀ k, Zof ab lb bb mb k → k < W.heap.size := by
  rintro k (rfl | rfl | rfl | rfl)
  · exact h.a.arr.ab_lt
  · exact h.a.arr.lb_lt
  · exact h.b.arr.ab_lt
  · exact h.b.arr.lb_lt
theorem J.below (h : J w W ab lb bb mb ra rb x p y q) (hb : Below W.heap.size W W') : J w W' ab lb bb mb ra rb x p y q := by
  obtain ⟨v0, v1, v2, u0, u1, u2, h1, h2, h3⟩ := h.r
  exact ⟨h.a.below hb, h.b.below hb, h.n1, h.n2, h.n3, v0, v1, v2, u0, u1, u2, RefAt.below h1 hb, RefAt.below h2 hb, h3⟩
theorem J.swap (h : J w W ab lb bb mb ra rb x p y q) : J w W bb mb ab lb rb ra y q x p := by
  obtain ⟨v0, v1, v2, u0, u1, u2, h1, h2, h3⟩ := h.r
  have e : ∀ k, Zof bb mb ab lb k → Zof ab lb bb mb k := by
    rintro k (rfl | rfl | rfl | rfl)
    · exact .inr (.inr (.inl rfl))
    · exact .inr (.inr (.inr rfl))
    · exact .inl rfl
    · exact .inr (.inl rfl)
  exact ⟨h.b, h.a, h.n3, fun e => h.n2 e.symm, h.n1, u0, u1, u2, v0, v1, v2, RefAt.reZ h2 (fun k hk hz => RefAt.ap h2 k hk (e k hz)), RefAt.reZ h1 (fun k hk hz => RefAt.ap h1 k hk (e k hz)), fun k hk hk2 => h3 k hk2 hk⟩
theorem J.wr_model (h : J w W ab lb bb mb ra rb x p y q) {x' : List Bk} (ha : ArrAt W' ab lb x') (hf : Fr W W' (fun k => k = lb)) : J w W' ab lb bb mb ra rb x' p y q := by
  obtain ⟨v0, v1, v2, u0, u1, u2, h1, h2, h3⟩ := h.r
  refine ⟨h.a.step ha hf, ⟨h.b.arr.fr hf (fun e => h.n1 e.symm) (fun e => h.n2 e.symm), h.b.lo, h.b.lo', hf.below h.b.bl (fun k hk => by rw [hk]; exact h.a.lo)⟩, h.n1, h.n2, h.n3, v0, v1, v2, u0, u1, u2, RefAt.far h1 (z := lb) (.inr (.inl rfl)) hf, RefAt.far h2 (z := lb) (.inr (.inl rfl)) hf, h3⟩
theorem j_write (h : J w W ab lb bb mb ra rb x p y q) (k : Nat) (hk : k < x.length) (l : List Int) (hs : Sec l) {base : Nat} {v : Value} (hr : Kd.R (Kd.int .u8) 5 W base (fun _ => True) v l) (hb : lb < base) :
    Calls Try.prog 9 #[.pointer (some ⟨ab, 0, none⟩), .int .i64 (k : Int), v] W fun e W' => e = .returned (.int .i64 0) ∧ J w W' ab lb bb mb ra rb (putL x k l 1) p y q := by
  obtain ⟨g, cap, rfl, hg, _⟩ := Kd.R_form hr (by rw [hs.len]; omega)
  obtain ⟨_, _, hc⟩ := Kd.R_reads' hr
  rw [hs.len]
  refine (write_ok h.a.arr k hk _ cap l hs hc ?_).mono (fun e W' hh => ⟨hh.1, h.wr_model hh.2.1 hh.2.2⟩)
  intro ad had
  injection had with had
  rw [← had]
  show g ≠ lb
  omega
/-- A call of the reference's that may write all but Z and what the other reference has. -/
theorem J.wr_ref (h : J w W ab lb bb mb ra rb x p y q) {F : FuncId} {args : Array Value} {r : Value} {p' : List Bk}
    (hc : ∀ Z, RefE W w.heap.size Z ra p → (∀ k, Z k → k < W.heap.size) → Calls Try.prog F args W fun e W' => e = .returned r ∧ RefE W' w.heap.size Z ra p' ∧ Fr W W' (NZ w.heap.size Z)) :
    Calls Try.prog F args W fun e W' => e = .returned r ∧ J w W' ab lb bb mb ra rb x p' y q := by
  obtain ⟨v0, v1, v2, u0, u1, u2, h1, h2, h3⟩ := h.r
  have hz := zof_lt h
  refine (hc (fun k => Zof ab lb bb mb k ∨ Own rb u0 u1 u2 k) ⟨v0, v1, v2, RefAt.reZ h1 (fun k hk hh => hh.elim (RefAt.ap h1 k hk) (h3 k hk))⟩ (fun k hk => hk.elim (hz k) (fun hk => RefAt.own_lt h2 hk))).mono ?_
  rintro e W' ⟨rfl, ⟨v0', v1', v2', h1'⟩, hf⟩
  have hnz : ∀ k, Zof ab lb bb mb k → ¬ NZ w.heap.size (fun k => Zof ab lb bb mb k ∨ Own rb u0 u1 u2 k) k := fun k hk hn => hn.2 (.inl hk)
  have hbl : ∀ {c d : Nat} {z : List Bk}, Ar w W c d z → Zof ab lb bb mb c → Zof ab lb bb mb d → Ar w W' c d z := fun ha hc hd => ⟨ha.arr.fr hf (hnz _ hc) (hnz _ hd), ha.lo, ha.lo', hf.below ha.bl (fun k hk => hk.1)⟩
  exact ⟨rfl, hbl h.a (.inl rfl) (.inr (.inl rfl)), hbl h.b (.inr (.inr (.inl rfl))) (.inr (.inr (.inr rfl))), h.n1, h.n2, h.n3, v0', v1', v2', u0, u1, u2, RefAt.reZ h1' (fun k hk hz => RefAt.ap h1' k hk (.inl hz)),
    RefAt.fr h2 hf (fun k hk hn => hn.2 (.inr hk)), fun k hk hk2 => RefAt.ap h1' k hk (.inr hk2)⟩
theorem j_ref_write (h : J w W ab lb bb mb ra rb x p y q) (k : Nat) (hk : k < p.length) (l : List Int) (hl : l.length = 64) :
    Calls Try.prog 11 #[.pointer (some ⟨ra, 0, none⟩), .int .i64 (k : Int), .string (strOfNums l)] W fun e W' => e = .returned (.int .i64 0) ∧ J w W' ab lb bb mb ra rb x (putL p k l 1) y q :=
  h.wr_ref (fun Z hr hz => writeE hr hz h.a.bl.size k hk l hl)
theorem j_ref_out (h : J w W ab lb bb mb ra rb x p y q) (i : Int) (v : Value) (ho : ¬(0 ≤ i ∧ i < (p.length : Int))) :
    Calls Try.prog 11 #[.pointer (some ⟨ra, 0, none⟩), .int .i64 i, v] W fun e W' => e = .returned (.int .i64 3) ∧ W' = W := by
  obtain ⟨v0, v1, v2, u0, u1, u2, h1, h2, h3⟩ := h.r
  exact writeE_out ⟨v0, v1, v2, h1⟩ i v ho
theorem j_refs (h : J w W ab lb bb mb ra rb x p y q) : Calls Try.prog 13 #[.pointer (some ⟨ra, 0, none⟩), .pointer (some ⟨rb, 0, none⟩)] W fun e W' => e = .returned (.bool (rEq p q)) ∧ Below W.heap.size W W' := by
  obtain ⟨v0, v1, v2, u0, u1, u2, h1, h2, h3⟩ := h.r
  exact rsame_calls ⟨v0, v1, v2, h1⟩ ⟨u0, u1, u2, h2⟩
end
end Go.Proofs.Ytbojokjommmebaa.MoJoin
