/- Fill, and Same of rows of numbers, in plain words. -/
import Derived.Test.YtbojokjommmebaaMoCmp
namespace Go.Proofs.Ytbojokjommmebaa.MoFill
set_option linter.unusedSimpArgs false
set_option linter.unusedVariables false
open Go.RowKit Go.Proofs.YtbojokjommmebaaW.PrintWords Go.Proofs.YtbojokjommmebaaW.PrintLast Go.Proofs.YtbojokjommmebaaW.PrintMore Go.Proofs.Ytbojokjommmebaa.PModelPlays Go.Proofs.Ytbojokjommmebaa.MoMem Go.Proofs.Ytbojokjommmebaa.MoGo Go.Proofs.Ytbojokjommmebaa.MoNow Go.Proofs.Ytbojokjommmebaa.MoRead
theorem wrap64_in {x : Int} (h : 0 ≤ x) (h2 : x < 9223372036854775808) : wrap64 x = x := by
  unfold wrap64; omega
def fillN (sz : Int) : Nat := if sz = 0 then 64 else if sz < 0 then 0 else if 100 < sz then 100 else sz.toNat
def fillL (a sz : Int) : List Int := List.replicate (fillN sz) a
theorem fillN_le (sz : Int) : fillN sz ≤ 100 := by unfold fillN; split; omega; split; omega; split <;> omega
theorem fillL_len (a sz : Int) : (fillL a sz).length = fillN sz := by simp [fillL]
theorem fill_sec (a : Int) (h : byte a) : Sec (fillL a 0) := ⟨by simp [fillL, fillN], fun x hx => by rw [List.eq_of_mem_replicate hx]; exact h⟩
theorem fill_loop (a : Int) (n : Nat) (hn : n ≤ 100) : ∀ (m i : Nat) (l : List Int), n - i = m → i ≤ n → l.length = n → l.take i = List.replicate i a → ∃ k, springhouselaw08_Fill.l0 k a n l i = some (List.replicate n a)
  | 0, i, l, hm, hi, hl, ht => ⟨1, by
    unfold springhouselaw08_Fill.l0
    obtain rfl : i = n := by omega
    rw [if_neg (by omega)]
    rw [List.take_of_length_le (by omega)] at ht
    rw [ht]⟩
  | m + 1, i, l, hm, hi, hl, ht => by
    have hlt : i < n := by omega
    obtain ⟨k, hk⟩ := fill_loop a n hn m (i + 1) (l.set i a) (by omega) (by omega) (by rw [List.length_set]; exact hl) (by
      rw [List.take_succ_eq_append_getElem (by rw [List.length_set]; omega), List.take_set_of_le (Nat.le_refl i), ht, List.getElem_set_self, List.replicate_succ']
      )
    refine ⟨k + 1, ?_⟩
    unfold springhouselaw08_Fill.l0
    rw [if_pos (by omega), if_pos (by omega), if_pos (by omega), wrap64_in (by omega) (by omega), Int.toNat_natCast]
    exact hk
theorem fill_j (a : Int) (n : Nat) (hn : n ≤ 100) : ∃ k, springhouselaw08_Fill.j0 k a n = some (List.replicate n a) := by
  obtain ⟨k, hk⟩ := fill_loop a n hn n 0 (List.replicate n 0) (by omega) (by omega) (by simp) (by simp)
  refine ⟨k + 1, ?_⟩
  simp only [springhouselaw08_Fill.j0]
  rw [if_pos (by omega), Int.toNat_natCast, if_pos (by omega)]
  exact hk
theorem fill_f (a sz : Int) : ∃ k, springhouselaw08_Fill.f k a sz = some (fillL a sz) := by
  unfold springhouselaw08_Fill.f fillL
  by_cases h : sz = 0
  · simp only [if_pos h]
    have := fill_j a 64 (by omega)
    unfold fillN; rw [if_pos h]; exact this
  · simp only [if_neg h]
    have := fill_j a (fillN sz) (fillN_le sz)
    have e : mn (mx sz 0) 100 = (fillN sz : Int) := by
      unfold mn mx fillN; rw [if_neg h]; split <;> split <;> omega
    rw [e]; exact this
theorem fill_calls (a sz : Int) (W : World) : Calls Try.prog 10 #[.int .u8 a, .int .i64 sz] W (BytesPost W (fillL a sz)) := by
  obtain ⟨k, hk⟩ := fill_f a sz
  exact (springhouselaw08_Fill.calls k a sz _ W hk).mono (fun e w' h => h)
theorem same_loop (l m : List Int) (h : l.length = m.length) (hb : l.length ≤ 9223372036854775807) : ∀ (j i : Nat), l.length - i = j → i ≤ l.length → ∃ k, springhouseref05_Same.l0 k l m i = some (decide (l.drop i = m.drop i))
  | 0, i, hj, hi => ⟨1, by
    unfold springhouseref05_Same.l0
    rw [if_neg (by omega), List.drop_of_length_le (by omega), List.drop_of_length_le (by omega)]; rfl⟩
  | j + 1, i, hj, hi => by
    have h1 : i < l.length := by omega
    have h2 : i < m.length := by omega
    obtain ⟨k, hk⟩ := same_loop l m h hb j (i + 1) (by omega) (by omega)
    refine ⟨k + 1, ?_⟩
    unfold springhouseref05_Same.l0
    have e1 : rd l (i : Int) = l[i] := by simp [rd, h1]
    have e2 : rd m (i : Int) = m[i] := by simp [rd, h2]
    rw [if_pos (by omega), if_pos (by omega), if_pos (by omega), e1, e2, wrap64_in (by omega) (by omega), List.drop_eq_getElem_cons h1, List.drop_eq_getElem_cons h2]
    by_cases he : l[i] = m[i]
    · rw [if_pos he, show ((i : Int) + 1) = ((i + 1 : Nat) : Int) from by omega, hk, he]
      congr 1
      exact decide_eq_decide.2 ⟨fun e => by rw [e], fun e => (List.cons.inj e).2⟩
    · rw [if_neg he]
      congr 1
      exact (decide_eq_false (fun e => he (List.cons.inj e).1)).symm
theorem same_f (l m : List Int) (hb : l.length ≤ 9223372036854775807) : ∃ k, springhouseref05_Same.f k l m = some (decide (l = m)) := by
  unfold springhouseref05_Same.f
  by_cases h : l.length = m.length
  · obtain ⟨k, hk⟩ := same_loop l m h hb l.length 0 (by omega) (by omega)
    exact ⟨k, by rw [if_pos (by omega)]; exact hk⟩
  · exact ⟨0, by rw [if_neg (by omega), decide_eq_false (fun e => h (by rw [e]))]⟩
theorem ints_same (A : Option Addr) (c : Nat) (l : List Int) (B : Option Addr) (d : Nat) (m : List Int) (W : World) (h0 : Kd.C (Kd.int .i64) W A l.length l) (hc : l.length ≤ c) (h1 : Kd.C (Kd.int .i64) W B m.length m) (hd : m.length ≤ d) :
    Calls Try.prog 27 #[.slice A l.length c, .slice B m.length d] W fun e W' => e = .returned (.bool (decide (l = m))) ∧ Below W.heap.size W W' := by
  obtain ⟨k, hk⟩ := same_f l m (Kd.C_max h0)
  exact (springhouseref05_Same.calls k A c l B d m _ W h0 hc h1 hd hk).mono (fun e w' h => ⟨h.1, h.2.below⟩)
end Go.Proofs.Ytbojokjommmebaa.MoFill
