/- ModelKeeps, as the row asks for it. -/
import Derived.Test.YtbojokjommmebaaMoKeeps
namespace Go.Proofs.Ytbojokjommmebaa.MoKeepsW
open Go.RowKit Go.Proofs.Ytbojokjommmebaa.MoMem Go.Proofs.Ytbojokjommmebaa.MoActs Go.Proofs.Ytbojokjommmebaa.MoAwake Go.Proofs.Ytbojokjommmebaa.MoKeeps
open Go.Proofs.YtbojokjommmebaaW.PrintWords
theorem u8_in {a : Int} (h : (Lit.int .u8 a).wf = true) : byte a := by
  have h1 : IntKind.u8.min = 0 := by decide
  have h2 : IntKind.u8.max = 255 := by decide
  simp [Lit.wf] at h
  exact ⟨by omega, by omega⟩
theorem keeps_walk {W : World} (a : Int) (wa : (Lit.int .u8 a).wf = true) (A : Option Addr) (cap : Nat) (l : List S32) (hC : Kd.C k32 W A l.length l) (hle : l.length ≤ cap) (hfl : ∀ i, i < l.length → byte (rdA l i).fl) (b : Int) (f : Int) (wf : (Lit.int .u8 f).wf = true) :
    Calls Try.prog 6 #[.int .u8 a, .slice A l.length cap, .int .i64 b, .int .u8 f] W (AwPost W) := by
  have ha := u8_in wa
  obtain ⟨m, rfl⟩ := Int.eq_ofNat_of_zero_le ha.1
  have := ha.2
  exact keeps_calls W m (by omega) A cap l hC hle hfl b f (u8_in wf)
end Go.Proofs.Ytbojokjommmebaa.MoKeepsW
