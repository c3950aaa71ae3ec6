/- ModelPlays, as the row asks for it. -/
import Derived.Test.YtbojokjommmebaaMoPlays
namespace Go.Proofs.Ytbojokjommmebaa.MoPlaysW
open Go.RowKit Go.Proofs.Ytbojokjommmebaa.MoMem Go.Proofs.Ytbojokjommmebaa.MoActs Go.Proofs.Ytbojokjommmebaa.MoAwake Go.Proofs.Ytbojokjommmebaa.MoPlays
open Go.Proofs.YtbojokjommmebaaW.PrintWords
theorem plays_walk {W : World} (a : Int) (wa : (Lit.int .u8 a).wf = true) (A : Option Addr) (cap : Nat) (l : List S32) (hC : Kd.C k32 W A l.length l) (hle : l.length ≤ cap) (hfl : ∀ i, i < l.length → byte (rdA l i).fl) :
    Calls Try.prog 4 #[.int .u8 a, .slice A l.length cap] W (AwPost W) := by
  have h1 : IntKind.u8.min = 0 := by decide
  have h2 : IntKind.u8.max = 255 := by decide
  simp [Lit.wf] at wa
  obtain ⟨m, rfl⟩ := Int.eq_ofNat_of_zero_le (show 0 ≤ a from by omega)
  exact plays_calls W m (by omega) A cap l hC hle hfl
end Go.Proofs.Ytbojokjommmebaa.MoPlaysW
