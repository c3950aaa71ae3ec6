/- ModelSame, as the row asks for it. -/
import Derived.Test.YtbojokjommmebaaMoSameLaw
import Derived.Test.YtbojokjommmebaaMoKeepsW
namespace Go.Proofs.Ytbojokjommmebaa.MoSameW
open Go.RowKit Go.Proofs.Ytbojokjommmebaa.MoMem Go.Proofs.Ytbojokjommmebaa.MoActs Go.Proofs.Ytbojokjommmebaa.MoAwake Go.Proofs.Ytbojokjommmebaa.MoSameLaw Go.Proofs.Ytbojokjommmebaa.MoKeepsW
open Go.Proofs.YtbojokjommmebaaW.PrintWords
theorem same_walk {W : World} (a : Int) (wa : (Lit.int .u8 a).wf = true) (A : Option Addr) (cap : Nat) (l : List S32) (hC : Kd.C k32 W A l.length l) (hle : l.length ≤ cap) (hfl : ∀ i, i < l.length → byte (rdA l i).fl)
    (B : Option Addr) (cap2 : Nat) (l2 : List S32) (hC2 : Kd.C k32 W B l2.length l2) (hle2 : l2.length ≤ cap2) (hfl2 : ∀ i, i < l2.length → byte (rdA l2 i).fl) :
    Calls Try.prog 3 #[.int .u8 a, .slice A l.length cap, .slice B l2.length cap2] W (AwPost W) := by
  have ha := u8_in wa
  obtain ⟨m, rfl⟩ := Int.eq_ofNat_of_zero_le ha.1
  have := ha.2
  exact msame_calls W m (by omega) A cap l hC hle hfl B cap2 l2 hC2 hle2 hfl2
end Go.Proofs.Ytbojokjommmebaa.MoSameW
