/- BitsClones, opened. -/
import Derived.Test.YtlmkhapejiippaaDoorBiClones
import Derived.Test.YtlmkhapejiippaaDoorBiLaid
namespace Go.Proofs.YtlmkhapejiippaaDoor.BiClonesW
open Go.RowKit Go.Proofs.YtlmkhapejiippaaDoorW.PrintWords Go.Proofs.YtlmkhapejiippaaDoor.PBitsPlays Go.Proofs.YtlmkhapejiippaaDoor.BiAwake Go.Proofs.YtlmkhapejiippaaDoor.BiLaid
theorem clones_walk {W : World} (a : Int) (wa : (Lit.int .u8 a).wf = true) (A1 : Option Addr) (c1 : Nat) (l1 : List S47) (h1 : Kd.C k47 W A1 l1.length l1) (hc1 : l1.length ≤ c1) (A2 : Option Addr) (c2 : Nat) (l2 : List S47) (h2 : Kd.C k47 W A2 l2.length l2) (hc2 : l2.length ≤ c2) (A3 : Option Addr) (c3 : Nat) (l3 : List S47) (h3 : Kd.C k47 W A3 l3.length l3) (hc3 : l3.length ≤ c3) (hT : TabAt 0 Lib.deBruijn64tab W) :
    Calls Tryd.prog 4 #[.int .u8 a, .slice A1 l1.length c1, .slice A2 l2.length c2, .slice A3 l3.length c3] W (AwPost W) := by
  obtain ⟨n, hn, rfl⟩ := u8_nat wa
  exact BiClones.clones_calls W n hn A1 c1 l1 A2 c2 l2 A3 c3 l3 h1 hc1 h2 hc2 h3 hc3 hT
end Go.Proofs.YtlmkhapejiippaaDoor.BiClonesW
