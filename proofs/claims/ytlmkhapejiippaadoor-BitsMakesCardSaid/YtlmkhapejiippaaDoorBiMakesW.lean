/- BitsMakes, opened. -/
import Derived.Test.YtlmkhapejiippaaDoorBiMakes
import Derived.Test.YtlmkhapejiippaaDoorBiLaid
namespace Go.Proofs.YtlmkhapejiippaaDoor.BiMakesW
open Go.RowKit Go.Proofs.YtlmkhapejiippaaDoor.BiAwake Go.Proofs.YtlmkhapejiippaaDoor.BiLaid
theorem makes_walk {W : World} (n : Int) (i : Int) (hT : TabAt 0 Lib.deBruijn64tab W) :
    Calls Tryd.prog 5 #[.int .i64 n, .int .i64 i] W (AwPost W) := by
  by_cases h : n < 0 ∨ 4096 < n
  · exact BiMakes.makes_bad W n h i hT
  · obtain ⟨k, rfl⟩ := Int.eq_ofNat_of_zero_le (show 0 ≤ n by omega)
    exact BiMakes.makes_good W k (by omega) i hT
end Go.Proofs.YtlmkhapejiippaaDoor.BiMakesW
