/-
  No cell of these rows narrows 'for every input' (looked for: loops, veiled, ifaces, maps, wideKeys, modest, calm, conditions, laid).
  DERIVED. THE GIVEN ROWS OF THIS SEAT. 7 by the template 'for every input the law returns true; each argument reads behind the call as it read before'; 0 by the template 'total and deterministic' (their statements: YtllhmpbfnbbldaaTotals.lean).
  GIVEN WITH THE SEED: the statements are not yours to turn. If you find one false, say at which input.
  Laid BY PROGRAM, IN A SANDBOX (cutbox-rows.mjs): the forced cells as the released guide's own fill.sh prints them over the translation 24b81d74e4bdf85d… (all of the seat's roots in one cut). By AI agents, Wed Nov 11 2026. No macro, syntax, notation, axiom, sorry.
-/
import Derived.Test.YtllhmpbfnbbldaaChecked
import GoSem.Claim
import GoSem.ClaimJoined
import GoSem.ClaimMapViews
import Derived.JoinedTies
import Derived.KernelRfl
namespace Go.Proofs.Ytllhmpbfnbbldaa
/- THE CELL 'sum', in the pinned program and in every row, IS THE sha256 OF THE DUMP (.gsa) THAT YtllhmpbfnbbldaaProg.lean LOADS. Nothing in Lean hashes anything: it is a label: what it is worth is what the hold of that sum in a sandbox is worth. -/
noncomputable def Try.pinned : Pinned := { name := "ytllhmpbfnbbldaa", sum := "24b81d74e4bdf85dbe29c62e1b7c0f94e8e016f67104f34bde77d4a7cbe05a69", checked := Try.checked }
namespace Rows
def none {H : Type} : Left H := { results := [], args := [] }

/-- 'springhouselaw05.MixMakes': WHATEVER THE INPUT: true; the input reads as it did. -/
def mixMakesSpec : ChangeSpec := { name := "mixMakes", fn := fun _ => fun
  | [d1, d2] => { results := [.lit (.bool true)], args := [d1, d2] }
  | _ => none }
def mixMakesRow : OpenClaim := { program := "ytllhmpbfnbbldaa", sum := "24b81d74e4bdf85dbe29c62e1b7c0f94e8e016f67104f34bde77d4a7cbe05a69", func := "springhouse/springhouselaw05.MixMakes", spec := "mixMakes", unfollowed := true, recurses := true, plainKeys := false, apart := false }
def MixMakesSaid : Prop := mixMakesRow.holds Try.pinned (OpenSpec.ofChange mixMakesSpec)

/-- ITS FALSE NEIGHBOUR: 'it returns false'. Refute it at one input. -/
def mixMakesWrong : ChangeSpec := { name := "mixMakes", fn := fun _ => fun
  | [d1, d2] => { results := [.lit (.bool false)], args := [d1, d2] }
  | _ => none }
def MixMakesWrongFalsely : Prop := mixMakesRow.holds Try.pinned (OpenSpec.ofChange mixMakesWrong)

/-- 'springhouselaw05.MixBack': WHATEVER THE INPUT: true; the input reads as it did. -/
def mixBackSpec : ChangeSpec := { name := "mixBack", fn := fun _ => fun
  | [d1, d2, d3] => { results := [.lit (.bool true)], args := [d1, d2, d3] }
  | _ => none }
def mixBackRow : OpenClaim := { program := "ytllhmpbfnbbldaa", sum := "24b81d74e4bdf85dbe29c62e1b7c0f94e8e016f67104f34bde77d4a7cbe05a69", func := "springhouse/springhouselaw05.MixBack", spec := "mixBack", unfollowed := true, recurses := true, plainKeys := false, apart := false }
def MixBackSaid : Prop := mixBackRow.holds Try.pinned (OpenSpec.ofChange mixBackSpec)

/-- ITS FALSE NEIGHBOUR: 'it returns false'. Refute it at one input. -/
def mixBackWrong : ChangeSpec := { name := "mixBack", fn := fun _ => fun
  | [d1, d2, d3] => { results := [.lit (.bool false)], args := [d1, d2, d3] }
  | _ => none }
def MixBackWrongFalsely : Prop := mixBackRow.holds Try.pinned (OpenSpec.ofChange mixBackWrong)

/-- 'springhouselaw05.MixPicks': WHATEVER THE INPUT: true; the input reads as it did. -/
def mixPicksSpec : ChangeSpec := { name := "mixPicks", fn := fun _ => fun
  | [d1, d2, d3, d4, d5] => { results := [.lit (.bool true)], args := [d1, d2, d3, d4, d5] }
  | _ => none }
def mixPicksRow : OpenClaim := { program := "ytllhmpbfnbbldaa", sum := "24b81d74e4bdf85dbe29c62e1b7c0f94e8e016f67104f34bde77d4a7cbe05a69", func := "springhouse/springhouselaw05.MixPicks", spec := "mixPicks", unfollowed := true, recurses := true, plainKeys := false, apart := false }
def MixPicksSaid : Prop := mixPicksRow.holds Try.pinned (OpenSpec.ofChange mixPicksSpec)

/-- ITS FALSE NEIGHBOUR: 'it returns false'. Refute it at one input. -/
def mixPicksWrong : ChangeSpec := { name := "mixPicks", fn := fun _ => fun
  | [d1, d2, d3, d4, d5] => { results := [.lit (.bool false)], args := [d1, d2, d3, d4, d5] }
  | _ => none }
def MixPicksWrongFalsely : Prop := mixPicksRow.holds Try.pinned (OpenSpec.ofChange mixPicksWrong)

/-- 'springhouselaw19.ChainParts': WHATEVER THE INPUT: true; the input reads as it did. -/
def chainPartsSpec : ChangeSpec := { name := "chainParts", fn := fun _ => fun
  | [d1, d2, d3, d4, d5, d6] => { results := [.lit (.bool true)], args := [d1, d2, d3, d4, d5, d6] }
  | _ => none }
def chainPartsRow : OpenClaim := { program := "ytllhmpbfnbbldaa", sum := "24b81d74e4bdf85dbe29c62e1b7c0f94e8e016f67104f34bde77d4a7cbe05a69", func := "springhouse/springhouselaw19.ChainParts", spec := "chainParts", plainKeys := false, apart := false }
def ChainPartsSaid : Prop := chainPartsRow.holds Try.pinned (OpenSpec.ofChange chainPartsSpec)

/-- ITS FALSE NEIGHBOUR: 'it returns false'. Refute it at one input. -/
def chainPartsWrong : ChangeSpec := { name := "chainParts", fn := fun _ => fun
  | [d1, d2, d3, d4, d5, d6] => { results := [.lit (.bool false)], args := [d1, d2, d3, d4, d5, d6] }
  | _ => none }
def ChainPartsWrongFalsely : Prop := chainPartsRow.holds Try.pinned (OpenSpec.ofChange chainPartsWrong)

/-- 'springhouselaw19.ChainAdds': WHATEVER THE INPUT: true; the input reads as it did. -/
def chainAddsSpec : ChangeSpec := { name := "chainAdds", fn := fun _ => fun
  | [d1, d2, d3] => { results := [.lit (.bool true)], args := [d1, d2, d3] }
  | _ => none }
def chainAddsRow : OpenClaim := { program := "ytllhmpbfnbbldaa", sum := "24b81d74e4bdf85dbe29c62e1b7c0f94e8e016f67104f34bde77d4a7cbe05a69", func := "springhouse/springhouselaw19.ChainAdds", spec := "chainAdds", plainKeys := false, apart := false }
def ChainAddsSaid : Prop := chainAddsRow.holds Try.pinned (OpenSpec.ofChange chainAddsSpec)

/-- ITS FALSE NEIGHBOUR: 'it returns false'. Refute it at one input. -/
def chainAddsWrong : ChangeSpec := { name := "chainAdds", fn := fun _ => fun
  | [d1, d2, d3] => { results := [.lit (.bool false)], args := [d1, d2, d3] }
  | _ => none }
def ChainAddsWrongFalsely : Prop := chainAddsRow.holds Try.pinned (OpenSpec.ofChange chainAddsWrong)

/-- 'springhouselaw19.ChainNobody': WHATEVER THE INPUT: true; the input reads as it did. -/
def chainNobodySpec : ChangeSpec := { name := "chainNobody", fn := fun _ => fun
  | [d1, d2, d3, d4] => { results := [.lit (.bool true)], args := [d1, d2, d3, d4] }
  | _ => none }
def chainNobodyRow : OpenClaim := { program := "ytllhmpbfnbbldaa", sum := "24b81d74e4bdf85dbe29c62e1b7c0f94e8e016f67104f34bde77d4a7cbe05a69", func := "springhouse/springhouselaw19.ChainNobody", spec := "chainNobody", plainKeys := false, apart := false }
def ChainNobodySaid : Prop := chainNobodyRow.holds Try.pinned (OpenSpec.ofChange chainNobodySpec)

/-- ITS FALSE NEIGHBOUR: 'it returns false'. Refute it at one input. -/
def chainNobodyWrong : ChangeSpec := { name := "chainNobody", fn := fun _ => fun
  | [d1, d2, d3, d4] => { results := [.lit (.bool false)], args := [d1, d2, d3, d4] }
  | _ => none }
def ChainNobodyWrongFalsely : Prop := chainNobodyRow.holds Try.pinned (OpenSpec.ofChange chainNobodyWrong)

/-- 'springhouselaw19.ChainForgets': WHATEVER THE INPUT: true; the input reads as it did. -/
def chainForgetsSpec : ChangeSpec := { name := "chainForgets", fn := fun _ => fun
  | [d1, d2, d3, d4] => { results := [.lit (.bool true)], args := [d1, d2, d3, d4] }
  | _ => none }
def chainForgetsRow : OpenClaim := { program := "ytllhmpbfnbbldaa", sum := "24b81d74e4bdf85dbe29c62e1b7c0f94e8e016f67104f34bde77d4a7cbe05a69", func := "springhouse/springhouselaw19.ChainForgets", spec := "chainForgets", plainKeys := false, apart := false }
def ChainForgetsSaid : Prop := chainForgetsRow.holds Try.pinned (OpenSpec.ofChange chainForgetsSpec)

/-- ITS FALSE NEIGHBOUR: 'it returns false'. Refute it at one input. -/
def chainForgetsWrong : ChangeSpec := { name := "chainForgets", fn := fun _ => fun
  | [d1, d2, d3, d4] => { results := [.lit (.bool false)], args := [d1, d2, d3, d4] }
  | _ => none }
def ChainForgetsWrongFalsely : Prop := chainForgetsRow.holds Try.pinned (OpenSpec.ofChange chainForgetsWrong)

/- THE SECOND FORM. 'bulk': how many values and letters a reading holds, each counted each time it is reached (what is shared counts as often as it is met; a slice's spare places count too). A statement '..UptoSaid' is the law's where the arguments, and the package variables that the reading takes, are together of bulk at most 1048576: NARROWER than '..Said'. Prove '..Said' where nothing that the law and all that it calls make is longer than what came in: it says more and counts as full. Else prove '..UptoSaid'. A law counts once. -/
mutual
def uptoBulk {H : Type} : DataW H → Nat
  | .lit (.string bytes) => bytes.length + 1
  | .lit _ => 1
  | .nil => 1
  | .ptr d => uptoBulk d + 1
  | .slice elems spare => uptoBulkAll elems + uptoBulkAll spare + 1
  | .agg parts => uptoBulkAll parts + 1
  | .iface _ d => uptoBulk d + 1
  | .map entries => uptoBulkEntries entries + 1
  | .held _ => 1
def uptoBulkAll {H : Type} : List (DataW H) → Nat
  | [] => 0
  | d :: r => uptoBulk d + uptoBulkAll r
def uptoBulkEntries {H : Type} : List (Lit × DataW H) → Nat
  | [] => 0
  | x :: r => uptoBulkEntry x + uptoBulkEntries r
def uptoBulkEntry {H : Type} : Lit × DataW H → Nat
  | (.string bytes, d) => bytes.length + uptoBulk d + 1
  | (_, d) => uptoBulk d + 1
 end
def uptoSmall : (H : Type) → List (DataW H) → Bool := fun _ ds => decide (uptoBulkAll ds ≤ 1048576)
def OpenSpec.upto (s : _root_.Go.ChangeSpec) : _root_.Go.OpenSpec := { _root_.Go.OpenSpec.ofChange s with cond := some uptoSmall }

/-- 'springhouselaw05.MixMakes', WHERE WHAT IT READS IS OF BULK AT MOST 1048576: true; the input reads as it did. -/
def mixMakesUptoRow : OpenClaim := { program := "ytllhmpbfnbbldaa", sum := "24b81d74e4bdf85dbe29c62e1b7c0f94e8e016f67104f34bde77d4a7cbe05a69", func := "springhouse/springhouselaw05.MixMakes", spec := "mixMakes", unfollowed := true, recurses := true, plainKeys := false, apart := false, narrowed := true }
def MixMakesUptoSaid : Prop := mixMakesUptoRow.holds Try.pinned (OpenSpec.upto mixMakesSpec)

/-- 'springhouselaw05.MixBack', WHERE WHAT IT READS IS OF BULK AT MOST 1048576: true; the input reads as it did. -/
def mixBackUptoRow : OpenClaim := { program := "ytllhmpbfnbbldaa", sum := "24b81d74e4bdf85dbe29c62e1b7c0f94e8e016f67104f34bde77d4a7cbe05a69", func := "springhouse/springhouselaw05.MixBack", spec := "mixBack", unfollowed := true, recurses := true, plainKeys := false, apart := false, narrowed := true }
def MixBackUptoSaid : Prop := mixBackUptoRow.holds Try.pinned (OpenSpec.upto mixBackSpec)

/-- 'springhouselaw05.MixPicks', WHERE WHAT IT READS IS OF BULK AT MOST 1048576: true; the input reads as it did. -/
def mixPicksUptoRow : OpenClaim := { program := "ytllhmpbfnbbldaa", sum := "24b81d74e4bdf85dbe29c62e1b7c0f94e8e016f67104f34bde77d4a7cbe05a69", func := "springhouse/springhouselaw05.MixPicks", spec := "mixPicks", unfollowed := true, recurses := true, plainKeys := false, apart := false, narrowed := true }
def MixPicksUptoSaid : Prop := mixPicksUptoRow.holds Try.pinned (OpenSpec.upto mixPicksSpec)

/-- 'springhouselaw19.ChainParts', WHERE WHAT IT READS IS OF BULK AT MOST 1048576: true; the input reads as it did. -/
def chainPartsUptoRow : OpenClaim := { program := "ytllhmpbfnbbldaa", sum := "24b81d74e4bdf85dbe29c62e1b7c0f94e8e016f67104f34bde77d4a7cbe05a69", func := "springhouse/springhouselaw19.ChainParts", spec := "chainParts", plainKeys := false, apart := false, narrowed := true }
def ChainPartsUptoSaid : Prop := chainPartsUptoRow.holds Try.pinned (OpenSpec.upto chainPartsSpec)

/-- 'springhouselaw19.ChainAdds', WHERE WHAT IT READS IS OF BULK AT MOST 1048576: true; the input reads as it did. -/
def chainAddsUptoRow : OpenClaim := { program := "ytllhmpbfnbbldaa", sum := "24b81d74e4bdf85dbe29c62e1b7c0f94e8e016f67104f34bde77d4a7cbe05a69", func := "springhouse/springhouselaw19.ChainAdds", spec := "chainAdds", plainKeys := false, apart := false, narrowed := true }
def ChainAddsUptoSaid : Prop := chainAddsUptoRow.holds Try.pinned (OpenSpec.upto chainAddsSpec)

/-- 'springhouselaw19.ChainNobody', WHERE WHAT IT READS IS OF BULK AT MOST 1048576: true; the input reads as it did. -/
def chainNobodyUptoRow : OpenClaim := { program := "ytllhmpbfnbbldaa", sum := "24b81d74e4bdf85dbe29c62e1b7c0f94e8e016f67104f34bde77d4a7cbe05a69", func := "springhouse/springhouselaw19.ChainNobody", spec := "chainNobody", plainKeys := false, apart := false, narrowed := true }
def ChainNobodyUptoSaid : Prop := chainNobodyUptoRow.holds Try.pinned (OpenSpec.upto chainNobodySpec)

/-- 'springhouselaw19.ChainForgets', WHERE WHAT IT READS IS OF BULK AT MOST 1048576: true; the input reads as it did. -/
def chainForgetsUptoRow : OpenClaim := { program := "ytllhmpbfnbbldaa", sum := "24b81d74e4bdf85dbe29c62e1b7c0f94e8e016f67104f34bde77d4a7cbe05a69", func := "springhouse/springhouselaw19.ChainForgets", spec := "chainForgets", plainKeys := false, apart := false, narrowed := true }
def ChainForgetsUptoSaid : Prop := chainForgetsUptoRow.holds Try.pinned (OpenSpec.upto chainForgetsSpec)

end Rows
end Go.Proofs.Ytllhmpbfnbbldaa
