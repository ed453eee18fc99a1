/-
  No cell of these rows narrows 'for every input' (looked for: loops, veiled, ifaces, maps, wideKeys, modest, calm, conditions, laid).
  DERIVED. THE GIVEN ROWS OF THIS SEAT. 14 by the template 'for every input the law returns true; each argument reads behind the call as it read before'; 0 by the template 'total and deterministic' (their statements: YtpnfhcnnodolbaaTotals.lean).
  GIVEN WITH THE SEED: the statements are not yours to turn. If you find one false, say at which input.
  Laid BY PROGRAM, IN A SANDBOX (cutbox-rows.mjs): the forced cells as the released guide's own fill.sh prints them over the translation 63086c2e2a464f2a… (all of the seat's roots in one cut). By AI agents, Wed Nov 11 2026. No macro, syntax, notation, axiom, sorry.
-/
import Derived.Test.YtpnfhcnnodolbaaChecked
import GoSem.Claim
import GoSem.ClaimJoined
import GoSem.ClaimMapViews
import Derived.JoinedTies
import Derived.KernelRfl
namespace Go.Proofs.Ytpnfhcnnodolbaa
/- THE CELL 'sum', in the pinned program and in every row, IS THE sha256 OF THE DUMP (.gsa) THAT YtpnfhcnnodolbaaProg.lean LOADS. Nothing in Lean hashes anything: it is a label: what it is worth is what the hold of that sum in a sandbox is worth. -/
noncomputable def Try.pinned : Pinned := { name := "ytpnfhcnnodolbaa", sum := "63086c2e2a464f2a808abcc1a9e5cc8ba6fa417dd155729e0eaca9fbad1c4509", checked := Try.checked }
namespace Rows
def none {H : Type} : Left H := { results := [], args := [] }

/-- 'porringerlaw01.AlloyMetals': WHATEVER THE INPUT: true; the input reads as it did. -/
def alloyMetalsSpec : ChangeSpec := { name := "alloyMetals", fn := fun _ => fun
  | [d1, d2, d3, d4, d5] => { results := [.lit (.bool true)], args := [d1, d2, d3, d4, d5] }
  | _ => none }
def alloyMetalsRow : OpenClaim := { program := "ytpnfhcnnodolbaa", sum := "63086c2e2a464f2a808abcc1a9e5cc8ba6fa417dd155729e0eaca9fbad1c4509", func := "porringer/porringerlaw01.AlloyMetals", spec := "alloyMetals", unfollowed := true, recurses := true, plainKeys := false, apart := false }
def AlloyMetalsSaid : Prop := alloyMetalsRow.holds Try.pinned (OpenSpec.ofChange alloyMetalsSpec)

/-- ITS FALSE NEIGHBOUR: 'it returns false'. Refute it at one input. -/
def alloyMetalsWrong : ChangeSpec := { name := "alloyMetals", fn := fun _ => fun
  | [d1, d2, d3, d4, d5] => { results := [.lit (.bool false)], args := [d1, d2, d3, d4, d5] }
  | _ => none }
def AlloyMetalsWrongFalsely : Prop := alloyMetalsRow.holds Try.pinned (OpenSpec.ofChange alloyMetalsWrong)

/-- 'porringerlaw01.AlloyCosts': WHATEVER THE INPUT: true; the input reads as it did. -/
def alloyCostsSpec : ChangeSpec := { name := "alloyCosts", fn := fun _ => fun
  | [d1, d2, d3] => { results := [.lit (.bool true)], args := [d1, d2, d3] }
  | _ => none }
def alloyCostsRow : OpenClaim := { program := "ytpnfhcnnodolbaa", sum := "63086c2e2a464f2a808abcc1a9e5cc8ba6fa417dd155729e0eaca9fbad1c4509", func := "porringer/porringerlaw01.AlloyCosts", spec := "alloyCosts", unfollowed := true, recurses := true, plainKeys := false, apart := false }
def AlloyCostsSaid : Prop := alloyCostsRow.holds Try.pinned (OpenSpec.ofChange alloyCostsSpec)

/-- ITS FALSE NEIGHBOUR: 'it returns false'. Refute it at one input. -/
def alloyCostsWrong : ChangeSpec := { name := "alloyCosts", fn := fun _ => fun
  | [d1, d2, d3] => { results := [.lit (.bool false)], args := [d1, d2, d3] }
  | _ => none }
def AlloyCostsWrongFalsely : Prop := alloyCostsRow.holds Try.pinned (OpenSpec.ofChange alloyCostsWrong)

/-- 'porringerlaw01.AlloyProofs': WHATEVER THE INPUT: true; the input reads as it did. -/
def alloyProofsSpec : ChangeSpec := { name := "alloyProofs", fn := fun _ => fun
  | [d1, d2, d3, d4] => { results := [.lit (.bool true)], args := [d1, d2, d3, d4] }
  | _ => none }
def alloyProofsRow : OpenClaim := { program := "ytpnfhcnnodolbaa", sum := "63086c2e2a464f2a808abcc1a9e5cc8ba6fa417dd155729e0eaca9fbad1c4509", func := "porringer/porringerlaw01.AlloyProofs", spec := "alloyProofs", unfollowed := true, recurses := true, plainKeys := false, apart := false }
def AlloyProofsSaid : Prop := alloyProofsRow.holds Try.pinned (OpenSpec.ofChange alloyProofsSpec)

/-- ITS FALSE NEIGHBOUR: 'it returns false'. Refute it at one input. -/
def alloyProofsWrong : ChangeSpec := { name := "alloyProofs", fn := fun _ => fun
  | [d1, d2, d3, d4] => { results := [.lit (.bool false)], args := [d1, d2, d3, d4] }
  | _ => none }
def AlloyProofsWrongFalsely : Prop := alloyProofsRow.holds Try.pinned (OpenSpec.ofChange alloyProofsWrong)

/-- 'porringerlaw01.AlloyShares': WHATEVER THE INPUT: true; the input reads as it did. -/
def alloySharesSpec : ChangeSpec := { name := "alloyShares", fn := fun _ => fun
  | [d1, d2, d3, d4] => { results := [.lit (.bool true)], args := [d1, d2, d3, d4] }
  | _ => none }
def alloySharesRow : OpenClaim := { program := "ytpnfhcnnodolbaa", sum := "63086c2e2a464f2a808abcc1a9e5cc8ba6fa417dd155729e0eaca9fbad1c4509", func := "porringer/porringerlaw01.AlloyShares", spec := "alloyShares", unfollowed := true, recurses := true, plainKeys := false, apart := false }
def AlloySharesSaid : Prop := alloySharesRow.holds Try.pinned (OpenSpec.ofChange alloySharesSpec)

/-- ITS FALSE NEIGHBOUR: 'it returns false'. Refute it at one input. -/
def alloySharesWrong : ChangeSpec := { name := "alloyShares", fn := fun _ => fun
  | [d1, d2, d3, d4] => { results := [.lit (.bool false)], args := [d1, d2, d3, d4] }
  | _ => none }
def AlloySharesWrongFalsely : Prop := alloySharesRow.holds Try.pinned (OpenSpec.ofChange alloySharesWrong)

/-- 'porringerlaw01.AlloyProved': WHATEVER THE INPUT: true; the input reads as it did. -/
def alloyProvedSpec : ChangeSpec := { name := "alloyProved", fn := fun _ => fun
  | [d1, d2, d3, d4, d5] => { results := [.lit (.bool true)], args := [d1, d2, d3, d4, d5] }
  | _ => none }
def alloyProvedRow : OpenClaim := { program := "ytpnfhcnnodolbaa", sum := "63086c2e2a464f2a808abcc1a9e5cc8ba6fa417dd155729e0eaca9fbad1c4509", func := "porringer/porringerlaw01.AlloyProved", spec := "alloyProved", unfollowed := true, recurses := true, plainKeys := false, apart := false }
def AlloyProvedSaid : Prop := alloyProvedRow.holds Try.pinned (OpenSpec.ofChange alloyProvedSpec)

/-- ITS FALSE NEIGHBOUR: 'it returns false'. Refute it at one input. -/
def alloyProvedWrong : ChangeSpec := { name := "alloyProved", fn := fun _ => fun
  | [d1, d2, d3, d4, d5] => { results := [.lit (.bool false)], args := [d1, d2, d3, d4, d5] }
  | _ => none }
def AlloyProvedWrongFalsely : Prop := alloyProvedRow.holds Try.pinned (OpenSpec.ofChange alloyProvedWrong)

/-- 'porringerlaw01.AlloyEither': WHATEVER THE INPUT: true; the input reads as it did. -/
def alloyEitherSpec : ChangeSpec := { name := "alloyEither", fn := fun _ => fun
  | [d1, d2, d3, d4, d5] => { results := [.lit (.bool true)], args := [d1, d2, d3, d4, d5] }
  | _ => none }
def alloyEitherRow : OpenClaim := { program := "ytpnfhcnnodolbaa", sum := "63086c2e2a464f2a808abcc1a9e5cc8ba6fa417dd155729e0eaca9fbad1c4509", func := "porringer/porringerlaw01.AlloyEither", spec := "alloyEither", unfollowed := true, recurses := true, plainKeys := false, apart := false }
def AlloyEitherSaid : Prop := alloyEitherRow.holds Try.pinned (OpenSpec.ofChange alloyEitherSpec)

/-- ITS FALSE NEIGHBOUR: 'it returns false'. Refute it at one input. -/
def alloyEitherWrong : ChangeSpec := { name := "alloyEither", fn := fun _ => fun
  | [d1, d2, d3, d4, d5] => { results := [.lit (.bool false)], args := [d1, d2, d3, d4, d5] }
  | _ => none }
def AlloyEitherWrongFalsely : Prop := alloyEitherRow.holds Try.pinned (OpenSpec.ofChange alloyEitherWrong)

/-- 'porringerlaw01.AlloySurely': WHATEVER THE INPUT: true; the input reads as it did. -/
def alloySurelySpec : ChangeSpec := { name := "alloySurely", fn := fun _ => fun
  | [d1, d2, d3, d4] => { results := [.lit (.bool true)], args := [d1, d2, d3, d4] }
  | _ => none }
def alloySurelyRow : OpenClaim := { program := "ytpnfhcnnodolbaa", sum := "63086c2e2a464f2a808abcc1a9e5cc8ba6fa417dd155729e0eaca9fbad1c4509", func := "porringer/porringerlaw01.AlloySurely", spec := "alloySurely", unfollowed := true, recurses := true, plainKeys := false, apart := false }
def AlloySurelySaid : Prop := alloySurelyRow.holds Try.pinned (OpenSpec.ofChange alloySurelySpec)

/-- ITS FALSE NEIGHBOUR: 'it returns false'. Refute it at one input. -/
def alloySurelyWrong : ChangeSpec := { name := "alloySurely", fn := fun _ => fun
  | [d1, d2, d3, d4] => { results := [.lit (.bool false)], args := [d1, d2, d3, d4] }
  | _ => none }
def AlloySurelyWrongFalsely : Prop := alloySurelyRow.holds Try.pinned (OpenSpec.ofChange alloySurelyWrong)

/-- 'porringerlaw01.AlloySofter': WHATEVER THE INPUT: true; the input reads as it did. -/
def alloySofterSpec : ChangeSpec := { name := "alloySofter", fn := fun _ => fun
  | [d1, d2, d3, d4, d5, d6, d7] => { results := [.lit (.bool true)], args := [d1, d2, d3, d4, d5, d6, d7] }
  | _ => none }
def alloySofterRow : OpenClaim := { program := "ytpnfhcnnodolbaa", sum := "63086c2e2a464f2a808abcc1a9e5cc8ba6fa417dd155729e0eaca9fbad1c4509", func := "porringer/porringerlaw01.AlloySofter", spec := "alloySofter", unfollowed := true, recurses := true, plainKeys := false, apart := false }
def AlloySofterSaid : Prop := alloySofterRow.holds Try.pinned (OpenSpec.ofChange alloySofterSpec)

/-- ITS FALSE NEIGHBOUR: 'it returns false'. Refute it at one input. -/
def alloySofterWrong : ChangeSpec := { name := "alloySofter", fn := fun _ => fun
  | [d1, d2, d3, d4, d5, d6, d7] => { results := [.lit (.bool false)], args := [d1, d2, d3, d4, d5, d6, d7] }
  | _ => none }
def AlloySofterWrongFalsely : Prop := alloySofterRow.holds Try.pinned (OpenSpec.ofChange alloySofterWrong)

/-- 'porringerlaw01.AlloyPoured': WHATEVER THE INPUT: true; the input reads as it did. -/
def alloyPouredSpec : ChangeSpec := { name := "alloyPoured", fn := fun _ => fun
  | [d1, d2, d3, d4, d5] => { results := [.lit (.bool true)], args := [d1, d2, d3, d4, d5] }
  | _ => none }
def alloyPouredRow : OpenClaim := { program := "ytpnfhcnnodolbaa", sum := "63086c2e2a464f2a808abcc1a9e5cc8ba6fa417dd155729e0eaca9fbad1c4509", func := "porringer/porringerlaw01.AlloyPoured", spec := "alloyPoured", unfollowed := true, recurses := true, plainKeys := false, apart := false }
def AlloyPouredSaid : Prop := alloyPouredRow.holds Try.pinned (OpenSpec.ofChange alloyPouredSpec)

/-- ITS FALSE NEIGHBOUR: 'it returns false'. Refute it at one input. -/
def alloyPouredWrong : ChangeSpec := { name := "alloyPoured", fn := fun _ => fun
  | [d1, d2, d3, d4, d5] => { results := [.lit (.bool false)], args := [d1, d2, d3, d4, d5] }
  | _ => none }
def AlloyPouredWrongFalsely : Prop := alloyPouredRow.holds Try.pinned (OpenSpec.ofChange alloyPouredWrong)

/-- 'porringerlaw01.AlloyHeld': WHATEVER THE INPUT: true; the input reads as it did. -/
def alloyHeldSpec : ChangeSpec := { name := "alloyHeld", fn := fun _ => fun
  | [d1, d2, d3, d4, d5] => { results := [.lit (.bool true)], args := [d1, d2, d3, d4, d5] }
  | _ => none }
def alloyHeldRow : OpenClaim := { program := "ytpnfhcnnodolbaa", sum := "63086c2e2a464f2a808abcc1a9e5cc8ba6fa417dd155729e0eaca9fbad1c4509", func := "porringer/porringerlaw01.AlloyHeld", spec := "alloyHeld", unfollowed := true, recurses := true, plainKeys := false, apart := false }
def AlloyHeldSaid : Prop := alloyHeldRow.holds Try.pinned (OpenSpec.ofChange alloyHeldSpec)

/-- ITS FALSE NEIGHBOUR: 'it returns false'. Refute it at one input. -/
def alloyHeldWrong : ChangeSpec := { name := "alloyHeld", fn := fun _ => fun
  | [d1, d2, d3, d4, d5] => { results := [.lit (.bool false)], args := [d1, d2, d3, d4, d5] }
  | _ => none }
def AlloyHeldWrongFalsely : Prop := alloyHeldRow.holds Try.pinned (OpenSpec.ofChange alloyHeldWrong)

/-- 'porringerlaw01.AlloyScaled': WHATEVER THE INPUT: true; the input reads as it did. -/
def alloyScaledSpec : ChangeSpec := { name := "alloyScaled", fn := fun _ => fun
  | [d1, d2, d3, d4, d5, d6, d7] => { results := [.lit (.bool true)], args := [d1, d2, d3, d4, d5, d6, d7] }
  | _ => none }
def alloyScaledRow : OpenClaim := { program := "ytpnfhcnnodolbaa", sum := "63086c2e2a464f2a808abcc1a9e5cc8ba6fa417dd155729e0eaca9fbad1c4509", func := "porringer/porringerlaw01.AlloyScaled", spec := "alloyScaled", unfollowed := true, recurses := true, plainKeys := false, apart := false }
def AlloyScaledSaid : Prop := alloyScaledRow.holds Try.pinned (OpenSpec.ofChange alloyScaledSpec)

/-- ITS FALSE NEIGHBOUR: 'it returns false'. Refute it at one input. -/
def alloyScaledWrong : ChangeSpec := { name := "alloyScaled", fn := fun _ => fun
  | [d1, d2, d3, d4, d5, d6, d7] => { results := [.lit (.bool false)], args := [d1, d2, d3, d4, d5, d6, d7] }
  | _ => none }
def AlloyScaledWrongFalsely : Prop := alloyScaledRow.holds Try.pinned (OpenSpec.ofChange alloyScaledWrong)

/-- 'porringerlaw01.AlloyTimes': WHATEVER THE INPUT: true; the input reads as it did. -/
def alloyTimesSpec : ChangeSpec := { name := "alloyTimes", fn := fun _ => fun
  | [d1, d2, d3, d4, d5, d6] => { results := [.lit (.bool true)], args := [d1, d2, d3, d4, d5, d6] }
  | _ => none }
def alloyTimesRow : OpenClaim := { program := "ytpnfhcnnodolbaa", sum := "63086c2e2a464f2a808abcc1a9e5cc8ba6fa417dd155729e0eaca9fbad1c4509", func := "porringer/porringerlaw01.AlloyTimes", spec := "alloyTimes", unfollowed := true, recurses := true, plainKeys := false, apart := false }
def AlloyTimesSaid : Prop := alloyTimesRow.holds Try.pinned (OpenSpec.ofChange alloyTimesSpec)

/-- ITS FALSE NEIGHBOUR: 'it returns false'. Refute it at one input. -/
def alloyTimesWrong : ChangeSpec := { name := "alloyTimes", fn := fun _ => fun
  | [d1, d2, d3, d4, d5, d6] => { results := [.lit (.bool false)], args := [d1, d2, d3, d4, d5, d6] }
  | _ => none }
def AlloyTimesWrongFalsely : Prop := alloyTimesRow.holds Try.pinned (OpenSpec.ofChange alloyTimesWrong)

/-- 'porringerlaw01.AlloyMore': WHATEVER THE INPUT: true; the input reads as it did. -/
def alloyMoreSpec : ChangeSpec := { name := "alloyMore", fn := fun _ => fun
  | [d1, d2, d3, d4, d5, d6, d7, d8] => { results := [.lit (.bool true)], args := [d1, d2, d3, d4, d5, d6, d7, d8] }
  | _ => none }
def alloyMoreRow : OpenClaim := { program := "ytpnfhcnnodolbaa", sum := "63086c2e2a464f2a808abcc1a9e5cc8ba6fa417dd155729e0eaca9fbad1c4509", func := "porringer/porringerlaw01.AlloyMore", spec := "alloyMore", unfollowed := true, recurses := true, plainKeys := false, apart := false }
def AlloyMoreSaid : Prop := alloyMoreRow.holds Try.pinned (OpenSpec.ofChange alloyMoreSpec)

/-- ITS FALSE NEIGHBOUR: 'it returns false'. Refute it at one input. -/
def alloyMoreWrong : ChangeSpec := { name := "alloyMore", fn := fun _ => fun
  | [d1, d2, d3, d4, d5, d6, d7, d8] => { results := [.lit (.bool false)], args := [d1, d2, d3, d4, d5, d6, d7, d8] }
  | _ => none }
def AlloyMoreWrongFalsely : Prop := alloyMoreRow.holds Try.pinned (OpenSpec.ofChange alloyMoreWrong)

/-- 'porringerlaw01.AlloyKnown': WHATEVER THE INPUT: true; the input reads as it did. -/
def alloyKnownSpec : ChangeSpec := { name := "alloyKnown", fn := fun _ => fun
  | [] => { results := [.lit (.bool true)], args := [] }
  | _ => none }
def alloyKnownRow : OpenClaim := { program := "ytpnfhcnnodolbaa", sum := "63086c2e2a464f2a808abcc1a9e5cc8ba6fa417dd155729e0eaca9fbad1c4509", func := "porringer/porringerlaw01.AlloyKnown", spec := "alloyKnown", unfollowed := true, recurses := true, plainKeys := false, apart := false }
def AlloyKnownSaid : Prop := alloyKnownRow.holds Try.pinned (OpenSpec.ofChange alloyKnownSpec)

/-- ITS FALSE NEIGHBOUR: 'it returns false'. Refute it at one input. -/
def alloyKnownWrong : ChangeSpec := { name := "alloyKnown", fn := fun _ => fun
  | [] => { results := [.lit (.bool false)], args := [] }
  | _ => none }
def AlloyKnownWrongFalsely : Prop := alloyKnownRow.holds Try.pinned (OpenSpec.ofChange alloyKnownWrong)

/- THE SECOND FORM. 'bulk': how many values and letters a reading holds, each counted each time it is reached (what is shared counts as often as it is met; a slice's spare places count too). A statement '..UptoSaid' is the law's where the arguments, and the package variables that the reading takes, are together of bulk at most 1048576: NARROWER than '..Said'. Prove '..Said' where nothing that the law and all that it calls make is longer than what came in: it says more and counts as full. Else prove '..UptoSaid'. A law counts once. -/
mutual
def uptoBulk {H : Type} : DataW H → Nat
  | .lit (.string bytes) => bytes.length + 1
  | .lit _ => 1
  | .nil => 1
  | .ptr d => uptoBulk d + 1
  | .slice elems spare => uptoBulkAll elems + uptoBulkAll spare + 1
  | .agg parts => uptoBulkAll parts + 1
  | .iface _ d => uptoBulk d + 1
  | .map entries => uptoBulkEntries entries + 1
  | .held _ => 1
def uptoBulkAll {H : Type} : List (DataW H) → Nat
  | [] => 0
  | d :: r => uptoBulk d + uptoBulkAll r
def uptoBulkEntries {H : Type} : List (Lit × DataW H) → Nat
  | [] => 0
  | x :: r => uptoBulkEntry x + uptoBulkEntries r
def uptoBulkEntry {H : Type} : Lit × DataW H → Nat
  | (.string bytes, d) => bytes.length + uptoBulk d + 1
  | (_, d) => uptoBulk d + 1
 end
def uptoSmall : (H : Type) → List (DataW H) → Bool := fun _ ds => decide (uptoBulkAll ds ≤ 1048576)
def OpenSpec.upto (s : _root_.Go.ChangeSpec) : _root_.Go.OpenSpec := { _root_.Go.OpenSpec.ofChange s with cond := some uptoSmall }

/-- 'porringerlaw01.AlloyMetals', WHERE WHAT IT READS IS OF BULK AT MOST 1048576: true; the input reads as it did. -/
def alloyMetalsUptoRow : OpenClaim := { program := "ytpnfhcnnodolbaa", sum := "63086c2e2a464f2a808abcc1a9e5cc8ba6fa417dd155729e0eaca9fbad1c4509", func := "porringer/porringerlaw01.AlloyMetals", spec := "alloyMetals", unfollowed := true, recurses := true, plainKeys := false, apart := false, narrowed := true }
def AlloyMetalsUptoSaid : Prop := alloyMetalsUptoRow.holds Try.pinned (OpenSpec.upto alloyMetalsSpec)

/-- 'porringerlaw01.AlloyCosts', WHERE WHAT IT READS IS OF BULK AT MOST 1048576: true; the input reads as it did. -/
def alloyCostsUptoRow : OpenClaim := { program := "ytpnfhcnnodolbaa", sum := "63086c2e2a464f2a808abcc1a9e5cc8ba6fa417dd155729e0eaca9fbad1c4509", func := "porringer/porringerlaw01.AlloyCosts", spec := "alloyCosts", unfollowed := true, recurses := true, plainKeys := false, apart := false, narrowed := true }
def AlloyCostsUptoSaid : Prop := alloyCostsUptoRow.holds Try.pinned (OpenSpec.upto alloyCostsSpec)

/-- 'porringerlaw01.AlloyProofs', WHERE WHAT IT READS IS OF BULK AT MOST 1048576: true; the input reads as it did. -/
def alloyProofsUptoRow : OpenClaim := { program := "ytpnfhcnnodolbaa", sum := "63086c2e2a464f2a808abcc1a9e5cc8ba6fa417dd155729e0eaca9fbad1c4509", func := "porringer/porringerlaw01.AlloyProofs", spec := "alloyProofs", unfollowed := true, recurses := true, plainKeys := false, apart := false, narrowed := true }
def AlloyProofsUptoSaid : Prop := alloyProofsUptoRow.holds Try.pinned (OpenSpec.upto alloyProofsSpec)

/-- 'porringerlaw01.AlloyShares', WHERE WHAT IT READS IS OF BULK AT MOST 1048576: true; the input reads as it did. -/
def alloySharesUptoRow : OpenClaim := { program := "ytpnfhcnnodolbaa", sum := "63086c2e2a464f2a808abcc1a9e5cc8ba6fa417dd155729e0eaca9fbad1c4509", func := "porringer/porringerlaw01.AlloyShares", spec := "alloyShares", unfollowed := true, recurses := true, plainKeys := false, apart := false, narrowed := true }
def AlloySharesUptoSaid : Prop := alloySharesUptoRow.holds Try.pinned (OpenSpec.upto alloySharesSpec)

/-- 'porringerlaw01.AlloyProved', WHERE WHAT IT READS IS OF BULK AT MOST 1048576: true; the input reads as it did. -/
def alloyProvedUptoRow : OpenClaim := { program := "ytpnfhcnnodolbaa", sum := "63086c2e2a464f2a808abcc1a9e5cc8ba6fa417dd155729e0eaca9fbad1c4509", func := "porringer/porringerlaw01.AlloyProved", spec := "alloyProved", unfollowed := true, recurses := true, plainKeys := false, apart := false, narrowed := true }
def AlloyProvedUptoSaid : Prop := alloyProvedUptoRow.holds Try.pinned (OpenSpec.upto alloyProvedSpec)

/-- 'porringerlaw01.AlloyEither', WHERE WHAT IT READS IS OF BULK AT MOST 1048576: true; the input reads as it did. -/
def alloyEitherUptoRow : OpenClaim := { program := "ytpnfhcnnodolbaa", sum := "63086c2e2a464f2a808abcc1a9e5cc8ba6fa417dd155729e0eaca9fbad1c4509", func := "porringer/porringerlaw01.AlloyEither", spec := "alloyEither", unfollowed := true, recurses := true, plainKeys := false, apart := false, narrowed := true }
def AlloyEitherUptoSaid : Prop := alloyEitherUptoRow.holds Try.pinned (OpenSpec.upto alloyEitherSpec)

/-- 'porringerlaw01.AlloySurely', WHERE WHAT IT READS IS OF BULK AT MOST 1048576: true; the input reads as it did. -/
def alloySurelyUptoRow : OpenClaim := { program := "ytpnfhcnnodolbaa", sum := "63086c2e2a464f2a808abcc1a9e5cc8ba6fa417dd155729e0eaca9fbad1c4509", func := "porringer/porringerlaw01.AlloySurely", spec := "alloySurely", unfollowed := true, recurses := true, plainKeys := false, apart := false, narrowed := true }
def AlloySurelyUptoSaid : Prop := alloySurelyUptoRow.holds Try.pinned (OpenSpec.upto alloySurelySpec)

/-- 'porringerlaw01.AlloySofter', WHERE WHAT IT READS IS OF BULK AT MOST 1048576: true; the input reads as it did. -/
def alloySofterUptoRow : OpenClaim := { program := "ytpnfhcnnodolbaa", sum := "63086c2e2a464f2a808abcc1a9e5cc8ba6fa417dd155729e0eaca9fbad1c4509", func := "porringer/porringerlaw01.AlloySofter", spec := "alloySofter", unfollowed := true, recurses := true, plainKeys := false, apart := false, narrowed := true }
def AlloySofterUptoSaid : Prop := alloySofterUptoRow.holds Try.pinned (OpenSpec.upto alloySofterSpec)

/-- 'porringerlaw01.AlloyPoured', WHERE WHAT IT READS IS OF BULK AT MOST 1048576: true; the input reads as it did. -/
def alloyPouredUptoRow : OpenClaim := { program := "ytpnfhcnnodolbaa", sum := "63086c2e2a464f2a808abcc1a9e5cc8ba6fa417dd155729e0eaca9fbad1c4509", func := "porringer/porringerlaw01.AlloyPoured", spec := "alloyPoured", unfollowed := true, recurses := true, plainKeys := false, apart := false, narrowed := true }
def AlloyPouredUptoSaid : Prop := alloyPouredUptoRow.holds Try.pinned (OpenSpec.upto alloyPouredSpec)

/-- 'porringerlaw01.AlloyHeld', WHERE WHAT IT READS IS OF BULK AT MOST 1048576: true; the input reads as it did. -/
def alloyHeldUptoRow : OpenClaim := { program := "ytpnfhcnnodolbaa", sum := "63086c2e2a464f2a808abcc1a9e5cc8ba6fa417dd155729e0eaca9fbad1c4509", func := "porringer/porringerlaw01.AlloyHeld", spec := "alloyHeld", unfollowed := true, recurses := true, plainKeys := false, apart := false, narrowed := true }
def AlloyHeldUptoSaid : Prop := alloyHeldUptoRow.holds Try.pinned (OpenSpec.upto alloyHeldSpec)

/-- 'porringerlaw01.AlloyScaled', WHERE WHAT IT READS IS OF BULK AT MOST 1048576: true; the input reads as it did. -/
def alloyScaledUptoRow : OpenClaim := { program := "ytpnfhcnnodolbaa", sum := "63086c2e2a464f2a808abcc1a9e5cc8ba6fa417dd155729e0eaca9fbad1c4509", func := "porringer/porringerlaw01.AlloyScaled", spec := "alloyScaled", unfollowed := true, recurses := true, plainKeys := false, apart := false, narrowed := true }
def AlloyScaledUptoSaid : Prop := alloyScaledUptoRow.holds Try.pinned (OpenSpec.upto alloyScaledSpec)

/-- 'porringerlaw01.AlloyTimes', WHERE WHAT IT READS IS OF BULK AT MOST 1048576: true; the input reads as it did. -/
def alloyTimesUptoRow : OpenClaim := { program := "ytpnfhcnnodolbaa", sum := "63086c2e2a464f2a808abcc1a9e5cc8ba6fa417dd155729e0eaca9fbad1c4509", func := "porringer/porringerlaw01.AlloyTimes", spec := "alloyTimes", unfollowed := true, recurses := true, plainKeys := false, apart := false, narrowed := true }
def AlloyTimesUptoSaid : Prop := alloyTimesUptoRow.holds Try.pinned (OpenSpec.upto alloyTimesSpec)

/-- 'porringerlaw01.AlloyMore', WHERE WHAT IT READS IS OF BULK AT MOST 1048576: true; the input reads as it did. -/
def alloyMoreUptoRow : OpenClaim := { program := "ytpnfhcnnodolbaa", sum := "63086c2e2a464f2a808abcc1a9e5cc8ba6fa417dd155729e0eaca9fbad1c4509", func := "porringer/porringerlaw01.AlloyMore", spec := "alloyMore", unfollowed := true, recurses := true, plainKeys := false, apart := false, narrowed := true }
def AlloyMoreUptoSaid : Prop := alloyMoreUptoRow.holds Try.pinned (OpenSpec.upto alloyMoreSpec)

/-- 'porringerlaw01.AlloyKnown', WHERE WHAT IT READS IS OF BULK AT MOST 1048576: true; the input reads as it did. -/
def alloyKnownUptoRow : OpenClaim := { program := "ytpnfhcnnodolbaa", sum := "63086c2e2a464f2a808abcc1a9e5cc8ba6fa417dd155729e0eaca9fbad1c4509", func := "porringer/porringerlaw01.AlloyKnown", spec := "alloyKnown", unfollowed := true, recurses := true, plainKeys := false, apart := false, narrowed := true }
def AlloyKnownUptoSaid : Prop := alloyKnownUptoRow.holds Try.pinned (OpenSpec.upto alloyKnownSpec)

end Rows
end Go.Proofs.Ytpnfhcnnodolbaa
