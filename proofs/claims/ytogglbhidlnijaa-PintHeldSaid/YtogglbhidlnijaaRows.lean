/-
  No cell of these rows narrows 'for every input' (looked for: loops, veiled, ifaces, maps, wideKeys, modest, calm, conditions, laid).
  DERIVED. THE GIVEN ROWS OF THIS SEAT. 14 by the template 'for every input the law returns true; each argument reads behind the call as it read before'; 0 by the template 'total and deterministic' (their statements: YtogglbhidlnijaaTotals.lean).
  GIVEN WITH THE SEED: the statements are not yours to turn. If you find one false, say at which input.
  Laid BY PROGRAM, IN A SANDBOX (cutbox-rows.mjs): the forced cells as the released guide's own fill.sh prints them over the translation 287bfba6ea6d98ab… (all of the seat's roots in one cut). By AI agents, Wed Nov 11 2026. No macro, syntax, notation, axiom, sorry.
-/
import Derived.Test.YtogglbhidlnijaaChecked
import GoSem.Claim
import GoSem.ClaimJoined
import GoSem.ClaimMapViews
import Derived.JoinedTies
import Derived.KernelRfl
namespace Go.Proofs.Ytogglbhidlnijaa
/- THE CELL 'sum', in the pinned program and in every row, IS THE sha256 OF THE DUMP (.gsa) THAT YtogglbhidlnijaaProg.lean LOADS. Nothing in Lean hashes anything: it is a label: what it is worth is what the hold of that sum in a sandbox is worth. -/
noncomputable def Try.pinned : Pinned := { name := "ytogglbhidlnijaa", sum := "287bfba6ea6d98aba71dc12f280489b36a065fbee2ab6e41709a249aacd64cde", checked := Try.checked }
namespace Rows
def none {H : Type} : Left H := { results := [], args := [] }

/-- 'porringerlaw05.PintMeasures': WHATEVER THE INPUT: true; the input reads as it did. -/
def pintMeasuresSpec : ChangeSpec := { name := "pintMeasures", fn := fun _ => fun
  | [d1, d2, d3] => { results := [.lit (.bool true)], args := [d1, d2, d3] }
  | _ => none }
def pintMeasuresRow : OpenClaim := { program := "ytogglbhidlnijaa", sum := "287bfba6ea6d98aba71dc12f280489b36a065fbee2ab6e41709a249aacd64cde", func := "porringer/porringerlaw05.PintMeasures", spec := "pintMeasures", unfollowed := true, recurses := true, plainKeys := false, apart := false }
def PintMeasuresSaid : Prop := pintMeasuresRow.holds Try.pinned (OpenSpec.ofChange pintMeasuresSpec)

/-- ITS FALSE NEIGHBOUR: 'it returns false'. Refute it at one input. -/
def pintMeasuresWrong : ChangeSpec := { name := "pintMeasures", fn := fun _ => fun
  | [d1, d2, d3] => { results := [.lit (.bool false)], args := [d1, d2, d3] }
  | _ => none }
def PintMeasuresWrongFalsely : Prop := pintMeasuresRow.holds Try.pinned (OpenSpec.ofChange pintMeasuresWrong)

/-- 'porringerlaw05.PintProofs': WHATEVER THE INPUT: true; the input reads as it did. -/
def pintProofsSpec : ChangeSpec := { name := "pintProofs", fn := fun _ => fun
  | [d1, d2, d3, d4, d5, d6] => { results := [.lit (.bool true)], args := [d1, d2, d3, d4, d5, d6] }
  | _ => none }
def pintProofsRow : OpenClaim := { program := "ytogglbhidlnijaa", sum := "287bfba6ea6d98aba71dc12f280489b36a065fbee2ab6e41709a249aacd64cde", func := "porringer/porringerlaw05.PintProofs", spec := "pintProofs", unfollowed := true, recurses := true, plainKeys := false, apart := false }
def PintProofsSaid : Prop := pintProofsRow.holds Try.pinned (OpenSpec.ofChange pintProofsSpec)

/-- ITS FALSE NEIGHBOUR: 'it returns false'. Refute it at one input. -/
def pintProofsWrong : ChangeSpec := { name := "pintProofs", fn := fun _ => fun
  | [d1, d2, d3, d4, d5, d6] => { results := [.lit (.bool false)], args := [d1, d2, d3, d4, d5, d6] }
  | _ => none }
def PintProofsWrongFalsely : Prop := pintProofsRow.holds Try.pinned (OpenSpec.ofChange pintProofsWrong)

/-- 'porringerlaw05.PintSpans': WHATEVER THE INPUT: true; the input reads as it did. -/
def pintSpansSpec : ChangeSpec := { name := "pintSpans", fn := fun _ => fun
  | [d1, d2, d3] => { results := [.lit (.bool true)], args := [d1, d2, d3] }
  | _ => none }
def pintSpansRow : OpenClaim := { program := "ytogglbhidlnijaa", sum := "287bfba6ea6d98aba71dc12f280489b36a065fbee2ab6e41709a249aacd64cde", func := "porringer/porringerlaw05.PintSpans", spec := "pintSpans", unfollowed := true, recurses := true, plainKeys := false, apart := false }
def PintSpansSaid : Prop := pintSpansRow.holds Try.pinned (OpenSpec.ofChange pintSpansSpec)

/-- ITS FALSE NEIGHBOUR: 'it returns false'. Refute it at one input. -/
def pintSpansWrong : ChangeSpec := { name := "pintSpans", fn := fun _ => fun
  | [d1, d2, d3] => { results := [.lit (.bool false)], args := [d1, d2, d3] }
  | _ => none }
def PintSpansWrongFalsely : Prop := pintSpansRow.holds Try.pinned (OpenSpec.ofChange pintSpansWrong)

/-- 'porringerlaw05.PintTruths': WHATEVER THE INPUT: true; the input reads as it did. -/
def pintTruthsSpec : ChangeSpec := { name := "pintTruths", fn := fun _ => fun
  | [d1, d2, d3] => { results := [.lit (.bool true)], args := [d1, d2, d3] }
  | _ => none }
def pintTruthsRow : OpenClaim := { program := "ytogglbhidlnijaa", sum := "287bfba6ea6d98aba71dc12f280489b36a065fbee2ab6e41709a249aacd64cde", func := "porringer/porringerlaw05.PintTruths", spec := "pintTruths", unfollowed := true, recurses := true, plainKeys := false, apart := false }
def PintTruthsSaid : Prop := pintTruthsRow.holds Try.pinned (OpenSpec.ofChange pintTruthsSpec)

/-- ITS FALSE NEIGHBOUR: 'it returns false'. Refute it at one input. -/
def pintTruthsWrong : ChangeSpec := { name := "pintTruths", fn := fun _ => fun
  | [d1, d2, d3] => { results := [.lit (.bool false)], args := [d1, d2, d3] }
  | _ => none }
def PintTruthsWrongFalsely : Prop := pintTruthsRow.holds Try.pinned (OpenSpec.ofChange pintTruthsWrong)

/-- 'porringerlaw05.PintProved': WHATEVER THE INPUT: true; the input reads as it did. -/
def pintProvedSpec : ChangeSpec := { name := "pintProved", fn := fun _ => fun
  | [d1, d2, d3, d4, d5] => { results := [.lit (.bool true)], args := [d1, d2, d3, d4, d5] }
  | _ => none }
def pintProvedRow : OpenClaim := { program := "ytogglbhidlnijaa", sum := "287bfba6ea6d98aba71dc12f280489b36a065fbee2ab6e41709a249aacd64cde", func := "porringer/porringerlaw05.PintProved", spec := "pintProved", unfollowed := true, recurses := true, plainKeys := false, apart := false }
def PintProvedSaid : Prop := pintProvedRow.holds Try.pinned (OpenSpec.ofChange pintProvedSpec)

/-- ITS FALSE NEIGHBOUR: 'it returns false'. Refute it at one input. -/
def pintProvedWrong : ChangeSpec := { name := "pintProved", fn := fun _ => fun
  | [d1, d2, d3, d4, d5] => { results := [.lit (.bool false)], args := [d1, d2, d3, d4, d5] }
  | _ => none }
def PintProvedWrongFalsely : Prop := pintProvedRow.holds Try.pinned (OpenSpec.ofChange pintProvedWrong)

/-- 'porringerlaw05.PintPools': WHATEVER THE INPUT: true; the input reads as it did. -/
def pintPoolsSpec : ChangeSpec := { name := "pintPools", fn := fun _ => fun
  | [d1, d2] => { results := [.lit (.bool true)], args := [d1, d2] }
  | _ => none }
def pintPoolsRow : OpenClaim := { program := "ytogglbhidlnijaa", sum := "287bfba6ea6d98aba71dc12f280489b36a065fbee2ab6e41709a249aacd64cde", func := "porringer/porringerlaw05.PintPools", spec := "pintPools", unfollowed := true, recurses := true, plainKeys := false, apart := false }
def PintPoolsSaid : Prop := pintPoolsRow.holds Try.pinned (OpenSpec.ofChange pintPoolsSpec)

/-- ITS FALSE NEIGHBOUR: 'it returns false'. Refute it at one input. -/
def pintPoolsWrong : ChangeSpec := { name := "pintPools", fn := fun _ => fun
  | [d1, d2] => { results := [.lit (.bool false)], args := [d1, d2] }
  | _ => none }
def PintPoolsWrongFalsely : Prop := pintPoolsRow.holds Try.pinned (OpenSpec.ofChange pintPoolsWrong)

/-- 'porringerlaw05.PintTurned': WHATEVER THE INPUT: true; the input reads as it did. -/
def pintTurnedSpec : ChangeSpec := { name := "pintTurned", fn := fun _ => fun
  | [d1, d2, d3] => { results := [.lit (.bool true)], args := [d1, d2, d3] }
  | _ => none }
def pintTurnedRow : OpenClaim := { program := "ytogglbhidlnijaa", sum := "287bfba6ea6d98aba71dc12f280489b36a065fbee2ab6e41709a249aacd64cde", func := "porringer/porringerlaw05.PintTurned", spec := "pintTurned", unfollowed := true, recurses := true, plainKeys := false, apart := false }
def PintTurnedSaid : Prop := pintTurnedRow.holds Try.pinned (OpenSpec.ofChange pintTurnedSpec)

/-- ITS FALSE NEIGHBOUR: 'it returns false'. Refute it at one input. -/
def pintTurnedWrong : ChangeSpec := { name := "pintTurned", fn := fun _ => fun
  | [d1, d2, d3] => { results := [.lit (.bool false)], args := [d1, d2, d3] }
  | _ => none }
def PintTurnedWrongFalsely : Prop := pintTurnedRow.holds Try.pinned (OpenSpec.ofChange pintTurnedWrong)

/-- 'porringerlaw05.PintGrown': WHATEVER THE INPUT: true; the input reads as it did. -/
def pintGrownSpec : ChangeSpec := { name := "pintGrown", fn := fun _ => fun
  | [d1, d2, d3, d4] => { results := [.lit (.bool true)], args := [d1, d2, d3, d4] }
  | _ => none }
def pintGrownRow : OpenClaim := { program := "ytogglbhidlnijaa", sum := "287bfba6ea6d98aba71dc12f280489b36a065fbee2ab6e41709a249aacd64cde", func := "porringer/porringerlaw05.PintGrown", spec := "pintGrown", unfollowed := true, recurses := true, plainKeys := false, apart := false }
def PintGrownSaid : Prop := pintGrownRow.holds Try.pinned (OpenSpec.ofChange pintGrownSpec)

/-- ITS FALSE NEIGHBOUR: 'it returns false'. Refute it at one input. -/
def pintGrownWrong : ChangeSpec := { name := "pintGrown", fn := fun _ => fun
  | [d1, d2, d3, d4] => { results := [.lit (.bool false)], args := [d1, d2, d3, d4] }
  | _ => none }
def PintGrownWrongFalsely : Prop := pintGrownRow.holds Try.pinned (OpenSpec.ofChange pintGrownWrong)

/-- 'porringerlaw05.PintSides': WHATEVER THE INPUT: true; the input reads as it did. -/
def pintSidesSpec : ChangeSpec := { name := "pintSides", fn := fun _ => fun
  | [d1, d2, d3, d4] => { results := [.lit (.bool true)], args := [d1, d2, d3, d4] }
  | _ => none }
def pintSidesRow : OpenClaim := { program := "ytogglbhidlnijaa", sum := "287bfba6ea6d98aba71dc12f280489b36a065fbee2ab6e41709a249aacd64cde", func := "porringer/porringerlaw05.PintSides", spec := "pintSides", unfollowed := true, recurses := true, plainKeys := false, apart := false }
def PintSidesSaid : Prop := pintSidesRow.holds Try.pinned (OpenSpec.ofChange pintSidesSpec)

/-- ITS FALSE NEIGHBOUR: 'it returns false'. Refute it at one input. -/
def pintSidesWrong : ChangeSpec := { name := "pintSides", fn := fun _ => fun
  | [d1, d2, d3, d4] => { results := [.lit (.bool false)], args := [d1, d2, d3, d4] }
  | _ => none }
def PintSidesWrongFalsely : Prop := pintSidesRow.holds Try.pinned (OpenSpec.ofChange pintSidesWrong)

/-- 'porringerlaw05.PintBest': WHATEVER THE INPUT: true; the input reads as it did. -/
def pintBestSpec : ChangeSpec := { name := "pintBest", fn := fun _ => fun
  | [d1, d2, d3] => { results := [.lit (.bool true)], args := [d1, d2, d3] }
  | _ => none }
def pintBestRow : OpenClaim := { program := "ytogglbhidlnijaa", sum := "287bfba6ea6d98aba71dc12f280489b36a065fbee2ab6e41709a249aacd64cde", func := "porringer/porringerlaw05.PintBest", spec := "pintBest", unfollowed := true, recurses := true, plainKeys := false, apart := false }
def PintBestSaid : Prop := pintBestRow.holds Try.pinned (OpenSpec.ofChange pintBestSpec)

/-- ITS FALSE NEIGHBOUR: 'it returns false'. Refute it at one input. -/
def pintBestWrong : ChangeSpec := { name := "pintBest", fn := fun _ => fun
  | [d1, d2, d3] => { results := [.lit (.bool false)], args := [d1, d2, d3] }
  | _ => none }
def PintBestWrongFalsely : Prop := pintBestRow.holds Try.pinned (OpenSpec.ofChange pintBestWrong)

/-- 'porringerlaw05.PintHeld': WHATEVER THE INPUT: true; the input reads as it did. -/
def pintHeldSpec : ChangeSpec := { name := "pintHeld", fn := fun _ => fun
  | [d1, d2, d3, d4] => { results := [.lit (.bool true)], args := [d1, d2, d3, d4] }
  | _ => none }
def pintHeldRow : OpenClaim := { program := "ytogglbhidlnijaa", sum := "287bfba6ea6d98aba71dc12f280489b36a065fbee2ab6e41709a249aacd64cde", func := "porringer/porringerlaw05.PintHeld", spec := "pintHeld", unfollowed := true, recurses := true, plainKeys := false, apart := false }
def PintHeldSaid : Prop := pintHeldRow.holds Try.pinned (OpenSpec.ofChange pintHeldSpec)

/-- ITS FALSE NEIGHBOUR: 'it returns false'. Refute it at one input. -/
def pintHeldWrong : ChangeSpec := { name := "pintHeld", fn := fun _ => fun
  | [d1, d2, d3, d4] => { results := [.lit (.bool false)], args := [d1, d2, d3, d4] }
  | _ => none }
def PintHeldWrongFalsely : Prop := pintHeldRow.holds Try.pinned (OpenSpec.ofChange pintHeldWrong)

/-- 'porringerlaw05.PintSealed': WHATEVER THE INPUT: true; the input reads as it did. -/
def pintSealedSpec : ChangeSpec := { name := "pintSealed", fn := fun _ => fun
  | [d1, d2, d3, d4, d5] => { results := [.lit (.bool true)], args := [d1, d2, d3, d4, d5] }
  | _ => none }
def pintSealedRow : OpenClaim := { program := "ytogglbhidlnijaa", sum := "287bfba6ea6d98aba71dc12f280489b36a065fbee2ab6e41709a249aacd64cde", func := "porringer/porringerlaw05.PintSealed", spec := "pintSealed", unfollowed := true, recurses := true, plainKeys := false, apart := false }
def PintSealedSaid : Prop := pintSealedRow.holds Try.pinned (OpenSpec.ofChange pintSealedSpec)

/-- ITS FALSE NEIGHBOUR: 'it returns false'. Refute it at one input. -/
def pintSealedWrong : ChangeSpec := { name := "pintSealed", fn := fun _ => fun
  | [d1, d2, d3, d4, d5] => { results := [.lit (.bool false)], args := [d1, d2, d3, d4, d5] }
  | _ => none }
def PintSealedWrongFalsely : Prop := pintSealedRow.holds Try.pinned (OpenSpec.ofChange pintSealedWrong)

/-- 'porringerlaw05.PintFlat': WHATEVER THE INPUT: true; the input reads as it did. -/
def pintFlatSpec : ChangeSpec := { name := "pintFlat", fn := fun _ => fun
  | [d1, d2, d3, d4] => { results := [.lit (.bool true)], args := [d1, d2, d3, d4] }
  | _ => none }
def pintFlatRow : OpenClaim := { program := "ytogglbhidlnijaa", sum := "287bfba6ea6d98aba71dc12f280489b36a065fbee2ab6e41709a249aacd64cde", func := "porringer/porringerlaw05.PintFlat", spec := "pintFlat", unfollowed := true, recurses := true, plainKeys := false, apart := false }
def PintFlatSaid : Prop := pintFlatRow.holds Try.pinned (OpenSpec.ofChange pintFlatSpec)

/-- ITS FALSE NEIGHBOUR: 'it returns false'. Refute it at one input. -/
def pintFlatWrong : ChangeSpec := { name := "pintFlat", fn := fun _ => fun
  | [d1, d2, d3, d4] => { results := [.lit (.bool false)], args := [d1, d2, d3, d4] }
  | _ => none }
def PintFlatWrongFalsely : Prop := pintFlatRow.holds Try.pinned (OpenSpec.ofChange pintFlatWrong)

/-- 'porringerlaw05.PintKnown': WHATEVER THE INPUT: true; the input reads as it did. -/
def pintKnownSpec : ChangeSpec := { name := "pintKnown", fn := fun _ => fun
  | [] => { results := [.lit (.bool true)], args := [] }
  | _ => none }
def pintKnownRow : OpenClaim := { program := "ytogglbhidlnijaa", sum := "287bfba6ea6d98aba71dc12f280489b36a065fbee2ab6e41709a249aacd64cde", func := "porringer/porringerlaw05.PintKnown", spec := "pintKnown", unfollowed := true, recurses := true, plainKeys := false, apart := false }
def PintKnownSaid : Prop := pintKnownRow.holds Try.pinned (OpenSpec.ofChange pintKnownSpec)

/-- ITS FALSE NEIGHBOUR: 'it returns false'. Refute it at one input. -/
def pintKnownWrong : ChangeSpec := { name := "pintKnown", fn := fun _ => fun
  | [] => { results := [.lit (.bool false)], args := [] }
  | _ => none }
def PintKnownWrongFalsely : Prop := pintKnownRow.holds Try.pinned (OpenSpec.ofChange pintKnownWrong)

/- THE SECOND FORM. 'bulk': how many values and letters a reading holds, each counted each time it is reached (what is shared counts as often as it is met; a slice's spare places count too). A statement '..UptoSaid' is the law's where the arguments, and the package variables that the reading takes, are together of bulk at most 1048576: NARROWER than '..Said'. Prove '..Said' where nothing that the law and all that it calls make is longer than what came in: it says more and counts as full. Else prove '..UptoSaid'. A law counts once. -/
mutual
def uptoBulk {H : Type} : DataW H → Nat
  | .lit (.string bytes) => bytes.length + 1
  | .lit _ => 1
  | .nil => 1
  | .ptr d => uptoBulk d + 1
  | .slice elems spare => uptoBulkAll elems + uptoBulkAll spare + 1
  | .agg parts => uptoBulkAll parts + 1
  | .iface _ d => uptoBulk d + 1
  | .map entries => uptoBulkEntries entries + 1
  | .held _ => 1
def uptoBulkAll {H : Type} : List (DataW H) → Nat
  | [] => 0
  | d :: r => uptoBulk d + uptoBulkAll r
def uptoBulkEntries {H : Type} : List (Lit × DataW H) → Nat
  | [] => 0
  | x :: r => uptoBulkEntry x + uptoBulkEntries r
def uptoBulkEntry {H : Type} : Lit × DataW H → Nat
  | (.string bytes, d) => bytes.length + uptoBulk d + 1
  | (_, d) => uptoBulk d + 1
 end
def uptoSmall : (H : Type) → List (DataW H) → Bool := fun _ ds => decide (uptoBulkAll ds ≤ 1048576)
def OpenSpec.upto (s : _root_.Go.ChangeSpec) : _root_.Go.OpenSpec := { _root_.Go.OpenSpec.ofChange s with cond := some uptoSmall }

/-- 'porringerlaw05.PintMeasures', WHERE WHAT IT READS IS OF BULK AT MOST 1048576: true; the input reads as it did. -/
def pintMeasuresUptoRow : OpenClaim := { program := "ytogglbhidlnijaa", sum := "287bfba6ea6d98aba71dc12f280489b36a065fbee2ab6e41709a249aacd64cde", func := "porringer/porringerlaw05.PintMeasures", spec := "pintMeasures", unfollowed := true, recurses := true, plainKeys := false, apart := false, narrowed := true }
def PintMeasuresUptoSaid : Prop := pintMeasuresUptoRow.holds Try.pinned (OpenSpec.upto pintMeasuresSpec)

/-- 'porringerlaw05.PintProofs', WHERE WHAT IT READS IS OF BULK AT MOST 1048576: true; the input reads as it did. -/
def pintProofsUptoRow : OpenClaim := { program := "ytogglbhidlnijaa", sum := "287bfba6ea6d98aba71dc12f280489b36a065fbee2ab6e41709a249aacd64cde", func := "porringer/porringerlaw05.PintProofs", spec := "pintProofs", unfollowed := true, recurses := true, plainKeys := false, apart := false, narrowed := true }
def PintProofsUptoSaid : Prop := pintProofsUptoRow.holds Try.pinned (OpenSpec.upto pintProofsSpec)

/-- 'porringerlaw05.PintSpans', WHERE WHAT IT READS IS OF BULK AT MOST 1048576: true; the input reads as it did. -/
def pintSpansUptoRow : OpenClaim := { program := "ytogglbhidlnijaa", sum := "287bfba6ea6d98aba71dc12f280489b36a065fbee2ab6e41709a249aacd64cde", func := "porringer/porringerlaw05.PintSpans", spec := "pintSpans", unfollowed := true, recurses := true, plainKeys := false, apart := false, narrowed := true }
def PintSpansUptoSaid : Prop := pintSpansUptoRow.holds Try.pinned (OpenSpec.upto pintSpansSpec)

/-- 'porringerlaw05.PintTruths', WHERE WHAT IT READS IS OF BULK AT MOST 1048576: true; the input reads as it did. -/
def pintTruthsUptoRow : OpenClaim := { program := "ytogglbhidlnijaa", sum := "287bfba6ea6d98aba71dc12f280489b36a065fbee2ab6e41709a249aacd64cde", func := "porringer/porringerlaw05.PintTruths", spec := "pintTruths", unfollowed := true, recurses := true, plainKeys := false, apart := false, narrowed := true }
def PintTruthsUptoSaid : Prop := pintTruthsUptoRow.holds Try.pinned (OpenSpec.upto pintTruthsSpec)

/-- 'porringerlaw05.PintProved', WHERE WHAT IT READS IS OF BULK AT MOST 1048576: true; the input reads as it did. -/
def pintProvedUptoRow : OpenClaim := { program := "ytogglbhidlnijaa", sum := "287bfba6ea6d98aba71dc12f280489b36a065fbee2ab6e41709a249aacd64cde", func := "porringer/porringerlaw05.PintProved", spec := "pintProved", unfollowed := true, recurses := true, plainKeys := false, apart := false, narrowed := true }
def PintProvedUptoSaid : Prop := pintProvedUptoRow.holds Try.pinned (OpenSpec.upto pintProvedSpec)

/-- 'porringerlaw05.PintPools', WHERE WHAT IT READS IS OF BULK AT MOST 1048576: true; the input reads as it did. -/
def pintPoolsUptoRow : OpenClaim := { program := "ytogglbhidlnijaa", sum := "287bfba6ea6d98aba71dc12f280489b36a065fbee2ab6e41709a249aacd64cde", func := "porringer/porringerlaw05.PintPools", spec := "pintPools", unfollowed := true, recurses := true, plainKeys := false, apart := false, narrowed := true }
def PintPoolsUptoSaid : Prop := pintPoolsUptoRow.holds Try.pinned (OpenSpec.upto pintPoolsSpec)

/-- 'porringerlaw05.PintTurned', WHERE WHAT IT READS IS OF BULK AT MOST 1048576: true; the input reads as it did. -/
def pintTurnedUptoRow : OpenClaim := { program := "ytogglbhidlnijaa", sum := "287bfba6ea6d98aba71dc12f280489b36a065fbee2ab6e41709a249aacd64cde", func := "porringer/porringerlaw05.PintTurned", spec := "pintTurned", unfollowed := true, recurses := true, plainKeys := false, apart := false, narrowed := true }
def PintTurnedUptoSaid : Prop := pintTurnedUptoRow.holds Try.pinned (OpenSpec.upto pintTurnedSpec)

/-- 'porringerlaw05.PintGrown', WHERE WHAT IT READS IS OF BULK AT MOST 1048576: true; the input reads as it did. -/
def pintGrownUptoRow : OpenClaim := { program := "ytogglbhidlnijaa", sum := "287bfba6ea6d98aba71dc12f280489b36a065fbee2ab6e41709a249aacd64cde", func := "porringer/porringerlaw05.PintGrown", spec := "pintGrown", unfollowed := true, recurses := true, plainKeys := false, apart := false, narrowed := true }
def PintGrownUptoSaid : Prop := pintGrownUptoRow.holds Try.pinned (OpenSpec.upto pintGrownSpec)

/-- 'porringerlaw05.PintSides', WHERE WHAT IT READS IS OF BULK AT MOST 1048576: true; the input reads as it did. -/
def pintSidesUptoRow : OpenClaim := { program := "ytogglbhidlnijaa", sum := "287bfba6ea6d98aba71dc12f280489b36a065fbee2ab6e41709a249aacd64cde", func := "porringer/porringerlaw05.PintSides", spec := "pintSides", unfollowed := true, recurses := true, plainKeys := false, apart := false, narrowed := true }
def PintSidesUptoSaid : Prop := pintSidesUptoRow.holds Try.pinned (OpenSpec.upto pintSidesSpec)

/-- 'porringerlaw05.PintBest', WHERE WHAT IT READS IS OF BULK AT MOST 1048576: true; the input reads as it did. -/
def pintBestUptoRow : OpenClaim := { program := "ytogglbhidlnijaa", sum := "287bfba6ea6d98aba71dc12f280489b36a065fbee2ab6e41709a249aacd64cde", func := "porringer/porringerlaw05.PintBest", spec := "pintBest", unfollowed := true, recurses := true, plainKeys := false, apart := false, narrowed := true }
def PintBestUptoSaid : Prop := pintBestUptoRow.holds Try.pinned (OpenSpec.upto pintBestSpec)

/-- 'porringerlaw05.PintHeld', WHERE WHAT IT READS IS OF BULK AT MOST 1048576: true; the input reads as it did. -/
def pintHeldUptoRow : OpenClaim := { program := "ytogglbhidlnijaa", sum := "287bfba6ea6d98aba71dc12f280489b36a065fbee2ab6e41709a249aacd64cde", func := "porringer/porringerlaw05.PintHeld", spec := "pintHeld", unfollowed := true, recurses := true, plainKeys := false, apart := false, narrowed := true }
def PintHeldUptoSaid : Prop := pintHeldUptoRow.holds Try.pinned (OpenSpec.upto pintHeldSpec)

/-- 'porringerlaw05.PintSealed', WHERE WHAT IT READS IS OF BULK AT MOST 1048576: true; the input reads as it did. -/
def pintSealedUptoRow : OpenClaim := { program := "ytogglbhidlnijaa", sum := "287bfba6ea6d98aba71dc12f280489b36a065fbee2ab6e41709a249aacd64cde", func := "porringer/porringerlaw05.PintSealed", spec := "pintSealed", unfollowed := true, recurses := true, plainKeys := false, apart := false, narrowed := true }
def PintSealedUptoSaid : Prop := pintSealedUptoRow.holds Try.pinned (OpenSpec.upto pintSealedSpec)

/-- 'porringerlaw05.PintFlat', WHERE WHAT IT READS IS OF BULK AT MOST 1048576: true; the input reads as it did. -/
def pintFlatUptoRow : OpenClaim := { program := "ytogglbhidlnijaa", sum := "287bfba6ea6d98aba71dc12f280489b36a065fbee2ab6e41709a249aacd64cde", func := "porringer/porringerlaw05.PintFlat", spec := "pintFlat", unfollowed := true, recurses := true, plainKeys := false, apart := false, narrowed := true }
def PintFlatUptoSaid : Prop := pintFlatUptoRow.holds Try.pinned (OpenSpec.upto pintFlatSpec)

/-- 'porringerlaw05.PintKnown', WHERE WHAT IT READS IS OF BULK AT MOST 1048576: true; the input reads as it did. -/
def pintKnownUptoRow : OpenClaim := { program := "ytogglbhidlnijaa", sum := "287bfba6ea6d98aba71dc12f280489b36a065fbee2ab6e41709a249aacd64cde", func := "porringer/porringerlaw05.PintKnown", spec := "pintKnown", unfollowed := true, recurses := true, plainKeys := false, apart := false, narrowed := true }
def PintKnownUptoSaid : Prop := pintKnownUptoRow.holds Try.pinned (OpenSpec.upto pintKnownSpec)

end Rows
end Go.Proofs.Ytogglbhidlnijaa
