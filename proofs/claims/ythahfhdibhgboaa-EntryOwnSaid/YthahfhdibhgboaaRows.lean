/-
  No cell of these rows narrows 'for every input' (looked for: loops, veiled, ifaces, maps, wideKeys, modest, calm, conditions, laid).
  DERIVED. THE GIVEN ROWS OF THIS SEAT. 16 by the template 'for every input the law returns true; each argument reads behind the call as it read before'; 0 by the template 'total and deterministic' (their statements: YthahfhdibhgboaaTotals.lean).
  GIVEN WITH THE SEED: the statements are not yours to turn. If you find one false, say at which input.
  Laid BY PROGRAM, IN A SANDBOX (cutbox-rows.mjs): the forced cells as the released guide's own fill.sh prints them over the translation 1014dd041d8af37c… (all of the seat's roots in one cut). By AI agents, Wed Nov 11 2026. No macro, syntax, notation, axiom, sorry.
-/
import Derived.Test.YthahfhdibhgboaaChecked
import GoSem.Claim
import GoSem.ClaimJoined
import GoSem.ClaimMapViews
import Derived.JoinedTies
import Derived.KernelRfl
namespace Go.Proofs.Ythahfhdibhgboaa
/- THE CELL 'sum', in the pinned program and in every row, IS THE sha256 OF THE DUMP (.gsa) THAT YthahfhdibhgboaaProg.lean LOADS. Nothing in Lean hashes anything: it is a label: what it is worth is what the hold of that sum in a sandbox is worth. -/
noncomputable def Try.pinned : Pinned := { name := "ythahfhdibhgboaa", sum := "1014dd041d8af37c770f900b2b69c1fd5e6ccdb9bf622ee8ed85548e5bb4387c", checked := Try.checked }
namespace Rows
def none {H : Type} : Left H := { results := [], args := [] }

/-- 'escritoirelaw01.WireLays': WHATEVER THE INPUT: true; the input reads as it did. -/
def wireLaysSpec : ChangeSpec := { name := "wireLays", fn := fun _ => fun
  | [d] => { results := [.lit (.bool true)], args := [d] }
  | _ => none }
def wireLaysRow : OpenClaim := { program := "ythahfhdibhgboaa", sum := "1014dd041d8af37c770f900b2b69c1fd5e6ccdb9bf622ee8ed85548e5bb4387c", func := "escritoire/escritoirelaw01.WireLays", spec := "wireLays", apart := false }
def WireLaysSaid : Prop := wireLaysRow.holds Try.pinned (OpenSpec.ofChange wireLaysSpec)

/-- ITS FALSE NEIGHBOUR: 'it returns false'. Refute it at one input. -/
def wireLaysWrong : ChangeSpec := { name := "wireLays", fn := fun _ => fun
  | [d] => { results := [.lit (.bool false)], args := [d] }
  | _ => none }
def WireLaysWrongFalsely : Prop := wireLaysRow.holds Try.pinned (OpenSpec.ofChange wireLaysWrong)

/-- 'escritoirelaw01.WireReads': WHATEVER THE INPUT: true; the input reads as it did. -/
def wireReadsSpec : ChangeSpec := { name := "wireReads", fn := fun _ => fun
  | [d1, d2] => { results := [.lit (.bool true)], args := [d1, d2] }
  | _ => none }
def wireReadsRow : OpenClaim := { program := "ythahfhdibhgboaa", sum := "1014dd041d8af37c770f900b2b69c1fd5e6ccdb9bf622ee8ed85548e5bb4387c", func := "escritoire/escritoirelaw01.WireReads", spec := "wireReads", apart := false }
def WireReadsSaid : Prop := wireReadsRow.holds Try.pinned (OpenSpec.ofChange wireReadsSpec)

/-- ITS FALSE NEIGHBOUR: 'it returns false'. Refute it at one input. -/
def wireReadsWrong : ChangeSpec := { name := "wireReads", fn := fun _ => fun
  | [d1, d2] => { results := [.lit (.bool false)], args := [d1, d2] }
  | _ => none }
def WireReadsWrongFalsely : Prop := wireReadsRow.holds Try.pinned (OpenSpec.ofChange wireReadsWrong)

/-- 'escritoirelaw01.WireBack': WHATEVER THE INPUT: true; the input reads as it did. -/
def wireBackSpec : ChangeSpec := { name := "wireBack", fn := fun _ => fun
  | [d1, d2] => { results := [.lit (.bool true)], args := [d1, d2] }
  | _ => none }
def wireBackRow : OpenClaim := { program := "ythahfhdibhgboaa", sum := "1014dd041d8af37c770f900b2b69c1fd5e6ccdb9bf622ee8ed85548e5bb4387c", func := "escritoire/escritoirelaw01.WireBack", spec := "wireBack", apart := false }
def WireBackSaid : Prop := wireBackRow.holds Try.pinned (OpenSpec.ofChange wireBackSpec)

/-- ITS FALSE NEIGHBOUR: 'it returns false'. Refute it at one input. -/
def wireBackWrong : ChangeSpec := { name := "wireBack", fn := fun _ => fun
  | [d1, d2] => { results := [.lit (.bool false)], args := [d1, d2] }
  | _ => none }
def WireBackWrongFalsely : Prop := wireBackRow.holds Try.pinned (OpenSpec.ofChange wireBackWrong)

/-- 'escritoirelaw01.WireSame': WHATEVER THE INPUT: true; the input reads as it did. -/
def wireSameSpec : ChangeSpec := { name := "wireSame", fn := fun _ => fun
  | [d1, d2] => { results := [.lit (.bool true)], args := [d1, d2] }
  | _ => none }
def wireSameRow : OpenClaim := { program := "ythahfhdibhgboaa", sum := "1014dd041d8af37c770f900b2b69c1fd5e6ccdb9bf622ee8ed85548e5bb4387c", func := "escritoire/escritoirelaw01.WireSame", spec := "wireSame", apart := false }
def WireSameSaid : Prop := wireSameRow.holds Try.pinned (OpenSpec.ofChange wireSameSpec)

/-- ITS FALSE NEIGHBOUR: 'it returns false'. Refute it at one input. -/
def wireSameWrong : ChangeSpec := { name := "wireSame", fn := fun _ => fun
  | [d1, d2] => { results := [.lit (.bool false)], args := [d1, d2] }
  | _ => none }
def WireSameWrongFalsely : Prop := wireSameRow.holds Try.pinned (OpenSpec.ofChange wireSameWrong)

/-- 'escritoirelaw01.WireKnown': WHATEVER THE INPUT: true; the input reads as it did. -/
def wireKnownSpec : ChangeSpec := { name := "wireKnown", fn := fun _ => fun
  | [] => { results := [.lit (.bool true)], args := [] }
  | _ => none }
def wireKnownRow : OpenClaim := { program := "ythahfhdibhgboaa", sum := "1014dd041d8af37c770f900b2b69c1fd5e6ccdb9bf622ee8ed85548e5bb4387c", func := "escritoire/escritoirelaw01.WireKnown", spec := "wireKnown", apart := false }
def WireKnownSaid : Prop := wireKnownRow.holds Try.pinned (OpenSpec.ofChange wireKnownSpec)

/-- ITS FALSE NEIGHBOUR: 'it returns false'. Refute it at one input. -/
def wireKnownWrong : ChangeSpec := { name := "wireKnown", fn := fun _ => fun
  | [] => { results := [.lit (.bool false)], args := [] }
  | _ => none }
def WireKnownWrongFalsely : Prop := wireKnownRow.holds Try.pinned (OpenSpec.ofChange wireKnownWrong)

/-- 'escritoirelaw05.EntryHeads': WHATEVER THE INPUT: true; the input reads as it did. -/
def entryHeadsSpec : ChangeSpec := { name := "entryHeads", fn := fun _ => fun
  | [d] => { results := [.lit (.bool true)], args := [d] }
  | _ => none }
def entryHeadsRow : OpenClaim := { program := "ythahfhdibhgboaa", sum := "1014dd041d8af37c770f900b2b69c1fd5e6ccdb9bf622ee8ed85548e5bb4387c", func := "escritoire/escritoirelaw05.EntryHeads", spec := "entryHeads", unfollowed := true, recurses := true, apart := false }
def EntryHeadsSaid : Prop := entryHeadsRow.holds Try.pinned (OpenSpec.ofChange entryHeadsSpec)

/-- ITS FALSE NEIGHBOUR: 'it returns false'. Refute it at one input. -/
def entryHeadsWrong : ChangeSpec := { name := "entryHeads", fn := fun _ => fun
  | [d] => { results := [.lit (.bool false)], args := [d] }
  | _ => none }
def EntryHeadsWrongFalsely : Prop := entryHeadsRow.holds Try.pinned (OpenSpec.ofChange entryHeadsWrong)

/-- 'escritoirelaw05.EntryOwn': WHATEVER THE INPUT: true; the input reads as it did. -/
def entryOwnSpec : ChangeSpec := { name := "entryOwn", fn := fun _ => fun
  | [d] => { results := [.lit (.bool true)], args := [d] }
  | _ => none }
def entryOwnRow : OpenClaim := { program := "ythahfhdibhgboaa", sum := "1014dd041d8af37c770f900b2b69c1fd5e6ccdb9bf622ee8ed85548e5bb4387c", func := "escritoire/escritoirelaw05.EntryOwn", spec := "entryOwn", unfollowed := true, recurses := true, apart := false }
def EntryOwnSaid : Prop := entryOwnRow.holds Try.pinned (OpenSpec.ofChange entryOwnSpec)

/-- ITS FALSE NEIGHBOUR: 'it returns false'. Refute it at one input. -/
def entryOwnWrong : ChangeSpec := { name := "entryOwn", fn := fun _ => fun
  | [d] => { results := [.lit (.bool false)], args := [d] }
  | _ => none }
def EntryOwnWrongFalsely : Prop := entryOwnRow.holds Try.pinned (OpenSpec.ofChange entryOwnWrong)

/-- 'escritoirelaw05.EntryMakes': WHATEVER THE INPUT: true; the input reads as it did. -/
def entryMakesSpec : ChangeSpec := { name := "entryMakes", fn := fun _ => fun
  | [d1, d2] => { results := [.lit (.bool true)], args := [d1, d2] }
  | _ => none }
def entryMakesRow : OpenClaim := { program := "ythahfhdibhgboaa", sum := "1014dd041d8af37c770f900b2b69c1fd5e6ccdb9bf622ee8ed85548e5bb4387c", func := "escritoire/escritoirelaw05.EntryMakes", spec := "entryMakes", unfollowed := true, recurses := true, apart := false }
def EntryMakesSaid : Prop := entryMakesRow.holds Try.pinned (OpenSpec.ofChange entryMakesSpec)

/-- ITS FALSE NEIGHBOUR: 'it returns false'. Refute it at one input. -/
def entryMakesWrong : ChangeSpec := { name := "entryMakes", fn := fun _ => fun
  | [d1, d2] => { results := [.lit (.bool false)], args := [d1, d2] }
  | _ => none }
def EntryMakesWrongFalsely : Prop := entryMakesRow.holds Try.pinned (OpenSpec.ofChange entryMakesWrong)

/-- 'escritoirelaw05.EntryTakes': WHATEVER THE INPUT: true; the input reads as it did. -/
def entryTakesSpec : ChangeSpec := { name := "entryTakes", fn := fun _ => fun
  | [d1, d2] => { results := [.lit (.bool true)], args := [d1, d2] }
  | _ => none }
def entryTakesRow : OpenClaim := { program := "ythahfhdibhgboaa", sum := "1014dd041d8af37c770f900b2b69c1fd5e6ccdb9bf622ee8ed85548e5bb4387c", func := "escritoire/escritoirelaw05.EntryTakes", spec := "entryTakes", unfollowed := true, recurses := true, apart := false }
def EntryTakesSaid : Prop := entryTakesRow.holds Try.pinned (OpenSpec.ofChange entryTakesSpec)

/-- ITS FALSE NEIGHBOUR: 'it returns false'. Refute it at one input. -/
def entryTakesWrong : ChangeSpec := { name := "entryTakes", fn := fun _ => fun
  | [d1, d2] => { results := [.lit (.bool false)], args := [d1, d2] }
  | _ => none }
def EntryTakesWrongFalsely : Prop := entryTakesRow.holds Try.pinned (OpenSpec.ofChange entryTakesWrong)

/-- 'escritoirelaw05.EntryBack': WHATEVER THE INPUT: true; the input reads as it did. -/
def entryBackSpec : ChangeSpec := { name := "entryBack", fn := fun _ => fun
  | [d1, d2, d3] => { results := [.lit (.bool true)], args := [d1, d2, d3] }
  | _ => none }
def entryBackRow : OpenClaim := { program := "ythahfhdibhgboaa", sum := "1014dd041d8af37c770f900b2b69c1fd5e6ccdb9bf622ee8ed85548e5bb4387c", func := "escritoire/escritoirelaw05.EntryBack", spec := "entryBack", unfollowed := true, recurses := true, apart := false }
def EntryBackSaid : Prop := entryBackRow.holds Try.pinned (OpenSpec.ofChange entryBackSpec)

/-- ITS FALSE NEIGHBOUR: 'it returns false'. Refute it at one input. -/
def entryBackWrong : ChangeSpec := { name := "entryBack", fn := fun _ => fun
  | [d1, d2, d3] => { results := [.lit (.bool false)], args := [d1, d2, d3] }
  | _ => none }
def EntryBackWrongFalsely : Prop := entryBackRow.holds Try.pinned (OpenSpec.ofChange entryBackWrong)

/-- 'escritoirelaw05.EntryKnown': WHATEVER THE INPUT: true; the input reads as it did. -/
def entryKnownSpec : ChangeSpec := { name := "entryKnown", fn := fun _ => fun
  | [] => { results := [.lit (.bool true)], args := [] }
  | _ => none }
def entryKnownRow : OpenClaim := { program := "ythahfhdibhgboaa", sum := "1014dd041d8af37c770f900b2b69c1fd5e6ccdb9bf622ee8ed85548e5bb4387c", func := "escritoire/escritoirelaw05.EntryKnown", spec := "entryKnown", unfollowed := true, recurses := true, apart := false }
def EntryKnownSaid : Prop := entryKnownRow.holds Try.pinned (OpenSpec.ofChange entryKnownSpec)

/-- ITS FALSE NEIGHBOUR: 'it returns false'. Refute it at one input. -/
def entryKnownWrong : ChangeSpec := { name := "entryKnown", fn := fun _ => fun
  | [] => { results := [.lit (.bool false)], args := [] }
  | _ => none }
def EntryKnownWrongFalsely : Prop := entryKnownRow.holds Try.pinned (OpenSpec.ofChange entryKnownWrong)

/-- 'escritoirelaw17.BundleNames': WHATEVER THE INPUT: true; the input reads as it did. -/
def bundleNamesSpec : ChangeSpec := { name := "bundleNames", fn := fun _ => fun
  | [d1, d2, d3] => { results := [.lit (.bool true)], args := [d1, d2, d3] }
  | _ => none }
def bundleNamesRow : OpenClaim := { program := "ythahfhdibhgboaa", sum := "1014dd041d8af37c770f900b2b69c1fd5e6ccdb9bf622ee8ed85548e5bb4387c", func := "escritoire/escritoirelaw17.BundleNames", spec := "bundleNames", unfollowed := true, recurses := true, apart := false }
def BundleNamesSaid : Prop := bundleNamesRow.holds Try.pinned (OpenSpec.ofChange bundleNamesSpec)

/-- ITS FALSE NEIGHBOUR: 'it returns false'. Refute it at one input. -/
def bundleNamesWrong : ChangeSpec := { name := "bundleNames", fn := fun _ => fun
  | [d1, d2, d3] => { results := [.lit (.bool false)], args := [d1, d2, d3] }
  | _ => none }
def BundleNamesWrongFalsely : Prop := bundleNamesRow.holds Try.pinned (OpenSpec.ofChange bundleNamesWrong)

/-- 'escritoirelaw17.BundleBytes': WHATEVER THE INPUT: true; the input reads as it did. -/
def bundleBytesSpec : ChangeSpec := { name := "bundleBytes", fn := fun _ => fun
  | [d1, d2] => { results := [.lit (.bool true)], args := [d1, d2] }
  | _ => none }
def bundleBytesRow : OpenClaim := { program := "ythahfhdibhgboaa", sum := "1014dd041d8af37c770f900b2b69c1fd5e6ccdb9bf622ee8ed85548e5bb4387c", func := "escritoire/escritoirelaw17.BundleBytes", spec := "bundleBytes", unfollowed := true, recurses := true, apart := false }
def BundleBytesSaid : Prop := bundleBytesRow.holds Try.pinned (OpenSpec.ofChange bundleBytesSpec)

/-- ITS FALSE NEIGHBOUR: 'it returns false'. Refute it at one input. -/
def bundleBytesWrong : ChangeSpec := { name := "bundleBytes", fn := fun _ => fun
  | [d1, d2] => { results := [.lit (.bool false)], args := [d1, d2] }
  | _ => none }
def BundleBytesWrongFalsely : Prop := bundleBytesRow.holds Try.pinned (OpenSpec.ofChange bundleBytesWrong)

/-- 'escritoirelaw17.BundleBack': WHATEVER THE INPUT: true; the input reads as it did. -/
def bundleBackSpec : ChangeSpec := { name := "bundleBack", fn := fun _ => fun
  | [d1, d2, d3, d4, d5] => { results := [.lit (.bool true)], args := [d1, d2, d3, d4, d5] }
  | _ => none }
def bundleBackRow : OpenClaim := { program := "ythahfhdibhgboaa", sum := "1014dd041d8af37c770f900b2b69c1fd5e6ccdb9bf622ee8ed85548e5bb4387c", func := "escritoire/escritoirelaw17.BundleBack", spec := "bundleBack", unfollowed := true, recurses := true, apart := false }
def BundleBackSaid : Prop := bundleBackRow.holds Try.pinned (OpenSpec.ofChange bundleBackSpec)

/-- ITS FALSE NEIGHBOUR: 'it returns false'. Refute it at one input. -/
def bundleBackWrong : ChangeSpec := { name := "bundleBack", fn := fun _ => fun
  | [d1, d2, d3, d4, d5] => { results := [.lit (.bool false)], args := [d1, d2, d3, d4, d5] }
  | _ => none }
def BundleBackWrongFalsely : Prop := bundleBackRow.holds Try.pinned (OpenSpec.ofChange bundleBackWrong)

/-- 'escritoirelaw17.BundleJoins': WHATEVER THE INPUT: true; the input reads as it did. -/
def bundleJoinsSpec : ChangeSpec := { name := "bundleJoins", fn := fun _ => fun
  | [d1, d2, d3] => { results := [.lit (.bool true)], args := [d1, d2, d3] }
  | _ => none }
def bundleJoinsRow : OpenClaim := { program := "ythahfhdibhgboaa", sum := "1014dd041d8af37c770f900b2b69c1fd5e6ccdb9bf622ee8ed85548e5bb4387c", func := "escritoire/escritoirelaw17.BundleJoins", spec := "bundleJoins", unfollowed := true, recurses := true, apart := false }
def BundleJoinsSaid : Prop := bundleJoinsRow.holds Try.pinned (OpenSpec.ofChange bundleJoinsSpec)

/-- ITS FALSE NEIGHBOUR: 'it returns false'. Refute it at one input. -/
def bundleJoinsWrong : ChangeSpec := { name := "bundleJoins", fn := fun _ => fun
  | [d1, d2, d3] => { results := [.lit (.bool false)], args := [d1, d2, d3] }
  | _ => none }
def BundleJoinsWrongFalsely : Prop := bundleJoinsRow.holds Try.pinned (OpenSpec.ofChange bundleJoinsWrong)

/-- 'escritoirelaw17.BundleKnown': WHATEVER THE INPUT: true; the input reads as it did. -/
def bundleKnownSpec : ChangeSpec := { name := "bundleKnown", fn := fun _ => fun
  | [] => { results := [.lit (.bool true)], args := [] }
  | _ => none }
def bundleKnownRow : OpenClaim := { program := "ythahfhdibhgboaa", sum := "1014dd041d8af37c770f900b2b69c1fd5e6ccdb9bf622ee8ed85548e5bb4387c", func := "escritoire/escritoirelaw17.BundleKnown", spec := "bundleKnown", unfollowed := true, recurses := true, apart := false }
def BundleKnownSaid : Prop := bundleKnownRow.holds Try.pinned (OpenSpec.ofChange bundleKnownSpec)

/-- ITS FALSE NEIGHBOUR: 'it returns false'. Refute it at one input. -/
def bundleKnownWrong : ChangeSpec := { name := "bundleKnown", fn := fun _ => fun
  | [] => { results := [.lit (.bool false)], args := [] }
  | _ => none }
def BundleKnownWrongFalsely : Prop := bundleKnownRow.holds Try.pinned (OpenSpec.ofChange bundleKnownWrong)

/- THE SECOND FORM. 'bulk': how many values and letters a reading holds, each counted each time it is reached (what is shared counts as often as it is met; a slice's spare places count too). A statement '..UptoSaid' is the law's where the arguments, and the package variables that the reading takes, are together of bulk at most 1048576: NARROWER than '..Said'. Prove '..Said' where nothing that the law and all that it calls make is longer than what came in: it says more and counts as full. Else prove '..UptoSaid'. A law counts once. -/
mutual
def uptoBulk {H : Type} : DataW H → Nat
  | .lit (.string bytes) => bytes.length + 1
  | .lit _ => 1
  | .nil => 1
  | .ptr d => uptoBulk d + 1
  | .slice elems spare => uptoBulkAll elems + uptoBulkAll spare + 1
  | .agg parts => uptoBulkAll parts + 1
  | .iface _ d => uptoBulk d + 1
  | .map entries => uptoBulkEntries entries + 1
  | .held _ => 1
def uptoBulkAll {H : Type} : List (DataW H) → Nat
  | [] => 0
  | d :: r => uptoBulk d + uptoBulkAll r
def uptoBulkEntries {H : Type} : List (Lit × DataW H) → Nat
  | [] => 0
  | x :: r => uptoBulkEntry x + uptoBulkEntries r
def uptoBulkEntry {H : Type} : Lit × DataW H → Nat
  | (.string bytes, d) => bytes.length + uptoBulk d + 1
  | (_, d) => uptoBulk d + 1
 end
def uptoSmall : (H : Type) → List (DataW H) → Bool := fun _ ds => decide (uptoBulkAll ds ≤ 1048576)
def OpenSpec.upto (s : _root_.Go.ChangeSpec) : _root_.Go.OpenSpec := { _root_.Go.OpenSpec.ofChange s with cond := some uptoSmall }

/-- 'escritoirelaw01.WireLays', WHERE WHAT IT READS IS OF BULK AT MOST 1048576: true; the input reads as it did. -/
def wireLaysUptoRow : OpenClaim := { program := "ythahfhdibhgboaa", sum := "1014dd041d8af37c770f900b2b69c1fd5e6ccdb9bf622ee8ed85548e5bb4387c", func := "escritoire/escritoirelaw01.WireLays", spec := "wireLays", apart := false, narrowed := true }
def WireLaysUptoSaid : Prop := wireLaysUptoRow.holds Try.pinned (OpenSpec.upto wireLaysSpec)

/-- 'escritoirelaw01.WireReads', WHERE WHAT IT READS IS OF BULK AT MOST 1048576: true; the input reads as it did. -/
def wireReadsUptoRow : OpenClaim := { program := "ythahfhdibhgboaa", sum := "1014dd041d8af37c770f900b2b69c1fd5e6ccdb9bf622ee8ed85548e5bb4387c", func := "escritoire/escritoirelaw01.WireReads", spec := "wireReads", apart := false, narrowed := true }
def WireReadsUptoSaid : Prop := wireReadsUptoRow.holds Try.pinned (OpenSpec.upto wireReadsSpec)

/-- 'escritoirelaw01.WireBack', WHERE WHAT IT READS IS OF BULK AT MOST 1048576: true; the input reads as it did. -/
def wireBackUptoRow : OpenClaim := { program := "ythahfhdibhgboaa", sum := "1014dd041d8af37c770f900b2b69c1fd5e6ccdb9bf622ee8ed85548e5bb4387c", func := "escritoire/escritoirelaw01.WireBack", spec := "wireBack", apart := false, narrowed := true }
def WireBackUptoSaid : Prop := wireBackUptoRow.holds Try.pinned (OpenSpec.upto wireBackSpec)

/-- 'escritoirelaw01.WireSame', WHERE WHAT IT READS IS OF BULK AT MOST 1048576: true; the input reads as it did. -/
def wireSameUptoRow : OpenClaim := { program := "ythahfhdibhgboaa", sum := "1014dd041d8af37c770f900b2b69c1fd5e6ccdb9bf622ee8ed85548e5bb4387c", func := "escritoire/escritoirelaw01.WireSame", spec := "wireSame", apart := false, narrowed := true }
def WireSameUptoSaid : Prop := wireSameUptoRow.holds Try.pinned (OpenSpec.upto wireSameSpec)

/-- 'escritoirelaw01.WireKnown', WHERE WHAT IT READS IS OF BULK AT MOST 1048576: true; the input reads as it did. -/
def wireKnownUptoRow : OpenClaim := { program := "ythahfhdibhgboaa", sum := "1014dd041d8af37c770f900b2b69c1fd5e6ccdb9bf622ee8ed85548e5bb4387c", func := "escritoire/escritoirelaw01.WireKnown", spec := "wireKnown", apart := false, narrowed := true }
def WireKnownUptoSaid : Prop := wireKnownUptoRow.holds Try.pinned (OpenSpec.upto wireKnownSpec)

/-- 'escritoirelaw05.EntryHeads', WHERE WHAT IT READS IS OF BULK AT MOST 1048576: true; the input reads as it did. -/
def entryHeadsUptoRow : OpenClaim := { program := "ythahfhdibhgboaa", sum := "1014dd041d8af37c770f900b2b69c1fd5e6ccdb9bf622ee8ed85548e5bb4387c", func := "escritoire/escritoirelaw05.EntryHeads", spec := "entryHeads", unfollowed := true, recurses := true, apart := false, narrowed := true }
def EntryHeadsUptoSaid : Prop := entryHeadsUptoRow.holds Try.pinned (OpenSpec.upto entryHeadsSpec)

/-- 'escritoirelaw05.EntryOwn', WHERE WHAT IT READS IS OF BULK AT MOST 1048576: true; the input reads as it did. -/
def entryOwnUptoRow : OpenClaim := { program := "ythahfhdibhgboaa", sum := "1014dd041d8af37c770f900b2b69c1fd5e6ccdb9bf622ee8ed85548e5bb4387c", func := "escritoire/escritoirelaw05.EntryOwn", spec := "entryOwn", unfollowed := true, recurses := true, apart := false, narrowed := true }
def EntryOwnUptoSaid : Prop := entryOwnUptoRow.holds Try.pinned (OpenSpec.upto entryOwnSpec)

/-- 'escritoirelaw05.EntryMakes', WHERE WHAT IT READS IS OF BULK AT MOST 1048576: true; the input reads as it did. -/
def entryMakesUptoRow : OpenClaim := { program := "ythahfhdibhgboaa", sum := "1014dd041d8af37c770f900b2b69c1fd5e6ccdb9bf622ee8ed85548e5bb4387c", func := "escritoire/escritoirelaw05.EntryMakes", spec := "entryMakes", unfollowed := true, recurses := true, apart := false, narrowed := true }
def EntryMakesUptoSaid : Prop := entryMakesUptoRow.holds Try.pinned (OpenSpec.upto entryMakesSpec)

/-- 'escritoirelaw05.EntryTakes', WHERE WHAT IT READS IS OF BULK AT MOST 1048576: true; the input reads as it did. -/
def entryTakesUptoRow : OpenClaim := { program := "ythahfhdibhgboaa", sum := "1014dd041d8af37c770f900b2b69c1fd5e6ccdb9bf622ee8ed85548e5bb4387c", func := "escritoire/escritoirelaw05.EntryTakes", spec := "entryTakes", unfollowed := true, recurses := true, apart := false, narrowed := true }
def EntryTakesUptoSaid : Prop := entryTakesUptoRow.holds Try.pinned (OpenSpec.upto entryTakesSpec)

/-- 'escritoirelaw05.EntryBack', WHERE WHAT IT READS IS OF BULK AT MOST 1048576: true; the input reads as it did. -/
def entryBackUptoRow : OpenClaim := { program := "ythahfhdibhgboaa", sum := "1014dd041d8af37c770f900b2b69c1fd5e6ccdb9bf622ee8ed85548e5bb4387c", func := "escritoire/escritoirelaw05.EntryBack", spec := "entryBack", unfollowed := true, recurses := true, apart := false, narrowed := true }
def EntryBackUptoSaid : Prop := entryBackUptoRow.holds Try.pinned (OpenSpec.upto entryBackSpec)

/-- 'escritoirelaw05.EntryKnown', WHERE WHAT IT READS IS OF BULK AT MOST 1048576: true; the input reads as it did. -/
def entryKnownUptoRow : OpenClaim := { program := "ythahfhdibhgboaa", sum := "1014dd041d8af37c770f900b2b69c1fd5e6ccdb9bf622ee8ed85548e5bb4387c", func := "escritoire/escritoirelaw05.EntryKnown", spec := "entryKnown", unfollowed := true, recurses := true, apart := false, narrowed := true }
def EntryKnownUptoSaid : Prop := entryKnownUptoRow.holds Try.pinned (OpenSpec.upto entryKnownSpec)

/-- 'escritoirelaw17.BundleNames', WHERE WHAT IT READS IS OF BULK AT MOST 1048576: true; the input reads as it did. -/
def bundleNamesUptoRow : OpenClaim := { program := "ythahfhdibhgboaa", sum := "1014dd041d8af37c770f900b2b69c1fd5e6ccdb9bf622ee8ed85548e5bb4387c", func := "escritoire/escritoirelaw17.BundleNames", spec := "bundleNames", unfollowed := true, recurses := true, apart := false, narrowed := true }
def BundleNamesUptoSaid : Prop := bundleNamesUptoRow.holds Try.pinned (OpenSpec.upto bundleNamesSpec)

/-- 'escritoirelaw17.BundleBytes', WHERE WHAT IT READS IS OF BULK AT MOST 1048576: true; the input reads as it did. -/
def bundleBytesUptoRow : OpenClaim := { program := "ythahfhdibhgboaa", sum := "1014dd041d8af37c770f900b2b69c1fd5e6ccdb9bf622ee8ed85548e5bb4387c", func := "escritoire/escritoirelaw17.BundleBytes", spec := "bundleBytes", unfollowed := true, recurses := true, apart := false, narrowed := true }
def BundleBytesUptoSaid : Prop := bundleBytesUptoRow.holds Try.pinned (OpenSpec.upto bundleBytesSpec)

/-- 'escritoirelaw17.BundleBack', WHERE WHAT IT READS IS OF BULK AT MOST 1048576: true; the input reads as it did. -/
def bundleBackUptoRow : OpenClaim := { program := "ythahfhdibhgboaa", sum := "1014dd041d8af37c770f900b2b69c1fd5e6ccdb9bf622ee8ed85548e5bb4387c", func := "escritoire/escritoirelaw17.BundleBack", spec := "bundleBack", unfollowed := true, recurses := true, apart := false, narrowed := true }
def BundleBackUptoSaid : Prop := bundleBackUptoRow.holds Try.pinned (OpenSpec.upto bundleBackSpec)

/-- 'escritoirelaw17.BundleJoins', WHERE WHAT IT READS IS OF BULK AT MOST 1048576: true; the input reads as it did. -/
def bundleJoinsUptoRow : OpenClaim := { program := "ythahfhdibhgboaa", sum := "1014dd041d8af37c770f900b2b69c1fd5e6ccdb9bf622ee8ed85548e5bb4387c", func := "escritoire/escritoirelaw17.BundleJoins", spec := "bundleJoins", unfollowed := true, recurses := true, apart := false, narrowed := true }
def BundleJoinsUptoSaid : Prop := bundleJoinsUptoRow.holds Try.pinned (OpenSpec.upto bundleJoinsSpec)

/-- 'escritoirelaw17.BundleKnown', WHERE WHAT IT READS IS OF BULK AT MOST 1048576: true; the input reads as it did. -/
def bundleKnownUptoRow : OpenClaim := { program := "ythahfhdibhgboaa", sum := "1014dd041d8af37c770f900b2b69c1fd5e6ccdb9bf622ee8ed85548e5bb4387c", func := "escritoire/escritoirelaw17.BundleKnown", spec := "bundleKnown", unfollowed := true, recurses := true, apart := false, narrowed := true }
def BundleKnownUptoSaid : Prop := bundleKnownUptoRow.holds Try.pinned (OpenSpec.upto bundleKnownSpec)

end Rows
end Go.Proofs.Ythahfhdibhgboaa
