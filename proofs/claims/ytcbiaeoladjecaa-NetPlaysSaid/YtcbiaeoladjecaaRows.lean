/-
  No cell of these rows narrows 'for every input' (looked for: loops, veiled, ifaces, maps, wideKeys, modest, calm, conditions, laid).
  DERIVED. THE GIVEN ROWS OF THIS SEAT. 6 by the template 'for every input the law returns true; each argument reads behind the call as it read before'; 0 by the template 'total and deterministic' (their statements: YtcbiaeoladjecaaTotals.lean).
  GIVEN WITH THE SEED: the statements are not yours to turn. If you find one false, say at which input.
  Laid BY PROGRAM, IN A SANDBOX (cutbox-rows.mjs): the forced cells as the released guide's own fill.sh prints them over the translation 79edbb84638c7b57… (all of the seat's roots in one cut). By AI agents, Wed Nov 11 2026. No macro, syntax, notation, axiom, sorry.
-/
import Derived.Test.YtcbiaeoladjecaaChecked
import GoSem.Claim
import GoSem.ClaimJoined
import GoSem.ClaimMapViews
import Derived.JoinedTies
import Derived.KernelRfl
namespace Go.Proofs.Ytcbiaeoladjecaa
/- THE CELL 'sum', in the pinned program and in every row, IS THE sha256 OF THE DUMP (.gsa) THAT YtcbiaeoladjecaaProg.lean LOADS. Nothing in Lean hashes anything: it is a label: what it is worth is what the hold of that sum in a sandbox is worth. -/
noncomputable def Try.pinned : Pinned := { name := "ytcbiaeoladjecaa", sum := "79edbb84638c7b572e7c53e808edfaa5c416c16db17036a4605456354da3f3f8", checked := Try.checked }
namespace Rows
def none {H : Type} : Left H := { results := [], args := [] }

/-- 'escapementlaw22.NetKnown': WHATEVER THE INPUT: true; the input reads as it did. -/
def netKnownSpec : ChangeSpec := { name := "netKnown", fn := fun _ => fun
  | [] => { results := [.lit (.bool true)], args := [] }
  | _ => none }
def netKnownRow : OpenClaim := { program := "ytcbiaeoladjecaa", sum := "79edbb84638c7b572e7c53e808edfaa5c416c16db17036a4605456354da3f3f8", func := "escapement/escapementlaw22.NetKnown", spec := "netKnown", unfollowed := true, recurses := true, apart := false }
def NetKnownSaid : Prop := netKnownRow.holds Try.pinned (OpenSpec.ofChange netKnownSpec)

/-- ITS FALSE NEIGHBOUR: 'it returns false'. Refute it at one input. -/
def netKnownWrong : ChangeSpec := { name := "netKnown", fn := fun _ => fun
  | [] => { results := [.lit (.bool false)], args := [] }
  | _ => none }
def NetKnownWrongFalsely : Prop := netKnownRow.holds Try.pinned (OpenSpec.ofChange netKnownWrong)

/-- 'escapementlaw22.NetPlays': WHATEVER THE INPUT: true; the input reads as it did. -/
def netPlaysSpec : ChangeSpec := { name := "netPlays", fn := fun _ => fun
  | [d] => { results := [.lit (.bool true)], args := [d] }
  | _ => none }
def netPlaysRow : OpenClaim := { program := "ytcbiaeoladjecaa", sum := "79edbb84638c7b572e7c53e808edfaa5c416c16db17036a4605456354da3f3f8", func := "escapement/escapementlaw22.NetPlays", spec := "netPlays", unfollowed := true, recurses := true, apart := false }
def NetPlaysSaid : Prop := netPlaysRow.holds Try.pinned (OpenSpec.ofChange netPlaysSpec)

/-- ITS FALSE NEIGHBOUR: 'it returns false'. Refute it at one input. -/
def netPlaysWrong : ChangeSpec := { name := "netPlays", fn := fun _ => fun
  | [d] => { results := [.lit (.bool false)], args := [d] }
  | _ => none }
def NetPlaysWrongFalsely : Prop := netPlaysRow.holds Try.pinned (OpenSpec.ofChange netPlaysWrong)

/-- 'escapementlaw22.NetMost': WHATEVER THE INPUT: true; the input reads as it did. -/
def netMostSpec : ChangeSpec := { name := "netMost", fn := fun _ => fun
  | [d] => { results := [.lit (.bool true)], args := [d] }
  | _ => none }
def netMostRow : OpenClaim := { program := "ytcbiaeoladjecaa", sum := "79edbb84638c7b572e7c53e808edfaa5c416c16db17036a4605456354da3f3f8", func := "escapement/escapementlaw22.NetMost", spec := "netMost", unfollowed := true, recurses := true, apart := false }
def NetMostSaid : Prop := netMostRow.holds Try.pinned (OpenSpec.ofChange netMostSpec)

/-- ITS FALSE NEIGHBOUR: 'it returns false'. Refute it at one input. -/
def netMostWrong : ChangeSpec := { name := "netMost", fn := fun _ => fun
  | [d] => { results := [.lit (.bool false)], args := [d] }
  | _ => none }
def NetMostWrongFalsely : Prop := netMostRow.holds Try.pinned (OpenSpec.ofChange netMostWrong)

/-- 'escapementlaw22.NetFirst': WHATEVER THE INPUT: true; the input reads as it did. -/
def netFirstSpec : ChangeSpec := { name := "netFirst", fn := fun _ => fun
  | [d] => { results := [.lit (.bool true)], args := [d] }
  | _ => none }
def netFirstRow : OpenClaim := { program := "ytcbiaeoladjecaa", sum := "79edbb84638c7b572e7c53e808edfaa5c416c16db17036a4605456354da3f3f8", func := "escapement/escapementlaw22.NetFirst", spec := "netFirst", unfollowed := true, recurses := true, apart := false }
def NetFirstSaid : Prop := netFirstRow.holds Try.pinned (OpenSpec.ofChange netFirstSpec)

/-- ITS FALSE NEIGHBOUR: 'it returns false'. Refute it at one input. -/
def netFirstWrong : ChangeSpec := { name := "netFirst", fn := fun _ => fun
  | [d] => { results := [.lit (.bool false)], args := [d] }
  | _ => none }
def NetFirstWrongFalsely : Prop := netFirstRow.holds Try.pinned (OpenSpec.ofChange netFirstWrong)

/-- 'escapementlaw22.NetNew': WHATEVER THE INPUT: true; the input reads as it did. -/
def netNewSpec : ChangeSpec := { name := "netNew", fn := fun _ => fun
  | [d] => { results := [.lit (.bool true)], args := [d] }
  | _ => none }
def netNewRow : OpenClaim := { program := "ytcbiaeoladjecaa", sum := "79edbb84638c7b572e7c53e808edfaa5c416c16db17036a4605456354da3f3f8", func := "escapement/escapementlaw22.NetNew", spec := "netNew", unfollowed := true, recurses := true, apart := false }
def NetNewSaid : Prop := netNewRow.holds Try.pinned (OpenSpec.ofChange netNewSpec)

/-- ITS FALSE NEIGHBOUR: 'it returns false'. Refute it at one input. -/
def netNewWrong : ChangeSpec := { name := "netNew", fn := fun _ => fun
  | [d] => { results := [.lit (.bool false)], args := [d] }
  | _ => none }
def NetNewWrongFalsely : Prop := netNewRow.holds Try.pinned (OpenSpec.ofChange netNewWrong)

/-- 'escapementlaw22.NetDoubles': WHATEVER THE INPUT: true; the input reads as it did. -/
def netDoublesSpec : ChangeSpec := { name := "netDoubles", fn := fun _ => fun
  | [d1, d2, d3] => { results := [.lit (.bool true)], args := [d1, d2, d3] }
  | _ => none }
def netDoublesRow : OpenClaim := { program := "ytcbiaeoladjecaa", sum := "79edbb84638c7b572e7c53e808edfaa5c416c16db17036a4605456354da3f3f8", func := "escapement/escapementlaw22.NetDoubles", spec := "netDoubles", unfollowed := true, recurses := true, apart := false }
def NetDoublesSaid : Prop := netDoublesRow.holds Try.pinned (OpenSpec.ofChange netDoublesSpec)

/-- ITS FALSE NEIGHBOUR: 'it returns false'. Refute it at one input. -/
def netDoublesWrong : ChangeSpec := { name := "netDoubles", fn := fun _ => fun
  | [d1, d2, d3] => { results := [.lit (.bool false)], args := [d1, d2, d3] }
  | _ => none }
def NetDoublesWrongFalsely : Prop := netDoublesRow.holds Try.pinned (OpenSpec.ofChange netDoublesWrong)

/- THE SECOND FORM. 'bulk': how many values and letters a reading holds, each counted each time it is reached (what is shared counts as often as it is met; a slice's spare places count too). A statement '..UptoSaid' is the law's where the arguments, and the package variables that the reading takes, are together of bulk at most 1048576: NARROWER than '..Said'. Prove '..Said' where nothing that the law and all that it calls make is longer than what came in: it says more and counts as full. Else prove '..UptoSaid'. A law counts once. -/
mutual
def uptoBulk {H : Type} : DataW H → Nat
  | .lit (.string bytes) => bytes.length + 1
  | .lit _ => 1
  | .nil => 1
  | .ptr d => uptoBulk d + 1
  | .slice elems spare => uptoBulkAll elems + uptoBulkAll spare + 1
  | .agg parts => uptoBulkAll parts + 1
  | .iface _ d => uptoBulk d + 1
  | .map entries => uptoBulkEntries entries + 1
  | .held _ => 1
def uptoBulkAll {H : Type} : List (DataW H) → Nat
  | [] => 0
  | d :: r => uptoBulk d + uptoBulkAll r
def uptoBulkEntries {H : Type} : List (Lit × DataW H) → Nat
  | [] => 0
  | x :: r => uptoBulkEntry x + uptoBulkEntries r
def uptoBulkEntry {H : Type} : Lit × DataW H → Nat
  | (.string bytes, d) => bytes.length + uptoBulk d + 1
  | (_, d) => uptoBulk d + 1
 end
def uptoSmall : (H : Type) → List (DataW H) → Bool := fun _ ds => decide (uptoBulkAll ds ≤ 1048576)
def OpenSpec.upto (s : _root_.Go.ChangeSpec) : _root_.Go.OpenSpec := { _root_.Go.OpenSpec.ofChange s with cond := some uptoSmall }

/-- 'escapementlaw22.NetKnown', WHERE WHAT IT READS IS OF BULK AT MOST 1048576: true; the input reads as it did. -/
def netKnownUptoRow : OpenClaim := { program := "ytcbiaeoladjecaa", sum := "79edbb84638c7b572e7c53e808edfaa5c416c16db17036a4605456354da3f3f8", func := "escapement/escapementlaw22.NetKnown", spec := "netKnown", unfollowed := true, recurses := true, apart := false, narrowed := true }
def NetKnownUptoSaid : Prop := netKnownUptoRow.holds Try.pinned (OpenSpec.upto netKnownSpec)

/-- 'escapementlaw22.NetPlays', WHERE WHAT IT READS IS OF BULK AT MOST 1048576: true; the input reads as it did. -/
def netPlaysUptoRow : OpenClaim := { program := "ytcbiaeoladjecaa", sum := "79edbb84638c7b572e7c53e808edfaa5c416c16db17036a4605456354da3f3f8", func := "escapement/escapementlaw22.NetPlays", spec := "netPlays", unfollowed := true, recurses := true, apart := false, narrowed := true }
def NetPlaysUptoSaid : Prop := netPlaysUptoRow.holds Try.pinned (OpenSpec.upto netPlaysSpec)

/-- 'escapementlaw22.NetMost', WHERE WHAT IT READS IS OF BULK AT MOST 1048576: true; the input reads as it did. -/
def netMostUptoRow : OpenClaim := { program := "ytcbiaeoladjecaa", sum := "79edbb84638c7b572e7c53e808edfaa5c416c16db17036a4605456354da3f3f8", func := "escapement/escapementlaw22.NetMost", spec := "netMost", unfollowed := true, recurses := true, apart := false, narrowed := true }
def NetMostUptoSaid : Prop := netMostUptoRow.holds Try.pinned (OpenSpec.upto netMostSpec)

/-- 'escapementlaw22.NetFirst', WHERE WHAT IT READS IS OF BULK AT MOST 1048576: true; the input reads as it did. -/
def netFirstUptoRow : OpenClaim := { program := "ytcbiaeoladjecaa", sum := "79edbb84638c7b572e7c53e808edfaa5c416c16db17036a4605456354da3f3f8", func := "escapement/escapementlaw22.NetFirst", spec := "netFirst", unfollowed := true, recurses := true, apart := false, narrowed := true }
def NetFirstUptoSaid : Prop := netFirstUptoRow.holds Try.pinned (OpenSpec.upto netFirstSpec)

/-- 'escapementlaw22.NetNew', WHERE WHAT IT READS IS OF BULK AT MOST 1048576: true; the input reads as it did. -/
def netNewUptoRow : OpenClaim := { program := "ytcbiaeoladjecaa", sum := "79edbb84638c7b572e7c53e808edfaa5c416c16db17036a4605456354da3f3f8", func := "escapement/escapementlaw22.NetNew", spec := "netNew", unfollowed := true, recurses := true, apart := false, narrowed := true }
def NetNewUptoSaid : Prop := netNewUptoRow.holds Try.pinned (OpenSpec.upto netNewSpec)

/-- 'escapementlaw22.NetDoubles', WHERE WHAT IT READS IS OF BULK AT MOST 1048576: true; the input reads as it did. -/
def netDoublesUptoRow : OpenClaim := { program := "ytcbiaeoladjecaa", sum := "79edbb84638c7b572e7c53e808edfaa5c416c16db17036a4605456354da3f3f8", func := "escapement/escapementlaw22.NetDoubles", spec := "netDoubles", unfollowed := true, recurses := true, apart := false, narrowed := true }
def NetDoublesUptoSaid : Prop := netDoublesUptoRow.holds Try.pinned (OpenSpec.upto netDoublesSpec)

end Rows
end Go.Proofs.Ytcbiaeoladjecaa
