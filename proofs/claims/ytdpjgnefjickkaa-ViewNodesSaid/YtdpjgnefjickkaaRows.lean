/-
  No cell of these rows narrows 'for every input' (looked for: loops, veiled, ifaces, maps, wideKeys, modest, calm, conditions, laid).
  DERIVED. THE GIVEN ROWS OF THIS SEAT. 3 by the template 'for every input the law returns true; each argument reads behind the call as it read before'; 0 by the template 'total and deterministic' (their statements: YtdpjgnefjickkaaTotals.lean).
  GIVEN WITH THE SEED: the statements are not yours to turn. If you find one false, say at which input.
  Laid BY PROGRAM, IN A SANDBOX (cutbox-rows.mjs): the forced cells as the released guide's own fill.sh prints them over the translation 3312d3bb8b1e561a… (all of the seat's roots in one cut). By AI agents, Wed Nov 11 2026. No macro, syntax, notation, axiom, sorry.
-/
import Derived.Test.YtdpjgnefjickkaaChecked
import GoSem.Claim
import GoSem.ClaimJoined
import GoSem.ClaimMapViews
import Derived.JoinedTies
import Derived.KernelRfl
namespace Go.Proofs.Ytdpjgnefjickkaa
/- THE CELL 'sum', in the pinned program and in every row, IS THE sha256 OF THE DUMP (.gsa) THAT YtdpjgnefjickkaaProg.lean LOADS. Nothing in Lean hashes anything: it is a label: what it is worth is what the hold of that sum in a sandbox is worth. -/
noncomputable def Try.pinned : Pinned := { name := "ytdpjgnefjickkaa", sum := "3312d3bb8b1e561a7920cda95416c96eeac9145e67eb90ae4bae23298f46e724", checked := Try.checked }
namespace Rows
def none {H : Type} : Left H := { results := [], args := [] }

/-- 'jackstaylaw23.ViewSame': WHATEVER THE INPUT: true; the input reads as it did. -/
def viewSameSpec : ChangeSpec := { name := "viewSame", fn := fun _ => fun
  | [d1, d2, d3] => { results := [.lit (.bool true)], args := [d1, d2, d3] }
  | _ => none }
def viewSameRow : OpenClaim := { program := "ytdpjgnefjickkaa", sum := "3312d3bb8b1e561a7920cda95416c96eeac9145e67eb90ae4bae23298f46e724", func := "jackstay/jackstaylaw23.ViewSame", spec := "viewSame", apart := false }
def ViewSameSaid : Prop := viewSameRow.holds Try.pinned (OpenSpec.ofChange viewSameSpec)

/-- ITS FALSE NEIGHBOUR: 'it returns false'. Refute it at one input. -/
def viewSameWrong : ChangeSpec := { name := "viewSame", fn := fun _ => fun
  | [d1, d2, d3] => { results := [.lit (.bool false)], args := [d1, d2, d3] }
  | _ => none }
def ViewSameWrongFalsely : Prop := viewSameRow.holds Try.pinned (OpenSpec.ofChange viewSameWrong)

/-- 'jackstaylaw23.ViewMerges': WHATEVER THE INPUT: true; the input reads as it did. -/
def viewMergesSpec : ChangeSpec := { name := "viewMerges", fn := fun _ => fun
  | [d1, d2, d3] => { results := [.lit (.bool true)], args := [d1, d2, d3] }
  | _ => none }
def viewMergesRow : OpenClaim := { program := "ytdpjgnefjickkaa", sum := "3312d3bb8b1e561a7920cda95416c96eeac9145e67eb90ae4bae23298f46e724", func := "jackstay/jackstaylaw23.ViewMerges", spec := "viewMerges", unfollowed := true, recurses := true, apart := false }
def ViewMergesSaid : Prop := viewMergesRow.holds Try.pinned (OpenSpec.ofChange viewMergesSpec)

/-- ITS FALSE NEIGHBOUR: 'it returns false'. Refute it at one input. -/
def viewMergesWrong : ChangeSpec := { name := "viewMerges", fn := fun _ => fun
  | [d1, d2, d3] => { results := [.lit (.bool false)], args := [d1, d2, d3] }
  | _ => none }
def ViewMergesWrongFalsely : Prop := viewMergesRow.holds Try.pinned (OpenSpec.ofChange viewMergesWrong)

/-- 'jackstaylaw23.ViewNodes': WHATEVER THE INPUT: true; the input reads as it did. -/
def viewNodesSpec : ChangeSpec := { name := "viewNodes", fn := fun _ => fun
  | [d1, d2] => { results := [.lit (.bool true)], args := [d1, d2] }
  | _ => none }
def viewNodesRow : OpenClaim := { program := "ytdpjgnefjickkaa", sum := "3312d3bb8b1e561a7920cda95416c96eeac9145e67eb90ae4bae23298f46e724", func := "jackstay/jackstaylaw23.ViewNodes", spec := "viewNodes", apart := false }
def ViewNodesSaid : Prop := viewNodesRow.holds Try.pinned (OpenSpec.ofChange viewNodesSpec)

/-- ITS FALSE NEIGHBOUR: 'it returns false'. Refute it at one input. -/
def viewNodesWrong : ChangeSpec := { name := "viewNodes", fn := fun _ => fun
  | [d1, d2] => { results := [.lit (.bool false)], args := [d1, d2] }
  | _ => none }
def ViewNodesWrongFalsely : Prop := viewNodesRow.holds Try.pinned (OpenSpec.ofChange viewNodesWrong)

/- THE SECOND FORM. 'bulk': how many values and letters a reading holds, each counted each time it is reached (what is shared counts as often as it is met; a slice's spare places count too). A statement '..UptoSaid' is the law's where the arguments, and the package variables that the reading takes, are together of bulk at most 1048576: NARROWER than '..Said'. Prove '..Said' where nothing that the law and all that it calls make is longer than what came in: it says more and counts as full. Else prove '..UptoSaid'. A law counts once. -/
mutual
def uptoBulk {H : Type} : DataW H → Nat
  | .lit (.string bytes) => bytes.length + 1
  | .lit _ => 1
  | .nil => 1
  | .ptr d => uptoBulk d + 1
  | .slice elems spare => uptoBulkAll elems + uptoBulkAll spare + 1
  | .agg parts => uptoBulkAll parts + 1
  | .iface _ d => uptoBulk d + 1
  | .map entries => uptoBulkEntries entries + 1
  | .held _ => 1
def uptoBulkAll {H : Type} : List (DataW H) → Nat
  | [] => 0
  | d :: r => uptoBulk d + uptoBulkAll r
def uptoBulkEntries {H : Type} : List (Lit × DataW H) → Nat
  | [] => 0
  | x :: r => uptoBulkEntry x + uptoBulkEntries r
def uptoBulkEntry {H : Type} : Lit × DataW H → Nat
  | (.string bytes, d) => bytes.length + uptoBulk d + 1
  | (_, d) => uptoBulk d + 1
 end
def uptoSmall : (H : Type) → List (DataW H) → Bool := fun _ ds => decide (uptoBulkAll ds ≤ 1048576)
def OpenSpec.upto (s : _root_.Go.ChangeSpec) : _root_.Go.OpenSpec := { _root_.Go.OpenSpec.ofChange s with cond := some uptoSmall }

/-- 'jackstaylaw23.ViewSame', WHERE WHAT IT READS IS OF BULK AT MOST 1048576: true; the input reads as it did. -/
def viewSameUptoRow : OpenClaim := { program := "ytdpjgnefjickkaa", sum := "3312d3bb8b1e561a7920cda95416c96eeac9145e67eb90ae4bae23298f46e724", func := "jackstay/jackstaylaw23.ViewSame", spec := "viewSame", apart := false, narrowed := true }
def ViewSameUptoSaid : Prop := viewSameUptoRow.holds Try.pinned (OpenSpec.upto viewSameSpec)

/-- 'jackstaylaw23.ViewMerges', WHERE WHAT IT READS IS OF BULK AT MOST 1048576: true; the input reads as it did. -/
def viewMergesUptoRow : OpenClaim := { program := "ytdpjgnefjickkaa", sum := "3312d3bb8b1e561a7920cda95416c96eeac9145e67eb90ae4bae23298f46e724", func := "jackstay/jackstaylaw23.ViewMerges", spec := "viewMerges", unfollowed := true, recurses := true, apart := false, narrowed := true }
def ViewMergesUptoSaid : Prop := viewMergesUptoRow.holds Try.pinned (OpenSpec.upto viewMergesSpec)

/-- 'jackstaylaw23.ViewNodes', WHERE WHAT IT READS IS OF BULK AT MOST 1048576: true; the input reads as it did. -/
def viewNodesUptoRow : OpenClaim := { program := "ytdpjgnefjickkaa", sum := "3312d3bb8b1e561a7920cda95416c96eeac9145e67eb90ae4bae23298f46e724", func := "jackstay/jackstaylaw23.ViewNodes", spec := "viewNodes", apart := false, narrowed := true }
def ViewNodesUptoSaid : Prop := viewNodesUptoRow.holds Try.pinned (OpenSpec.upto viewNodesSpec)

end Rows
end Go.Proofs.Ytdpjgnefjickkaa
