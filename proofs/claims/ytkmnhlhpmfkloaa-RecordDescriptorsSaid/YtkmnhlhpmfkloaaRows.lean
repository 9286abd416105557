/-
  No cell of these rows narrows 'for every input' (looked for: loops, veiled, ifaces, maps, wideKeys, modest, calm, conditions, laid).
  DERIVED. THE GIVEN ROWS OF THIS SEAT. 10 by the template 'for every input the law returns true; each argument reads behind the call as it read before'; 0 by the template 'total and deterministic' (their statements: YtkmnhlhpmfkloaaTotals.lean).
  GIVEN WITH THE SEED: the statements are not yours to turn. If you find one false, say at which input.
  Laid BY PROGRAM, IN A SANDBOX (cutbox-rows.mjs): the forced cells as the released guide's own fill.sh prints them over the translation ba1f841a522097ec… (all of the seat's roots in one cut). By AI agents, Wed Nov 11 2026. No macro, syntax, notation, axiom, sorry.
-/
import Derived.Test.YtkmnhlhpmfkloaaChecked
import GoSem.Claim
import GoSem.ClaimJoined
import GoSem.ClaimMapViews
import Derived.JoinedTies
import Derived.KernelRfl
namespace Go.Proofs.Ytkmnhlhpmfkloaa
/- THE CELL 'sum', in the pinned program and in every row, IS THE sha256 OF THE DUMP (.gsa) THAT YtkmnhlhpmfkloaaProg.lean LOADS. Nothing in Lean hashes anything: it is a label: what it is worth is what the hold of that sum in a sandbox is worth. -/
noncomputable def Try.pinned : Pinned := { name := "ytkmnhlhpmfkloaa", sum := "ba1f841a522097ec049aa7cc7d87c7e23b17d0762a9c9bf6d76ad31a2e0e0224", checked := Try.checked }
namespace Rows
def none {H : Type} : Left H := { results := [], args := [] }

/-- 'valiselaw12.RecordDescriptors': WHATEVER THE INPUT: true; the input reads as it did. -/
def recordDescriptorsSpec : ChangeSpec := { name := "recordDescriptors", fn := fun _ => fun
  | [d1, d2, d3, d4] => { results := [.lit (.bool true)], args := [d1, d2, d3, d4] }
  | _ => none }
def recordDescriptorsRow : OpenClaim := { program := "ytkmnhlhpmfkloaa", sum := "ba1f841a522097ec049aa7cc7d87c7e23b17d0762a9c9bf6d76ad31a2e0e0224", func := "valise/valiselaw12.RecordDescriptors", spec := "recordDescriptors", apart := false }
def RecordDescriptorsSaid : Prop := recordDescriptorsRow.holds Try.pinned (OpenSpec.ofChange recordDescriptorsSpec)

/-- ITS FALSE NEIGHBOUR: 'it returns false'. Refute it at one input. -/
def recordDescriptorsWrong : ChangeSpec := { name := "recordDescriptors", fn := fun _ => fun
  | [d1, d2, d3, d4] => { results := [.lit (.bool false)], args := [d1, d2, d3, d4] }
  | _ => none }
def RecordDescriptorsWrongFalsely : Prop := recordDescriptorsRow.holds Try.pinned (OpenSpec.ofChange recordDescriptorsWrong)

/-- 'valiselaw12.RecordTold': WHATEVER THE INPUT: true; the input reads as it did. -/
def recordToldSpec : ChangeSpec := { name := "recordTold", fn := fun _ => fun
  | [d1, d2, d3, d4] => { results := [.lit (.bool true)], args := [d1, d2, d3, d4] }
  | _ => none }
def recordToldRow : OpenClaim := { program := "ytkmnhlhpmfkloaa", sum := "ba1f841a522097ec049aa7cc7d87c7e23b17d0762a9c9bf6d76ad31a2e0e0224", func := "valise/valiselaw12.RecordTold", spec := "recordTold", apart := false }
def RecordToldSaid : Prop := recordToldRow.holds Try.pinned (OpenSpec.ofChange recordToldSpec)

/-- ITS FALSE NEIGHBOUR: 'it returns false'. Refute it at one input. -/
def recordToldWrong : ChangeSpec := { name := "recordTold", fn := fun _ => fun
  | [d1, d2, d3, d4] => { results := [.lit (.bool false)], args := [d1, d2, d3, d4] }
  | _ => none }
def RecordToldWrongFalsely : Prop := recordToldRow.holds Try.pinned (OpenSpec.ofChange recordToldWrong)

/-- 'valiselaw12.RecordExtras': WHATEVER THE INPUT: true; the input reads as it did. -/
def recordExtrasSpec : ChangeSpec := { name := "recordExtras", fn := fun _ => fun
  | [d1, d2] => { results := [.lit (.bool true)], args := [d1, d2] }
  | _ => none }
def recordExtrasRow : OpenClaim := { program := "ytkmnhlhpmfkloaa", sum := "ba1f841a522097ec049aa7cc7d87c7e23b17d0762a9c9bf6d76ad31a2e0e0224", func := "valise/valiselaw12.RecordExtras", spec := "recordExtras", apart := false }
def RecordExtrasSaid : Prop := recordExtrasRow.holds Try.pinned (OpenSpec.ofChange recordExtrasSpec)

/-- ITS FALSE NEIGHBOUR: 'it returns false'. Refute it at one input. -/
def recordExtrasWrong : ChangeSpec := { name := "recordExtras", fn := fun _ => fun
  | [d1, d2] => { results := [.lit (.bool false)], args := [d1, d2] }
  | _ => none }
def RecordExtrasWrongFalsely : Prop := recordExtrasRow.holds Try.pinned (OpenSpec.ofChange recordExtrasWrong)

/-- 'valiselaw12.RecordFields': WHATEVER THE INPUT: true; the input reads as it did. -/
def recordFieldsSpec : ChangeSpec := { name := "recordFields", fn := fun _ => fun
  | [d1, d2, d3] => { results := [.lit (.bool true)], args := [d1, d2, d3] }
  | _ => none }
def recordFieldsRow : OpenClaim := { program := "ytkmnhlhpmfkloaa", sum := "ba1f841a522097ec049aa7cc7d87c7e23b17d0762a9c9bf6d76ad31a2e0e0224", func := "valise/valiselaw12.RecordFields", spec := "recordFields", apart := false }
def RecordFieldsSaid : Prop := recordFieldsRow.holds Try.pinned (OpenSpec.ofChange recordFieldsSpec)

/-- ITS FALSE NEIGHBOUR: 'it returns false'. Refute it at one input. -/
def recordFieldsWrong : ChangeSpec := { name := "recordFields", fn := fun _ => fun
  | [d1, d2, d3] => { results := [.lit (.bool false)], args := [d1, d2, d3] }
  | _ => none }
def RecordFieldsWrongFalsely : Prop := recordFieldsRow.holds Try.pinned (OpenSpec.ofChange recordFieldsWrong)

/-- 'valiselaw12.RecordEnds': WHATEVER THE INPUT: true; the input reads as it did. -/
def recordEndsSpec : ChangeSpec := { name := "recordEnds", fn := fun _ => fun
  | [d1, d2, d3] => { results := [.lit (.bool true)], args := [d1, d2, d3] }
  | _ => none }
def recordEndsRow : OpenClaim := { program := "ytkmnhlhpmfkloaa", sum := "ba1f841a522097ec049aa7cc7d87c7e23b17d0762a9c9bf6d76ad31a2e0e0224", func := "valise/valiselaw12.RecordEnds", spec := "recordEnds", apart := false }
def RecordEndsSaid : Prop := recordEndsRow.holds Try.pinned (OpenSpec.ofChange recordEndsSpec)

/-- ITS FALSE NEIGHBOUR: 'it returns false'. Refute it at one input. -/
def recordEndsWrong : ChangeSpec := { name := "recordEnds", fn := fun _ => fun
  | [d1, d2, d3] => { results := [.lit (.bool false)], args := [d1, d2, d3] }
  | _ => none }
def RecordEndsWrongFalsely : Prop := recordEndsRow.holds Try.pinned (OpenSpec.ofChange recordEndsWrong)

/-- 'valiselaw12.RecordLocals': WHATEVER THE INPUT: true; the input reads as it did. -/
def recordLocalsSpec : ChangeSpec := { name := "recordLocals", fn := fun _ => fun
  | [d1, d2, d3] => { results := [.lit (.bool true)], args := [d1, d2, d3] }
  | _ => none }
def recordLocalsRow : OpenClaim := { program := "ytkmnhlhpmfkloaa", sum := "ba1f841a522097ec049aa7cc7d87c7e23b17d0762a9c9bf6d76ad31a2e0e0224", func := "valise/valiselaw12.RecordLocals", spec := "recordLocals", apart := false }
def RecordLocalsSaid : Prop := recordLocalsRow.holds Try.pinned (OpenSpec.ofChange recordLocalsSpec)

/-- ITS FALSE NEIGHBOUR: 'it returns false'. Refute it at one input. -/
def recordLocalsWrong : ChangeSpec := { name := "recordLocals", fn := fun _ => fun
  | [d1, d2, d3] => { results := [.lit (.bool false)], args := [d1, d2, d3] }
  | _ => none }
def RecordLocalsWrongFalsely : Prop := recordLocalsRow.holds Try.pinned (OpenSpec.ofChange recordLocalsWrong)

/-- 'valiselaw12.RecordCentrals': WHATEVER THE INPUT: true; the input reads as it did. -/
def recordCentralsSpec : ChangeSpec := { name := "recordCentrals", fn := fun _ => fun
  | [d1, d2, d3] => { results := [.lit (.bool true)], args := [d1, d2, d3] }
  | _ => none }
def recordCentralsRow : OpenClaim := { program := "ytkmnhlhpmfkloaa", sum := "ba1f841a522097ec049aa7cc7d87c7e23b17d0762a9c9bf6d76ad31a2e0e0224", func := "valise/valiselaw12.RecordCentrals", spec := "recordCentrals", apart := false }
def RecordCentralsSaid : Prop := recordCentralsRow.holds Try.pinned (OpenSpec.ofChange recordCentralsSpec)

/-- ITS FALSE NEIGHBOUR: 'it returns false'. Refute it at one input. -/
def recordCentralsWrong : ChangeSpec := { name := "recordCentrals", fn := fun _ => fun
  | [d1, d2, d3] => { results := [.lit (.bool false)], args := [d1, d2, d3] }
  | _ => none }
def RecordCentralsWrongFalsely : Prop := recordCentralsRow.holds Try.pinned (OpenSpec.ofChange recordCentralsWrong)

/-- 'valiselaw12.RecordRow': WHATEVER THE INPUT: true; the input reads as it did. -/
def recordRowSpec : ChangeSpec := { name := "recordRow", fn := fun _ => fun
  | [d1, d2, d3, d4, d5] => { results := [.lit (.bool true)], args := [d1, d2, d3, d4, d5] }
  | _ => none }
def recordRowRow : OpenClaim := { program := "ytkmnhlhpmfkloaa", sum := "ba1f841a522097ec049aa7cc7d87c7e23b17d0762a9c9bf6d76ad31a2e0e0224", func := "valise/valiselaw12.RecordRow", spec := "recordRow", apart := false }
def RecordRowSaid : Prop := recordRowRow.holds Try.pinned (OpenSpec.ofChange recordRowSpec)

/-- ITS FALSE NEIGHBOUR: 'it returns false'. Refute it at one input. -/
def recordRowWrong : ChangeSpec := { name := "recordRow", fn := fun _ => fun
  | [d1, d2, d3, d4, d5] => { results := [.lit (.bool false)], args := [d1, d2, d3, d4, d5] }
  | _ => none }
def RecordRowWrongFalsely : Prop := recordRowRow.holds Try.pinned (OpenSpec.ofChange recordRowWrong)

/-- 'valiselaw12.RecordCanon': WHATEVER THE INPUT: true; the input reads as it did. -/
def recordCanonSpec : ChangeSpec := { name := "recordCanon", fn := fun _ => fun
  | [d1, d2] => { results := [.lit (.bool true)], args := [d1, d2] }
  | _ => none }
def recordCanonRow : OpenClaim := { program := "ytkmnhlhpmfkloaa", sum := "ba1f841a522097ec049aa7cc7d87c7e23b17d0762a9c9bf6d76ad31a2e0e0224", func := "valise/valiselaw12.RecordCanon", spec := "recordCanon", apart := false }
def RecordCanonSaid : Prop := recordCanonRow.holds Try.pinned (OpenSpec.ofChange recordCanonSpec)

/-- ITS FALSE NEIGHBOUR: 'it returns false'. Refute it at one input. -/
def recordCanonWrong : ChangeSpec := { name := "recordCanon", fn := fun _ => fun
  | [d1, d2] => { results := [.lit (.bool false)], args := [d1, d2] }
  | _ => none }
def RecordCanonWrongFalsely : Prop := recordCanonRow.holds Try.pinned (OpenSpec.ofChange recordCanonWrong)

/-- 'valiselaw12.RecordShort': WHATEVER THE INPUT: true; the input reads as it did. -/
def recordShortSpec : ChangeSpec := { name := "recordShort", fn := fun _ => fun
  | [d1, d2, d3, d4] => { results := [.lit (.bool true)], args := [d1, d2, d3, d4] }
  | _ => none }
def recordShortRow : OpenClaim := { program := "ytkmnhlhpmfkloaa", sum := "ba1f841a522097ec049aa7cc7d87c7e23b17d0762a9c9bf6d76ad31a2e0e0224", func := "valise/valiselaw12.RecordShort", spec := "recordShort", apart := false }
def RecordShortSaid : Prop := recordShortRow.holds Try.pinned (OpenSpec.ofChange recordShortSpec)

/-- ITS FALSE NEIGHBOUR: 'it returns false'. Refute it at one input. -/
def recordShortWrong : ChangeSpec := { name := "recordShort", fn := fun _ => fun
  | [d1, d2, d3, d4] => { results := [.lit (.bool false)], args := [d1, d2, d3, d4] }
  | _ => none }
def RecordShortWrongFalsely : Prop := recordShortRow.holds Try.pinned (OpenSpec.ofChange recordShortWrong)

/- THE SECOND FORM. 'bulk': how many values and letters a reading holds, each counted each time it is reached (what is shared counts as often as it is met; a slice's spare places count too). A statement '..UptoSaid' is the law's where the arguments, and the package variables that the reading takes, are together of bulk at most 1048576: NARROWER than '..Said'. Prove '..Said' where nothing that the law and all that it calls make is longer than what came in: it says more and counts as full. Else prove '..UptoSaid'. A law counts once. -/
mutual
def uptoBulk {H : Type} : DataW H → Nat
  | .lit (.string bytes) => bytes.length + 1
  | .lit _ => 1
  | .nil => 1
  | .ptr d => uptoBulk d + 1
  | .slice elems spare => uptoBulkAll elems + uptoBulkAll spare + 1
  | .agg parts => uptoBulkAll parts + 1
  | .iface _ d => uptoBulk d + 1
  | .map entries => uptoBulkEntries entries + 1
  | .held _ => 1
def uptoBulkAll {H : Type} : List (DataW H) → Nat
  | [] => 0
  | d :: r => uptoBulk d + uptoBulkAll r
def uptoBulkEntries {H : Type} : List (Lit × DataW H) → Nat
  | [] => 0
  | x :: r => uptoBulkEntry x + uptoBulkEntries r
def uptoBulkEntry {H : Type} : Lit × DataW H → Nat
  | (.string bytes, d) => bytes.length + uptoBulk d + 1
  | (_, d) => uptoBulk d + 1
 end
def uptoSmall : (H : Type) → List (DataW H) → Bool := fun _ ds => decide (uptoBulkAll ds ≤ 1048576)
def OpenSpec.upto (s : _root_.Go.ChangeSpec) : _root_.Go.OpenSpec := { _root_.Go.OpenSpec.ofChange s with cond := some uptoSmall }

/-- 'valiselaw12.RecordDescriptors', WHERE WHAT IT READS IS OF BULK AT MOST 1048576: true; the input reads as it did. -/
def recordDescriptorsUptoRow : OpenClaim := { program := "ytkmnhlhpmfkloaa", sum := "ba1f841a522097ec049aa7cc7d87c7e23b17d0762a9c9bf6d76ad31a2e0e0224", func := "valise/valiselaw12.RecordDescriptors", spec := "recordDescriptors", apart := false, narrowed := true }
def RecordDescriptorsUptoSaid : Prop := recordDescriptorsUptoRow.holds Try.pinned (OpenSpec.upto recordDescriptorsSpec)

/-- 'valiselaw12.RecordTold', WHERE WHAT IT READS IS OF BULK AT MOST 1048576: true; the input reads as it did. -/
def recordToldUptoRow : OpenClaim := { program := "ytkmnhlhpmfkloaa", sum := "ba1f841a522097ec049aa7cc7d87c7e23b17d0762a9c9bf6d76ad31a2e0e0224", func := "valise/valiselaw12.RecordTold", spec := "recordTold", apart := false, narrowed := true }
def RecordToldUptoSaid : Prop := recordToldUptoRow.holds Try.pinned (OpenSpec.upto recordToldSpec)

/-- 'valiselaw12.RecordExtras', WHERE WHAT IT READS IS OF BULK AT MOST 1048576: true; the input reads as it did. -/
def recordExtrasUptoRow : OpenClaim := { program := "ytkmnhlhpmfkloaa", sum := "ba1f841a522097ec049aa7cc7d87c7e23b17d0762a9c9bf6d76ad31a2e0e0224", func := "valise/valiselaw12.RecordExtras", spec := "recordExtras", apart := false, narrowed := true }
def RecordExtrasUptoSaid : Prop := recordExtrasUptoRow.holds Try.pinned (OpenSpec.upto recordExtrasSpec)

/-- 'valiselaw12.RecordFields', WHERE WHAT IT READS IS OF BULK AT MOST 1048576: true; the input reads as it did. -/
def recordFieldsUptoRow : OpenClaim := { program := "ytkmnhlhpmfkloaa", sum := "ba1f841a522097ec049aa7cc7d87c7e23b17d0762a9c9bf6d76ad31a2e0e0224", func := "valise/valiselaw12.RecordFields", spec := "recordFields", apart := false, narrowed := true }
def RecordFieldsUptoSaid : Prop := recordFieldsUptoRow.holds Try.pinned (OpenSpec.upto recordFieldsSpec)

/-- 'valiselaw12.RecordEnds', WHERE WHAT IT READS IS OF BULK AT MOST 1048576: true; the input reads as it did. -/
def recordEndsUptoRow : OpenClaim := { program := "ytkmnhlhpmfkloaa", sum := "ba1f841a522097ec049aa7cc7d87c7e23b17d0762a9c9bf6d76ad31a2e0e0224", func := "valise/valiselaw12.RecordEnds", spec := "recordEnds", apart := false, narrowed := true }
def RecordEndsUptoSaid : Prop := recordEndsUptoRow.holds Try.pinned (OpenSpec.upto recordEndsSpec)

/-- 'valiselaw12.RecordLocals', WHERE WHAT IT READS IS OF BULK AT MOST 1048576: true; the input reads as it did. -/
def recordLocalsUptoRow : OpenClaim := { program := "ytkmnhlhpmfkloaa", sum := "ba1f841a522097ec049aa7cc7d87c7e23b17d0762a9c9bf6d76ad31a2e0e0224", func := "valise/valiselaw12.RecordLocals", spec := "recordLocals", apart := false, narrowed := true }
def RecordLocalsUptoSaid : Prop := recordLocalsUptoRow.holds Try.pinned (OpenSpec.upto recordLocalsSpec)

/-- 'valiselaw12.RecordCentrals', WHERE WHAT IT READS IS OF BULK AT MOST 1048576: true; the input reads as it did. -/
def recordCentralsUptoRow : OpenClaim := { program := "ytkmnhlhpmfkloaa", sum := "ba1f841a522097ec049aa7cc7d87c7e23b17d0762a9c9bf6d76ad31a2e0e0224", func := "valise/valiselaw12.RecordCentrals", spec := "recordCentrals", apart := false, narrowed := true }
def RecordCentralsUptoSaid : Prop := recordCentralsUptoRow.holds Try.pinned (OpenSpec.upto recordCentralsSpec)

/-- 'valiselaw12.RecordRow', WHERE WHAT IT READS IS OF BULK AT MOST 1048576: true; the input reads as it did. -/
def recordRowUptoRow : OpenClaim := { program := "ytkmnhlhpmfkloaa", sum := "ba1f841a522097ec049aa7cc7d87c7e23b17d0762a9c9bf6d76ad31a2e0e0224", func := "valise/valiselaw12.RecordRow", spec := "recordRow", apart := false, narrowed := true }
def RecordRowUptoSaid : Prop := recordRowUptoRow.holds Try.pinned (OpenSpec.upto recordRowSpec)

/-- 'valiselaw12.RecordCanon', WHERE WHAT IT READS IS OF BULK AT MOST 1048576: true; the input reads as it did. -/
def recordCanonUptoRow : OpenClaim := { program := "ytkmnhlhpmfkloaa", sum := "ba1f841a522097ec049aa7cc7d87c7e23b17d0762a9c9bf6d76ad31a2e0e0224", func := "valise/valiselaw12.RecordCanon", spec := "recordCanon", apart := false, narrowed := true }
def RecordCanonUptoSaid : Prop := recordCanonUptoRow.holds Try.pinned (OpenSpec.upto recordCanonSpec)

/-- 'valiselaw12.RecordShort', WHERE WHAT IT READS IS OF BULK AT MOST 1048576: true; the input reads as it did. -/
def recordShortUptoRow : OpenClaim := { program := "ytkmnhlhpmfkloaa", sum := "ba1f841a522097ec049aa7cc7d87c7e23b17d0762a9c9bf6d76ad31a2e0e0224", func := "valise/valiselaw12.RecordShort", spec := "recordShort", apart := false, narrowed := true }
def RecordShortUptoSaid : Prop := recordShortUptoRow.holds Try.pinned (OpenSpec.upto recordShortSpec)

end Rows
end Go.Proofs.Ytkmnhlhpmfkloaa
