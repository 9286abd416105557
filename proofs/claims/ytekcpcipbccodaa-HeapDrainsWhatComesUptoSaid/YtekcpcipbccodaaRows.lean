/-
  No cell of these rows narrows 'for every input' (looked for: loops, veiled, ifaces, maps, wideKeys, modest, calm, conditions, laid).
  DERIVED. THE GIVEN ROWS OF THIS SEAT. 12 by the template 'for every input the law returns true; each argument reads behind the call as it read before'; 0 by the template 'total and deterministic' (their statements: YtekcpcipbccodaaTotals.lean).
  GIVEN WITH THE SEED: the statements are not yours to turn. If you find one false, say at which input.
  Laid BY PROGRAM, IN A SANDBOX (cutbox-rows.mjs): the forced cells as the released guide's own fill.sh prints them over the translation c33780f2332efcdd… (all of the seat's roots in one cut). By AI agents, Wed Nov 11 2026. No macro, syntax, notation, axiom, sorry.
-/
import Derived.Test.YtekcpcipbccodaaChecked
import GoSem.Claim
import GoSem.ClaimJoined
import GoSem.ClaimMapViews
import Derived.JoinedTies
import Derived.KernelRfl
namespace Go.Proofs.Ytekcpcipbccodaa
/- THE CELL 'sum', in the pinned program and in every row, IS THE sha256 OF THE DUMP (.gsa) THAT YtekcpcipbccodaaProg.lean LOADS. Nothing in Lean hashes anything: it is a label: what it is worth is what the hold of that sum in a sandbox is worth. -/
noncomputable def Try.pinned : Pinned := { name := "ytekcpcipbccodaa", sum := "c33780f2332efcdd9db854d1fcbb79beb3926698c8a166ca2275478c9178aa98", checked := Try.checked }
namespace Rows
def none {H : Type} : Left H := { results := [], args := [] }

/-- 'valiselaw4.HeapPlays': WHATEVER THE INPUT: true; the input reads as it did. -/
def heapPlaysSpec : ChangeSpec := { name := "heapPlays", fn := fun _ => fun
  | [d] => { results := [.lit (.bool true)], args := [d] }
  | _ => none }
def heapPlaysRow : OpenClaim := { program := "ytekcpcipbccodaa", sum := "c33780f2332efcdd9db854d1fcbb79beb3926698c8a166ca2275478c9178aa98", func := "valise/valiselaw4.HeapPlays", spec := "heapPlays", apart := false }
def HeapPlaysSaid : Prop := heapPlaysRow.holds Try.pinned (OpenSpec.ofChange heapPlaysSpec)

/-- ITS FALSE NEIGHBOUR: 'it returns false'. Refute it at one input. -/
def heapPlaysWrong : ChangeSpec := { name := "heapPlays", fn := fun _ => fun
  | [d] => { results := [.lit (.bool false)], args := [d] }
  | _ => none }
def HeapPlaysWrongFalsely : Prop := heapPlaysRow.holds Try.pinned (OpenSpec.ofChange heapPlaysWrong)

/-- 'valiselaw4.HeapPopsWhatWasPushed': WHATEVER THE INPUT: true; the input reads as it did. -/
def heapPopsWhatWasPushedSpec : ChangeSpec := { name := "heapPopsWhatWasPushed", fn := fun _ => fun
  | [d] => { results := [.lit (.bool true)], args := [d] }
  | _ => none }
def heapPopsWhatWasPushedRow : OpenClaim := { program := "ytekcpcipbccodaa", sum := "c33780f2332efcdd9db854d1fcbb79beb3926698c8a166ca2275478c9178aa98", func := "valise/valiselaw4.HeapPopsWhatWasPushed", spec := "heapPopsWhatWasPushed", apart := false }
def HeapPopsWhatWasPushedSaid : Prop := heapPopsWhatWasPushedRow.holds Try.pinned (OpenSpec.ofChange heapPopsWhatWasPushedSpec)

/-- ITS FALSE NEIGHBOUR: 'it returns false'. Refute it at one input. -/
def heapPopsWhatWasPushedWrong : ChangeSpec := { name := "heapPopsWhatWasPushed", fn := fun _ => fun
  | [d] => { results := [.lit (.bool false)], args := [d] }
  | _ => none }
def HeapPopsWhatWasPushedWrongFalsely : Prop := heapPopsWhatWasPushedRow.holds Try.pinned (OpenSpec.ofChange heapPopsWhatWasPushedWrong)

/-- 'valiselaw4.HeapNil': WHATEVER THE INPUT: true; the input reads as it did. -/
def heapNilSpec : ChangeSpec := { name := "heapNil", fn := fun _ => fun
  | [] => { results := [.lit (.bool true)], args := [] }
  | _ => none }
def heapNilRow : OpenClaim := { program := "ytekcpcipbccodaa", sum := "c33780f2332efcdd9db854d1fcbb79beb3926698c8a166ca2275478c9178aa98", func := "valise/valiselaw4.HeapNil", spec := "heapNil", unfollowed := true, recurses := true, apart := false }
def HeapNilSaid : Prop := heapNilRow.holds Try.pinned (OpenSpec.ofChange heapNilSpec)

/-- ITS FALSE NEIGHBOUR: 'it returns false'. Refute it at one input. -/
def heapNilWrong : ChangeSpec := { name := "heapNil", fn := fun _ => fun
  | [] => { results := [.lit (.bool false)], args := [] }
  | _ => none }
def HeapNilWrongFalsely : Prop := heapNilRow.holds Try.pinned (OpenSpec.ofChange heapNilWrong)

/-- 'valiselaw4.HeapDrains': WHATEVER THE INPUT: true; the input reads as it did. -/
def heapDrainsSpec : ChangeSpec := { name := "heapDrains", fn := fun _ => fun
  | [d1, d2] => { results := [.lit (.bool true)], args := [d1, d2] }
  | _ => none }
def heapDrainsRow : OpenClaim := { program := "ytekcpcipbccodaa", sum := "c33780f2332efcdd9db854d1fcbb79beb3926698c8a166ca2275478c9178aa98", func := "valise/valiselaw4.HeapDrains", spec := "heapDrains", unfollowed := true, recurses := true, apart := false }
def HeapDrainsSaid : Prop := heapDrainsRow.holds Try.pinned (OpenSpec.ofChange heapDrainsSpec)

/-- ITS FALSE NEIGHBOUR: 'it returns false'. Refute it at one input. -/
def heapDrainsWrong : ChangeSpec := { name := "heapDrains", fn := fun _ => fun
  | [d1, d2] => { results := [.lit (.bool false)], args := [d1, d2] }
  | _ => none }
def HeapDrainsWrongFalsely : Prop := heapDrainsRow.holds Try.pinned (OpenSpec.ofChange heapDrainsWrong)

/-- 'valiselaw4.HeapDrainsWhatComes': WHATEVER THE INPUT: true; the input reads as it did. -/
def heapDrainsWhatComesSpec : ChangeSpec := { name := "heapDrainsWhatComes", fn := fun _ => fun
  | [d1, d2] => { results := [.lit (.bool true)], args := [d1, d2] }
  | _ => none }
def heapDrainsWhatComesRow : OpenClaim := { program := "ytekcpcipbccodaa", sum := "c33780f2332efcdd9db854d1fcbb79beb3926698c8a166ca2275478c9178aa98", func := "valise/valiselaw4.HeapDrainsWhatComes", spec := "heapDrainsWhatComes", unfollowed := true, recurses := true, apart := false }
def HeapDrainsWhatComesSaid : Prop := heapDrainsWhatComesRow.holds Try.pinned (OpenSpec.ofChange heapDrainsWhatComesSpec)

/-- ITS FALSE NEIGHBOUR: 'it returns false'. Refute it at one input. -/
def heapDrainsWhatComesWrong : ChangeSpec := { name := "heapDrainsWhatComes", fn := fun _ => fun
  | [d1, d2] => { results := [.lit (.bool false)], args := [d1, d2] }
  | _ => none }
def HeapDrainsWhatComesWrongFalsely : Prop := heapDrainsWhatComesRow.holds Try.pinned (OpenSpec.ofChange heapDrainsWhatComesWrong)

/-- 'valiselaw4.HeapDrainsWhatIsLeft': WHATEVER THE INPUT: true; the input reads as it did. -/
def heapDrainsWhatIsLeftSpec : ChangeSpec := { name := "heapDrainsWhatIsLeft", fn := fun _ => fun
  | [d1, d2] => { results := [.lit (.bool true)], args := [d1, d2] }
  | _ => none }
def heapDrainsWhatIsLeftRow : OpenClaim := { program := "ytekcpcipbccodaa", sum := "c33780f2332efcdd9db854d1fcbb79beb3926698c8a166ca2275478c9178aa98", func := "valise/valiselaw4.HeapDrainsWhatIsLeft", spec := "heapDrainsWhatIsLeft", unfollowed := true, recurses := true, apart := false }
def HeapDrainsWhatIsLeftSaid : Prop := heapDrainsWhatIsLeftRow.holds Try.pinned (OpenSpec.ofChange heapDrainsWhatIsLeftSpec)

/-- ITS FALSE NEIGHBOUR: 'it returns false'. Refute it at one input. -/
def heapDrainsWhatIsLeftWrong : ChangeSpec := { name := "heapDrainsWhatIsLeft", fn := fun _ => fun
  | [d1, d2] => { results := [.lit (.bool false)], args := [d1, d2] }
  | _ => none }
def HeapDrainsWhatIsLeftWrongFalsely : Prop := heapDrainsWhatIsLeftRow.holds Try.pinned (OpenSpec.ofChange heapDrainsWhatIsLeftWrong)

/-- 'valiselaw4.HeapDrainsAgain': WHATEVER THE INPUT: true; the input reads as it did. -/
def heapDrainsAgainSpec : ChangeSpec := { name := "heapDrainsAgain", fn := fun _ => fun
  | [d1, d2] => { results := [.lit (.bool true)], args := [d1, d2] }
  | _ => none }
def heapDrainsAgainRow : OpenClaim := { program := "ytekcpcipbccodaa", sum := "c33780f2332efcdd9db854d1fcbb79beb3926698c8a166ca2275478c9178aa98", func := "valise/valiselaw4.HeapDrainsAgain", spec := "heapDrainsAgain", unfollowed := true, recurses := true, apart := false }
def HeapDrainsAgainSaid : Prop := heapDrainsAgainRow.holds Try.pinned (OpenSpec.ofChange heapDrainsAgainSpec)

/-- ITS FALSE NEIGHBOUR: 'it returns false'. Refute it at one input. -/
def heapDrainsAgainWrong : ChangeSpec := { name := "heapDrainsAgain", fn := fun _ => fun
  | [d1, d2] => { results := [.lit (.bool false)], args := [d1, d2] }
  | _ => none }
def HeapDrainsAgainWrongFalsely : Prop := heapDrainsAgainRow.holds Try.pinned (OpenSpec.ofChange heapDrainsAgainWrong)

/-- 'valiselaw4.HeapOrders': WHATEVER THE INPUT: true; the input reads as it did. -/
def heapOrdersSpec : ChangeSpec := { name := "heapOrders", fn := fun _ => fun
  | [d] => { results := [.lit (.bool true)], args := [d] }
  | _ => none }
def heapOrdersRow : OpenClaim := { program := "ytekcpcipbccodaa", sum := "c33780f2332efcdd9db854d1fcbb79beb3926698c8a166ca2275478c9178aa98", func := "valise/valiselaw4.HeapOrders", spec := "heapOrders", unfollowed := true, recurses := true, apart := false }
def HeapOrdersSaid : Prop := heapOrdersRow.holds Try.pinned (OpenSpec.ofChange heapOrdersSpec)

/-- ITS FALSE NEIGHBOUR: 'it returns false'. Refute it at one input. -/
def heapOrdersWrong : ChangeSpec := { name := "heapOrders", fn := fun _ => fun
  | [d] => { results := [.lit (.bool false)], args := [d] }
  | _ => none }
def HeapOrdersWrongFalsely : Prop := heapOrdersRow.holds Try.pinned (OpenSpec.ofChange heapOrdersWrong)

/-- 'valiselaw4.HeapIsSorted': WHATEVER THE INPUT: true; the input reads as it did. -/
def heapIsSortedSpec : ChangeSpec := { name := "heapIsSorted", fn := fun _ => fun
  | [d] => { results := [.lit (.bool true)], args := [d] }
  | _ => none }
def heapIsSortedRow : OpenClaim := { program := "ytekcpcipbccodaa", sum := "c33780f2332efcdd9db854d1fcbb79beb3926698c8a166ca2275478c9178aa98", func := "valise/valiselaw4.HeapIsSorted", spec := "heapIsSorted", unfollowed := true, recurses := true, apart := false }
def HeapIsSortedSaid : Prop := heapIsSortedRow.holds Try.pinned (OpenSpec.ofChange heapIsSortedSpec)

/-- ITS FALSE NEIGHBOUR: 'it returns false'. Refute it at one input. -/
def heapIsSortedWrong : ChangeSpec := { name := "heapIsSorted", fn := fun _ => fun
  | [d] => { results := [.lit (.bool false)], args := [d] }
  | _ => none }
def HeapIsSortedWrongFalsely : Prop := heapIsSortedRow.holds Try.pinned (OpenSpec.ofChange heapIsSortedWrong)

/-- 'valiselaw4.HeapSortsPairs': WHATEVER THE INPUT: true; the input reads as it did. -/
def heapSortsPairsSpec : ChangeSpec := { name := "heapSortsPairs", fn := fun _ => fun
  | [d1, d2] => { results := [.lit (.bool true)], args := [d1, d2] }
  | _ => none }
def heapSortsPairsRow : OpenClaim := { program := "ytekcpcipbccodaa", sum := "c33780f2332efcdd9db854d1fcbb79beb3926698c8a166ca2275478c9178aa98", func := "valise/valiselaw4.HeapSortsPairs", spec := "heapSortsPairs", unfollowed := true, recurses := true, apart := false }
def HeapSortsPairsSaid : Prop := heapSortsPairsRow.holds Try.pinned (OpenSpec.ofChange heapSortsPairsSpec)

/-- ITS FALSE NEIGHBOUR: 'it returns false'. Refute it at one input. -/
def heapSortsPairsWrong : ChangeSpec := { name := "heapSortsPairs", fn := fun _ => fun
  | [d1, d2] => { results := [.lit (.bool false)], args := [d1, d2] }
  | _ => none }
def HeapSortsPairsWrongFalsely : Prop := heapSortsPairsRow.holds Try.pinned (OpenSpec.ofChange heapSortsPairsWrong)

/-- 'valiselaw4.HeapSortsOnce': WHATEVER THE INPUT: true; the input reads as it did. -/
def heapSortsOnceSpec : ChangeSpec := { name := "heapSortsOnce", fn := fun _ => fun
  | [d] => { results := [.lit (.bool true)], args := [d] }
  | _ => none }
def heapSortsOnceRow : OpenClaim := { program := "ytekcpcipbccodaa", sum := "c33780f2332efcdd9db854d1fcbb79beb3926698c8a166ca2275478c9178aa98", func := "valise/valiselaw4.HeapSortsOnce", spec := "heapSortsOnce", unfollowed := true, recurses := true, apart := false }
def HeapSortsOnceSaid : Prop := heapSortsOnceRow.holds Try.pinned (OpenSpec.ofChange heapSortsOnceSpec)

/-- ITS FALSE NEIGHBOUR: 'it returns false'. Refute it at one input. -/
def heapSortsOnceWrong : ChangeSpec := { name := "heapSortsOnce", fn := fun _ => fun
  | [d] => { results := [.lit (.bool false)], args := [d] }
  | _ => none }
def HeapSortsOnceWrongFalsely : Prop := heapSortsOnceRow.holds Try.pinned (OpenSpec.ofChange heapSortsOnceWrong)

/-- 'valiselaw4.HeapApart': WHATEVER THE INPUT: true; the input reads as it did. -/
def heapApartSpec : ChangeSpec := { name := "heapApart", fn := fun _ => fun
  | [d] => { results := [.lit (.bool true)], args := [d] }
  | _ => none }
def heapApartRow : OpenClaim := { program := "ytekcpcipbccodaa", sum := "c33780f2332efcdd9db854d1fcbb79beb3926698c8a166ca2275478c9178aa98", func := "valise/valiselaw4.HeapApart", spec := "heapApart", unfollowed := true, recurses := true, apart := false }
def HeapApartSaid : Prop := heapApartRow.holds Try.pinned (OpenSpec.ofChange heapApartSpec)

/-- ITS FALSE NEIGHBOUR: 'it returns false'. Refute it at one input. -/
def heapApartWrong : ChangeSpec := { name := "heapApart", fn := fun _ => fun
  | [d] => { results := [.lit (.bool false)], args := [d] }
  | _ => none }
def HeapApartWrongFalsely : Prop := heapApartRow.holds Try.pinned (OpenSpec.ofChange heapApartWrong)

/- THE SECOND FORM. 'bulk': how many values and letters a reading holds, each counted each time it is reached (what is shared counts as often as it is met; a slice's spare places count too). A statement '..UptoSaid' is the law's where the arguments, and the package variables that the reading takes, are together of bulk at most 1048576: NARROWER than '..Said'. Prove '..Said' where nothing that the law and all that it calls make is longer than what came in: it says more and counts as full. Else prove '..UptoSaid'. A law counts once. -/
mutual
def uptoBulk {H : Type} : DataW H → Nat
  | .lit (.string bytes) => bytes.length + 1
  | .lit _ => 1
  | .nil => 1
  | .ptr d => uptoBulk d + 1
  | .slice elems spare => uptoBulkAll elems + uptoBulkAll spare + 1
  | .agg parts => uptoBulkAll parts + 1
  | .iface _ d => uptoBulk d + 1
  | .map entries => uptoBulkEntries entries + 1
  | .held _ => 1
def uptoBulkAll {H : Type} : List (DataW H) → Nat
  | [] => 0
  | d :: r => uptoBulk d + uptoBulkAll r
def uptoBulkEntries {H : Type} : List (Lit × DataW H) → Nat
  | [] => 0
  | x :: r => uptoBulkEntry x + uptoBulkEntries r
def uptoBulkEntry {H : Type} : Lit × DataW H → Nat
  | (.string bytes, d) => bytes.length + uptoBulk d + 1
  | (_, d) => uptoBulk d + 1
 end
def uptoSmall : (H : Type) → List (DataW H) → Bool := fun _ ds => decide (uptoBulkAll ds ≤ 1048576)
def OpenSpec.upto (s : _root_.Go.ChangeSpec) : _root_.Go.OpenSpec := { _root_.Go.OpenSpec.ofChange s with cond := some uptoSmall }

/-- 'valiselaw4.HeapPlays', WHERE WHAT IT READS IS OF BULK AT MOST 1048576: true; the input reads as it did. -/
def heapPlaysUptoRow : OpenClaim := { program := "ytekcpcipbccodaa", sum := "c33780f2332efcdd9db854d1fcbb79beb3926698c8a166ca2275478c9178aa98", func := "valise/valiselaw4.HeapPlays", spec := "heapPlays", apart := false, narrowed := true }
def HeapPlaysUptoSaid : Prop := heapPlaysUptoRow.holds Try.pinned (OpenSpec.upto heapPlaysSpec)

/-- 'valiselaw4.HeapPopsWhatWasPushed', WHERE WHAT IT READS IS OF BULK AT MOST 1048576: true; the input reads as it did. -/
def heapPopsWhatWasPushedUptoRow : OpenClaim := { program := "ytekcpcipbccodaa", sum := "c33780f2332efcdd9db854d1fcbb79beb3926698c8a166ca2275478c9178aa98", func := "valise/valiselaw4.HeapPopsWhatWasPushed", spec := "heapPopsWhatWasPushed", apart := false, narrowed := true }
def HeapPopsWhatWasPushedUptoSaid : Prop := heapPopsWhatWasPushedUptoRow.holds Try.pinned (OpenSpec.upto heapPopsWhatWasPushedSpec)

/-- 'valiselaw4.HeapNil', WHERE WHAT IT READS IS OF BULK AT MOST 1048576: true; the input reads as it did. -/
def heapNilUptoRow : OpenClaim := { program := "ytekcpcipbccodaa", sum := "c33780f2332efcdd9db854d1fcbb79beb3926698c8a166ca2275478c9178aa98", func := "valise/valiselaw4.HeapNil", spec := "heapNil", unfollowed := true, recurses := true, apart := false, narrowed := true }
def HeapNilUptoSaid : Prop := heapNilUptoRow.holds Try.pinned (OpenSpec.upto heapNilSpec)

/-- 'valiselaw4.HeapDrains', WHERE WHAT IT READS IS OF BULK AT MOST 1048576: true; the input reads as it did. -/
def heapDrainsUptoRow : OpenClaim := { program := "ytekcpcipbccodaa", sum := "c33780f2332efcdd9db854d1fcbb79beb3926698c8a166ca2275478c9178aa98", func := "valise/valiselaw4.HeapDrains", spec := "heapDrains", unfollowed := true, recurses := true, apart := false, narrowed := true }
def HeapDrainsUptoSaid : Prop := heapDrainsUptoRow.holds Try.pinned (OpenSpec.upto heapDrainsSpec)

/-- 'valiselaw4.HeapDrainsWhatComes', WHERE WHAT IT READS IS OF BULK AT MOST 1048576: true; the input reads as it did. -/
def heapDrainsWhatComesUptoRow : OpenClaim := { program := "ytekcpcipbccodaa", sum := "c33780f2332efcdd9db854d1fcbb79beb3926698c8a166ca2275478c9178aa98", func := "valise/valiselaw4.HeapDrainsWhatComes", spec := "heapDrainsWhatComes", unfollowed := true, recurses := true, apart := false, narrowed := true }
def HeapDrainsWhatComesUptoSaid : Prop := heapDrainsWhatComesUptoRow.holds Try.pinned (OpenSpec.upto heapDrainsWhatComesSpec)

/-- 'valiselaw4.HeapDrainsWhatIsLeft', WHERE WHAT IT READS IS OF BULK AT MOST 1048576: true; the input reads as it did. -/
def heapDrainsWhatIsLeftUptoRow : OpenClaim := { program := "ytekcpcipbccodaa", sum := "c33780f2332efcdd9db854d1fcbb79beb3926698c8a166ca2275478c9178aa98", func := "valise/valiselaw4.HeapDrainsWhatIsLeft", spec := "heapDrainsWhatIsLeft", unfollowed := true, recurses := true, apart := false, narrowed := true }
def HeapDrainsWhatIsLeftUptoSaid : Prop := heapDrainsWhatIsLeftUptoRow.holds Try.pinned (OpenSpec.upto heapDrainsWhatIsLeftSpec)

/-- 'valiselaw4.HeapDrainsAgain', WHERE WHAT IT READS IS OF BULK AT MOST 1048576: true; the input reads as it did. -/
def heapDrainsAgainUptoRow : OpenClaim := { program := "ytekcpcipbccodaa", sum := "c33780f2332efcdd9db854d1fcbb79beb3926698c8a166ca2275478c9178aa98", func := "valise/valiselaw4.HeapDrainsAgain", spec := "heapDrainsAgain", unfollowed := true, recurses := true, apart := false, narrowed := true }
def HeapDrainsAgainUptoSaid : Prop := heapDrainsAgainUptoRow.holds Try.pinned (OpenSpec.upto heapDrainsAgainSpec)

/-- 'valiselaw4.HeapOrders', WHERE WHAT IT READS IS OF BULK AT MOST 1048576: true; the input reads as it did. -/
def heapOrdersUptoRow : OpenClaim := { program := "ytekcpcipbccodaa", sum := "c33780f2332efcdd9db854d1fcbb79beb3926698c8a166ca2275478c9178aa98", func := "valise/valiselaw4.HeapOrders", spec := "heapOrders", unfollowed := true, recurses := true, apart := false, narrowed := true }
def HeapOrdersUptoSaid : Prop := heapOrdersUptoRow.holds Try.pinned (OpenSpec.upto heapOrdersSpec)

/-- 'valiselaw4.HeapIsSorted', WHERE WHAT IT READS IS OF BULK AT MOST 1048576: true; the input reads as it did. -/
def heapIsSortedUptoRow : OpenClaim := { program := "ytekcpcipbccodaa", sum := "c33780f2332efcdd9db854d1fcbb79beb3926698c8a166ca2275478c9178aa98", func := "valise/valiselaw4.HeapIsSorted", spec := "heapIsSorted", unfollowed := true, recurses := true, apart := false, narrowed := true }
def HeapIsSortedUptoSaid : Prop := heapIsSortedUptoRow.holds Try.pinned (OpenSpec.upto heapIsSortedSpec)

/-- 'valiselaw4.HeapSortsPairs', WHERE WHAT IT READS IS OF BULK AT MOST 1048576: true; the input reads as it did. -/
def heapSortsPairsUptoRow : OpenClaim := { program := "ytekcpcipbccodaa", sum := "c33780f2332efcdd9db854d1fcbb79beb3926698c8a166ca2275478c9178aa98", func := "valise/valiselaw4.HeapSortsPairs", spec := "heapSortsPairs", unfollowed := true, recurses := true, apart := false, narrowed := true }
def HeapSortsPairsUptoSaid : Prop := heapSortsPairsUptoRow.holds Try.pinned (OpenSpec.upto heapSortsPairsSpec)

/-- 'valiselaw4.HeapSortsOnce', WHERE WHAT IT READS IS OF BULK AT MOST 1048576: true; the input reads as it did. -/
def heapSortsOnceUptoRow : OpenClaim := { program := "ytekcpcipbccodaa", sum := "c33780f2332efcdd9db854d1fcbb79beb3926698c8a166ca2275478c9178aa98", func := "valise/valiselaw4.HeapSortsOnce", spec := "heapSortsOnce", unfollowed := true, recurses := true, apart := false, narrowed := true }
def HeapSortsOnceUptoSaid : Prop := heapSortsOnceUptoRow.holds Try.pinned (OpenSpec.upto heapSortsOnceSpec)

/-- 'valiselaw4.HeapApart', WHERE WHAT IT READS IS OF BULK AT MOST 1048576: true; the input reads as it did. -/
def heapApartUptoRow : OpenClaim := { program := "ytekcpcipbccodaa", sum := "c33780f2332efcdd9db854d1fcbb79beb3926698c8a166ca2275478c9178aa98", func := "valise/valiselaw4.HeapApart", spec := "heapApart", unfollowed := true, recurses := true, apart := false, narrowed := true }
def HeapApartUptoSaid : Prop := heapApartUptoRow.holds Try.pinned (OpenSpec.upto heapApartSpec)

end Rows
end Go.Proofs.Ytekcpcipbccodaa
