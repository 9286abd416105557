/-
  No cell of these rows narrows 'for every input' (looked for: loops, veiled, ifaces, maps, wideKeys, modest, calm, conditions, laid).
  DERIVED. THE GIVEN ROWS OF THIS SEAT. 12 by the template 'for every input the law returns true; each argument reads behind the call as it read before'; 0 by the template 'total and deterministic' (their statements: YtehpkbkffaolaaaTotals.lean).
  GIVEN WITH THE SEED: the statements are not yours to turn. If you find one false, say at which input.
  Laid BY PROGRAM, IN A SANDBOX (cutbox-rows.mjs): the forced cells as the released guide's own fill.sh prints them over the translation 970a9d7db07a2a39… (all of the seat's roots in one cut). By AI agents, Wed Nov 11 2026. No macro, syntax, notation, axiom, sorry.
-/
import Derived.Test.YtehpkbkffaolaaaChecked
import GoSem.Claim
import GoSem.ClaimJoined
import GoSem.ClaimMapViews
import Derived.JoinedTies
import Derived.KernelRfl
namespace Go.Proofs.Ytehpkbkffaolaaa
/- THE CELL 'sum', in the pinned program and in every row, IS THE sha256 OF THE DUMP (.gsa) THAT YtehpkbkffaolaaaProg.lean LOADS. Nothing in Lean hashes anything: it is a label: what it is worth is what the hold of that sum in a sandbox is worth. -/
noncomputable def Try.pinned : Pinned := { name := "ytehpkbkffaolaaa", sum := "970a9d7db07a2a3971137dceac2e5013a132aa87f7b8f351824bfc5193d705c2", checked := Try.checked }
namespace Rows
def none {H : Type} : Left H := { results := [], args := [] }

/-- 'valiselaw13.LayoutTights': WHATEVER THE INPUT: true; the input reads as it did. -/
def layoutTightsSpec : ChangeSpec := { name := "layoutTights", fn := fun _ => fun
  | [d1, d2] => { results := [.lit (.bool true)], args := [d1, d2] }
  | _ => none }
def layoutTightsRow : OpenClaim := { program := "ytehpkbkffaolaaa", sum := "970a9d7db07a2a3971137dceac2e5013a132aa87f7b8f351824bfc5193d705c2", func := "valise/valiselaw13.LayoutTights", spec := "layoutTights", plainKeys := false, apart := false }
def LayoutTightsSaid : Prop := layoutTightsRow.holds Try.pinned (OpenSpec.ofChange layoutTightsSpec)

/-- ITS FALSE NEIGHBOUR: 'it returns false'. Refute it at one input. -/
def layoutTightsWrong : ChangeSpec := { name := "layoutTights", fn := fun _ => fun
  | [d1, d2] => { results := [.lit (.bool false)], args := [d1, d2] }
  | _ => none }
def LayoutTightsWrongFalsely : Prop := layoutTightsRow.holds Try.pinned (OpenSpec.ofChange layoutTightsWrong)

/-- 'valiselaw9.MatchExpands': WHATEVER THE INPUT: true; the input reads as it did. -/
def matchExpandsSpec : ChangeSpec := { name := "matchExpands", fn := fun _ => fun
  | [d1, d2] => { results := [.lit (.bool true)], args := [d1, d2] }
  | _ => none }
def matchExpandsRow : OpenClaim := { program := "ytehpkbkffaolaaa", sum := "970a9d7db07a2a3971137dceac2e5013a132aa87f7b8f351824bfc5193d705c2", func := "valise/valiselaw9.MatchExpands", spec := "matchExpands", plainKeys := false, apart := false }
def MatchExpandsSaid : Prop := matchExpandsRow.holds Try.pinned (OpenSpec.ofChange matchExpandsSpec)

/-- ITS FALSE NEIGHBOUR: 'it returns false'. Refute it at one input. -/
def matchExpandsWrong : ChangeSpec := { name := "matchExpands", fn := fun _ => fun
  | [d1, d2] => { results := [.lit (.bool false)], args := [d1, d2] }
  | _ => none }
def MatchExpandsWrongFalsely : Prop := matchExpandsRow.holds Try.pinned (OpenSpec.ofChange matchExpandsWrong)

/-- 'valiselaw9.MatchMeans': WHATEVER THE INPUT: true; the input reads as it did. -/
def matchMeansSpec : ChangeSpec := { name := "matchMeans", fn := fun _ => fun
  | [d1, d2] => { results := [.lit (.bool true)], args := [d1, d2] }
  | _ => none }
def matchMeansRow : OpenClaim := { program := "ytehpkbkffaolaaa", sum := "970a9d7db07a2a3971137dceac2e5013a132aa87f7b8f351824bfc5193d705c2", func := "valise/valiselaw9.MatchMeans", spec := "matchMeans", plainKeys := false, apart := false }
def MatchMeansSaid : Prop := matchMeansRow.holds Try.pinned (OpenSpec.ofChange matchMeansSpec)

/-- ITS FALSE NEIGHBOUR: 'it returns false'. Refute it at one input. -/
def matchMeansWrong : ChangeSpec := { name := "matchMeans", fn := fun _ => fun
  | [d1, d2] => { results := [.lit (.bool false)], args := [d1, d2] }
  | _ => none }
def MatchMeansWrongFalsely : Prop := matchMeansRow.holds Try.pinned (OpenSpec.ofChange matchMeansWrong)

/-- 'valiselaw9.MatchBests': WHATEVER THE INPUT: true; the input reads as it did. -/
def matchBestsSpec : ChangeSpec := { name := "matchBests", fn := fun _ => fun
  | [d1, d2, d3] => { results := [.lit (.bool true)], args := [d1, d2, d3] }
  | _ => none }
def matchBestsRow : OpenClaim := { program := "ytehpkbkffaolaaa", sum := "970a9d7db07a2a3971137dceac2e5013a132aa87f7b8f351824bfc5193d705c2", func := "valise/valiselaw9.MatchBests", spec := "matchBests", plainKeys := false, apart := false }
def MatchBestsSaid : Prop := matchBestsRow.holds Try.pinned (OpenSpec.ofChange matchBestsSpec)

/-- ITS FALSE NEIGHBOUR: 'it returns false'. Refute it at one input. -/
def matchBestsWrong : ChangeSpec := { name := "matchBests", fn := fun _ => fun
  | [d1, d2, d3] => { results := [.lit (.bool false)], args := [d1, d2, d3] }
  | _ => none }
def MatchBestsWrongFalsely : Prop := matchBestsRow.holds Try.pinned (OpenSpec.ofChange matchBestsWrong)

/-- 'valiselaw9.MatchWider': WHATEVER THE INPUT: true; the input reads as it did. -/
def matchWiderSpec : ChangeSpec := { name := "matchWider", fn := fun _ => fun
  | [d1, d2, d3, d4, d5] => { results := [.lit (.bool true)], args := [d1, d2, d3, d4, d5] }
  | _ => none }
def matchWiderRow : OpenClaim := { program := "ytehpkbkffaolaaa", sum := "970a9d7db07a2a3971137dceac2e5013a132aa87f7b8f351824bfc5193d705c2", func := "valise/valiselaw9.MatchWider", spec := "matchWider", plainKeys := false, apart := false }
def MatchWiderSaid : Prop := matchWiderRow.holds Try.pinned (OpenSpec.ofChange matchWiderSpec)

/-- ITS FALSE NEIGHBOUR: 'it returns false'. Refute it at one input. -/
def matchWiderWrong : ChangeSpec := { name := "matchWider", fn := fun _ => fun
  | [d1, d2, d3, d4, d5] => { results := [.lit (.bool false)], args := [d1, d2, d3, d4, d5] }
  | _ => none }
def MatchWiderWrongFalsely : Prop := matchWiderRow.holds Try.pinned (OpenSpec.ofChange matchWiderWrong)

/-- 'valisetop.TopTokens': WHATEVER THE INPUT: true; the input reads as it did. -/
def topTokensSpec : ChangeSpec := { name := "topTokens", fn := fun _ => fun
  | [d1, d2] => { results := [.lit (.bool true)], args := [d1, d2] }
  | _ => none }
def topTokensRow : OpenClaim := { program := "ytehpkbkffaolaaa", sum := "970a9d7db07a2a3971137dceac2e5013a132aa87f7b8f351824bfc5193d705c2", func := "valise/valisetop.TopTokens", spec := "topTokens", unfollowed := true, recurses := true, plainKeys := false, apart := false }
def TopTokensSaid : Prop := topTokensRow.holds Try.pinned (OpenSpec.ofChange topTokensSpec)

/-- ITS FALSE NEIGHBOUR: 'it returns false'. Refute it at one input. -/
def topTokensWrong : ChangeSpec := { name := "topTokens", fn := fun _ => fun
  | [d1, d2] => { results := [.lit (.bool false)], args := [d1, d2] }
  | _ => none }
def TopTokensWrongFalsely : Prop := topTokensRow.holds Try.pinned (OpenSpec.ofChange topTokensWrong)

/-- 'valiselaw9.MatchTokens': WHATEVER THE INPUT: true; the input reads as it did. -/
def matchTokensSpec : ChangeSpec := { name := "matchTokens", fn := fun _ => fun
  | [d1, d2] => { results := [.lit (.bool true)], args := [d1, d2] }
  | _ => none }
def matchTokensRow : OpenClaim := { program := "ytehpkbkffaolaaa", sum := "970a9d7db07a2a3971137dceac2e5013a132aa87f7b8f351824bfc5193d705c2", func := "valise/valiselaw9.MatchTokens", spec := "matchTokens", unfollowed := true, recurses := true, plainKeys := false, apart := false }
def MatchTokensSaid : Prop := matchTokensRow.holds Try.pinned (OpenSpec.ofChange matchTokensSpec)

/-- ITS FALSE NEIGHBOUR: 'it returns false'. Refute it at one input. -/
def matchTokensWrong : ChangeSpec := { name := "matchTokens", fn := fun _ => fun
  | [d1, d2] => { results := [.lit (.bool false)], args := [d1, d2] }
  | _ => none }
def MatchTokensWrongFalsely : Prop := matchTokensRow.holds Try.pinned (OpenSpec.ofChange matchTokensWrong)

/-- 'valiselaw9.MatchLongest': WHATEVER THE INPUT: true; the input reads as it did. -/
def matchLongestSpec : ChangeSpec := { name := "matchLongest", fn := fun _ => fun
  | [d1, d2, d3] => { results := [.lit (.bool true)], args := [d1, d2, d3] }
  | _ => none }
def matchLongestRow : OpenClaim := { program := "ytehpkbkffaolaaa", sum := "970a9d7db07a2a3971137dceac2e5013a132aa87f7b8f351824bfc5193d705c2", func := "valise/valiselaw9.MatchLongest", spec := "matchLongest", unfollowed := true, recurses := true, plainKeys := false, apart := false }
def MatchLongestSaid : Prop := matchLongestRow.holds Try.pinned (OpenSpec.ofChange matchLongestSpec)

/-- ITS FALSE NEIGHBOUR: 'it returns false'. Refute it at one input. -/
def matchLongestWrong : ChangeSpec := { name := "matchLongest", fn := fun _ => fun
  | [d1, d2, d3] => { results := [.lit (.bool false)], args := [d1, d2, d3] }
  | _ => none }
def MatchLongestWrongFalsely : Prop := matchLongestRow.holds Try.pinned (OpenSpec.ofChange matchLongestWrong)

/-- 'valiselaw9.MatchRuns': WHATEVER THE INPUT: true; the input reads as it did. -/
def matchRunsSpec : ChangeSpec := { name := "matchRuns", fn := fun _ => fun
  | [d1, d2, d3] => { results := [.lit (.bool true)], args := [d1, d2, d3] }
  | _ => none }
def matchRunsRow : OpenClaim := { program := "ytehpkbkffaolaaa", sum := "970a9d7db07a2a3971137dceac2e5013a132aa87f7b8f351824bfc5193d705c2", func := "valise/valiselaw9.MatchRuns", spec := "matchRuns", unfollowed := true, recurses := true, plainKeys := false, apart := false }
def MatchRunsSaid : Prop := matchRunsRow.holds Try.pinned (OpenSpec.ofChange matchRunsSpec)

/-- ITS FALSE NEIGHBOUR: 'it returns false'. Refute it at one input. -/
def matchRunsWrong : ChangeSpec := { name := "matchRuns", fn := fun _ => fun
  | [d1, d2, d3] => { results := [.lit (.bool false)], args := [d1, d2, d3] }
  | _ => none }
def MatchRunsWrongFalsely : Prop := matchRunsRow.holds Try.pinned (OpenSpec.ofChange matchRunsWrong)

/-- 'valiselaw9.MatchEach': WHATEVER THE INPUT: true; the input reads as it did. -/
def matchEachSpec : ChangeSpec := { name := "matchEach", fn := fun _ => fun
  | [d1, d2, d3] => { results := [.lit (.bool true)], args := [d1, d2, d3] }
  | _ => none }
def matchEachRow : OpenClaim := { program := "ytehpkbkffaolaaa", sum := "970a9d7db07a2a3971137dceac2e5013a132aa87f7b8f351824bfc5193d705c2", func := "valise/valiselaw9.MatchEach", spec := "matchEach", unfollowed := true, recurses := true, plainKeys := false, apart := false }
def MatchEachSaid : Prop := matchEachRow.holds Try.pinned (OpenSpec.ofChange matchEachSpec)

/-- ITS FALSE NEIGHBOUR: 'it returns false'. Refute it at one input. -/
def matchEachWrong : ChangeSpec := { name := "matchEach", fn := fun _ => fun
  | [d1, d2, d3] => { results := [.lit (.bool false)], args := [d1, d2, d3] }
  | _ => none }
def MatchEachWrongFalsely : Prop := matchEachRow.holds Try.pinned (OpenSpec.ofChange matchEachWrong)

/-- 'valiselaw9.MatchRound': WHATEVER THE INPUT: true; the input reads as it did. -/
def matchRoundSpec : ChangeSpec := { name := "matchRound", fn := fun _ => fun
  | [d1, d2] => { results := [.lit (.bool true)], args := [d1, d2] }
  | _ => none }
def matchRoundRow : OpenClaim := { program := "ytehpkbkffaolaaa", sum := "970a9d7db07a2a3971137dceac2e5013a132aa87f7b8f351824bfc5193d705c2", func := "valise/valiselaw9.MatchRound", spec := "matchRound", unfollowed := true, recurses := true, plainKeys := false, apart := false }
def MatchRoundSaid : Prop := matchRoundRow.holds Try.pinned (OpenSpec.ofChange matchRoundSpec)

/-- ITS FALSE NEIGHBOUR: 'it returns false'. Refute it at one input. -/
def matchRoundWrong : ChangeSpec := { name := "matchRound", fn := fun _ => fun
  | [d1, d2] => { results := [.lit (.bool false)], args := [d1, d2] }
  | _ => none }
def MatchRoundWrongFalsely : Prop := matchRoundRow.holds Try.pinned (OpenSpec.ofChange matchRoundWrong)

/-- 'valiselaw9.MatchOwn': WHATEVER THE INPUT: true; the input reads as it did. -/
def matchOwnSpec : ChangeSpec := { name := "matchOwn", fn := fun _ => fun
  | [d1, d2] => { results := [.lit (.bool true)], args := [d1, d2] }
  | _ => none }
def matchOwnRow : OpenClaim := { program := "ytehpkbkffaolaaa", sum := "970a9d7db07a2a3971137dceac2e5013a132aa87f7b8f351824bfc5193d705c2", func := "valise/valiselaw9.MatchOwn", spec := "matchOwn", unfollowed := true, recurses := true, plainKeys := false, apart := false }
def MatchOwnSaid : Prop := matchOwnRow.holds Try.pinned (OpenSpec.ofChange matchOwnSpec)

/-- ITS FALSE NEIGHBOUR: 'it returns false'. Refute it at one input. -/
def matchOwnWrong : ChangeSpec := { name := "matchOwn", fn := fun _ => fun
  | [d1, d2] => { results := [.lit (.bool false)], args := [d1, d2] }
  | _ => none }
def MatchOwnWrongFalsely : Prop := matchOwnRow.holds Try.pinned (OpenSpec.ofChange matchOwnWrong)

/- THE SECOND FORM. 'bulk': how many values and letters a reading holds, each counted each time it is reached (what is shared counts as often as it is met; a slice's spare places count too). A statement '..UptoSaid' is the law's where the arguments, and the package variables that the reading takes, are together of bulk at most 1048576: NARROWER than '..Said'. Prove '..Said' where nothing that the law and all that it calls make is longer than what came in: it says more and counts as full. Else prove '..UptoSaid'. A law counts once. -/
mutual
def uptoBulk {H : Type} : DataW H → Nat
  | .lit (.string bytes) => bytes.length + 1
  | .lit _ => 1
  | .nil => 1
  | .ptr d => uptoBulk d + 1
  | .slice elems spare => uptoBulkAll elems + uptoBulkAll spare + 1
  | .agg parts => uptoBulkAll parts + 1
  | .iface _ d => uptoBulk d + 1
  | .map entries => uptoBulkEntries entries + 1
  | .held _ => 1
def uptoBulkAll {H : Type} : List (DataW H) → Nat
  | [] => 0
  | d :: r => uptoBulk d + uptoBulkAll r
def uptoBulkEntries {H : Type} : List (Lit × DataW H) → Nat
  | [] => 0
  | x :: r => uptoBulkEntry x + uptoBulkEntries r
def uptoBulkEntry {H : Type} : Lit × DataW H → Nat
  | (.string bytes, d) => bytes.length + uptoBulk d + 1
  | (_, d) => uptoBulk d + 1
 end
def uptoSmall : (H : Type) → List (DataW H) → Bool := fun _ ds => decide (uptoBulkAll ds ≤ 1048576)
def OpenSpec.upto (s : _root_.Go.ChangeSpec) : _root_.Go.OpenSpec := { _root_.Go.OpenSpec.ofChange s with cond := some uptoSmall }

/-- 'valiselaw13.LayoutTights', WHERE WHAT IT READS IS OF BULK AT MOST 1048576: true; the input reads as it did. -/
def layoutTightsUptoRow : OpenClaim := { program := "ytehpkbkffaolaaa", sum := "970a9d7db07a2a3971137dceac2e5013a132aa87f7b8f351824bfc5193d705c2", func := "valise/valiselaw13.LayoutTights", spec := "layoutTights", plainKeys := false, apart := false, narrowed := true }
def LayoutTightsUptoSaid : Prop := layoutTightsUptoRow.holds Try.pinned (OpenSpec.upto layoutTightsSpec)

/-- 'valiselaw9.MatchExpands', WHERE WHAT IT READS IS OF BULK AT MOST 1048576: true; the input reads as it did. -/
def matchExpandsUptoRow : OpenClaim := { program := "ytehpkbkffaolaaa", sum := "970a9d7db07a2a3971137dceac2e5013a132aa87f7b8f351824bfc5193d705c2", func := "valise/valiselaw9.MatchExpands", spec := "matchExpands", plainKeys := false, apart := false, narrowed := true }
def MatchExpandsUptoSaid : Prop := matchExpandsUptoRow.holds Try.pinned (OpenSpec.upto matchExpandsSpec)

/-- 'valiselaw9.MatchMeans', WHERE WHAT IT READS IS OF BULK AT MOST 1048576: true; the input reads as it did. -/
def matchMeansUptoRow : OpenClaim := { program := "ytehpkbkffaolaaa", sum := "970a9d7db07a2a3971137dceac2e5013a132aa87f7b8f351824bfc5193d705c2", func := "valise/valiselaw9.MatchMeans", spec := "matchMeans", plainKeys := false, apart := false, narrowed := true }
def MatchMeansUptoSaid : Prop := matchMeansUptoRow.holds Try.pinned (OpenSpec.upto matchMeansSpec)

/-- 'valiselaw9.MatchBests', WHERE WHAT IT READS IS OF BULK AT MOST 1048576: true; the input reads as it did. -/
def matchBestsUptoRow : OpenClaim := { program := "ytehpkbkffaolaaa", sum := "970a9d7db07a2a3971137dceac2e5013a132aa87f7b8f351824bfc5193d705c2", func := "valise/valiselaw9.MatchBests", spec := "matchBests", plainKeys := false, apart := false, narrowed := true }
def MatchBestsUptoSaid : Prop := matchBestsUptoRow.holds Try.pinned (OpenSpec.upto matchBestsSpec)

/-- 'valiselaw9.MatchWider', WHERE WHAT IT READS IS OF BULK AT MOST 1048576: true; the input reads as it did. -/
def matchWiderUptoRow : OpenClaim := { program := "ytehpkbkffaolaaa", sum := "970a9d7db07a2a3971137dceac2e5013a132aa87f7b8f351824bfc5193d705c2", func := "valise/valiselaw9.MatchWider", spec := "matchWider", plainKeys := false, apart := false, narrowed := true }
def MatchWiderUptoSaid : Prop := matchWiderUptoRow.holds Try.pinned (OpenSpec.upto matchWiderSpec)

/-- 'valisetop.TopTokens', WHERE WHAT IT READS IS OF BULK AT MOST 1048576: true; the input reads as it did. -/
def topTokensUptoRow : OpenClaim := { program := "ytehpkbkffaolaaa", sum := "970a9d7db07a2a3971137dceac2e5013a132aa87f7b8f351824bfc5193d705c2", func := "valise/valisetop.TopTokens", spec := "topTokens", unfollowed := true, recurses := true, plainKeys := false, apart := false, narrowed := true }
def TopTokensUptoSaid : Prop := topTokensUptoRow.holds Try.pinned (OpenSpec.upto topTokensSpec)

/-- 'valiselaw9.MatchTokens', WHERE WHAT IT READS IS OF BULK AT MOST 1048576: true; the input reads as it did. -/
def matchTokensUptoRow : OpenClaim := { program := "ytehpkbkffaolaaa", sum := "970a9d7db07a2a3971137dceac2e5013a132aa87f7b8f351824bfc5193d705c2", func := "valise/valiselaw9.MatchTokens", spec := "matchTokens", unfollowed := true, recurses := true, plainKeys := false, apart := false, narrowed := true }
def MatchTokensUptoSaid : Prop := matchTokensUptoRow.holds Try.pinned (OpenSpec.upto matchTokensSpec)

/-- 'valiselaw9.MatchLongest', WHERE WHAT IT READS IS OF BULK AT MOST 1048576: true; the input reads as it did. -/
def matchLongestUptoRow : OpenClaim := { program := "ytehpkbkffaolaaa", sum := "970a9d7db07a2a3971137dceac2e5013a132aa87f7b8f351824bfc5193d705c2", func := "valise/valiselaw9.MatchLongest", spec := "matchLongest", unfollowed := true, recurses := true, plainKeys := false, apart := false, narrowed := true }
def MatchLongestUptoSaid : Prop := matchLongestUptoRow.holds Try.pinned (OpenSpec.upto matchLongestSpec)

/-- 'valiselaw9.MatchRuns', WHERE WHAT IT READS IS OF BULK AT MOST 1048576: true; the input reads as it did. -/
def matchRunsUptoRow : OpenClaim := { program := "ytehpkbkffaolaaa", sum := "970a9d7db07a2a3971137dceac2e5013a132aa87f7b8f351824bfc5193d705c2", func := "valise/valiselaw9.MatchRuns", spec := "matchRuns", unfollowed := true, recurses := true, plainKeys := false, apart := false, narrowed := true }
def MatchRunsUptoSaid : Prop := matchRunsUptoRow.holds Try.pinned (OpenSpec.upto matchRunsSpec)

/-- 'valiselaw9.MatchEach', WHERE WHAT IT READS IS OF BULK AT MOST 1048576: true; the input reads as it did. -/
def matchEachUptoRow : OpenClaim := { program := "ytehpkbkffaolaaa", sum := "970a9d7db07a2a3971137dceac2e5013a132aa87f7b8f351824bfc5193d705c2", func := "valise/valiselaw9.MatchEach", spec := "matchEach", unfollowed := true, recurses := true, plainKeys := false, apart := false, narrowed := true }
def MatchEachUptoSaid : Prop := matchEachUptoRow.holds Try.pinned (OpenSpec.upto matchEachSpec)

/-- 'valiselaw9.MatchRound', WHERE WHAT IT READS IS OF BULK AT MOST 1048576: true; the input reads as it did. -/
def matchRoundUptoRow : OpenClaim := { program := "ytehpkbkffaolaaa", sum := "970a9d7db07a2a3971137dceac2e5013a132aa87f7b8f351824bfc5193d705c2", func := "valise/valiselaw9.MatchRound", spec := "matchRound", unfollowed := true, recurses := true, plainKeys := false, apart := false, narrowed := true }
def MatchRoundUptoSaid : Prop := matchRoundUptoRow.holds Try.pinned (OpenSpec.upto matchRoundSpec)

/-- 'valiselaw9.MatchOwn', WHERE WHAT IT READS IS OF BULK AT MOST 1048576: true; the input reads as it did. -/
def matchOwnUptoRow : OpenClaim := { program := "ytehpkbkffaolaaa", sum := "970a9d7db07a2a3971137dceac2e5013a132aa87f7b8f351824bfc5193d705c2", func := "valise/valiselaw9.MatchOwn", spec := "matchOwn", unfollowed := true, recurses := true, plainKeys := false, apart := false, narrowed := true }
def MatchOwnUptoSaid : Prop := matchOwnUptoRow.holds Try.pinned (OpenSpec.upto matchOwnSpec)

end Rows
end Go.Proofs.Ytehpkbkffaolaaa
