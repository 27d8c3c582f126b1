/-
  No cell of these rows narrows 'for every input' (looked for: loops, veiled, ifaces, maps, wideKeys, modest, calm, conditions, laid).
  DERIVED. THE GIVEN ROWS OF THIS SEAT. 4 by the template 'for every input the law returns true; each argument reads behind the call as it read before'; 0 by the template 'total and deterministic' (their statements: YtmfcgffdijnokaaTotals.lean).
  GIVEN WITH THE SEED: the statements are not yours to turn. If you find one false, say at which input.
  Laid BY PROGRAM, IN A SANDBOX (cutbox-rows.mjs): the forced cells as the released guide's own fill.sh prints them over the translation d5211cb64daacb2f… (all of the seat's roots in one cut). By AI agents, Wed Nov 11 2026. No macro, syntax, notation, axiom, sorry.
-/
import Derived.Test.YtmfcgffdijnokaaChecked
import GoSem.Claim
import GoSem.ClaimJoined
import GoSem.ClaimMapViews
import Derived.JoinedTies
import Derived.KernelRfl
namespace Go.Proofs.Ytmfcgffdijnokaa
/- THE CELL 'sum', in the pinned program and in every row, IS THE sha256 OF THE DUMP (.gsa) THAT YtmfcgffdijnokaaProg.lean LOADS. Nothing in Lean hashes anything: it is a label: what it is worth is what the hold of that sum in a sandbox is worth. -/
noncomputable def Try.pinned : Pinned := { name := "ytmfcgffdijnokaa", sum := "d5211cb64daacb2f14a125c37eb394b1959e00de59877fdbc4105025009407cc", checked := Try.checked }
namespace Rows
def none {H : Type} : Left H := { results := [], args := [] }

/-- 'burnishlaw10.BlockForms': WHATEVER THE INPUT: true; the input reads as it did. -/
def blockFormsSpec : ChangeSpec := { name := "blockForms", fn := fun _ => fun
  | [d1, d2] => { results := [.lit (.bool true)], args := [d1, d2] }
  | _ => none }
def blockFormsRow : OpenClaim := { program := "ytmfcgffdijnokaa", sum := "d5211cb64daacb2f14a125c37eb394b1959e00de59877fdbc4105025009407cc", func := "burnish/burnishlaw10.BlockForms", spec := "blockForms", unfollowed := true, recurses := true, plainKeys := false, apart := false }
def BlockFormsSaid : Prop := blockFormsRow.holds Try.pinned (OpenSpec.ofChange blockFormsSpec)

/-- ITS FALSE NEIGHBOUR: 'it returns false'. Refute it at one input. -/
def blockFormsWrong : ChangeSpec := { name := "blockForms", fn := fun _ => fun
  | [d1, d2] => { results := [.lit (.bool false)], args := [d1, d2] }
  | _ => none }
def BlockFormsWrongFalsely : Prop := blockFormsRow.holds Try.pinned (OpenSpec.ofChange blockFormsWrong)

/-- 'burnishlaw10.BlockBest': WHATEVER THE INPUT: true; the input reads as it did. -/
def blockBestSpec : ChangeSpec := { name := "blockBest", fn := fun _ => fun
  | [d] => { results := [.lit (.bool true)], args := [d] }
  | _ => none }
def blockBestRow : OpenClaim := { program := "ytmfcgffdijnokaa", sum := "d5211cb64daacb2f14a125c37eb394b1959e00de59877fdbc4105025009407cc", func := "burnish/burnishlaw10.BlockBest", spec := "blockBest", unfollowed := true, recurses := true, plainKeys := false, apart := false }
def BlockBestSaid : Prop := blockBestRow.holds Try.pinned (OpenSpec.ofChange blockBestSpec)

/-- ITS FALSE NEIGHBOUR: 'it returns false'. Refute it at one input. -/
def blockBestWrong : ChangeSpec := { name := "blockBest", fn := fun _ => fun
  | [d] => { results := [.lit (.bool false)], args := [d] }
  | _ => none }
def BlockBestWrongFalsely : Prop := blockBestRow.holds Try.pinned (OpenSpec.ofChange blockBestWrong)

/-- 'burnishlaw10.BlockPrices': WHATEVER THE INPUT: true; the input reads as it did. -/
def blockPricesSpec : ChangeSpec := { name := "blockPrices", fn := fun _ => fun
  | [d] => { results := [.lit (.bool true)], args := [d] }
  | _ => none }
def blockPricesRow : OpenClaim := { program := "ytmfcgffdijnokaa", sum := "d5211cb64daacb2f14a125c37eb394b1959e00de59877fdbc4105025009407cc", func := "burnish/burnishlaw10.BlockPrices", spec := "blockPrices", unfollowed := true, recurses := true, plainKeys := false, apart := false }
def BlockPricesSaid : Prop := blockPricesRow.holds Try.pinned (OpenSpec.ofChange blockPricesSpec)

/-- ITS FALSE NEIGHBOUR: 'it returns false'. Refute it at one input. -/
def blockPricesWrong : ChangeSpec := { name := "blockPrices", fn := fun _ => fun
  | [d] => { results := [.lit (.bool false)], args := [d] }
  | _ => none }
def BlockPricesWrongFalsely : Prop := blockPricesRow.holds Try.pinned (OpenSpec.ofChange blockPricesWrong)

/-- 'burnishlaw18.ShrinkHolds': WHATEVER THE INPUT: true; the input reads as it did. -/
def shrinkHoldsSpec : ChangeSpec := { name := "shrinkHolds", fn := fun _ => fun
  | [d1, d2, d3] => { results := [.lit (.bool true)], args := [d1, d2, d3] }
  | _ => none }
def shrinkHoldsRow : OpenClaim := { program := "ytmfcgffdijnokaa", sum := "d5211cb64daacb2f14a125c37eb394b1959e00de59877fdbc4105025009407cc", func := "burnish/burnishlaw18.ShrinkHolds", spec := "shrinkHolds", unfollowed := true, recurses := true, plainKeys := false, apart := false }
def ShrinkHoldsSaid : Prop := shrinkHoldsRow.holds Try.pinned (OpenSpec.ofChange shrinkHoldsSpec)

/-- ITS FALSE NEIGHBOUR: 'it returns false'. Refute it at one input. -/
def shrinkHoldsWrong : ChangeSpec := { name := "shrinkHolds", fn := fun _ => fun
  | [d1, d2, d3] => { results := [.lit (.bool false)], args := [d1, d2, d3] }
  | _ => none }
def ShrinkHoldsWrongFalsely : Prop := shrinkHoldsRow.holds Try.pinned (OpenSpec.ofChange shrinkHoldsWrong)

/- THE SECOND FORM. 'bulk': how many values and letters a reading holds, each counted each time it is reached (what is shared counts as often as it is met; a slice's spare places count too). A statement '..UptoSaid' is the law's where the arguments, and the package variables that the reading takes, are together of bulk at most 1048576: NARROWER than '..Said'. Prove '..Said' where nothing that the law and all that it calls make is longer than what came in: it says more and counts as full. Else prove '..UptoSaid'. A law counts once. -/
mutual
def uptoBulk {H : Type} : DataW H → Nat
  | .lit (.string bytes) => bytes.length + 1
  | .lit _ => 1
  | .nil => 1
  | .ptr d => uptoBulk d + 1
  | .slice elems spare => uptoBulkAll elems + uptoBulkAll spare + 1
  | .agg parts => uptoBulkAll parts + 1
  | .iface _ d => uptoBulk d + 1
  | .map entries => uptoBulkEntries entries + 1
  | .held _ => 1
def uptoBulkAll {H : Type} : List (DataW H) → Nat
  | [] => 0
  | d :: r => uptoBulk d + uptoBulkAll r
def uptoBulkEntries {H : Type} : List (Lit × DataW H) → Nat
  | [] => 0
  | x :: r => uptoBulkEntry x + uptoBulkEntries r
def uptoBulkEntry {H : Type} : Lit × DataW H → Nat
  | (.string bytes, d) => bytes.length + uptoBulk d + 1
  | (_, d) => uptoBulk d + 1
 end
def uptoSmall : (H : Type) → List (DataW H) → Bool := fun _ ds => decide (uptoBulkAll ds ≤ 1048576)
def OpenSpec.upto (s : _root_.Go.ChangeSpec) : _root_.Go.OpenSpec := { _root_.Go.OpenSpec.ofChange s with cond := some uptoSmall }

/-- 'burnishlaw10.BlockForms', WHERE WHAT IT READS IS OF BULK AT MOST 1048576: true; the input reads as it did. -/
def blockFormsUptoRow : OpenClaim := { program := "ytmfcgffdijnokaa", sum := "d5211cb64daacb2f14a125c37eb394b1959e00de59877fdbc4105025009407cc", func := "burnish/burnishlaw10.BlockForms", spec := "blockForms", unfollowed := true, recurses := true, plainKeys := false, apart := false, narrowed := true }
def BlockFormsUptoSaid : Prop := blockFormsUptoRow.holds Try.pinned (OpenSpec.upto blockFormsSpec)

/-- 'burnishlaw10.BlockBest', WHERE WHAT IT READS IS OF BULK AT MOST 1048576: true; the input reads as it did. -/
def blockBestUptoRow : OpenClaim := { program := "ytmfcgffdijnokaa", sum := "d5211cb64daacb2f14a125c37eb394b1959e00de59877fdbc4105025009407cc", func := "burnish/burnishlaw10.BlockBest", spec := "blockBest", unfollowed := true, recurses := true, plainKeys := false, apart := false, narrowed := true }
def BlockBestUptoSaid : Prop := blockBestUptoRow.holds Try.pinned (OpenSpec.upto blockBestSpec)

/-- 'burnishlaw10.BlockPrices', WHERE WHAT IT READS IS OF BULK AT MOST 1048576: true; the input reads as it did. -/
def blockPricesUptoRow : OpenClaim := { program := "ytmfcgffdijnokaa", sum := "d5211cb64daacb2f14a125c37eb394b1959e00de59877fdbc4105025009407cc", func := "burnish/burnishlaw10.BlockPrices", spec := "blockPrices", unfollowed := true, recurses := true, plainKeys := false, apart := false, narrowed := true }
def BlockPricesUptoSaid : Prop := blockPricesUptoRow.holds Try.pinned (OpenSpec.upto blockPricesSpec)

/-- 'burnishlaw18.ShrinkHolds', WHERE WHAT IT READS IS OF BULK AT MOST 1048576: true; the input reads as it did. -/
def shrinkHoldsUptoRow : OpenClaim := { program := "ytmfcgffdijnokaa", sum := "d5211cb64daacb2f14a125c37eb394b1959e00de59877fdbc4105025009407cc", func := "burnish/burnishlaw18.ShrinkHolds", spec := "shrinkHolds", unfollowed := true, recurses := true, plainKeys := false, apart := false, narrowed := true }
def ShrinkHoldsUptoSaid : Prop := shrinkHoldsUptoRow.holds Try.pinned (OpenSpec.upto shrinkHoldsSpec)

end Rows
end Go.Proofs.Ytmfcgffdijnokaa
