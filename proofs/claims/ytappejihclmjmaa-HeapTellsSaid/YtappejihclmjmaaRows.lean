/-
  No cell of these rows narrows 'for every input' (looked for: loops, veiled, ifaces, maps, wideKeys, modest, calm, conditions, laid).
  DERIVED. THE GIVEN ROWS OF THIS SEAT. 12 by the template 'for every input the law returns true; each argument reads behind the call as it read before'; 0 by the template 'total and deterministic' (their statements: YtappejihclmjmaaTotals.lean).
  GIVEN WITH THE SEED: the statements are not yours to turn. If you find one false, say at which input.
  Laid BY PROGRAM, IN A SANDBOX (cutbox-rows.mjs): the forced cells as the released guide's own fill.sh prints them over the translation a2b3e61a7b9a6320… (all of the seat's roots in one cut). By AI agents, Wed Nov 11 2026. No macro, syntax, notation, axiom, sorry.
-/
import Derived.Test.YtappejihclmjmaaChecked
import GoSem.Claim
import GoSem.ClaimJoined
import GoSem.ClaimMapViews
import Derived.JoinedTies
import Derived.KernelRfl
namespace Go.Proofs.Ytappejihclmjmaa
/- THE CELL 'sum', in the pinned program and in every row, IS THE sha256 OF THE DUMP (.gsa) THAT YtappejihclmjmaaProg.lean LOADS. Nothing in Lean hashes anything: it is a label: what it is worth is what the hold of that sum in a sandbox is worth. -/
noncomputable def Try.pinned : Pinned := { name := "ytappejihclmjmaa", sum := "a2b3e61a7b9a6320070bd9fea429ad27ad730fd0311e711462072c85a6ab86d7", checked := Try.checked }
namespace Rows
def none {H : Type} : Left H := { results := [], args := [] }

/-- 'cromlechlaw07.PlacesTells': WHATEVER THE INPUT: true; the input reads as it did. -/
def placesTellsSpec : ChangeSpec := { name := "placesTells", fn := fun _ => fun
  | [d1, d2, d3, d4, d5, d6, d7] => { results := [.lit (.bool true)], args := [d1, d2, d3, d4, d5, d6, d7] }
  | _ => none }
def placesTellsRow : OpenClaim := { program := "ytappejihclmjmaa", sum := "a2b3e61a7b9a6320070bd9fea429ad27ad730fd0311e711462072c85a6ab86d7", func := "cromlech/cromlechlaw07.PlacesTells", spec := "placesTells", apart := false }
def PlacesTellsSaid : Prop := placesTellsRow.holds Try.pinned (OpenSpec.ofChange placesTellsSpec)

/-- ITS FALSE NEIGHBOUR: 'it returns false'. Refute it at one input. -/
def placesTellsWrong : ChangeSpec := { name := "placesTells", fn := fun _ => fun
  | [d1, d2, d3, d4, d5, d6, d7] => { results := [.lit (.bool false)], args := [d1, d2, d3, d4, d5, d6, d7] }
  | _ => none }
def PlacesTellsWrongFalsely : Prop := placesTellsRow.holds Try.pinned (OpenSpec.ofChange placesTellsWrong)

/-- 'cromlechlaw07.PlacesBack': WHATEVER THE INPUT: true; the input reads as it did. -/
def placesBackSpec : ChangeSpec := { name := "placesBack", fn := fun _ => fun
  | [d1, d2] => { results := [.lit (.bool true)], args := [d1, d2] }
  | _ => none }
def placesBackRow : OpenClaim := { program := "ytappejihclmjmaa", sum := "a2b3e61a7b9a6320070bd9fea429ad27ad730fd0311e711462072c85a6ab86d7", func := "cromlech/cromlechlaw07.PlacesBack", spec := "placesBack", apart := false }
def PlacesBackSaid : Prop := placesBackRow.holds Try.pinned (OpenSpec.ofChange placesBackSpec)

/-- ITS FALSE NEIGHBOUR: 'it returns false'. Refute it at one input. -/
def placesBackWrong : ChangeSpec := { name := "placesBack", fn := fun _ => fun
  | [d1, d2] => { results := [.lit (.bool false)], args := [d1, d2] }
  | _ => none }
def PlacesBackWrongFalsely : Prop := placesBackRow.holds Try.pinned (OpenSpec.ofChange placesBackWrong)

/-- 'cromlechlaw07.PlacesFlip': WHATEVER THE INPUT: true; the input reads as it did. -/
def placesFlipSpec : ChangeSpec := { name := "placesFlip", fn := fun _ => fun
  | [d1, d2, d3] => { results := [.lit (.bool true)], args := [d1, d2, d3] }
  | _ => none }
def placesFlipRow : OpenClaim := { program := "ytappejihclmjmaa", sum := "a2b3e61a7b9a6320070bd9fea429ad27ad730fd0311e711462072c85a6ab86d7", func := "cromlech/cromlechlaw07.PlacesFlip", spec := "placesFlip", apart := false }
def PlacesFlipSaid : Prop := placesFlipRow.holds Try.pinned (OpenSpec.ofChange placesFlipSpec)

/-- ITS FALSE NEIGHBOUR: 'it returns false'. Refute it at one input. -/
def placesFlipWrong : ChangeSpec := { name := "placesFlip", fn := fun _ => fun
  | [d1, d2, d3] => { results := [.lit (.bool false)], args := [d1, d2, d3] }
  | _ => none }
def PlacesFlipWrongFalsely : Prop := placesFlipRow.holds Try.pinned (OpenSpec.ofChange placesFlipWrong)

/-- 'cromlechlaw07.PlacesOrder': WHATEVER THE INPUT: true; the input reads as it did. -/
def placesOrderSpec : ChangeSpec := { name := "placesOrder", fn := fun _ => fun
  | [d1, d2] => { results := [.lit (.bool true)], args := [d1, d2] }
  | _ => none }
def placesOrderRow : OpenClaim := { program := "ytappejihclmjmaa", sum := "a2b3e61a7b9a6320070bd9fea429ad27ad730fd0311e711462072c85a6ab86d7", func := "cromlech/cromlechlaw07.PlacesOrder", spec := "placesOrder", apart := false }
def PlacesOrderSaid : Prop := placesOrderRow.holds Try.pinned (OpenSpec.ofChange placesOrderSpec)

/-- ITS FALSE NEIGHBOUR: 'it returns false'. Refute it at one input. -/
def placesOrderWrong : ChangeSpec := { name := "placesOrder", fn := fun _ => fun
  | [d1, d2] => { results := [.lit (.bool false)], args := [d1, d2] }
  | _ => none }
def PlacesOrderWrongFalsely : Prop := placesOrderRow.holds Try.pinned (OpenSpec.ofChange placesOrderWrong)

/-- 'cromlechlaw07.PlacesMoved': WHATEVER THE INPUT: true; the input reads as it did. -/
def placesMovedSpec : ChangeSpec := { name := "placesMoved", fn := fun _ => fun
  | [d1, d2, d3, d4, d5, d6] => { results := [.lit (.bool true)], args := [d1, d2, d3, d4, d5, d6] }
  | _ => none }
def placesMovedRow : OpenClaim := { program := "ytappejihclmjmaa", sum := "a2b3e61a7b9a6320070bd9fea429ad27ad730fd0311e711462072c85a6ab86d7", func := "cromlech/cromlechlaw07.PlacesMoved", spec := "placesMoved", apart := false }
def PlacesMovedSaid : Prop := placesMovedRow.holds Try.pinned (OpenSpec.ofChange placesMovedSpec)

/-- ITS FALSE NEIGHBOUR: 'it returns false'. Refute it at one input. -/
def placesMovedWrong : ChangeSpec := { name := "placesMoved", fn := fun _ => fun
  | [d1, d2, d3, d4, d5, d6] => { results := [.lit (.bool false)], args := [d1, d2, d3, d4, d5, d6] }
  | _ => none }
def PlacesMovedWrongFalsely : Prop := placesMovedRow.holds Try.pinned (OpenSpec.ofChange placesMovedWrong)

/-- 'cromlechlaw07.PlacesTwo': WHATEVER THE INPUT: true; the input reads as it did. -/
def placesTwoSpec : ChangeSpec := { name := "placesTwo", fn := fun _ => fun
  | [d1, d2, d3, d4] => { results := [.lit (.bool true)], args := [d1, d2, d3, d4] }
  | _ => none }
def placesTwoRow : OpenClaim := { program := "ytappejihclmjmaa", sum := "a2b3e61a7b9a6320070bd9fea429ad27ad730fd0311e711462072c85a6ab86d7", func := "cromlech/cromlechlaw07.PlacesTwo", spec := "placesTwo", apart := false }
def PlacesTwoSaid : Prop := placesTwoRow.holds Try.pinned (OpenSpec.ofChange placesTwoSpec)

/-- ITS FALSE NEIGHBOUR: 'it returns false'. Refute it at one input. -/
def placesTwoWrong : ChangeSpec := { name := "placesTwo", fn := fun _ => fun
  | [d1, d2, d3, d4] => { results := [.lit (.bool false)], args := [d1, d2, d3, d4] }
  | _ => none }
def PlacesTwoWrongFalsely : Prop := placesTwoRow.holds Try.pinned (OpenSpec.ofChange placesTwoWrong)

/-- 'cromlechlaw10.HeapTells': WHATEVER THE INPUT: true; the input reads as it did. -/
def heapTellsSpec : ChangeSpec := { name := "heapTells", fn := fun _ => fun
  | [d1, d2, d3, d4, d5, d6, d7, d8, d9] => { results := [.lit (.bool true)], args := [d1, d2, d3, d4, d5, d6, d7, d8, d9] }
  | _ => none }
def heapTellsRow : OpenClaim := { program := "ytappejihclmjmaa", sum := "a2b3e61a7b9a6320070bd9fea429ad27ad730fd0311e711462072c85a6ab86d7", func := "cromlech/cromlechlaw10.HeapTells", spec := "heapTells", apart := false }
def HeapTellsSaid : Prop := heapTellsRow.holds Try.pinned (OpenSpec.ofChange heapTellsSpec)

/-- ITS FALSE NEIGHBOUR: 'it returns false'. Refute it at one input. -/
def heapTellsWrong : ChangeSpec := { name := "heapTells", fn := fun _ => fun
  | [d1, d2, d3, d4, d5, d6, d7, d8, d9] => { results := [.lit (.bool false)], args := [d1, d2, d3, d4, d5, d6, d7, d8, d9] }
  | _ => none }
def HeapTellsWrongFalsely : Prop := heapTellsRow.holds Try.pinned (OpenSpec.ofChange heapTellsWrong)

/-- 'cromlechlaw10.HeapWords': WHATEVER THE INPUT: true; the input reads as it did. -/
def heapWordsSpec : ChangeSpec := { name := "heapWords", fn := fun _ => fun
  | [d1, d2, d3, d4, d5] => { results := [.lit (.bool true)], args := [d1, d2, d3, d4, d5] }
  | _ => none }
def heapWordsRow : OpenClaim := { program := "ytappejihclmjmaa", sum := "a2b3e61a7b9a6320070bd9fea429ad27ad730fd0311e711462072c85a6ab86d7", func := "cromlech/cromlechlaw10.HeapWords", spec := "heapWords", apart := false }
def HeapWordsSaid : Prop := heapWordsRow.holds Try.pinned (OpenSpec.ofChange heapWordsSpec)

/-- ITS FALSE NEIGHBOUR: 'it returns false'. Refute it at one input. -/
def heapWordsWrong : ChangeSpec := { name := "heapWords", fn := fun _ => fun
  | [d1, d2, d3, d4, d5] => { results := [.lit (.bool false)], args := [d1, d2, d3, d4, d5] }
  | _ => none }
def HeapWordsWrongFalsely : Prop := heapWordsRow.holds Try.pinned (OpenSpec.ofChange heapWordsWrong)

/-- 'cromlechlaw10.HeapMany': WHATEVER THE INPUT: true; the input reads as it did. -/
def heapManySpec : ChangeSpec := { name := "heapMany", fn := fun _ => fun
  | [d1, d2, d3, d4, d5, d6, d7] => { results := [.lit (.bool true)], args := [d1, d2, d3, d4, d5, d6, d7] }
  | _ => none }
def heapManyRow : OpenClaim := { program := "ytappejihclmjmaa", sum := "a2b3e61a7b9a6320070bd9fea429ad27ad730fd0311e711462072c85a6ab86d7", func := "cromlech/cromlechlaw10.HeapMany", spec := "heapMany", apart := false }
def HeapManySaid : Prop := heapManyRow.holds Try.pinned (OpenSpec.ofChange heapManySpec)

/-- ITS FALSE NEIGHBOUR: 'it returns false'. Refute it at one input. -/
def heapManyWrong : ChangeSpec := { name := "heapMany", fn := fun _ => fun
  | [d1, d2, d3, d4, d5, d6, d7] => { results := [.lit (.bool false)], args := [d1, d2, d3, d4, d5, d6, d7] }
  | _ => none }
def HeapManyWrongFalsely : Prop := heapManyRow.holds Try.pinned (OpenSpec.ofChange heapManyWrong)

/-- 'cromlechlaw10.HeapNew': WHATEVER THE INPUT: true; the input reads as it did. -/
def heapNewSpec : ChangeSpec := { name := "heapNew", fn := fun _ => fun
  | [d1, d2, d3, d4] => { results := [.lit (.bool true)], args := [d1, d2, d3, d4] }
  | _ => none }
def heapNewRow : OpenClaim := { program := "ytappejihclmjmaa", sum := "a2b3e61a7b9a6320070bd9fea429ad27ad730fd0311e711462072c85a6ab86d7", func := "cromlech/cromlechlaw10.HeapNew", spec := "heapNew", apart := false }
def HeapNewSaid : Prop := heapNewRow.holds Try.pinned (OpenSpec.ofChange heapNewSpec)

/-- ITS FALSE NEIGHBOUR: 'it returns false'. Refute it at one input. -/
def heapNewWrong : ChangeSpec := { name := "heapNew", fn := fun _ => fun
  | [d1, d2, d3, d4] => { results := [.lit (.bool false)], args := [d1, d2, d3, d4] }
  | _ => none }
def HeapNewWrongFalsely : Prop := heapNewRow.holds Try.pinned (OpenSpec.ofChange heapNewWrong)

/-- 'cromlechlaw10.HeapParts': WHATEVER THE INPUT: true; the input reads as it did. -/
def heapPartsSpec : ChangeSpec := { name := "heapParts", fn := fun _ => fun
  | [d1, d2, d3] => { results := [.lit (.bool true)], args := [d1, d2, d3] }
  | _ => none }
def heapPartsRow : OpenClaim := { program := "ytappejihclmjmaa", sum := "a2b3e61a7b9a6320070bd9fea429ad27ad730fd0311e711462072c85a6ab86d7", func := "cromlech/cromlechlaw10.HeapParts", spec := "heapParts", apart := false }
def HeapPartsSaid : Prop := heapPartsRow.holds Try.pinned (OpenSpec.ofChange heapPartsSpec)

/-- ITS FALSE NEIGHBOUR: 'it returns false'. Refute it at one input. -/
def heapPartsWrong : ChangeSpec := { name := "heapParts", fn := fun _ => fun
  | [d1, d2, d3] => { results := [.lit (.bool false)], args := [d1, d2, d3] }
  | _ => none }
def HeapPartsWrongFalsely : Prop := heapPartsRow.holds Try.pinned (OpenSpec.ofChange heapPartsWrong)

/-- 'cromlechlaw10.HeapOwn': WHATEVER THE INPUT: true; the input reads as it did. -/
def heapOwnSpec : ChangeSpec := { name := "heapOwn", fn := fun _ => fun
  | [d1, d2, d3, d4] => { results := [.lit (.bool true)], args := [d1, d2, d3, d4] }
  | _ => none }
def heapOwnRow : OpenClaim := { program := "ytappejihclmjmaa", sum := "a2b3e61a7b9a6320070bd9fea429ad27ad730fd0311e711462072c85a6ab86d7", func := "cromlech/cromlechlaw10.HeapOwn", spec := "heapOwn", apart := false }
def HeapOwnSaid : Prop := heapOwnRow.holds Try.pinned (OpenSpec.ofChange heapOwnSpec)

/-- ITS FALSE NEIGHBOUR: 'it returns false'. Refute it at one input. -/
def heapOwnWrong : ChangeSpec := { name := "heapOwn", fn := fun _ => fun
  | [d1, d2, d3, d4] => { results := [.lit (.bool false)], args := [d1, d2, d3, d4] }
  | _ => none }
def HeapOwnWrongFalsely : Prop := heapOwnRow.holds Try.pinned (OpenSpec.ofChange heapOwnWrong)

/- THE SECOND FORM. 'bulk': how many values and letters a reading holds, each counted each time it is reached (what is shared counts as often as it is met; a slice's spare places count too). A statement '..UptoSaid' is the law's where the arguments, and the package variables that the reading takes, are together of bulk at most 1048576: NARROWER than '..Said'. Prove '..Said' where nothing that the law and all that it calls make is longer than what came in: it says more and counts as full. Else prove '..UptoSaid'. A law counts once. -/
mutual
def uptoBulk {H : Type} : DataW H → Nat
  | .lit (.string bytes) => bytes.length + 1
  | .lit _ => 1
  | .nil => 1
  | .ptr d => uptoBulk d + 1
  | .slice elems spare => uptoBulkAll elems + uptoBulkAll spare + 1
  | .agg parts => uptoBulkAll parts + 1
  | .iface _ d => uptoBulk d + 1
  | .map entries => uptoBulkEntries entries + 1
  | .held _ => 1
def uptoBulkAll {H : Type} : List (DataW H) → Nat
  | [] => 0
  | d :: r => uptoBulk d + uptoBulkAll r
def uptoBulkEntries {H : Type} : List (Lit × DataW H) → Nat
  | [] => 0
  | x :: r => uptoBulkEntry x + uptoBulkEntries r
def uptoBulkEntry {H : Type} : Lit × DataW H → Nat
  | (.string bytes, d) => bytes.length + uptoBulk d + 1
  | (_, d) => uptoBulk d + 1
 end
def uptoSmall : (H : Type) → List (DataW H) → Bool := fun _ ds => decide (uptoBulkAll ds ≤ 1048576)
def OpenSpec.upto (s : _root_.Go.ChangeSpec) : _root_.Go.OpenSpec := { _root_.Go.OpenSpec.ofChange s with cond := some uptoSmall }

/-- 'cromlechlaw07.PlacesTells', WHERE WHAT IT READS IS OF BULK AT MOST 1048576: true; the input reads as it did. -/
def placesTellsUptoRow : OpenClaim := { program := "ytappejihclmjmaa", sum := "a2b3e61a7b9a6320070bd9fea429ad27ad730fd0311e711462072c85a6ab86d7", func := "cromlech/cromlechlaw07.PlacesTells", spec := "placesTells", apart := false, narrowed := true }
def PlacesTellsUptoSaid : Prop := placesTellsUptoRow.holds Try.pinned (OpenSpec.upto placesTellsSpec)

/-- 'cromlechlaw07.PlacesBack', WHERE WHAT IT READS IS OF BULK AT MOST 1048576: true; the input reads as it did. -/
def placesBackUptoRow : OpenClaim := { program := "ytappejihclmjmaa", sum := "a2b3e61a7b9a6320070bd9fea429ad27ad730fd0311e711462072c85a6ab86d7", func := "cromlech/cromlechlaw07.PlacesBack", spec := "placesBack", apart := false, narrowed := true }
def PlacesBackUptoSaid : Prop := placesBackUptoRow.holds Try.pinned (OpenSpec.upto placesBackSpec)

/-- 'cromlechlaw07.PlacesFlip', WHERE WHAT IT READS IS OF BULK AT MOST 1048576: true; the input reads as it did. -/
def placesFlipUptoRow : OpenClaim := { program := "ytappejihclmjmaa", sum := "a2b3e61a7b9a6320070bd9fea429ad27ad730fd0311e711462072c85a6ab86d7", func := "cromlech/cromlechlaw07.PlacesFlip", spec := "placesFlip", apart := false, narrowed := true }
def PlacesFlipUptoSaid : Prop := placesFlipUptoRow.holds Try.pinned (OpenSpec.upto placesFlipSpec)

/-- 'cromlechlaw07.PlacesOrder', WHERE WHAT IT READS IS OF BULK AT MOST 1048576: true; the input reads as it did. -/
def placesOrderUptoRow : OpenClaim := { program := "ytappejihclmjmaa", sum := "a2b3e61a7b9a6320070bd9fea429ad27ad730fd0311e711462072c85a6ab86d7", func := "cromlech/cromlechlaw07.PlacesOrder", spec := "placesOrder", apart := false, narrowed := true }
def PlacesOrderUptoSaid : Prop := placesOrderUptoRow.holds Try.pinned (OpenSpec.upto placesOrderSpec)

/-- 'cromlechlaw07.PlacesMoved', WHERE WHAT IT READS IS OF BULK AT MOST 1048576: true; the input reads as it did. -/
def placesMovedUptoRow : OpenClaim := { program := "ytappejihclmjmaa", sum := "a2b3e61a7b9a6320070bd9fea429ad27ad730fd0311e711462072c85a6ab86d7", func := "cromlech/cromlechlaw07.PlacesMoved", spec := "placesMoved", apart := false, narrowed := true }
def PlacesMovedUptoSaid : Prop := placesMovedUptoRow.holds Try.pinned (OpenSpec.upto placesMovedSpec)

/-- 'cromlechlaw07.PlacesTwo', WHERE WHAT IT READS IS OF BULK AT MOST 1048576: true; the input reads as it did. -/
def placesTwoUptoRow : OpenClaim := { program := "ytappejihclmjmaa", sum := "a2b3e61a7b9a6320070bd9fea429ad27ad730fd0311e711462072c85a6ab86d7", func := "cromlech/cromlechlaw07.PlacesTwo", spec := "placesTwo", apart := false, narrowed := true }
def PlacesTwoUptoSaid : Prop := placesTwoUptoRow.holds Try.pinned (OpenSpec.upto placesTwoSpec)

/-- 'cromlechlaw10.HeapTells', WHERE WHAT IT READS IS OF BULK AT MOST 1048576: true; the input reads as it did. -/
def heapTellsUptoRow : OpenClaim := { program := "ytappejihclmjmaa", sum := "a2b3e61a7b9a6320070bd9fea429ad27ad730fd0311e711462072c85a6ab86d7", func := "cromlech/cromlechlaw10.HeapTells", spec := "heapTells", apart := false, narrowed := true }
def HeapTellsUptoSaid : Prop := heapTellsUptoRow.holds Try.pinned (OpenSpec.upto heapTellsSpec)

/-- 'cromlechlaw10.HeapWords', WHERE WHAT IT READS IS OF BULK AT MOST 1048576: true; the input reads as it did. -/
def heapWordsUptoRow : OpenClaim := { program := "ytappejihclmjmaa", sum := "a2b3e61a7b9a6320070bd9fea429ad27ad730fd0311e711462072c85a6ab86d7", func := "cromlech/cromlechlaw10.HeapWords", spec := "heapWords", apart := false, narrowed := true }
def HeapWordsUptoSaid : Prop := heapWordsUptoRow.holds Try.pinned (OpenSpec.upto heapWordsSpec)

/-- 'cromlechlaw10.HeapMany', WHERE WHAT IT READS IS OF BULK AT MOST 1048576: true; the input reads as it did. -/
def heapManyUptoRow : OpenClaim := { program := "ytappejihclmjmaa", sum := "a2b3e61a7b9a6320070bd9fea429ad27ad730fd0311e711462072c85a6ab86d7", func := "cromlech/cromlechlaw10.HeapMany", spec := "heapMany", apart := false, narrowed := true }
def HeapManyUptoSaid : Prop := heapManyUptoRow.holds Try.pinned (OpenSpec.upto heapManySpec)

/-- 'cromlechlaw10.HeapNew', WHERE WHAT IT READS IS OF BULK AT MOST 1048576: true; the input reads as it did. -/
def heapNewUptoRow : OpenClaim := { program := "ytappejihclmjmaa", sum := "a2b3e61a7b9a6320070bd9fea429ad27ad730fd0311e711462072c85a6ab86d7", func := "cromlech/cromlechlaw10.HeapNew", spec := "heapNew", apart := false, narrowed := true }
def HeapNewUptoSaid : Prop := heapNewUptoRow.holds Try.pinned (OpenSpec.upto heapNewSpec)

/-- 'cromlechlaw10.HeapParts', WHERE WHAT IT READS IS OF BULK AT MOST 1048576: true; the input reads as it did. -/
def heapPartsUptoRow : OpenClaim := { program := "ytappejihclmjmaa", sum := "a2b3e61a7b9a6320070bd9fea429ad27ad730fd0311e711462072c85a6ab86d7", func := "cromlech/cromlechlaw10.HeapParts", spec := "heapParts", apart := false, narrowed := true }
def HeapPartsUptoSaid : Prop := heapPartsUptoRow.holds Try.pinned (OpenSpec.upto heapPartsSpec)

/-- 'cromlechlaw10.HeapOwn', WHERE WHAT IT READS IS OF BULK AT MOST 1048576: true; the input reads as it did. -/
def heapOwnUptoRow : OpenClaim := { program := "ytappejihclmjmaa", sum := "a2b3e61a7b9a6320070bd9fea429ad27ad730fd0311e711462072c85a6ab86d7", func := "cromlech/cromlechlaw10.HeapOwn", spec := "heapOwn", apart := false, narrowed := true }
def HeapOwnUptoSaid : Prop := heapOwnUptoRow.holds Try.pinned (OpenSpec.upto heapOwnSpec)

end Rows
end Go.Proofs.Ytappejihclmjmaa
