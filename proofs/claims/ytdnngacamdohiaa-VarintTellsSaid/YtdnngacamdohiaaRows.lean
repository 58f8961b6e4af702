/-
  No cell of these rows narrows 'for every input' (looked for: loops, veiled, ifaces, maps, wideKeys, modest, calm, conditions, laid).
  DERIVED. THE GIVEN ROWS OF THIS SEAT. 12 by the template 'for every input the law returns true; each argument reads behind the call as it read before'; 0 by the template 'total and deterministic' (their statements: YtdnngacamdohiaaTotals.lean).
  GIVEN WITH THE SEED: the statements are not yours to turn. If you find one false, say at which input.
  Laid BY PROGRAM, IN A SANDBOX (cutbox-rows.mjs): the forced cells as the released guide's own fill.sh prints them over the translation 1c8f78d6e3898788… (all of the seat's roots in one cut). By AI agents, Wed Nov 11 2026. No macro, syntax, notation, axiom, sorry.
-/
import Derived.Test.YtdnngacamdohiaaChecked
import GoSem.Claim
import GoSem.ClaimJoined
import GoSem.ClaimMapViews
import Derived.JoinedTies
import Derived.KernelRfl
namespace Go.Proofs.Ytdnngacamdohiaa
/- THE CELL 'sum', in the pinned program and in every row, IS THE sha256 OF THE DUMP (.gsa) THAT YtdnngacamdohiaaProg.lean LOADS. Nothing in Lean hashes anything: it is a label: what it is worth is what the hold of that sum in a sandbox is worth. -/
noncomputable def Try.pinned : Pinned := { name := "ytdnngacamdohiaa", sum := "1c8f78d6e3898788ac5425a6383cb924ce1d54ac193213b3e451a6c3dfebeec6", checked := Try.checked }
namespace Rows
def none {H : Type} : Left H := { results := [], args := [] }

/-- 'cromlechlaw02.WordsTells': WHATEVER THE INPUT: true; the input reads as it did. -/
def wordsTellsSpec : ChangeSpec := { name := "wordsTells", fn := fun _ => fun
  | [d1, d2, d3, d4, d5] => { results := [.lit (.bool true)], args := [d1, d2, d3, d4, d5] }
  | _ => none }
def wordsTellsRow : OpenClaim := { program := "ytdnngacamdohiaa", sum := "1c8f78d6e3898788ac5425a6383cb924ce1d54ac193213b3e451a6c3dfebeec6", func := "cromlech/cromlechlaw02.WordsTells", spec := "wordsTells", apart := false }
def WordsTellsSaid : Prop := wordsTellsRow.holds Try.pinned (OpenSpec.ofChange wordsTellsSpec)

/-- ITS FALSE NEIGHBOUR: 'it returns false'. Refute it at one input. -/
def wordsTellsWrong : ChangeSpec := { name := "wordsTells", fn := fun _ => fun
  | [d1, d2, d3, d4, d5] => { results := [.lit (.bool false)], args := [d1, d2, d3, d4, d5] }
  | _ => none }
def WordsTellsWrongFalsely : Prop := wordsTellsRow.holds Try.pinned (OpenSpec.ofChange wordsTellsWrong)

/-- 'cromlechlaw02.WordsBack': WHATEVER THE INPUT: true; the input reads as it did. -/
def wordsBackSpec : ChangeSpec := { name := "wordsBack", fn := fun _ => fun
  | [d1, d2, d3, d4, d5] => { results := [.lit (.bool true)], args := [d1, d2, d3, d4, d5] }
  | _ => none }
def wordsBackRow : OpenClaim := { program := "ytdnngacamdohiaa", sum := "1c8f78d6e3898788ac5425a6383cb924ce1d54ac193213b3e451a6c3dfebeec6", func := "cromlech/cromlechlaw02.WordsBack", spec := "wordsBack", apart := false }
def WordsBackSaid : Prop := wordsBackRow.holds Try.pinned (OpenSpec.ofChange wordsBackSpec)

/-- ITS FALSE NEIGHBOUR: 'it returns false'. Refute it at one input. -/
def wordsBackWrong : ChangeSpec := { name := "wordsBack", fn := fun _ => fun
  | [d1, d2, d3, d4, d5] => { results := [.lit (.bool false)], args := [d1, d2, d3, d4, d5] }
  | _ => none }
def WordsBackWrongFalsely : Prop := wordsBackRow.holds Try.pinned (OpenSpec.ofChange wordsBackWrong)

/-- 'cromlechlaw02.WordsForms': WHATEVER THE INPUT: true; the input reads as it did. -/
def wordsFormsSpec : ChangeSpec := { name := "wordsForms", fn := fun _ => fun
  | [d1, d2, d3] => { results := [.lit (.bool true)], args := [d1, d2, d3] }
  | _ => none }
def wordsFormsRow : OpenClaim := { program := "ytdnngacamdohiaa", sum := "1c8f78d6e3898788ac5425a6383cb924ce1d54ac193213b3e451a6c3dfebeec6", func := "cromlech/cromlechlaw02.WordsForms", spec := "wordsForms", apart := false }
def WordsFormsSaid : Prop := wordsFormsRow.holds Try.pinned (OpenSpec.ofChange wordsFormsSpec)

/-- ITS FALSE NEIGHBOUR: 'it returns false'. Refute it at one input. -/
def wordsFormsWrong : ChangeSpec := { name := "wordsForms", fn := fun _ => fun
  | [d1, d2, d3] => { results := [.lit (.bool false)], args := [d1, d2, d3] }
  | _ => none }
def WordsFormsWrongFalsely : Prop := wordsFormsRow.holds Try.pinned (OpenSpec.ofChange wordsFormsWrong)

/-- 'cromlechlaw02.WordsHalves': WHATEVER THE INPUT: true; the input reads as it did. -/
def wordsHalvesSpec : ChangeSpec := { name := "wordsHalves", fn := fun _ => fun
  | [d1, d2] => { results := [.lit (.bool true)], args := [d1, d2] }
  | _ => none }
def wordsHalvesRow : OpenClaim := { program := "ytdnngacamdohiaa", sum := "1c8f78d6e3898788ac5425a6383cb924ce1d54ac193213b3e451a6c3dfebeec6", func := "cromlech/cromlechlaw02.WordsHalves", spec := "wordsHalves", apart := false }
def WordsHalvesSaid : Prop := wordsHalvesRow.holds Try.pinned (OpenSpec.ofChange wordsHalvesSpec)

/-- ITS FALSE NEIGHBOUR: 'it returns false'. Refute it at one input. -/
def wordsHalvesWrong : ChangeSpec := { name := "wordsHalves", fn := fun _ => fun
  | [d1, d2] => { results := [.lit (.bool false)], args := [d1, d2] }
  | _ => none }
def WordsHalvesWrongFalsely : Prop := wordsHalvesRow.holds Try.pinned (OpenSpec.ofChange wordsHalvesWrong)

/-- 'cromlechlaw02.WordsParts': WHATEVER THE INPUT: true; the input reads as it did. -/
def wordsPartsSpec : ChangeSpec := { name := "wordsParts", fn := fun _ => fun
  | [d1, d2] => { results := [.lit (.bool true)], args := [d1, d2] }
  | _ => none }
def wordsPartsRow : OpenClaim := { program := "ytdnngacamdohiaa", sum := "1c8f78d6e3898788ac5425a6383cb924ce1d54ac193213b3e451a6c3dfebeec6", func := "cromlech/cromlechlaw02.WordsParts", spec := "wordsParts", apart := false }
def WordsPartsSaid : Prop := wordsPartsRow.holds Try.pinned (OpenSpec.ofChange wordsPartsSpec)

/-- ITS FALSE NEIGHBOUR: 'it returns false'. Refute it at one input. -/
def wordsPartsWrong : ChangeSpec := { name := "wordsParts", fn := fun _ => fun
  | [d1, d2] => { results := [.lit (.bool false)], args := [d1, d2] }
  | _ => none }
def WordsPartsWrongFalsely : Prop := wordsPartsRow.holds Try.pinned (OpenSpec.ofChange wordsPartsWrong)

/-- 'cromlechlaw02.WordsBits': WHATEVER THE INPUT: true; the input reads as it did. -/
def wordsBitsSpec : ChangeSpec := { name := "wordsBits", fn := fun _ => fun
  | [d] => { results := [.lit (.bool true)], args := [d] }
  | _ => none }
def wordsBitsRow : OpenClaim := { program := "ytdnngacamdohiaa", sum := "1c8f78d6e3898788ac5425a6383cb924ce1d54ac193213b3e451a6c3dfebeec6", func := "cromlech/cromlechlaw02.WordsBits", spec := "wordsBits", apart := false }
def WordsBitsSaid : Prop := wordsBitsRow.holds Try.pinned (OpenSpec.ofChange wordsBitsSpec)

/-- ITS FALSE NEIGHBOUR: 'it returns false'. Refute it at one input. -/
def wordsBitsWrong : ChangeSpec := { name := "wordsBits", fn := fun _ => fun
  | [d] => { results := [.lit (.bool false)], args := [d] }
  | _ => none }
def WordsBitsWrongFalsely : Prop := wordsBitsRow.holds Try.pinned (OpenSpec.ofChange wordsBitsWrong)

/-- 'cromlechlaw01.VarintTells': WHATEVER THE INPUT: true; the input reads as it did. -/
def varintTellsSpec : ChangeSpec := { name := "varintTells", fn := fun _ => fun
  | [d1, d2, d3, d4, d5, d6, d7] => { results := [.lit (.bool true)], args := [d1, d2, d3, d4, d5, d6, d7] }
  | _ => none }
def varintTellsRow : OpenClaim := { program := "ytdnngacamdohiaa", sum := "1c8f78d6e3898788ac5425a6383cb924ce1d54ac193213b3e451a6c3dfebeec6", func := "cromlech/cromlechlaw01.VarintTells", spec := "varintTells", recurses := true, apart := false }
def VarintTellsSaid : Prop := varintTellsRow.holds Try.pinned (OpenSpec.ofChange varintTellsSpec)

/-- ITS FALSE NEIGHBOUR: 'it returns false'. Refute it at one input. -/
def varintTellsWrong : ChangeSpec := { name := "varintTells", fn := fun _ => fun
  | [d1, d2, d3, d4, d5, d6, d7] => { results := [.lit (.bool false)], args := [d1, d2, d3, d4, d5, d6, d7] }
  | _ => none }
def VarintTellsWrongFalsely : Prop := varintTellsRow.holds Try.pinned (OpenSpec.ofChange varintTellsWrong)

/-- 'cromlechlaw01.VarintBack': WHATEVER THE INPUT: true; the input reads as it did. -/
def varintBackSpec : ChangeSpec := { name := "varintBack", fn := fun _ => fun
  | [d1, d2, d3, d4] => { results := [.lit (.bool true)], args := [d1, d2, d3, d4] }
  | _ => none }
def varintBackRow : OpenClaim := { program := "ytdnngacamdohiaa", sum := "1c8f78d6e3898788ac5425a6383cb924ce1d54ac193213b3e451a6c3dfebeec6", func := "cromlech/cromlechlaw01.VarintBack", spec := "varintBack", apart := false }
def VarintBackSaid : Prop := varintBackRow.holds Try.pinned (OpenSpec.ofChange varintBackSpec)

/-- ITS FALSE NEIGHBOUR: 'it returns false'. Refute it at one input. -/
def varintBackWrong : ChangeSpec := { name := "varintBack", fn := fun _ => fun
  | [d1, d2, d3, d4] => { results := [.lit (.bool false)], args := [d1, d2, d3, d4] }
  | _ => none }
def VarintBackWrongFalsely : Prop := varintBackRow.holds Try.pinned (OpenSpec.ofChange varintBackWrong)

/-- 'cromlechlaw01.VarintForms': WHATEVER THE INPUT: true; the input reads as it did. -/
def varintFormsSpec : ChangeSpec := { name := "varintForms", fn := fun _ => fun
  | [d1, d2, d3] => { results := [.lit (.bool true)], args := [d1, d2, d3] }
  | _ => none }
def varintFormsRow : OpenClaim := { program := "ytdnngacamdohiaa", sum := "1c8f78d6e3898788ac5425a6383cb924ce1d54ac193213b3e451a6c3dfebeec6", func := "cromlech/cromlechlaw01.VarintForms", spec := "varintForms", apart := false }
def VarintFormsSaid : Prop := varintFormsRow.holds Try.pinned (OpenSpec.ofChange varintFormsSpec)

/-- ITS FALSE NEIGHBOUR: 'it returns false'. Refute it at one input. -/
def varintFormsWrong : ChangeSpec := { name := "varintForms", fn := fun _ => fun
  | [d1, d2, d3] => { results := [.lit (.bool false)], args := [d1, d2, d3] }
  | _ => none }
def VarintFormsWrongFalsely : Prop := varintFormsRow.holds Try.pinned (OpenSpec.ofChange varintFormsWrong)

/-- 'cromlechlaw01.VarintOrder': WHATEVER THE INPUT: true; the input reads as it did. -/
def varintOrderSpec : ChangeSpec := { name := "varintOrder", fn := fun _ => fun
  | [d1, d2, d3] => { results := [.lit (.bool true)], args := [d1, d2, d3] }
  | _ => none }
def varintOrderRow : OpenClaim := { program := "ytdnngacamdohiaa", sum := "1c8f78d6e3898788ac5425a6383cb924ce1d54ac193213b3e451a6c3dfebeec6", func := "cromlech/cromlechlaw01.VarintOrder", spec := "varintOrder", apart := false }
def VarintOrderSaid : Prop := varintOrderRow.holds Try.pinned (OpenSpec.ofChange varintOrderSpec)

/-- ITS FALSE NEIGHBOUR: 'it returns false'. Refute it at one input. -/
def varintOrderWrong : ChangeSpec := { name := "varintOrder", fn := fun _ => fun
  | [d1, d2, d3] => { results := [.lit (.bool false)], args := [d1, d2, d3] }
  | _ => none }
def VarintOrderWrongFalsely : Prop := varintOrderRow.holds Try.pinned (OpenSpec.ofChange varintOrderWrong)

/-- 'cromlechlaw01.VarintRow': WHATEVER THE INPUT: true; the input reads as it did. -/
def varintRowSpec : ChangeSpec := { name := "varintRow", fn := fun _ => fun
  | [d1, d2] => { results := [.lit (.bool true)], args := [d1, d2] }
  | _ => none }
def varintRowRow : OpenClaim := { program := "ytdnngacamdohiaa", sum := "1c8f78d6e3898788ac5425a6383cb924ce1d54ac193213b3e451a6c3dfebeec6", func := "cromlech/cromlechlaw01.VarintRow", spec := "varintRow", apart := false }
def VarintRowSaid : Prop := varintRowRow.holds Try.pinned (OpenSpec.ofChange varintRowSpec)

/-- ITS FALSE NEIGHBOUR: 'it returns false'. Refute it at one input. -/
def varintRowWrong : ChangeSpec := { name := "varintRow", fn := fun _ => fun
  | [d1, d2] => { results := [.lit (.bool false)], args := [d1, d2] }
  | _ => none }
def VarintRowWrongFalsely : Prop := varintRowRow.holds Try.pinned (OpenSpec.ofChange varintRowWrong)

/-- 'cromlechlaw01.VarintEach': WHATEVER THE INPUT: true; the input reads as it did. -/
def varintEachSpec : ChangeSpec := { name := "varintEach", fn := fun _ => fun
  | [d] => { results := [.lit (.bool true)], args := [d] }
  | _ => none }
def varintEachRow : OpenClaim := { program := "ytdnngacamdohiaa", sum := "1c8f78d6e3898788ac5425a6383cb924ce1d54ac193213b3e451a6c3dfebeec6", func := "cromlech/cromlechlaw01.VarintEach", spec := "varintEach", apart := false }
def VarintEachSaid : Prop := varintEachRow.holds Try.pinned (OpenSpec.ofChange varintEachSpec)

/-- ITS FALSE NEIGHBOUR: 'it returns false'. Refute it at one input. -/
def varintEachWrong : ChangeSpec := { name := "varintEach", fn := fun _ => fun
  | [d] => { results := [.lit (.bool false)], args := [d] }
  | _ => none }
def VarintEachWrongFalsely : Prop := varintEachRow.holds Try.pinned (OpenSpec.ofChange varintEachWrong)

/- THE SECOND FORM. 'bulk': how many values and letters a reading holds, each counted each time it is reached (what is shared counts as often as it is met; a slice's spare places count too). A statement '..UptoSaid' is the law's where the arguments, and the package variables that the reading takes, are together of bulk at most 1048576: NARROWER than '..Said'. Prove '..Said' where nothing that the law and all that it calls make is longer than what came in: it says more and counts as full. Else prove '..UptoSaid'. A law counts once. -/
mutual
def uptoBulk {H : Type} : DataW H → Nat
  | .lit (.string bytes) => bytes.length + 1
  | .lit _ => 1
  | .nil => 1
  | .ptr d => uptoBulk d + 1
  | .slice elems spare => uptoBulkAll elems + uptoBulkAll spare + 1
  | .agg parts => uptoBulkAll parts + 1
  | .iface _ d => uptoBulk d + 1
  | .map entries => uptoBulkEntries entries + 1
  | .held _ => 1
def uptoBulkAll {H : Type} : List (DataW H) → Nat
  | [] => 0
  | d :: r => uptoBulk d + uptoBulkAll r
def uptoBulkEntries {H : Type} : List (Lit × DataW H) → Nat
  | [] => 0
  | x :: r => uptoBulkEntry x + uptoBulkEntries r
def uptoBulkEntry {H : Type} : Lit × DataW H → Nat
  | (.string bytes, d) => bytes.length + uptoBulk d + 1
  | (_, d) => uptoBulk d + 1
 end
def uptoSmall : (H : Type) → List (DataW H) → Bool := fun _ ds => decide (uptoBulkAll ds ≤ 1048576)
def OpenSpec.upto (s : _root_.Go.ChangeSpec) : _root_.Go.OpenSpec := { _root_.Go.OpenSpec.ofChange s with cond := some uptoSmall }

/-- 'cromlechlaw02.WordsTells', WHERE WHAT IT READS IS OF BULK AT MOST 1048576: true; the input reads as it did. -/
def wordsTellsUptoRow : OpenClaim := { program := "ytdnngacamdohiaa", sum := "1c8f78d6e3898788ac5425a6383cb924ce1d54ac193213b3e451a6c3dfebeec6", func := "cromlech/cromlechlaw02.WordsTells", spec := "wordsTells", apart := false, narrowed := true }
def WordsTellsUptoSaid : Prop := wordsTellsUptoRow.holds Try.pinned (OpenSpec.upto wordsTellsSpec)

/-- 'cromlechlaw02.WordsBack', WHERE WHAT IT READS IS OF BULK AT MOST 1048576: true; the input reads as it did. -/
def wordsBackUptoRow : OpenClaim := { program := "ytdnngacamdohiaa", sum := "1c8f78d6e3898788ac5425a6383cb924ce1d54ac193213b3e451a6c3dfebeec6", func := "cromlech/cromlechlaw02.WordsBack", spec := "wordsBack", apart := false, narrowed := true }
def WordsBackUptoSaid : Prop := wordsBackUptoRow.holds Try.pinned (OpenSpec.upto wordsBackSpec)

/-- 'cromlechlaw02.WordsForms', WHERE WHAT IT READS IS OF BULK AT MOST 1048576: true; the input reads as it did. -/
def wordsFormsUptoRow : OpenClaim := { program := "ytdnngacamdohiaa", sum := "1c8f78d6e3898788ac5425a6383cb924ce1d54ac193213b3e451a6c3dfebeec6", func := "cromlech/cromlechlaw02.WordsForms", spec := "wordsForms", apart := false, narrowed := true }
def WordsFormsUptoSaid : Prop := wordsFormsUptoRow.holds Try.pinned (OpenSpec.upto wordsFormsSpec)

/-- 'cromlechlaw02.WordsHalves', WHERE WHAT IT READS IS OF BULK AT MOST 1048576: true; the input reads as it did. -/
def wordsHalvesUptoRow : OpenClaim := { program := "ytdnngacamdohiaa", sum := "1c8f78d6e3898788ac5425a6383cb924ce1d54ac193213b3e451a6c3dfebeec6", func := "cromlech/cromlechlaw02.WordsHalves", spec := "wordsHalves", apart := false, narrowed := true }
def WordsHalvesUptoSaid : Prop := wordsHalvesUptoRow.holds Try.pinned (OpenSpec.upto wordsHalvesSpec)

/-- 'cromlechlaw02.WordsParts', WHERE WHAT IT READS IS OF BULK AT MOST 1048576: true; the input reads as it did. -/
def wordsPartsUptoRow : OpenClaim := { program := "ytdnngacamdohiaa", sum := "1c8f78d6e3898788ac5425a6383cb924ce1d54ac193213b3e451a6c3dfebeec6", func := "cromlech/cromlechlaw02.WordsParts", spec := "wordsParts", apart := false, narrowed := true }
def WordsPartsUptoSaid : Prop := wordsPartsUptoRow.holds Try.pinned (OpenSpec.upto wordsPartsSpec)

/-- 'cromlechlaw02.WordsBits', WHERE WHAT IT READS IS OF BULK AT MOST 1048576: true; the input reads as it did. -/
def wordsBitsUptoRow : OpenClaim := { program := "ytdnngacamdohiaa", sum := "1c8f78d6e3898788ac5425a6383cb924ce1d54ac193213b3e451a6c3dfebeec6", func := "cromlech/cromlechlaw02.WordsBits", spec := "wordsBits", apart := false, narrowed := true }
def WordsBitsUptoSaid : Prop := wordsBitsUptoRow.holds Try.pinned (OpenSpec.upto wordsBitsSpec)

/-- 'cromlechlaw01.VarintTells', WHERE WHAT IT READS IS OF BULK AT MOST 1048576: true; the input reads as it did. -/
def varintTellsUptoRow : OpenClaim := { program := "ytdnngacamdohiaa", sum := "1c8f78d6e3898788ac5425a6383cb924ce1d54ac193213b3e451a6c3dfebeec6", func := "cromlech/cromlechlaw01.VarintTells", spec := "varintTells", recurses := true, apart := false, narrowed := true }
def VarintTellsUptoSaid : Prop := varintTellsUptoRow.holds Try.pinned (OpenSpec.upto varintTellsSpec)

/-- 'cromlechlaw01.VarintBack', WHERE WHAT IT READS IS OF BULK AT MOST 1048576: true; the input reads as it did. -/
def varintBackUptoRow : OpenClaim := { program := "ytdnngacamdohiaa", sum := "1c8f78d6e3898788ac5425a6383cb924ce1d54ac193213b3e451a6c3dfebeec6", func := "cromlech/cromlechlaw01.VarintBack", spec := "varintBack", apart := false, narrowed := true }
def VarintBackUptoSaid : Prop := varintBackUptoRow.holds Try.pinned (OpenSpec.upto varintBackSpec)

/-- 'cromlechlaw01.VarintForms', WHERE WHAT IT READS IS OF BULK AT MOST 1048576: true; the input reads as it did. -/
def varintFormsUptoRow : OpenClaim := { program := "ytdnngacamdohiaa", sum := "1c8f78d6e3898788ac5425a6383cb924ce1d54ac193213b3e451a6c3dfebeec6", func := "cromlech/cromlechlaw01.VarintForms", spec := "varintForms", apart := false, narrowed := true }
def VarintFormsUptoSaid : Prop := varintFormsUptoRow.holds Try.pinned (OpenSpec.upto varintFormsSpec)

/-- 'cromlechlaw01.VarintOrder', WHERE WHAT IT READS IS OF BULK AT MOST 1048576: true; the input reads as it did. -/
def varintOrderUptoRow : OpenClaim := { program := "ytdnngacamdohiaa", sum := "1c8f78d6e3898788ac5425a6383cb924ce1d54ac193213b3e451a6c3dfebeec6", func := "cromlech/cromlechlaw01.VarintOrder", spec := "varintOrder", apart := false, narrowed := true }
def VarintOrderUptoSaid : Prop := varintOrderUptoRow.holds Try.pinned (OpenSpec.upto varintOrderSpec)

/-- 'cromlechlaw01.VarintRow', WHERE WHAT IT READS IS OF BULK AT MOST 1048576: true; the input reads as it did. -/
def varintRowUptoRow : OpenClaim := { program := "ytdnngacamdohiaa", sum := "1c8f78d6e3898788ac5425a6383cb924ce1d54ac193213b3e451a6c3dfebeec6", func := "cromlech/cromlechlaw01.VarintRow", spec := "varintRow", apart := false, narrowed := true }
def VarintRowUptoSaid : Prop := varintRowUptoRow.holds Try.pinned (OpenSpec.upto varintRowSpec)

/-- 'cromlechlaw01.VarintEach', WHERE WHAT IT READS IS OF BULK AT MOST 1048576: true; the input reads as it did. -/
def varintEachUptoRow : OpenClaim := { program := "ytdnngacamdohiaa", sum := "1c8f78d6e3898788ac5425a6383cb924ce1d54ac193213b3e451a6c3dfebeec6", func := "cromlech/cromlechlaw01.VarintEach", spec := "varintEach", apart := false, narrowed := true }
def VarintEachUptoSaid : Prop := varintEachUptoRow.holds Try.pinned (OpenSpec.upto varintEachSpec)

end Rows
end Go.Proofs.Ytdnngacamdohiaa
