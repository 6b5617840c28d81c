/-
  No cell of these rows narrows 'for every input' (looked for: loops, veiled, ifaces, maps, wideKeys, modest, calm, conditions, laid).
  DERIVED. THE GIVEN ROWS OF THIS SEAT. 10 by the template 'for every input the law returns true; each argument reads behind the call as it read before'; 0 by the template 'total and deterministic' (their statements: YtpolglgfbfjcoaaTotals.lean).
  GIVEN WITH THE SEED: the statements are not yours to turn. If you find one false, say at which input.
  Laid BY PROGRAM, IN A SANDBOX (cutbox-rows.mjs): the forced cells as the released guide's own fill.sh prints them over the translation 80596de6459ca7ef… (all of the seat's roots in one cut). By AI agents, Wed Nov 11 2026. No macro, syntax, notation, axiom, sorry.
-/
import Derived.Test.YtpolglgfbfjcoaaChecked
import GoSem.Claim
import GoSem.ClaimJoined
import GoSem.ClaimMapViews
import Derived.JoinedTies
import Derived.KernelRfl
namespace Go.Proofs.Ytpolglgfbfjcoaa
/- THE CELL 'sum', in the pinned program and in every row, IS THE sha256 OF THE DUMP (.gsa) THAT YtpolglgfbfjcoaaProg.lean LOADS. Nothing in Lean hashes anything: it is a label: what it is worth is what the hold of that sum in a sandbox is worth. -/
noncomputable def Try.pinned : Pinned := { name := "ytpolglgfbfjcoaa", sum := "80596de6459ca7ef9ae0cc23fde4804b8969e0035ed763ab1b3df9b05e9073f1", checked := Try.checked }
namespace Rows
def none {H : Type} : Left H := { results := [], args := [] }

/-- 'baileylaw05.AdlerSums': WHATEVER THE INPUT: true; the input reads as it did. -/
def adlerSumsSpec : ChangeSpec := { name := "adlerSums", fn := fun _ => fun
  | [d1, d2] => { results := [.lit (.bool true)], args := [d1, d2] }
  | _ => none }
def adlerSumsRow : OpenClaim := { program := "ytpolglgfbfjcoaa", sum := "80596de6459ca7ef9ae0cc23fde4804b8969e0035ed763ab1b3df9b05e9073f1", func := "bailey/baileylaw05.AdlerSums", spec := "adlerSums", apart := false }
def AdlerSumsSaid : Prop := adlerSumsRow.holds Try.pinned (OpenSpec.ofChange adlerSumsSpec)

/-- ITS FALSE NEIGHBOUR: 'it returns false'. Refute it at one input. -/
def adlerSumsWrong : ChangeSpec := { name := "adlerSums", fn := fun _ => fun
  | [d1, d2] => { results := [.lit (.bool false)], args := [d1, d2] }
  | _ => none }
def AdlerSumsWrongFalsely : Prop := adlerSumsRow.holds Try.pinned (OpenSpec.ofChange adlerSumsWrong)

/-- 'baileylaw01.NumsWithin': WHATEVER THE INPUT: true; the input reads as it did. -/
def numsWithinSpec : ChangeSpec := { name := "numsWithin", fn := fun _ => fun
  | [d1, d2, d3] => { results := [.lit (.bool true)], args := [d1, d2, d3] }
  | _ => none }
def numsWithinRow : OpenClaim := { program := "ytpolglgfbfjcoaa", sum := "80596de6459ca7ef9ae0cc23fde4804b8969e0035ed763ab1b3df9b05e9073f1", func := "bailey/baileylaw01.NumsWithin", spec := "numsWithin", apart := false }
def NumsWithinSaid : Prop := numsWithinRow.holds Try.pinned (OpenSpec.ofChange numsWithinSpec)

/-- ITS FALSE NEIGHBOUR: 'it returns false'. Refute it at one input. -/
def numsWithinWrong : ChangeSpec := { name := "numsWithin", fn := fun _ => fun
  | [d1, d2, d3] => { results := [.lit (.bool false)], args := [d1, d2, d3] }
  | _ => none }
def NumsWithinWrongFalsely : Prop := numsWithinRow.holds Try.pinned (OpenSpec.ofChange numsWithinWrong)

/-- 'baileylaw01.NumsSums': WHATEVER THE INPUT: true; the input reads as it did. -/
def numsSumsSpec : ChangeSpec := { name := "numsSums", fn := fun _ => fun
  | [d1, d2] => { results := [.lit (.bool true)], args := [d1, d2] }
  | _ => none }
def numsSumsRow : OpenClaim := { program := "ytpolglgfbfjcoaa", sum := "80596de6459ca7ef9ae0cc23fde4804b8969e0035ed763ab1b3df9b05e9073f1", func := "bailey/baileylaw01.NumsSums", spec := "numsSums", apart := false }
def NumsSumsSaid : Prop := numsSumsRow.holds Try.pinned (OpenSpec.ofChange numsSumsSpec)

/-- ITS FALSE NEIGHBOUR: 'it returns false'. Refute it at one input. -/
def numsSumsWrong : ChangeSpec := { name := "numsSums", fn := fun _ => fun
  | [d1, d2] => { results := [.lit (.bool false)], args := [d1, d2] }
  | _ => none }
def NumsSumsWrongFalsely : Prop := numsSumsRow.holds Try.pinned (OpenSpec.ofChange numsSumsWrong)

/-- 'baileylaw01.NumsOrder': WHATEVER THE INPUT: true; the input reads as it did. -/
def numsOrderSpec : ChangeSpec := { name := "numsOrder", fn := fun _ => fun
  | [d1, d2] => { results := [.lit (.bool true)], args := [d1, d2] }
  | _ => none }
def numsOrderRow : OpenClaim := { program := "ytpolglgfbfjcoaa", sum := "80596de6459ca7ef9ae0cc23fde4804b8969e0035ed763ab1b3df9b05e9073f1", func := "bailey/baileylaw01.NumsOrder", spec := "numsOrder", apart := false }
def NumsOrderSaid : Prop := numsOrderRow.holds Try.pinned (OpenSpec.ofChange numsOrderSpec)

/-- ITS FALSE NEIGHBOUR: 'it returns false'. Refute it at one input. -/
def numsOrderWrong : ChangeSpec := { name := "numsOrder", fn := fun _ => fun
  | [d1, d2] => { results := [.lit (.bool false)], args := [d1, d2] }
  | _ => none }
def NumsOrderWrongFalsely : Prop := numsOrderRow.holds Try.pinned (OpenSpec.ofChange numsOrderWrong)

/-- 'baileylaw05.AdlerJoins': WHATEVER THE INPUT: true; the input reads as it did. -/
def adlerJoinsSpec : ChangeSpec := { name := "adlerJoins", fn := fun _ => fun
  | [d1, d2] => { results := [.lit (.bool true)], args := [d1, d2] }
  | _ => none }
def adlerJoinsRow : OpenClaim := { program := "ytpolglgfbfjcoaa", sum := "80596de6459ca7ef9ae0cc23fde4804b8969e0035ed763ab1b3df9b05e9073f1", func := "bailey/baileylaw05.AdlerJoins", spec := "adlerJoins", apart := false }
def AdlerJoinsSaid : Prop := adlerJoinsRow.holds Try.pinned (OpenSpec.ofChange adlerJoinsSpec)

/-- ITS FALSE NEIGHBOUR: 'it returns false'. Refute it at one input. -/
def adlerJoinsWrong : ChangeSpec := { name := "adlerJoins", fn := fun _ => fun
  | [d1, d2] => { results := [.lit (.bool false)], args := [d1, d2] }
  | _ => none }
def AdlerJoinsWrongFalsely : Prop := adlerJoinsRow.holds Try.pinned (OpenSpec.ofChange adlerJoinsWrong)

/-- 'baileylaw05.AdlerRolls': WHATEVER THE INPUT: true; the input reads as it did. -/
def adlerRollsSpec : ChangeSpec := { name := "adlerRolls", fn := fun _ => fun
  | [d1, d2] => { results := [.lit (.bool true)], args := [d1, d2] }
  | _ => none }
def adlerRollsRow : OpenClaim := { program := "ytpolglgfbfjcoaa", sum := "80596de6459ca7ef9ae0cc23fde4804b8969e0035ed763ab1b3df9b05e9073f1", func := "bailey/baileylaw05.AdlerRolls", spec := "adlerRolls", apart := false }
def AdlerRollsSaid : Prop := adlerRollsRow.holds Try.pinned (OpenSpec.ofChange adlerRollsSpec)

/-- ITS FALSE NEIGHBOUR: 'it returns false'. Refute it at one input. -/
def adlerRollsWrong : ChangeSpec := { name := "adlerRolls", fn := fun _ => fun
  | [d1, d2] => { results := [.lit (.bool false)], args := [d1, d2] }
  | _ => none }
def AdlerRollsWrongFalsely : Prop := adlerRollsRow.holds Try.pinned (OpenSpec.ofChange adlerRollsWrong)

/-- 'baileylaw05.AdlerAny': WHATEVER THE INPUT: true; the input reads as it did. -/
def adlerAnySpec : ChangeSpec := { name := "adlerAny", fn := fun _ => fun
  | [d1, d2, d3, d4, d5] => { results := [.lit (.bool true)], args := [d1, d2, d3, d4, d5] }
  | _ => none }
def adlerAnyRow : OpenClaim := { program := "ytpolglgfbfjcoaa", sum := "80596de6459ca7ef9ae0cc23fde4804b8969e0035ed763ab1b3df9b05e9073f1", func := "bailey/baileylaw05.AdlerAny", spec := "adlerAny", apart := false }
def AdlerAnySaid : Prop := adlerAnyRow.holds Try.pinned (OpenSpec.ofChange adlerAnySpec)

/-- ITS FALSE NEIGHBOUR: 'it returns false'. Refute it at one input. -/
def adlerAnyWrong : ChangeSpec := { name := "adlerAny", fn := fun _ => fun
  | [d1, d2, d3, d4, d5] => { results := [.lit (.bool false)], args := [d1, d2, d3, d4, d5] }
  | _ => none }
def AdlerAnyWrongFalsely : Prop := adlerAnyRow.holds Try.pinned (OpenSpec.ofChange adlerAnyWrong)

/-- 'baileylaw01.NumsSets': WHATEVER THE INPUT: true; the input reads as it did. -/
def numsSetsSpec : ChangeSpec := { name := "numsSets", fn := fun _ => fun
  | [d1, d2] => { results := [.lit (.bool true)], args := [d1, d2] }
  | _ => none }
def numsSetsRow : OpenClaim := { program := "ytpolglgfbfjcoaa", sum := "80596de6459ca7ef9ae0cc23fde4804b8969e0035ed763ab1b3df9b05e9073f1", func := "bailey/baileylaw01.NumsSets", spec := "numsSets", apart := false }
def NumsSetsSaid : Prop := numsSetsRow.holds Try.pinned (OpenSpec.ofChange numsSetsSpec)

/-- ITS FALSE NEIGHBOUR: 'it returns false'. Refute it at one input. -/
def numsSetsWrong : ChangeSpec := { name := "numsSets", fn := fun _ => fun
  | [d1, d2] => { results := [.lit (.bool false)], args := [d1, d2] }
  | _ => none }
def NumsSetsWrongFalsely : Prop := numsSetsRow.holds Try.pinned (OpenSpec.ofChange numsSetsWrong)

/-- 'baileylaw01.NumsPut': WHATEVER THE INPUT: true; the input reads as it did. -/
def numsPutSpec : ChangeSpec := { name := "numsPut", fn := fun _ => fun
  | [d1, d2, d3] => { results := [.lit (.bool true)], args := [d1, d2, d3] }
  | _ => none }
def numsPutRow : OpenClaim := { program := "ytpolglgfbfjcoaa", sum := "80596de6459ca7ef9ae0cc23fde4804b8969e0035ed763ab1b3df9b05e9073f1", func := "bailey/baileylaw01.NumsPut", spec := "numsPut", apart := false }
def NumsPutSaid : Prop := numsPutRow.holds Try.pinned (OpenSpec.ofChange numsPutSpec)

/-- ITS FALSE NEIGHBOUR: 'it returns false'. Refute it at one input. -/
def numsPutWrong : ChangeSpec := { name := "numsPut", fn := fun _ => fun
  | [d1, d2, d3] => { results := [.lit (.bool false)], args := [d1, d2, d3] }
  | _ => none }
def NumsPutWrongFalsely : Prop := numsPutRow.holds Try.pinned (OpenSpec.ofChange numsPutWrong)

/-- 'baileylaw01.NumsChecked': WHATEVER THE INPUT: true; the input reads as it did. -/
def numsCheckedSpec : ChangeSpec := { name := "numsChecked", fn := fun _ => fun
  | [d1, d2] => { results := [.lit (.bool true)], args := [d1, d2] }
  | _ => none }
def numsCheckedRow : OpenClaim := { program := "ytpolglgfbfjcoaa", sum := "80596de6459ca7ef9ae0cc23fde4804b8969e0035ed763ab1b3df9b05e9073f1", func := "bailey/baileylaw01.NumsChecked", spec := "numsChecked", apart := false }
def NumsCheckedSaid : Prop := numsCheckedRow.holds Try.pinned (OpenSpec.ofChange numsCheckedSpec)

/-- ITS FALSE NEIGHBOUR: 'it returns false'. Refute it at one input. -/
def numsCheckedWrong : ChangeSpec := { name := "numsChecked", fn := fun _ => fun
  | [d1, d2] => { results := [.lit (.bool false)], args := [d1, d2] }
  | _ => none }
def NumsCheckedWrongFalsely : Prop := numsCheckedRow.holds Try.pinned (OpenSpec.ofChange numsCheckedWrong)

/- THE SECOND FORM. 'bulk': how many values and letters a reading holds, each counted each time it is reached (what is shared counts as often as it is met; a slice's spare places count too). A statement '..UptoSaid' is the law's where the arguments, and the package variables that the reading takes, are together of bulk at most 1048576: NARROWER than '..Said'. Prove '..Said' where nothing that the law and all that it calls make is longer than what came in: it says more and counts as full. Else prove '..UptoSaid'. A law counts once. -/
mutual
def uptoBulk {H : Type} : DataW H → Nat
  | .lit (.string bytes) => bytes.length + 1
  | .lit _ => 1
  | .nil => 1
  | .ptr d => uptoBulk d + 1
  | .slice elems spare => uptoBulkAll elems + uptoBulkAll spare + 1
  | .agg parts => uptoBulkAll parts + 1
  | .iface _ d => uptoBulk d + 1
  | .map entries => uptoBulkEntries entries + 1
  | .held _ => 1
def uptoBulkAll {H : Type} : List (DataW H) → Nat
  | [] => 0
  | d :: r => uptoBulk d + uptoBulkAll r
def uptoBulkEntries {H : Type} : List (Lit × DataW H) → Nat
  | [] => 0
  | x :: r => uptoBulkEntry x + uptoBulkEntries r
def uptoBulkEntry {H : Type} : Lit × DataW H → Nat
  | (.string bytes, d) => bytes.length + uptoBulk d + 1
  | (_, d) => uptoBulk d + 1
 end
def uptoSmall : (H : Type) → List (DataW H) → Bool := fun _ ds => decide (uptoBulkAll ds ≤ 1048576)
def OpenSpec.upto (s : _root_.Go.ChangeSpec) : _root_.Go.OpenSpec := { _root_.Go.OpenSpec.ofChange s with cond := some uptoSmall }

/-- 'baileylaw05.AdlerSums', WHERE WHAT IT READS IS OF BULK AT MOST 1048576: true; the input reads as it did. -/
def adlerSumsUptoRow : OpenClaim := { program := "ytpolglgfbfjcoaa", sum := "80596de6459ca7ef9ae0cc23fde4804b8969e0035ed763ab1b3df9b05e9073f1", func := "bailey/baileylaw05.AdlerSums", spec := "adlerSums", apart := false, narrowed := true }
def AdlerSumsUptoSaid : Prop := adlerSumsUptoRow.holds Try.pinned (OpenSpec.upto adlerSumsSpec)

/-- 'baileylaw01.NumsWithin', WHERE WHAT IT READS IS OF BULK AT MOST 1048576: true; the input reads as it did. -/
def numsWithinUptoRow : OpenClaim := { program := "ytpolglgfbfjcoaa", sum := "80596de6459ca7ef9ae0cc23fde4804b8969e0035ed763ab1b3df9b05e9073f1", func := "bailey/baileylaw01.NumsWithin", spec := "numsWithin", apart := false, narrowed := true }
def NumsWithinUptoSaid : Prop := numsWithinUptoRow.holds Try.pinned (OpenSpec.upto numsWithinSpec)

/-- 'baileylaw01.NumsSums', WHERE WHAT IT READS IS OF BULK AT MOST 1048576: true; the input reads as it did. -/
def numsSumsUptoRow : OpenClaim := { program := "ytpolglgfbfjcoaa", sum := "80596de6459ca7ef9ae0cc23fde4804b8969e0035ed763ab1b3df9b05e9073f1", func := "bailey/baileylaw01.NumsSums", spec := "numsSums", apart := false, narrowed := true }
def NumsSumsUptoSaid : Prop := numsSumsUptoRow.holds Try.pinned (OpenSpec.upto numsSumsSpec)

/-- 'baileylaw01.NumsOrder', WHERE WHAT IT READS IS OF BULK AT MOST 1048576: true; the input reads as it did. -/
def numsOrderUptoRow : OpenClaim := { program := "ytpolglgfbfjcoaa", sum := "80596de6459ca7ef9ae0cc23fde4804b8969e0035ed763ab1b3df9b05e9073f1", func := "bailey/baileylaw01.NumsOrder", spec := "numsOrder", apart := false, narrowed := true }
def NumsOrderUptoSaid : Prop := numsOrderUptoRow.holds Try.pinned (OpenSpec.upto numsOrderSpec)

/-- 'baileylaw05.AdlerJoins', WHERE WHAT IT READS IS OF BULK AT MOST 1048576: true; the input reads as it did. -/
def adlerJoinsUptoRow : OpenClaim := { program := "ytpolglgfbfjcoaa", sum := "80596de6459ca7ef9ae0cc23fde4804b8969e0035ed763ab1b3df9b05e9073f1", func := "bailey/baileylaw05.AdlerJoins", spec := "adlerJoins", apart := false, narrowed := true }
def AdlerJoinsUptoSaid : Prop := adlerJoinsUptoRow.holds Try.pinned (OpenSpec.upto adlerJoinsSpec)

/-- 'baileylaw05.AdlerRolls', WHERE WHAT IT READS IS OF BULK AT MOST 1048576: true; the input reads as it did. -/
def adlerRollsUptoRow : OpenClaim := { program := "ytpolglgfbfjcoaa", sum := "80596de6459ca7ef9ae0cc23fde4804b8969e0035ed763ab1b3df9b05e9073f1", func := "bailey/baileylaw05.AdlerRolls", spec := "adlerRolls", apart := false, narrowed := true }
def AdlerRollsUptoSaid : Prop := adlerRollsUptoRow.holds Try.pinned (OpenSpec.upto adlerRollsSpec)

/-- 'baileylaw05.AdlerAny', WHERE WHAT IT READS IS OF BULK AT MOST 1048576: true; the input reads as it did. -/
def adlerAnyUptoRow : OpenClaim := { program := "ytpolglgfbfjcoaa", sum := "80596de6459ca7ef9ae0cc23fde4804b8969e0035ed763ab1b3df9b05e9073f1", func := "bailey/baileylaw05.AdlerAny", spec := "adlerAny", apart := false, narrowed := true }
def AdlerAnyUptoSaid : Prop := adlerAnyUptoRow.holds Try.pinned (OpenSpec.upto adlerAnySpec)

/-- 'baileylaw01.NumsSets', WHERE WHAT IT READS IS OF BULK AT MOST 1048576: true; the input reads as it did. -/
def numsSetsUptoRow : OpenClaim := { program := "ytpolglgfbfjcoaa", sum := "80596de6459ca7ef9ae0cc23fde4804b8969e0035ed763ab1b3df9b05e9073f1", func := "bailey/baileylaw01.NumsSets", spec := "numsSets", apart := false, narrowed := true }
def NumsSetsUptoSaid : Prop := numsSetsUptoRow.holds Try.pinned (OpenSpec.upto numsSetsSpec)

/-- 'baileylaw01.NumsPut', WHERE WHAT IT READS IS OF BULK AT MOST 1048576: true; the input reads as it did. -/
def numsPutUptoRow : OpenClaim := { program := "ytpolglgfbfjcoaa", sum := "80596de6459ca7ef9ae0cc23fde4804b8969e0035ed763ab1b3df9b05e9073f1", func := "bailey/baileylaw01.NumsPut", spec := "numsPut", apart := false, narrowed := true }
def NumsPutUptoSaid : Prop := numsPutUptoRow.holds Try.pinned (OpenSpec.upto numsPutSpec)

/-- 'baileylaw01.NumsChecked', WHERE WHAT IT READS IS OF BULK AT MOST 1048576: true; the input reads as it did. -/
def numsCheckedUptoRow : OpenClaim := { program := "ytpolglgfbfjcoaa", sum := "80596de6459ca7ef9ae0cc23fde4804b8969e0035ed763ab1b3df9b05e9073f1", func := "bailey/baileylaw01.NumsChecked", spec := "numsChecked", apart := false, narrowed := true }
def NumsCheckedUptoSaid : Prop := numsCheckedUptoRow.holds Try.pinned (OpenSpec.upto numsCheckedSpec)

end Rows
end Go.Proofs.Ytpolglgfbfjcoaa
