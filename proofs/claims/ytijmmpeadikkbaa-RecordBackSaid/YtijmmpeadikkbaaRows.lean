/-
  No cell of these rows narrows 'for every input' (looked for: loops, veiled, ifaces, maps, wideKeys, modest, calm, conditions, laid).
  DERIVED. THE GIVEN ROWS OF THIS SEAT. 9 by the template 'for every input the law returns true; each argument reads behind the call as it read before'; 0 by the template 'total and deterministic' (their statements: YtijmmpeadikkbaaTotals.lean).
  GIVEN WITH THE SEED: the statements are not yours to turn. If you find one false, say at which input.
  Laid BY PROGRAM, IN A SANDBOX (cutbox-rows.mjs): the forced cells as the released guide's own fill.sh prints them over the translation 076fa43f3f2ea876… (all of the seat's roots in one cut). By AI agents, Wed Nov 11 2026. No macro, syntax, notation, axiom, sorry.
-/
import Derived.Test.YtijmmpeadikkbaaChecked
import GoSem.Claim
import GoSem.ClaimJoined
import GoSem.ClaimMapViews
import Derived.JoinedTies
import Derived.KernelRfl
namespace Go.Proofs.Ytijmmpeadikkbaa
/- THE CELL 'sum', in the pinned program and in every row, IS THE sha256 OF THE DUMP (.gsa) THAT YtijmmpeadikkbaaProg.lean LOADS. Nothing in Lean hashes anything: it is a label: what it is worth is what the hold of that sum in a sandbox is worth. -/
noncomputable def Try.pinned : Pinned := { name := "ytijmmpeadikkbaa", sum := "076fa43f3f2ea8767b157f5ad660603174f3344a9356d645ffe3e07b2173069b", checked := Try.checked }
namespace Rows
def none {H : Type} : Left H := { results := [], args := [] }

/-- 'baileylaw11.RecordRises': WHATEVER THE INPUT: true; the input reads as it did. -/
def recordRisesSpec : ChangeSpec := { name := "recordRises", fn := fun _ => fun
  | [d] => { results := [.lit (.bool true)], args := [d] }
  | _ => none }
def recordRisesRow : OpenClaim := { program := "ytijmmpeadikkbaa", sum := "076fa43f3f2ea8767b157f5ad660603174f3344a9356d645ffe3e07b2173069b", func := "bailey/baileylaw11.RecordRises", spec := "recordRises", unfollowed := true, recurses := true, apart := false }
def RecordRisesSaid : Prop := recordRisesRow.holds Try.pinned (OpenSpec.ofChange recordRisesSpec)

/-- ITS FALSE NEIGHBOUR: 'it returns false'. Refute it at one input. -/
def recordRisesWrong : ChangeSpec := { name := "recordRises", fn := fun _ => fun
  | [d] => { results := [.lit (.bool false)], args := [d] }
  | _ => none }
def RecordRisesWrongFalsely : Prop := recordRisesRow.holds Try.pinned (OpenSpec.ofChange recordRisesWrong)

/-- 'baileylaw13.RlogConf': WHATEVER THE INPUT: true; the input reads as it did. -/
def rlogConfSpec : ChangeSpec := { name := "rlogConf", fn := fun _ => fun
  | [d1, d2] => { results := [.lit (.bool true)], args := [d1, d2] }
  | _ => none }
def rlogConfRow : OpenClaim := { program := "ytijmmpeadikkbaa", sum := "076fa43f3f2ea8767b157f5ad660603174f3344a9356d645ffe3e07b2173069b", func := "bailey/baileylaw13.RlogConf", spec := "rlogConf", unfollowed := true, recurses := true, apart := false }
def RlogConfSaid : Prop := rlogConfRow.holds Try.pinned (OpenSpec.ofChange rlogConfSpec)

/-- ITS FALSE NEIGHBOUR: 'it returns false'. Refute it at one input. -/
def rlogConfWrong : ChangeSpec := { name := "rlogConf", fn := fun _ => fun
  | [d1, d2] => { results := [.lit (.bool false)], args := [d1, d2] }
  | _ => none }
def RlogConfWrongFalsely : Prop := rlogConfRow.holds Try.pinned (OpenSpec.ofChange rlogConfWrong)

/-- 'baileylaw11.RecordApplies': WHATEVER THE INPUT: true; the input reads as it did. -/
def recordAppliesSpec : ChangeSpec := { name := "recordApplies", fn := fun _ => fun
  | [d1, d2, d3] => { results := [.lit (.bool true)], args := [d1, d2, d3] }
  | _ => none }
def recordAppliesRow : OpenClaim := { program := "ytijmmpeadikkbaa", sum := "076fa43f3f2ea8767b157f5ad660603174f3344a9356d645ffe3e07b2173069b", func := "bailey/baileylaw11.RecordApplies", spec := "recordApplies", unfollowed := true, recurses := true, apart := false }
def RecordAppliesSaid : Prop := recordAppliesRow.holds Try.pinned (OpenSpec.ofChange recordAppliesSpec)

/-- ITS FALSE NEIGHBOUR: 'it returns false'. Refute it at one input. -/
def recordAppliesWrong : ChangeSpec := { name := "recordApplies", fn := fun _ => fun
  | [d1, d2, d3] => { results := [.lit (.bool false)], args := [d1, d2, d3] }
  | _ => none }
def RecordAppliesWrongFalsely : Prop := recordAppliesRow.holds Try.pinned (OpenSpec.ofChange recordAppliesWrong)

/-- 'baileylaw11.RecordEntries': WHATEVER THE INPUT: true; the input reads as it did. -/
def recordEntriesSpec : ChangeSpec := { name := "recordEntries", fn := fun _ => fun
  | [d1, d2, d3] => { results := [.lit (.bool true)], args := [d1, d2, d3] }
  | _ => none }
def recordEntriesRow : OpenClaim := { program := "ytijmmpeadikkbaa", sum := "076fa43f3f2ea8767b157f5ad660603174f3344a9356d645ffe3e07b2173069b", func := "bailey/baileylaw11.RecordEntries", spec := "recordEntries", unfollowed := true, recurses := true, apart := false }
def RecordEntriesSaid : Prop := recordEntriesRow.holds Try.pinned (OpenSpec.ofChange recordEntriesSpec)

/-- ITS FALSE NEIGHBOUR: 'it returns false'. Refute it at one input. -/
def recordEntriesWrong : ChangeSpec := { name := "recordEntries", fn := fun _ => fun
  | [d1, d2, d3] => { results := [.lit (.bool false)], args := [d1, d2, d3] }
  | _ => none }
def RecordEntriesWrongFalsely : Prop := recordEntriesRow.holds Try.pinned (OpenSpec.ofChange recordEntriesWrong)

/-- 'baileylaw13.RlogNobody': WHATEVER THE INPUT: true; the input reads as it did. -/
def rlogNobodySpec : ChangeSpec := { name := "rlogNobody", fn := fun _ => fun
  | [d1, d2] => { results := [.lit (.bool true)], args := [d1, d2] }
  | _ => none }
def rlogNobodyRow : OpenClaim := { program := "ytijmmpeadikkbaa", sum := "076fa43f3f2ea8767b157f5ad660603174f3344a9356d645ffe3e07b2173069b", func := "bailey/baileylaw13.RlogNobody", spec := "rlogNobody", unfollowed := true, recurses := true, apart := false }
def RlogNobodySaid : Prop := rlogNobodyRow.holds Try.pinned (OpenSpec.ofChange rlogNobodySpec)

/-- ITS FALSE NEIGHBOUR: 'it returns false'. Refute it at one input. -/
def rlogNobodyWrong : ChangeSpec := { name := "rlogNobody", fn := fun _ => fun
  | [d1, d2] => { results := [.lit (.bool false)], args := [d1, d2] }
  | _ => none }
def RlogNobodyWrongFalsely : Prop := rlogNobodyRow.holds Try.pinned (OpenSpec.ofChange rlogNobodyWrong)

/-- 'baileylaw11.RecordCodes': WHATEVER THE INPUT: true; the input reads as it did. -/
def recordCodesSpec : ChangeSpec := { name := "recordCodes", fn := fun _ => fun
  | [d1, d2, d3] => { results := [.lit (.bool true)], args := [d1, d2, d3] }
  | _ => none }
def recordCodesRow : OpenClaim := { program := "ytijmmpeadikkbaa", sum := "076fa43f3f2ea8767b157f5ad660603174f3344a9356d645ffe3e07b2173069b", func := "bailey/baileylaw11.RecordCodes", spec := "recordCodes", unfollowed := true, recurses := true, apart := false }
def RecordCodesSaid : Prop := recordCodesRow.holds Try.pinned (OpenSpec.ofChange recordCodesSpec)

/-- ITS FALSE NEIGHBOUR: 'it returns false'. Refute it at one input. -/
def recordCodesWrong : ChangeSpec := { name := "recordCodes", fn := fun _ => fun
  | [d1, d2, d3] => { results := [.lit (.bool false)], args := [d1, d2, d3] }
  | _ => none }
def RecordCodesWrongFalsely : Prop := recordCodesRow.holds Try.pinned (OpenSpec.ofChange recordCodesWrong)

/-- 'baileylaw11.RecordBack': WHATEVER THE INPUT: true; the input reads as it did. -/
def recordBackSpec : ChangeSpec := { name := "recordBack", fn := fun _ => fun
  | [d1, d2] => { results := [.lit (.bool true)], args := [d1, d2] }
  | _ => none }
def recordBackRow : OpenClaim := { program := "ytijmmpeadikkbaa", sum := "076fa43f3f2ea8767b157f5ad660603174f3344a9356d645ffe3e07b2173069b", func := "bailey/baileylaw11.RecordBack", spec := "recordBack", unfollowed := true, recurses := true, apart := false }
def RecordBackSaid : Prop := recordBackRow.holds Try.pinned (OpenSpec.ofChange recordBackSpec)

/-- ITS FALSE NEIGHBOUR: 'it returns false'. Refute it at one input. -/
def recordBackWrong : ChangeSpec := { name := "recordBack", fn := fun _ => fun
  | [d1, d2] => { results := [.lit (.bool false)], args := [d1, d2] }
  | _ => none }
def RecordBackWrongFalsely : Prop := recordBackRow.holds Try.pinned (OpenSpec.ofChange recordBackWrong)

/-- 'baileylaw13.RlogCompacts': WHATEVER THE INPUT: true; the input reads as it did. -/
def rlogCompactsSpec : ChangeSpec := { name := "rlogCompacts", fn := fun _ => fun
  | [d1, d2, d3, d4, d5] => { results := [.lit (.bool true)], args := [d1, d2, d3, d4, d5] }
  | _ => none }
def rlogCompactsRow : OpenClaim := { program := "ytijmmpeadikkbaa", sum := "076fa43f3f2ea8767b157f5ad660603174f3344a9356d645ffe3e07b2173069b", func := "bailey/baileylaw13.RlogCompacts", spec := "rlogCompacts", unfollowed := true, recurses := true, apart := false }
def RlogCompactsSaid : Prop := rlogCompactsRow.holds Try.pinned (OpenSpec.ofChange rlogCompactsSpec)

/-- ITS FALSE NEIGHBOUR: 'it returns false'. Refute it at one input. -/
def rlogCompactsWrong : ChangeSpec := { name := "rlogCompacts", fn := fun _ => fun
  | [d1, d2, d3, d4, d5] => { results := [.lit (.bool false)], args := [d1, d2, d3, d4, d5] }
  | _ => none }
def RlogCompactsWrongFalsely : Prop := rlogCompactsRow.holds Try.pinned (OpenSpec.ofChange rlogCompactsWrong)

/-- 'baileylaw13.RlogLives': WHATEVER THE INPUT: true; the input reads as it did. -/
def rlogLivesSpec : ChangeSpec := { name := "rlogLives", fn := fun _ => fun
  | [d1, d2, d3, d4, d5] => { results := [.lit (.bool true)], args := [d1, d2, d3, d4, d5] }
  | _ => none }
def rlogLivesRow : OpenClaim := { program := "ytijmmpeadikkbaa", sum := "076fa43f3f2ea8767b157f5ad660603174f3344a9356d645ffe3e07b2173069b", func := "bailey/baileylaw13.RlogLives", spec := "rlogLives", unfollowed := true, recurses := true, apart := false }
def RlogLivesSaid : Prop := rlogLivesRow.holds Try.pinned (OpenSpec.ofChange rlogLivesSpec)

/-- ITS FALSE NEIGHBOUR: 'it returns false'. Refute it at one input. -/
def rlogLivesWrong : ChangeSpec := { name := "rlogLives", fn := fun _ => fun
  | [d1, d2, d3, d4, d5] => { results := [.lit (.bool false)], args := [d1, d2, d3, d4, d5] }
  | _ => none }
def RlogLivesWrongFalsely : Prop := rlogLivesRow.holds Try.pinned (OpenSpec.ofChange rlogLivesWrong)

/- THE SECOND FORM. 'bulk': how many values and letters a reading holds, each counted each time it is reached (what is shared counts as often as it is met; a slice's spare places count too). A statement '..UptoSaid' is the law's where the arguments, and the package variables that the reading takes, are together of bulk at most 1048576: NARROWER than '..Said'. Prove '..Said' where nothing that the law and all that it calls make is longer than what came in: it says more and counts as full. Else prove '..UptoSaid'. A law counts once. -/
mutual
def uptoBulk {H : Type} : DataW H → Nat
  | .lit (.string bytes) => bytes.length + 1
  | .lit _ => 1
  | .nil => 1
  | .ptr d => uptoBulk d + 1
  | .slice elems spare => uptoBulkAll elems + uptoBulkAll spare + 1
  | .agg parts => uptoBulkAll parts + 1
  | .iface _ d => uptoBulk d + 1
  | .map entries => uptoBulkEntries entries + 1
  | .held _ => 1
def uptoBulkAll {H : Type} : List (DataW H) → Nat
  | [] => 0
  | d :: r => uptoBulk d + uptoBulkAll r
def uptoBulkEntries {H : Type} : List (Lit × DataW H) → Nat
  | [] => 0
  | x :: r => uptoBulkEntry x + uptoBulkEntries r
def uptoBulkEntry {H : Type} : Lit × DataW H → Nat
  | (.string bytes, d) => bytes.length + uptoBulk d + 1
  | (_, d) => uptoBulk d + 1
 end
def uptoSmall : (H : Type) → List (DataW H) → Bool := fun _ ds => decide (uptoBulkAll ds ≤ 1048576)
def OpenSpec.upto (s : _root_.Go.ChangeSpec) : _root_.Go.OpenSpec := { _root_.Go.OpenSpec.ofChange s with cond := some uptoSmall }

/-- 'baileylaw11.RecordRises', WHERE WHAT IT READS IS OF BULK AT MOST 1048576: true; the input reads as it did. -/
def recordRisesUptoRow : OpenClaim := { program := "ytijmmpeadikkbaa", sum := "076fa43f3f2ea8767b157f5ad660603174f3344a9356d645ffe3e07b2173069b", func := "bailey/baileylaw11.RecordRises", spec := "recordRises", unfollowed := true, recurses := true, apart := false, narrowed := true }
def RecordRisesUptoSaid : Prop := recordRisesUptoRow.holds Try.pinned (OpenSpec.upto recordRisesSpec)

/-- 'baileylaw13.RlogConf', WHERE WHAT IT READS IS OF BULK AT MOST 1048576: true; the input reads as it did. -/
def rlogConfUptoRow : OpenClaim := { program := "ytijmmpeadikkbaa", sum := "076fa43f3f2ea8767b157f5ad660603174f3344a9356d645ffe3e07b2173069b", func := "bailey/baileylaw13.RlogConf", spec := "rlogConf", unfollowed := true, recurses := true, apart := false, narrowed := true }
def RlogConfUptoSaid : Prop := rlogConfUptoRow.holds Try.pinned (OpenSpec.upto rlogConfSpec)

/-- 'baileylaw11.RecordApplies', WHERE WHAT IT READS IS OF BULK AT MOST 1048576: true; the input reads as it did. -/
def recordAppliesUptoRow : OpenClaim := { program := "ytijmmpeadikkbaa", sum := "076fa43f3f2ea8767b157f5ad660603174f3344a9356d645ffe3e07b2173069b", func := "bailey/baileylaw11.RecordApplies", spec := "recordApplies", unfollowed := true, recurses := true, apart := false, narrowed := true }
def RecordAppliesUptoSaid : Prop := recordAppliesUptoRow.holds Try.pinned (OpenSpec.upto recordAppliesSpec)

/-- 'baileylaw11.RecordEntries', WHERE WHAT IT READS IS OF BULK AT MOST 1048576: true; the input reads as it did. -/
def recordEntriesUptoRow : OpenClaim := { program := "ytijmmpeadikkbaa", sum := "076fa43f3f2ea8767b157f5ad660603174f3344a9356d645ffe3e07b2173069b", func := "bailey/baileylaw11.RecordEntries", spec := "recordEntries", unfollowed := true, recurses := true, apart := false, narrowed := true }
def RecordEntriesUptoSaid : Prop := recordEntriesUptoRow.holds Try.pinned (OpenSpec.upto recordEntriesSpec)

/-- 'baileylaw13.RlogNobody', WHERE WHAT IT READS IS OF BULK AT MOST 1048576: true; the input reads as it did. -/
def rlogNobodyUptoRow : OpenClaim := { program := "ytijmmpeadikkbaa", sum := "076fa43f3f2ea8767b157f5ad660603174f3344a9356d645ffe3e07b2173069b", func := "bailey/baileylaw13.RlogNobody", spec := "rlogNobody", unfollowed := true, recurses := true, apart := false, narrowed := true }
def RlogNobodyUptoSaid : Prop := rlogNobodyUptoRow.holds Try.pinned (OpenSpec.upto rlogNobodySpec)

/-- 'baileylaw11.RecordCodes', WHERE WHAT IT READS IS OF BULK AT MOST 1048576: true; the input reads as it did. -/
def recordCodesUptoRow : OpenClaim := { program := "ytijmmpeadikkbaa", sum := "076fa43f3f2ea8767b157f5ad660603174f3344a9356d645ffe3e07b2173069b", func := "bailey/baileylaw11.RecordCodes", spec := "recordCodes", unfollowed := true, recurses := true, apart := false, narrowed := true }
def RecordCodesUptoSaid : Prop := recordCodesUptoRow.holds Try.pinned (OpenSpec.upto recordCodesSpec)

/-- 'baileylaw11.RecordBack', WHERE WHAT IT READS IS OF BULK AT MOST 1048576: true; the input reads as it did. -/
def recordBackUptoRow : OpenClaim := { program := "ytijmmpeadikkbaa", sum := "076fa43f3f2ea8767b157f5ad660603174f3344a9356d645ffe3e07b2173069b", func := "bailey/baileylaw11.RecordBack", spec := "recordBack", unfollowed := true, recurses := true, apart := false, narrowed := true }
def RecordBackUptoSaid : Prop := recordBackUptoRow.holds Try.pinned (OpenSpec.upto recordBackSpec)

/-- 'baileylaw13.RlogCompacts', WHERE WHAT IT READS IS OF BULK AT MOST 1048576: true; the input reads as it did. -/
def rlogCompactsUptoRow : OpenClaim := { program := "ytijmmpeadikkbaa", sum := "076fa43f3f2ea8767b157f5ad660603174f3344a9356d645ffe3e07b2173069b", func := "bailey/baileylaw13.RlogCompacts", spec := "rlogCompacts", unfollowed := true, recurses := true, apart := false, narrowed := true }
def RlogCompactsUptoSaid : Prop := rlogCompactsUptoRow.holds Try.pinned (OpenSpec.upto rlogCompactsSpec)

/-- 'baileylaw13.RlogLives', WHERE WHAT IT READS IS OF BULK AT MOST 1048576: true; the input reads as it did. -/
def rlogLivesUptoRow : OpenClaim := { program := "ytijmmpeadikkbaa", sum := "076fa43f3f2ea8767b157f5ad660603174f3344a9356d645ffe3e07b2173069b", func := "bailey/baileylaw13.RlogLives", spec := "rlogLives", unfollowed := true, recurses := true, apart := false, narrowed := true }
def RlogLivesUptoSaid : Prop := rlogLivesUptoRow.holds Try.pinned (OpenSpec.upto rlogLivesSpec)

end Rows
end Go.Proofs.Ytijmmpeadikkbaa
