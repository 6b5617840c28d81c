/-
  No cell of these rows narrows 'for every input' (looked for: loops, veiled, ifaces, maps, wideKeys, modest, calm, conditions, laid).
  DERIVED. THE GIVEN ROWS OF THIS SEAT. 9 by the template 'for every input the law returns true; each argument reads behind the call as it read before'; 0 by the template 'total and deterministic' (their statements: YtmmmogcbmfmabaaTotals.lean).
  GIVEN WITH THE SEED: the statements are not yours to turn. If you find one false, say at which input.
  Laid BY PROGRAM, IN A SANDBOX (cutbox-rows.mjs): the forced cells as the released guide's own fill.sh prints them over the translation 38e3b27180601242… (all of the seat's roots in one cut). By AI agents, Wed Nov 11 2026. No macro, syntax, notation, axiom, sorry.
-/
import Derived.Test.YtmmmogcbmfmabaaChecked
import GoSem.Claim
import GoSem.ClaimJoined
import GoSem.ClaimMapViews
import Derived.JoinedTies
import Derived.KernelRfl
namespace Go.Proofs.Ytmmmogcbmfmabaa
/- THE CELL 'sum', in the pinned program and in every row, IS THE sha256 OF THE DUMP (.gsa) THAT YtmmmogcbmfmabaaProg.lean LOADS. Nothing in Lean hashes anything: it is a label: what it is worth is what the hold of that sum in a sandbox is worth. -/
noncomputable def Try.pinned : Pinned := { name := "ytmmmogcbmfmabaa", sum := "38e3b27180601242f0d9eeabe1bf0c32526933dbfe30e8df94e012657a1692ab", checked := Try.checked }
namespace Rows
def none {H : Type} : Left H := { results := [], args := [] }

/-- 'baileylaw19.LedgerBack': WHATEVER THE INPUT: true; the input reads as it did. -/
def ledgerBackSpec : ChangeSpec := { name := "ledgerBack", fn := fun _ => fun
  | [d1, d2] => { results := [.lit (.bool true)], args := [d1, d2] }
  | _ => none }
def ledgerBackRow : OpenClaim := { program := "ytmmmogcbmfmabaa", sum := "38e3b27180601242f0d9eeabe1bf0c32526933dbfe30e8df94e012657a1692ab", func := "bailey/baileylaw19.LedgerBack", spec := "ledgerBack", unfollowed := true, recurses := true, apart := false }
def LedgerBackSaid : Prop := ledgerBackRow.holds Try.pinned (OpenSpec.ofChange ledgerBackSpec)

/-- ITS FALSE NEIGHBOUR: 'it returns false'. Refute it at one input. -/
def ledgerBackWrong : ChangeSpec := { name := "ledgerBack", fn := fun _ => fun
  | [d1, d2] => { results := [.lit (.bool false)], args := [d1, d2] }
  | _ => none }
def LedgerBackWrongFalsely : Prop := ledgerBackRow.holds Try.pinned (OpenSpec.ofChange ledgerBackWrong)

/-- 'baileylaw21.RevokeMints': WHATEVER THE INPUT: true; the input reads as it did. -/
def revokeMintsSpec : ChangeSpec := { name := "revokeMints", fn := fun _ => fun
  | [d] => { results := [.lit (.bool true)], args := [d] }
  | _ => none }
def revokeMintsRow : OpenClaim := { program := "ytmmmogcbmfmabaa", sum := "38e3b27180601242f0d9eeabe1bf0c32526933dbfe30e8df94e012657a1692ab", func := "bailey/baileylaw21.RevokeMints", spec := "revokeMints", inPlace := ["slices.overlaps[int]"], unfollowed := true, recurses := true, apart := false }
def RevokeMintsSaid : Prop := revokeMintsRow.holds Try.pinned (OpenSpec.ofChange revokeMintsSpec)

/-- ITS FALSE NEIGHBOUR: 'it returns false'. Refute it at one input. -/
def revokeMintsWrong : ChangeSpec := { name := "revokeMints", fn := fun _ => fun
  | [d] => { results := [.lit (.bool false)], args := [d] }
  | _ => none }
def RevokeMintsWrongFalsely : Prop := revokeMintsRow.holds Try.pinned (OpenSpec.ofChange revokeMintsWrong)

/-- 'baileylaw21.RevokeStays': WHATEVER THE INPUT: true; the input reads as it did. -/
def revokeStaysSpec : ChangeSpec := { name := "revokeStays", fn := fun _ => fun
  | [d1, d2, d3] => { results := [.lit (.bool true)], args := [d1, d2, d3] }
  | _ => none }
def revokeStaysRow : OpenClaim := { program := "ytmmmogcbmfmabaa", sum := "38e3b27180601242f0d9eeabe1bf0c32526933dbfe30e8df94e012657a1692ab", func := "bailey/baileylaw21.RevokeStays", spec := "revokeStays", inPlace := ["slices.overlaps[int]"], unfollowed := true, recurses := true, apart := false }
def RevokeStaysSaid : Prop := revokeStaysRow.holds Try.pinned (OpenSpec.ofChange revokeStaysSpec)

/-- ITS FALSE NEIGHBOUR: 'it returns false'. Refute it at one input. -/
def revokeStaysWrong : ChangeSpec := { name := "revokeStays", fn := fun _ => fun
  | [d1, d2, d3] => { results := [.lit (.bool false)], args := [d1, d2, d3] }
  | _ => none }
def RevokeStaysWrongFalsely : Prop := revokeStaysRow.holds Try.pinned (OpenSpec.ofChange revokeStaysWrong)

/-- 'baileylaw19.LedgerLives': WHATEVER THE INPUT: true; the input reads as it did. -/
def ledgerLivesSpec : ChangeSpec := { name := "ledgerLives", fn := fun _ => fun
  | [d1, d2] => { results := [.lit (.bool true)], args := [d1, d2] }
  | _ => none }
def ledgerLivesRow : OpenClaim := { program := "ytmmmogcbmfmabaa", sum := "38e3b27180601242f0d9eeabe1bf0c32526933dbfe30e8df94e012657a1692ab", func := "bailey/baileylaw19.LedgerLives", spec := "ledgerLives", unfollowed := true, recurses := true, apart := false }
def LedgerLivesSaid : Prop := ledgerLivesRow.holds Try.pinned (OpenSpec.ofChange ledgerLivesSpec)

/-- ITS FALSE NEIGHBOUR: 'it returns false'. Refute it at one input. -/
def ledgerLivesWrong : ChangeSpec := { name := "ledgerLives", fn := fun _ => fun
  | [d1, d2] => { results := [.lit (.bool false)], args := [d1, d2] }
  | _ => none }
def LedgerLivesWrongFalsely : Prop := ledgerLivesRow.holds Try.pinned (OpenSpec.ofChange ledgerLivesWrong)

/-- 'baileylaw19.LedgerOnce': WHATEVER THE INPUT: true; the input reads as it did. -/
def ledgerOnceSpec : ChangeSpec := { name := "ledgerOnce", fn := fun _ => fun
  | [d1, d2] => { results := [.lit (.bool true)], args := [d1, d2] }
  | _ => none }
def ledgerOnceRow : OpenClaim := { program := "ytmmmogcbmfmabaa", sum := "38e3b27180601242f0d9eeabe1bf0c32526933dbfe30e8df94e012657a1692ab", func := "bailey/baileylaw19.LedgerOnce", spec := "ledgerOnce", unfollowed := true, recurses := true, apart := false }
def LedgerOnceSaid : Prop := ledgerOnceRow.holds Try.pinned (OpenSpec.ofChange ledgerOnceSpec)

/-- ITS FALSE NEIGHBOUR: 'it returns false'. Refute it at one input. -/
def ledgerOnceWrong : ChangeSpec := { name := "ledgerOnce", fn := fun _ => fun
  | [d1, d2] => { results := [.lit (.bool false)], args := [d1, d2] }
  | _ => none }
def LedgerOnceWrongFalsely : Prop := ledgerOnceRow.holds Try.pinned (OpenSpec.ofChange ledgerOnceWrong)

/-- 'baileylaw25.BoardLives': WHATEVER THE INPUT: true; the input reads as it did. -/
def boardLivesSpec : ChangeSpec := { name := "boardLives", fn := fun _ => fun
  | [d1, d2] => { results := [.lit (.bool true)], args := [d1, d2] }
  | _ => none }
def boardLivesRow : OpenClaim := { program := "ytmmmogcbmfmabaa", sum := "38e3b27180601242f0d9eeabe1bf0c32526933dbfe30e8df94e012657a1692ab", func := "bailey/baileylaw25.BoardLives", spec := "boardLives", inPlace := ["slices.overlaps[bailey/api.Share]"], unfollowed := true, recurses := true, apart := false }
def BoardLivesSaid : Prop := boardLivesRow.holds Try.pinned (OpenSpec.ofChange boardLivesSpec)

/-- ITS FALSE NEIGHBOUR: 'it returns false'. Refute it at one input. -/
def boardLivesWrong : ChangeSpec := { name := "boardLives", fn := fun _ => fun
  | [d1, d2] => { results := [.lit (.bool false)], args := [d1, d2] }
  | _ => none }
def BoardLivesWrongFalsely : Prop := boardLivesRow.holds Try.pinned (OpenSpec.ofChange boardLivesWrong)

/-- 'baileylaw19.LedgerCodes': WHATEVER THE INPUT: true; the input reads as it did. -/
def ledgerCodesSpec : ChangeSpec := { name := "ledgerCodes", fn := fun _ => fun
  | [d1, d2, d3] => { results := [.lit (.bool true)], args := [d1, d2, d3] }
  | _ => none }
def ledgerCodesRow : OpenClaim := { program := "ytmmmogcbmfmabaa", sum := "38e3b27180601242f0d9eeabe1bf0c32526933dbfe30e8df94e012657a1692ab", func := "bailey/baileylaw19.LedgerCodes", spec := "ledgerCodes", recurses := true, apart := false }
def LedgerCodesSaid : Prop := ledgerCodesRow.holds Try.pinned (OpenSpec.ofChange ledgerCodesSpec)

/-- ITS FALSE NEIGHBOUR: 'it returns false'. Refute it at one input. -/
def ledgerCodesWrong : ChangeSpec := { name := "ledgerCodes", fn := fun _ => fun
  | [d1, d2, d3] => { results := [.lit (.bool false)], args := [d1, d2, d3] }
  | _ => none }
def LedgerCodesWrongFalsely : Prop := ledgerCodesRow.holds Try.pinned (OpenSpec.ofChange ledgerCodesWrong)

/-- 'baileylaw21.RevokeCodes': WHATEVER THE INPUT: true; the input reads as it did. -/
def revokeCodesSpec : ChangeSpec := { name := "revokeCodes", fn := fun _ => fun
  | [d1, d2, d3] => { results := [.lit (.bool true)], args := [d1, d2, d3] }
  | _ => none }
def revokeCodesRow : OpenClaim := { program := "ytmmmogcbmfmabaa", sum := "38e3b27180601242f0d9eeabe1bf0c32526933dbfe30e8df94e012657a1692ab", func := "bailey/baileylaw21.RevokeCodes", spec := "revokeCodes", inPlace := ["slices.overlaps[int]"], unfollowed := true, recurses := true, apart := false }
def RevokeCodesSaid : Prop := revokeCodesRow.holds Try.pinned (OpenSpec.ofChange revokeCodesSpec)

/-- ITS FALSE NEIGHBOUR: 'it returns false'. Refute it at one input. -/
def revokeCodesWrong : ChangeSpec := { name := "revokeCodes", fn := fun _ => fun
  | [d1, d2, d3] => { results := [.lit (.bool false)], args := [d1, d2, d3] }
  | _ => none }
def RevokeCodesWrongFalsely : Prop := revokeCodesRow.holds Try.pinned (OpenSpec.ofChange revokeCodesWrong)

/-- 'baileylaw25.BoardCodes': WHATEVER THE INPUT: true; the input reads as it did. -/
def boardCodesSpec : ChangeSpec := { name := "boardCodes", fn := fun _ => fun
  | [d1, d2, d3] => { results := [.lit (.bool true)], args := [d1, d2, d3] }
  | _ => none }
def boardCodesRow : OpenClaim := { program := "ytmmmogcbmfmabaa", sum := "38e3b27180601242f0d9eeabe1bf0c32526933dbfe30e8df94e012657a1692ab", func := "bailey/baileylaw25.BoardCodes", spec := "boardCodes", inPlace := ["slices.overlaps[bailey/api.Share]"], unfollowed := true, recurses := true, apart := false }
def BoardCodesSaid : Prop := boardCodesRow.holds Try.pinned (OpenSpec.ofChange boardCodesSpec)

/-- ITS FALSE NEIGHBOUR: 'it returns false'. Refute it at one input. -/
def boardCodesWrong : ChangeSpec := { name := "boardCodes", fn := fun _ => fun
  | [d1, d2, d3] => { results := [.lit (.bool false)], args := [d1, d2, d3] }
  | _ => none }
def BoardCodesWrongFalsely : Prop := boardCodesRow.holds Try.pinned (OpenSpec.ofChange boardCodesWrong)

/- THE SECOND FORM. 'bulk': how many values and letters a reading holds, each counted each time it is reached (what is shared counts as often as it is met; a slice's spare places count too). A statement '..UptoSaid' is the law's where the arguments, and the package variables that the reading takes, are together of bulk at most 1048576: NARROWER than '..Said'. Prove '..Said' where nothing that the law and all that it calls make is longer than what came in: it says more and counts as full. Else prove '..UptoSaid'. A law counts once. -/
mutual
def uptoBulk {H : Type} : DataW H → Nat
  | .lit (.string bytes) => bytes.length + 1
  | .lit _ => 1
  | .nil => 1
  | .ptr d => uptoBulk d + 1
  | .slice elems spare => uptoBulkAll elems + uptoBulkAll spare + 1
  | .agg parts => uptoBulkAll parts + 1
  | .iface _ d => uptoBulk d + 1
  | .map entries => uptoBulkEntries entries + 1
  | .held _ => 1
def uptoBulkAll {H : Type} : List (DataW H) → Nat
  | [] => 0
  | d :: r => uptoBulk d + uptoBulkAll r
def uptoBulkEntries {H : Type} : List (Lit × DataW H) → Nat
  | [] => 0
  | x :: r => uptoBulkEntry x + uptoBulkEntries r
def uptoBulkEntry {H : Type} : Lit × DataW H → Nat
  | (.string bytes, d) => bytes.length + uptoBulk d + 1
  | (_, d) => uptoBulk d + 1
 end
def uptoSmall : (H : Type) → List (DataW H) → Bool := fun _ ds => decide (uptoBulkAll ds ≤ 1048576)
def OpenSpec.upto (s : _root_.Go.ChangeSpec) : _root_.Go.OpenSpec := { _root_.Go.OpenSpec.ofChange s with cond := some uptoSmall }

/-- 'baileylaw19.LedgerBack', WHERE WHAT IT READS IS OF BULK AT MOST 1048576: true; the input reads as it did. -/
def ledgerBackUptoRow : OpenClaim := { program := "ytmmmogcbmfmabaa", sum := "38e3b27180601242f0d9eeabe1bf0c32526933dbfe30e8df94e012657a1692ab", func := "bailey/baileylaw19.LedgerBack", spec := "ledgerBack", unfollowed := true, recurses := true, apart := false, narrowed := true }
def LedgerBackUptoSaid : Prop := ledgerBackUptoRow.holds Try.pinned (OpenSpec.upto ledgerBackSpec)

/-- 'baileylaw21.RevokeMints', WHERE WHAT IT READS IS OF BULK AT MOST 1048576: true; the input reads as it did. -/
def revokeMintsUptoRow : OpenClaim := { program := "ytmmmogcbmfmabaa", sum := "38e3b27180601242f0d9eeabe1bf0c32526933dbfe30e8df94e012657a1692ab", func := "bailey/baileylaw21.RevokeMints", spec := "revokeMints", inPlace := ["slices.overlaps[int]"], unfollowed := true, recurses := true, apart := false, narrowed := true }
def RevokeMintsUptoSaid : Prop := revokeMintsUptoRow.holds Try.pinned (OpenSpec.upto revokeMintsSpec)

/-- 'baileylaw21.RevokeStays', WHERE WHAT IT READS IS OF BULK AT MOST 1048576: true; the input reads as it did. -/
def revokeStaysUptoRow : OpenClaim := { program := "ytmmmogcbmfmabaa", sum := "38e3b27180601242f0d9eeabe1bf0c32526933dbfe30e8df94e012657a1692ab", func := "bailey/baileylaw21.RevokeStays", spec := "revokeStays", inPlace := ["slices.overlaps[int]"], unfollowed := true, recurses := true, apart := false, narrowed := true }
def RevokeStaysUptoSaid : Prop := revokeStaysUptoRow.holds Try.pinned (OpenSpec.upto revokeStaysSpec)

/-- 'baileylaw19.LedgerLives', WHERE WHAT IT READS IS OF BULK AT MOST 1048576: true; the input reads as it did. -/
def ledgerLivesUptoRow : OpenClaim := { program := "ytmmmogcbmfmabaa", sum := "38e3b27180601242f0d9eeabe1bf0c32526933dbfe30e8df94e012657a1692ab", func := "bailey/baileylaw19.LedgerLives", spec := "ledgerLives", unfollowed := true, recurses := true, apart := false, narrowed := true }
def LedgerLivesUptoSaid : Prop := ledgerLivesUptoRow.holds Try.pinned (OpenSpec.upto ledgerLivesSpec)

/-- 'baileylaw19.LedgerOnce', WHERE WHAT IT READS IS OF BULK AT MOST 1048576: true; the input reads as it did. -/
def ledgerOnceUptoRow : OpenClaim := { program := "ytmmmogcbmfmabaa", sum := "38e3b27180601242f0d9eeabe1bf0c32526933dbfe30e8df94e012657a1692ab", func := "bailey/baileylaw19.LedgerOnce", spec := "ledgerOnce", unfollowed := true, recurses := true, apart := false, narrowed := true }
def LedgerOnceUptoSaid : Prop := ledgerOnceUptoRow.holds Try.pinned (OpenSpec.upto ledgerOnceSpec)

/-- 'baileylaw25.BoardLives', WHERE WHAT IT READS IS OF BULK AT MOST 1048576: true; the input reads as it did. -/
def boardLivesUptoRow : OpenClaim := { program := "ytmmmogcbmfmabaa", sum := "38e3b27180601242f0d9eeabe1bf0c32526933dbfe30e8df94e012657a1692ab", func := "bailey/baileylaw25.BoardLives", spec := "boardLives", inPlace := ["slices.overlaps[bailey/api.Share]"], unfollowed := true, recurses := true, apart := false, narrowed := true }
def BoardLivesUptoSaid : Prop := boardLivesUptoRow.holds Try.pinned (OpenSpec.upto boardLivesSpec)

/-- 'baileylaw19.LedgerCodes', WHERE WHAT IT READS IS OF BULK AT MOST 1048576: true; the input reads as it did. -/
def ledgerCodesUptoRow : OpenClaim := { program := "ytmmmogcbmfmabaa", sum := "38e3b27180601242f0d9eeabe1bf0c32526933dbfe30e8df94e012657a1692ab", func := "bailey/baileylaw19.LedgerCodes", spec := "ledgerCodes", recurses := true, apart := false, narrowed := true }
def LedgerCodesUptoSaid : Prop := ledgerCodesUptoRow.holds Try.pinned (OpenSpec.upto ledgerCodesSpec)

/-- 'baileylaw21.RevokeCodes', WHERE WHAT IT READS IS OF BULK AT MOST 1048576: true; the input reads as it did. -/
def revokeCodesUptoRow : OpenClaim := { program := "ytmmmogcbmfmabaa", sum := "38e3b27180601242f0d9eeabe1bf0c32526933dbfe30e8df94e012657a1692ab", func := "bailey/baileylaw21.RevokeCodes", spec := "revokeCodes", inPlace := ["slices.overlaps[int]"], unfollowed := true, recurses := true, apart := false, narrowed := true }
def RevokeCodesUptoSaid : Prop := revokeCodesUptoRow.holds Try.pinned (OpenSpec.upto revokeCodesSpec)

/-- 'baileylaw25.BoardCodes', WHERE WHAT IT READS IS OF BULK AT MOST 1048576: true; the input reads as it did. -/
def boardCodesUptoRow : OpenClaim := { program := "ytmmmogcbmfmabaa", sum := "38e3b27180601242f0d9eeabe1bf0c32526933dbfe30e8df94e012657a1692ab", func := "bailey/baileylaw25.BoardCodes", spec := "boardCodes", inPlace := ["slices.overlaps[bailey/api.Share]"], unfollowed := true, recurses := true, apart := false, narrowed := true }
def BoardCodesUptoSaid : Prop := boardCodesUptoRow.holds Try.pinned (OpenSpec.upto boardCodesSpec)

end Rows
end Go.Proofs.Ytmmmogcbmfmabaa
