/-
  No cell of these rows narrows 'for every input' (looked for: loops, veiled, ifaces, maps, wideKeys, modest, calm, conditions, laid).
  DERIVED. THE GIVEN ROWS OF THIS SEAT. 9 by the template 'for every input the law returns true; each argument reads behind the call as it read before'; 0 by the template 'total and deterministic' (their statements: YtkmdnbficoknlaaTotals.lean).
  GIVEN WITH THE SEED: the statements are not yours to turn. If you find one false, say at which input.
  Laid BY PROGRAM, IN A SANDBOX (cutbox-rows.mjs): the forced cells as the released guide's own fill.sh prints them over the translation c4c5221ea7968b03… (all of the seat's roots in one cut). By AI agents, Wed Nov 11 2026. No macro, syntax, notation, axiom, sorry.
-/
import Derived.Test.YtkmdnbficoknlaaChecked
import GoSem.Claim
import GoSem.ClaimJoined
import GoSem.ClaimMapViews
import Derived.JoinedTies
import Derived.KernelRfl
namespace Go.Proofs.Ytkmdnbficoknlaa
/- THE CELL 'sum', in the pinned program and in every row, IS THE sha256 OF THE DUMP (.gsa) THAT YtkmdnbficoknlaaProg.lean LOADS. Nothing in Lean hashes anything: it is a label: what it is worth is what the hold of that sum in a sandbox is worth. -/
noncomputable def Try.pinned : Pinned := { name := "ytkmdnbficoknlaa", sum := "c4c5221ea7968b03873e5b20a55e0c2b624c8c13949a7a056c73bc722a4638eb", checked := Try.checked }
namespace Rows
def none {H : Type} : Left H := { results := [], args := [] }

/-- 'straddlelaw3.CodeBack': WHATEVER THE INPUT: true; the input reads as it did. -/
def codeBackSpec : ChangeSpec := { name := "codeBack", fn := fun _ => fun
  | [d] => { results := [.lit (.bool true)], args := [d] }
  | _ => none }
def codeBackRow : OpenClaim := { program := "ytkmdnbficoknlaa", sum := "c4c5221ea7968b03873e5b20a55e0c2b624c8c13949a7a056c73bc722a4638eb", func := "straddle/straddlelaw3.CodeBack", spec := "codeBack", apart := false }
def CodeBackSaid : Prop := codeBackRow.holds Try.pinned (OpenSpec.ofChange codeBackSpec)

/-- ITS FALSE NEIGHBOUR: 'it returns false'. Refute it at one input. -/
def codeBackWrong : ChangeSpec := { name := "codeBack", fn := fun _ => fun
  | [d] => { results := [.lit (.bool false)], args := [d] }
  | _ => none }
def CodeBackWrongFalsely : Prop := codeBackRow.holds Try.pinned (OpenSpec.ofChange codeBackWrong)

/-- 'straddlelaw3.CodeRaws': WHATEVER THE INPUT: true; the input reads as it did. -/
def codeRawsSpec : ChangeSpec := { name := "codeRaws", fn := fun _ => fun
  | [d1, d2] => { results := [.lit (.bool true)], args := [d1, d2] }
  | _ => none }
def codeRawsRow : OpenClaim := { program := "ytkmdnbficoknlaa", sum := "c4c5221ea7968b03873e5b20a55e0c2b624c8c13949a7a056c73bc722a4638eb", func := "straddle/straddlelaw3.CodeRaws", spec := "codeRaws", apart := false }
def CodeRawsSaid : Prop := codeRawsRow.holds Try.pinned (OpenSpec.ofChange codeRawsSpec)

/-- ITS FALSE NEIGHBOUR: 'it returns false'. Refute it at one input. -/
def codeRawsWrong : ChangeSpec := { name := "codeRaws", fn := fun _ => fun
  | [d1, d2] => { results := [.lit (.bool false)], args := [d1, d2] }
  | _ => none }
def CodeRawsWrongFalsely : Prop := codeRawsRow.holds Try.pinned (OpenSpec.ofChange codeRawsWrong)

/-- 'straddlelaw6.GridWalk': WHATEVER THE INPUT: true; the input reads as it did. -/
def gridWalkSpec : ChangeSpec := { name := "gridWalk", fn := fun _ => fun
  | [d1, d2, d3] => { results := [.lit (.bool true)], args := [d1, d2, d3] }
  | _ => none }
def gridWalkRow : OpenClaim := { program := "ytkmdnbficoknlaa", sum := "c4c5221ea7968b03873e5b20a55e0c2b624c8c13949a7a056c73bc722a4638eb", func := "straddle/straddlelaw6.GridWalk", spec := "gridWalk", unfollowed := true, recurses := true, apart := false }
def GridWalkSaid : Prop := gridWalkRow.holds Try.pinned (OpenSpec.ofChange gridWalkSpec)

/-- ITS FALSE NEIGHBOUR: 'it returns false'. Refute it at one input. -/
def gridWalkWrong : ChangeSpec := { name := "gridWalk", fn := fun _ => fun
  | [d1, d2, d3] => { results := [.lit (.bool false)], args := [d1, d2, d3] }
  | _ => none }
def GridWalkWrongFalsely : Prop := gridWalkRow.holds Try.pinned (OpenSpec.ofChange gridWalkWrong)

/-- 'straddlelaw6.GridCounts': WHATEVER THE INPUT: true; the input reads as it did. -/
def gridCountsSpec : ChangeSpec := { name := "gridCounts", fn := fun _ => fun
  | [d1, d2, d3, d4] => { results := [.lit (.bool true)], args := [d1, d2, d3, d4] }
  | _ => none }
def gridCountsRow : OpenClaim := { program := "ytkmdnbficoknlaa", sum := "c4c5221ea7968b03873e5b20a55e0c2b624c8c13949a7a056c73bc722a4638eb", func := "straddle/straddlelaw6.GridCounts", spec := "gridCounts", unfollowed := true, recurses := true, apart := false }
def GridCountsSaid : Prop := gridCountsRow.holds Try.pinned (OpenSpec.ofChange gridCountsSpec)

/-- ITS FALSE NEIGHBOUR: 'it returns false'. Refute it at one input. -/
def gridCountsWrong : ChangeSpec := { name := "gridCounts", fn := fun _ => fun
  | [d1, d2, d3, d4] => { results := [.lit (.bool false)], args := [d1, d2, d3, d4] }
  | _ => none }
def GridCountsWrongFalsely : Prop := gridCountsRow.holds Try.pinned (OpenSpec.ofChange gridCountsWrong)

/-- 'straddlelaw6.GridPlain': WHATEVER THE INPUT: true; the input reads as it did. -/
def gridPlainSpec : ChangeSpec := { name := "gridPlain", fn := fun _ => fun
  | [d] => { results := [.lit (.bool true)], args := [d] }
  | _ => none }
def gridPlainRow : OpenClaim := { program := "ytkmdnbficoknlaa", sum := "c4c5221ea7968b03873e5b20a55e0c2b624c8c13949a7a056c73bc722a4638eb", func := "straddle/straddlelaw6.GridPlain", spec := "gridPlain", unfollowed := true, recurses := true, apart := false }
def GridPlainSaid : Prop := gridPlainRow.holds Try.pinned (OpenSpec.ofChange gridPlainSpec)

/-- ITS FALSE NEIGHBOUR: 'it returns false'. Refute it at one input. -/
def gridPlainWrong : ChangeSpec := { name := "gridPlain", fn := fun _ => fun
  | [d] => { results := [.lit (.bool false)], args := [d] }
  | _ => none }
def GridPlainWrongFalsely : Prop := gridPlainRow.holds Try.pinned (OpenSpec.ofChange gridPlainWrong)

/-- 'straddlelaw14.LifePlays': WHATEVER THE INPUT: true; the input reads as it did. -/
def lifePlaysSpec : ChangeSpec := { name := "lifePlays", fn := fun _ => fun
  | [d1, d2, d3, d4] => { results := [.lit (.bool true)], args := [d1, d2, d3, d4] }
  | _ => none }
def lifePlaysRow : OpenClaim := { program := "ytkmdnbficoknlaa", sum := "c4c5221ea7968b03873e5b20a55e0c2b624c8c13949a7a056c73bc722a4638eb", func := "straddle/straddlelaw14.LifePlays", spec := "lifePlays", unfollowed := true, recurses := true, apart := false }
def LifePlaysSaid : Prop := lifePlaysRow.holds Try.pinned (OpenSpec.ofChange lifePlaysSpec)

/-- ITS FALSE NEIGHBOUR: 'it returns false'. Refute it at one input. -/
def lifePlaysWrong : ChangeSpec := { name := "lifePlays", fn := fun _ => fun
  | [d1, d2, d3, d4] => { results := [.lit (.bool false)], args := [d1, d2, d3, d4] }
  | _ => none }
def LifePlaysWrongFalsely : Prop := lifePlaysRow.holds Try.pinned (OpenSpec.ofChange lifePlaysWrong)

/-- 'straddlelaw14.LifeParts': WHATEVER THE INPUT: true; the input reads as it did. -/
def lifePartsSpec : ChangeSpec := { name := "lifeParts", fn := fun _ => fun
  | [d] => { results := [.lit (.bool true)], args := [d] }
  | _ => none }
def lifePartsRow : OpenClaim := { program := "ytkmdnbficoknlaa", sum := "c4c5221ea7968b03873e5b20a55e0c2b624c8c13949a7a056c73bc722a4638eb", func := "straddle/straddlelaw14.LifeParts", spec := "lifeParts", unfollowed := true, recurses := true, apart := false }
def LifePartsSaid : Prop := lifePartsRow.holds Try.pinned (OpenSpec.ofChange lifePartsSpec)

/-- ITS FALSE NEIGHBOUR: 'it returns false'. Refute it at one input. -/
def lifePartsWrong : ChangeSpec := { name := "lifeParts", fn := fun _ => fun
  | [d] => { results := [.lit (.bool false)], args := [d] }
  | _ => none }
def LifePartsWrongFalsely : Prop := lifePartsRow.holds Try.pinned (OpenSpec.ofChange lifePartsWrong)

/-- 'straddlelaw14.LifeOwners': WHATEVER THE INPUT: true; the input reads as it did. -/
def lifeOwnersSpec : ChangeSpec := { name := "lifeOwners", fn := fun _ => fun
  | [d1, d2] => { results := [.lit (.bool true)], args := [d1, d2] }
  | _ => none }
def lifeOwnersRow : OpenClaim := { program := "ytkmdnbficoknlaa", sum := "c4c5221ea7968b03873e5b20a55e0c2b624c8c13949a7a056c73bc722a4638eb", func := "straddle/straddlelaw14.LifeOwners", spec := "lifeOwners", unfollowed := true, recurses := true, apart := false }
def LifeOwnersSaid : Prop := lifeOwnersRow.holds Try.pinned (OpenSpec.ofChange lifeOwnersSpec)

/-- ITS FALSE NEIGHBOUR: 'it returns false'. Refute it at one input. -/
def lifeOwnersWrong : ChangeSpec := { name := "lifeOwners", fn := fun _ => fun
  | [d1, d2] => { results := [.lit (.bool false)], args := [d1, d2] }
  | _ => none }
def LifeOwnersWrongFalsely : Prop := lifeOwnersRow.holds Try.pinned (OpenSpec.ofChange lifeOwnersWrong)

/-- 'straddlelaw3.CodeShort': WHATEVER THE INPUT: true; the input reads as it did. -/
def codeShortSpec : ChangeSpec := { name := "codeShort", fn := fun _ => fun
  | [d1, d2, d3] => { results := [.lit (.bool true)], args := [d1, d2, d3] }
  | _ => none }
def codeShortRow : OpenClaim := { program := "ytkmdnbficoknlaa", sum := "c4c5221ea7968b03873e5b20a55e0c2b624c8c13949a7a056c73bc722a4638eb", func := "straddle/straddlelaw3.CodeShort", spec := "codeShort", unfollowed := true, recurses := true, apart := false }
def CodeShortSaid : Prop := codeShortRow.holds Try.pinned (OpenSpec.ofChange codeShortSpec)

/-- ITS FALSE NEIGHBOUR: 'it returns false'. Refute it at one input. -/
def codeShortWrong : ChangeSpec := { name := "codeShort", fn := fun _ => fun
  | [d1, d2, d3] => { results := [.lit (.bool false)], args := [d1, d2, d3] }
  | _ => none }
def CodeShortWrongFalsely : Prop := codeShortRow.holds Try.pinned (OpenSpec.ofChange codeShortWrong)

/- THE SECOND FORM. 'bulk': how many values and letters a reading holds, each counted each time it is reached (what is shared counts as often as it is met; a slice's spare places count too). A statement '..UptoSaid' is the law's where the arguments, and the package variables that the reading takes, are together of bulk at most 1048576: NARROWER than '..Said'. Prove '..Said' where nothing that the law and all that it calls make is longer than what came in: it says more and counts as full. Else prove '..UptoSaid'. A law counts once. -/
mutual
def uptoBulk {H : Type} : DataW H → Nat
  | .lit (.string bytes) => bytes.length + 1
  | .lit _ => 1
  | .nil => 1
  | .ptr d => uptoBulk d + 1
  | .slice elems spare => uptoBulkAll elems + uptoBulkAll spare + 1
  | .agg parts => uptoBulkAll parts + 1
  | .iface _ d => uptoBulk d + 1
  | .map entries => uptoBulkEntries entries + 1
  | .held _ => 1
def uptoBulkAll {H : Type} : List (DataW H) → Nat
  | [] => 0
  | d :: r => uptoBulk d + uptoBulkAll r
def uptoBulkEntries {H : Type} : List (Lit × DataW H) → Nat
  | [] => 0
  | x :: r => uptoBulkEntry x + uptoBulkEntries r
def uptoBulkEntry {H : Type} : Lit × DataW H → Nat
  | (.string bytes, d) => bytes.length + uptoBulk d + 1
  | (_, d) => uptoBulk d + 1
 end
def uptoSmall : (H : Type) → List (DataW H) → Bool := fun _ ds => decide (uptoBulkAll ds ≤ 1048576)
def OpenSpec.upto (s : _root_.Go.ChangeSpec) : _root_.Go.OpenSpec := { _root_.Go.OpenSpec.ofChange s with cond := some uptoSmall }

/-- 'straddlelaw3.CodeBack', WHERE WHAT IT READS IS OF BULK AT MOST 1048576: true; the input reads as it did. -/
def codeBackUptoRow : OpenClaim := { program := "ytkmdnbficoknlaa", sum := "c4c5221ea7968b03873e5b20a55e0c2b624c8c13949a7a056c73bc722a4638eb", func := "straddle/straddlelaw3.CodeBack", spec := "codeBack", apart := false, narrowed := true }
def CodeBackUptoSaid : Prop := codeBackUptoRow.holds Try.pinned (OpenSpec.upto codeBackSpec)

/-- 'straddlelaw3.CodeRaws', WHERE WHAT IT READS IS OF BULK AT MOST 1048576: true; the input reads as it did. -/
def codeRawsUptoRow : OpenClaim := { program := "ytkmdnbficoknlaa", sum := "c4c5221ea7968b03873e5b20a55e0c2b624c8c13949a7a056c73bc722a4638eb", func := "straddle/straddlelaw3.CodeRaws", spec := "codeRaws", apart := false, narrowed := true }
def CodeRawsUptoSaid : Prop := codeRawsUptoRow.holds Try.pinned (OpenSpec.upto codeRawsSpec)

/-- 'straddlelaw6.GridWalk', WHERE WHAT IT READS IS OF BULK AT MOST 1048576: true; the input reads as it did. -/
def gridWalkUptoRow : OpenClaim := { program := "ytkmdnbficoknlaa", sum := "c4c5221ea7968b03873e5b20a55e0c2b624c8c13949a7a056c73bc722a4638eb", func := "straddle/straddlelaw6.GridWalk", spec := "gridWalk", unfollowed := true, recurses := true, apart := false, narrowed := true }
def GridWalkUptoSaid : Prop := gridWalkUptoRow.holds Try.pinned (OpenSpec.upto gridWalkSpec)

/-- 'straddlelaw6.GridCounts', WHERE WHAT IT READS IS OF BULK AT MOST 1048576: true; the input reads as it did. -/
def gridCountsUptoRow : OpenClaim := { program := "ytkmdnbficoknlaa", sum := "c4c5221ea7968b03873e5b20a55e0c2b624c8c13949a7a056c73bc722a4638eb", func := "straddle/straddlelaw6.GridCounts", spec := "gridCounts", unfollowed := true, recurses := true, apart := false, narrowed := true }
def GridCountsUptoSaid : Prop := gridCountsUptoRow.holds Try.pinned (OpenSpec.upto gridCountsSpec)

/-- 'straddlelaw6.GridPlain', WHERE WHAT IT READS IS OF BULK AT MOST 1048576: true; the input reads as it did. -/
def gridPlainUptoRow : OpenClaim := { program := "ytkmdnbficoknlaa", sum := "c4c5221ea7968b03873e5b20a55e0c2b624c8c13949a7a056c73bc722a4638eb", func := "straddle/straddlelaw6.GridPlain", spec := "gridPlain", unfollowed := true, recurses := true, apart := false, narrowed := true }
def GridPlainUptoSaid : Prop := gridPlainUptoRow.holds Try.pinned (OpenSpec.upto gridPlainSpec)

/-- 'straddlelaw14.LifePlays', WHERE WHAT IT READS IS OF BULK AT MOST 1048576: true; the input reads as it did. -/
def lifePlaysUptoRow : OpenClaim := { program := "ytkmdnbficoknlaa", sum := "c4c5221ea7968b03873e5b20a55e0c2b624c8c13949a7a056c73bc722a4638eb", func := "straddle/straddlelaw14.LifePlays", spec := "lifePlays", unfollowed := true, recurses := true, apart := false, narrowed := true }
def LifePlaysUptoSaid : Prop := lifePlaysUptoRow.holds Try.pinned (OpenSpec.upto lifePlaysSpec)

/-- 'straddlelaw14.LifeParts', WHERE WHAT IT READS IS OF BULK AT MOST 1048576: true; the input reads as it did. -/
def lifePartsUptoRow : OpenClaim := { program := "ytkmdnbficoknlaa", sum := "c4c5221ea7968b03873e5b20a55e0c2b624c8c13949a7a056c73bc722a4638eb", func := "straddle/straddlelaw14.LifeParts", spec := "lifeParts", unfollowed := true, recurses := true, apart := false, narrowed := true }
def LifePartsUptoSaid : Prop := lifePartsUptoRow.holds Try.pinned (OpenSpec.upto lifePartsSpec)

/-- 'straddlelaw14.LifeOwners', WHERE WHAT IT READS IS OF BULK AT MOST 1048576: true; the input reads as it did. -/
def lifeOwnersUptoRow : OpenClaim := { program := "ytkmdnbficoknlaa", sum := "c4c5221ea7968b03873e5b20a55e0c2b624c8c13949a7a056c73bc722a4638eb", func := "straddle/straddlelaw14.LifeOwners", spec := "lifeOwners", unfollowed := true, recurses := true, apart := false, narrowed := true }
def LifeOwnersUptoSaid : Prop := lifeOwnersUptoRow.holds Try.pinned (OpenSpec.upto lifeOwnersSpec)

/-- 'straddlelaw3.CodeShort', WHERE WHAT IT READS IS OF BULK AT MOST 1048576: true; the input reads as it did. -/
def codeShortUptoRow : OpenClaim := { program := "ytkmdnbficoknlaa", sum := "c4c5221ea7968b03873e5b20a55e0c2b624c8c13949a7a056c73bc722a4638eb", func := "straddle/straddlelaw3.CodeShort", spec := "codeShort", unfollowed := true, recurses := true, apart := false, narrowed := true }
def CodeShortUptoSaid : Prop := codeShortUptoRow.holds Try.pinned (OpenSpec.upto codeShortSpec)

end Rows
end Go.Proofs.Ytkmdnbficoknlaa
