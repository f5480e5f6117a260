/-
  NARROWER THAN 'FOR EVERY INPUT', by the rows' own cells (each row's printed sentence says how): SumsTurned: laid · SessTurns: laid · SessLate: laid · SessApart: laid · RiskPlays: laid · RiskReturns: laid · RiskBounds: laid · GridAny: laid.
  DERIVED. THE GIVEN ROWS OF THIS SEAT. 8 by the template 'for every input the law returns true; each argument reads behind the call as it read before'; 0 by the template 'total and deterministic' (their statements: YtdkkdoadafhfmaaDoorTotals.lean).
  GIVEN WITH THE SEED: the statements are not yours to turn. If you find one false, say at which input.
  Laid BY PROGRAM, IN A SANDBOX (cutbox-rows.mjs): the forced cells as the released guide's own fill.sh prints them over the translation 58d266483300e95a… (all of the seat's roots in one cut). By AI agents, Wed Nov 11 2026. No macro, syntax, notation, axiom, sorry.
-/
import Derived.Test.YtdkkdoadafhfmaaDoorChecked
import GoSem.Claim
import GoSem.ClaimJoined
import GoSem.ClaimMapViews
import Derived.JoinedTies
import Derived.KernelRfl
namespace Go.Proofs.YtdkkdoadafhfmaaDoor
/- THE CELL 'sum', in the pinned program and in every row, IS THE sha256 OF THE DUMP (.gsa) THAT YtdkkdoadafhfmaaDoorProg.lean LOADS. Nothing in Lean hashes anything: it is a label: what it is worth is what the hold of that sum in a sandbox is worth. -/
noncomputable def Tryd.pinned : Pinned := { name := "ytdkkdoadafhfmaadoor", sum := "58d266483300e95a2fa1b9200b38618b3da965cd341e8fe5e0e8e3d9dc69dabb", checked := Tryd.checked }
namespace Rows
def none {H : Type} : Left H := { results := [], args := [] }

/- WHAT THE LISTED PACKAGE-LEVEL VARIABLES READ AS WHEN THE CALL BEGINS. Each datum BY PROGRAM (the guide's laid-datum.mjs) off the statement by which the dump's own 'gosem.cut.vars' lays the variable. In a bare row this is a premise. The card (YtdkkdoadafhfmaaDoorCards.lean) ties it to the program's text. -/
def laid_errors_errorType {H : Type} : DataW H := .iface "internal/reflectlite.rtype" (.agg [.ptr (.lit (.string [101, 114, 114, 111, 114]))])

/-- 'straddlelaw2.SumsTurned': WHATEVER THE INPUT: true; the input reads as it did. -/
def sumsTurnedSpec : ChangeSpec := { name := "sumsTurned", fn := fun _ => fun
  | [d1, d2, d3] => { results := [.lit (.bool true)], args := [d1, d2, d3] }
  | _ => none }
def sumsTurnedRow : OpenClaim := { program := "ytdkkdoadafhfmaadoor", sum := "58d266483300e95a2fa1b9200b38618b3da965cd341e8fe5e0e8e3d9dc69dabb", func := "straddle/straddlelaw2.SumsTurned", spec := "sumsTurned", inPlace := ["internal/reflectlite.TypeOf", "internal/reflectlite.ValueOf", "(internal/reflectlite.Value).Type", "(internal/reflectlite.Value).IsNil", "(internal/reflectlite.Value).Elem", "(internal/reflectlite.Value).Set"], unfollowed := true, recurses := true, named := ["errors.errorType"], apart := false, laid := [("errors.errorType", laid_errors_errorType)] }
def SumsTurnedSaid : Prop := sumsTurnedRow.holds Tryd.pinned (OpenSpec.ofChange sumsTurnedSpec)

/-- ITS FALSE NEIGHBOUR: 'it returns false'. Refute it at one input. -/
def sumsTurnedWrong : ChangeSpec := { name := "sumsTurned", fn := fun _ => fun
  | [d1, d2, d3] => { results := [.lit (.bool false)], args := [d1, d2, d3] }
  | _ => none }
def SumsTurnedWrongFalsely : Prop := sumsTurnedRow.holds Tryd.pinned (OpenSpec.ofChange sumsTurnedWrong)

/-- 'straddlelaw25.SessTurns': WHATEVER THE INPUT: true; the input reads as it did. -/
def sessTurnsSpec : ChangeSpec := { name := "sessTurns", fn := fun _ => fun
  | [d1, d2] => { results := [.lit (.bool true)], args := [d1, d2] }
  | _ => none }
def sessTurnsRow : OpenClaim := { program := "ytdkkdoadafhfmaadoor", sum := "58d266483300e95a2fa1b9200b38618b3da965cd341e8fe5e0e8e3d9dc69dabb", func := "straddle/straddlelaw25.SessTurns", spec := "sessTurns", inPlace := ["internal/reflectlite.TypeOf", "internal/reflectlite.ValueOf", "(internal/reflectlite.Value).Type", "(internal/reflectlite.Value).IsNil", "(internal/reflectlite.Value).Elem", "(internal/reflectlite.Value).Set"], unfollowed := true, recurses := true, named := ["errors.errorType"], apart := false, laid := [("errors.errorType", laid_errors_errorType)] }
def SessTurnsSaid : Prop := sessTurnsRow.holds Tryd.pinned (OpenSpec.ofChange sessTurnsSpec)

/-- ITS FALSE NEIGHBOUR: 'it returns false'. Refute it at one input. -/
def sessTurnsWrong : ChangeSpec := { name := "sessTurns", fn := fun _ => fun
  | [d1, d2] => { results := [.lit (.bool false)], args := [d1, d2] }
  | _ => none }
def SessTurnsWrongFalsely : Prop := sessTurnsRow.holds Tryd.pinned (OpenSpec.ofChange sessTurnsWrong)

/-- 'straddlelaw25.SessLate': WHATEVER THE INPUT: true; the input reads as it did. -/
def sessLateSpec : ChangeSpec := { name := "sessLate", fn := fun _ => fun
  | [d1, d2] => { results := [.lit (.bool true)], args := [d1, d2] }
  | _ => none }
def sessLateRow : OpenClaim := { program := "ytdkkdoadafhfmaadoor", sum := "58d266483300e95a2fa1b9200b38618b3da965cd341e8fe5e0e8e3d9dc69dabb", func := "straddle/straddlelaw25.SessLate", spec := "sessLate", inPlace := ["internal/reflectlite.TypeOf", "internal/reflectlite.ValueOf", "(internal/reflectlite.Value).Type", "(internal/reflectlite.Value).IsNil", "(internal/reflectlite.Value).Elem", "(internal/reflectlite.Value).Set"], unfollowed := true, recurses := true, named := ["errors.errorType"], apart := false, laid := [("errors.errorType", laid_errors_errorType)] }
def SessLateSaid : Prop := sessLateRow.holds Tryd.pinned (OpenSpec.ofChange sessLateSpec)

/-- ITS FALSE NEIGHBOUR: 'it returns false'. Refute it at one input. -/
def sessLateWrong : ChangeSpec := { name := "sessLate", fn := fun _ => fun
  | [d1, d2] => { results := [.lit (.bool false)], args := [d1, d2] }
  | _ => none }
def SessLateWrongFalsely : Prop := sessLateRow.holds Tryd.pinned (OpenSpec.ofChange sessLateWrong)

/-- 'straddlelaw25.SessApart': WHATEVER THE INPUT: true; the input reads as it did. -/
def sessApartSpec : ChangeSpec := { name := "sessApart", fn := fun _ => fun
  | [d] => { results := [.lit (.bool true)], args := [d] }
  | _ => none }
def sessApartRow : OpenClaim := { program := "ytdkkdoadafhfmaadoor", sum := "58d266483300e95a2fa1b9200b38618b3da965cd341e8fe5e0e8e3d9dc69dabb", func := "straddle/straddlelaw25.SessApart", spec := "sessApart", inPlace := ["internal/reflectlite.TypeOf", "internal/reflectlite.ValueOf", "(internal/reflectlite.Value).Type", "(internal/reflectlite.Value).IsNil", "(internal/reflectlite.Value).Elem", "(internal/reflectlite.Value).Set"], unfollowed := true, recurses := true, named := ["errors.errorType"], apart := false, laid := [("errors.errorType", laid_errors_errorType)] }
def SessApartSaid : Prop := sessApartRow.holds Tryd.pinned (OpenSpec.ofChange sessApartSpec)

/-- ITS FALSE NEIGHBOUR: 'it returns false'. Refute it at one input. -/
def sessApartWrong : ChangeSpec := { name := "sessApart", fn := fun _ => fun
  | [d] => { results := [.lit (.bool false)], args := [d] }
  | _ => none }
def SessApartWrongFalsely : Prop := sessApartRow.holds Tryd.pinned (OpenSpec.ofChange sessApartWrong)

/-- 'straddlelaw24.RiskPlays': WHATEVER THE INPUT: true; the input reads as it did. -/
def riskPlaysSpec : ChangeSpec := { name := "riskPlays", fn := fun _ => fun
  | [d1, d2, d3] => { results := [.lit (.bool true)], args := [d1, d2, d3] }
  | _ => none }
def riskPlaysRow : OpenClaim := { program := "ytdkkdoadafhfmaadoor", sum := "58d266483300e95a2fa1b9200b38618b3da965cd341e8fe5e0e8e3d9dc69dabb", func := "straddle/straddlelaw24.RiskPlays", spec := "riskPlays", inPlace := ["internal/reflectlite.TypeOf", "internal/reflectlite.ValueOf", "(internal/reflectlite.Value).Type", "(internal/reflectlite.Value).IsNil", "(internal/reflectlite.Value).Elem", "(internal/reflectlite.Value).Set"], unfollowed := true, recurses := true, named := ["errors.errorType"], apart := false, laid := [("errors.errorType", laid_errors_errorType)] }
def RiskPlaysSaid : Prop := riskPlaysRow.holds Tryd.pinned (OpenSpec.ofChange riskPlaysSpec)

/-- ITS FALSE NEIGHBOUR: 'it returns false'. Refute it at one input. -/
def riskPlaysWrong : ChangeSpec := { name := "riskPlays", fn := fun _ => fun
  | [d1, d2, d3] => { results := [.lit (.bool false)], args := [d1, d2, d3] }
  | _ => none }
def RiskPlaysWrongFalsely : Prop := riskPlaysRow.holds Tryd.pinned (OpenSpec.ofChange riskPlaysWrong)

/-- 'straddlelaw24.RiskReturns': WHATEVER THE INPUT: true; the input reads as it did. -/
def riskReturnsSpec : ChangeSpec := { name := "riskReturns", fn := fun _ => fun
  | [d] => { results := [.lit (.bool true)], args := [d] }
  | _ => none }
def riskReturnsRow : OpenClaim := { program := "ytdkkdoadafhfmaadoor", sum := "58d266483300e95a2fa1b9200b38618b3da965cd341e8fe5e0e8e3d9dc69dabb", func := "straddle/straddlelaw24.RiskReturns", spec := "riskReturns", inPlace := ["internal/reflectlite.TypeOf", "internal/reflectlite.ValueOf", "(internal/reflectlite.Value).Type", "(internal/reflectlite.Value).IsNil", "(internal/reflectlite.Value).Elem", "(internal/reflectlite.Value).Set"], unfollowed := true, recurses := true, named := ["errors.errorType"], apart := false, laid := [("errors.errorType", laid_errors_errorType)] }
def RiskReturnsSaid : Prop := riskReturnsRow.holds Tryd.pinned (OpenSpec.ofChange riskReturnsSpec)

/-- ITS FALSE NEIGHBOUR: 'it returns false'. Refute it at one input. -/
def riskReturnsWrong : ChangeSpec := { name := "riskReturns", fn := fun _ => fun
  | [d] => { results := [.lit (.bool false)], args := [d] }
  | _ => none }
def RiskReturnsWrongFalsely : Prop := riskReturnsRow.holds Tryd.pinned (OpenSpec.ofChange riskReturnsWrong)

/-- 'straddlelaw24.RiskBounds': WHATEVER THE INPUT: true; the input reads as it did. -/
def riskBoundsSpec : ChangeSpec := { name := "riskBounds", fn := fun _ => fun
  | [d1, d2, d3] => { results := [.lit (.bool true)], args := [d1, d2, d3] }
  | _ => none }
def riskBoundsRow : OpenClaim := { program := "ytdkkdoadafhfmaadoor", sum := "58d266483300e95a2fa1b9200b38618b3da965cd341e8fe5e0e8e3d9dc69dabb", func := "straddle/straddlelaw24.RiskBounds", spec := "riskBounds", inPlace := ["internal/reflectlite.TypeOf", "internal/reflectlite.ValueOf", "(internal/reflectlite.Value).Type", "(internal/reflectlite.Value).IsNil", "(internal/reflectlite.Value).Elem", "(internal/reflectlite.Value).Set"], unfollowed := true, recurses := true, named := ["errors.errorType"], apart := false, laid := [("errors.errorType", laid_errors_errorType)] }
def RiskBoundsSaid : Prop := riskBoundsRow.holds Tryd.pinned (OpenSpec.ofChange riskBoundsSpec)

/-- ITS FALSE NEIGHBOUR: 'it returns false'. Refute it at one input. -/
def riskBoundsWrong : ChangeSpec := { name := "riskBounds", fn := fun _ => fun
  | [d1, d2, d3] => { results := [.lit (.bool false)], args := [d1, d2, d3] }
  | _ => none }
def RiskBoundsWrongFalsely : Prop := riskBoundsRow.holds Tryd.pinned (OpenSpec.ofChange riskBoundsWrong)

/-- 'straddlelaw6.GridAny': WHATEVER THE INPUT: true; the input reads as it did. -/
def gridAnySpec : ChangeSpec := { name := "gridAny", fn := fun _ => fun
  | [d1, d2, d3] => { results := [.lit (.bool true)], args := [d1, d2, d3] }
  | _ => none }
def gridAnyRow : OpenClaim := { program := "ytdkkdoadafhfmaadoor", sum := "58d266483300e95a2fa1b9200b38618b3da965cd341e8fe5e0e8e3d9dc69dabb", func := "straddle/straddlelaw6.GridAny", spec := "gridAny", inPlace := ["internal/reflectlite.TypeOf", "internal/reflectlite.ValueOf", "(internal/reflectlite.Value).Type", "(internal/reflectlite.Value).IsNil", "(internal/reflectlite.Value).Elem", "(internal/reflectlite.Value).Set"], unfollowed := true, recurses := true, named := ["errors.errorType"], apart := false, laid := [("errors.errorType", laid_errors_errorType)] }
def GridAnySaid : Prop := gridAnyRow.holds Tryd.pinned (OpenSpec.ofChange gridAnySpec)

/-- ITS FALSE NEIGHBOUR: 'it returns false'. Refute it at one input. -/
def gridAnyWrong : ChangeSpec := { name := "gridAny", fn := fun _ => fun
  | [d1, d2, d3] => { results := [.lit (.bool false)], args := [d1, d2, d3] }
  | _ => none }
def GridAnyWrongFalsely : Prop := gridAnyRow.holds Tryd.pinned (OpenSpec.ofChange gridAnyWrong)

/- THE SECOND FORM. 'bulk': how many values and letters a reading holds, each counted each time it is reached (what is shared counts as often as it is met; a slice's spare places count too). A statement '..UptoSaid' is the law's where the arguments, and the package variables that the reading takes, are together of bulk at most 1048576: NARROWER than '..Said'. Prove '..Said' where nothing that the law and all that it calls make is longer than what came in: it says more and counts as full. Else prove '..UptoSaid'. A law counts once. -/
mutual
def uptoBulk {H : Type} : DataW H → Nat
  | .lit (.string bytes) => bytes.length + 1
  | .lit _ => 1
  | .nil => 1
  | .ptr d => uptoBulk d + 1
  | .slice elems spare => uptoBulkAll elems + uptoBulkAll spare + 1
  | .agg parts => uptoBulkAll parts + 1
  | .iface _ d => uptoBulk d + 1
  | .map entries => uptoBulkEntries entries + 1
  | .held _ => 1
def uptoBulkAll {H : Type} : List (DataW H) → Nat
  | [] => 0
  | d :: r => uptoBulk d + uptoBulkAll r
def uptoBulkEntries {H : Type} : List (Lit × DataW H) → Nat
  | [] => 0
  | x :: r => uptoBulkEntry x + uptoBulkEntries r
def uptoBulkEntry {H : Type} : Lit × DataW H → Nat
  | (.string bytes, d) => bytes.length + uptoBulk d + 1
  | (_, d) => uptoBulk d + 1
 end
def uptoSmall : (H : Type) → List (DataW H) → Bool := fun _ ds => decide (uptoBulkAll ds ≤ 1048576)
def OpenSpec.upto (s : _root_.Go.ChangeSpec) : _root_.Go.OpenSpec := { _root_.Go.OpenSpec.ofChange s with cond := some uptoSmall }

/-- 'straddlelaw2.SumsTurned', WHERE WHAT IT READS IS OF BULK AT MOST 1048576: true; the input reads as it did. -/
def sumsTurnedUptoRow : OpenClaim := { program := "ytdkkdoadafhfmaadoor", sum := "58d266483300e95a2fa1b9200b38618b3da965cd341e8fe5e0e8e3d9dc69dabb", func := "straddle/straddlelaw2.SumsTurned", spec := "sumsTurned", inPlace := ["internal/reflectlite.TypeOf", "internal/reflectlite.ValueOf", "(internal/reflectlite.Value).Type", "(internal/reflectlite.Value).IsNil", "(internal/reflectlite.Value).Elem", "(internal/reflectlite.Value).Set"], unfollowed := true, recurses := true, named := ["errors.errorType"], apart := false, laid := [("errors.errorType", laid_errors_errorType)], narrowed := true }
def SumsTurnedUptoSaid : Prop := sumsTurnedUptoRow.holds Tryd.pinned (OpenSpec.upto sumsTurnedSpec)

/-- 'straddlelaw25.SessTurns', WHERE WHAT IT READS IS OF BULK AT MOST 1048576: true; the input reads as it did. -/
def sessTurnsUptoRow : OpenClaim := { program := "ytdkkdoadafhfmaadoor", sum := "58d266483300e95a2fa1b9200b38618b3da965cd341e8fe5e0e8e3d9dc69dabb", func := "straddle/straddlelaw25.SessTurns", spec := "sessTurns", inPlace := ["internal/reflectlite.TypeOf", "internal/reflectlite.ValueOf", "(internal/reflectlite.Value).Type", "(internal/reflectlite.Value).IsNil", "(internal/reflectlite.Value).Elem", "(internal/reflectlite.Value).Set"], unfollowed := true, recurses := true, named := ["errors.errorType"], apart := false, laid := [("errors.errorType", laid_errors_errorType)], narrowed := true }
def SessTurnsUptoSaid : Prop := sessTurnsUptoRow.holds Tryd.pinned (OpenSpec.upto sessTurnsSpec)

/-- 'straddlelaw25.SessLate', WHERE WHAT IT READS IS OF BULK AT MOST 1048576: true; the input reads as it did. -/
def sessLateUptoRow : OpenClaim := { program := "ytdkkdoadafhfmaadoor", sum := "58d266483300e95a2fa1b9200b38618b3da965cd341e8fe5e0e8e3d9dc69dabb", func := "straddle/straddlelaw25.SessLate", spec := "sessLate", inPlace := ["internal/reflectlite.TypeOf", "internal/reflectlite.ValueOf", "(internal/reflectlite.Value).Type", "(internal/reflectlite.Value).IsNil", "(internal/reflectlite.Value).Elem", "(internal/reflectlite.Value).Set"], unfollowed := true, recurses := true, named := ["errors.errorType"], apart := false, laid := [("errors.errorType", laid_errors_errorType)], narrowed := true }
def SessLateUptoSaid : Prop := sessLateUptoRow.holds Tryd.pinned (OpenSpec.upto sessLateSpec)

/-- 'straddlelaw25.SessApart', WHERE WHAT IT READS IS OF BULK AT MOST 1048576: true; the input reads as it did. -/
def sessApartUptoRow : OpenClaim := { program := "ytdkkdoadafhfmaadoor", sum := "58d266483300e95a2fa1b9200b38618b3da965cd341e8fe5e0e8e3d9dc69dabb", func := "straddle/straddlelaw25.SessApart", spec := "sessApart", inPlace := ["internal/reflectlite.TypeOf", "internal/reflectlite.ValueOf", "(internal/reflectlite.Value).Type", "(internal/reflectlite.Value).IsNil", "(internal/reflectlite.Value).Elem", "(internal/reflectlite.Value).Set"], unfollowed := true, recurses := true, named := ["errors.errorType"], apart := false, laid := [("errors.errorType", laid_errors_errorType)], narrowed := true }
def SessApartUptoSaid : Prop := sessApartUptoRow.holds Tryd.pinned (OpenSpec.upto sessApartSpec)

/-- 'straddlelaw24.RiskPlays', WHERE WHAT IT READS IS OF BULK AT MOST 1048576: true; the input reads as it did. -/
def riskPlaysUptoRow : OpenClaim := { program := "ytdkkdoadafhfmaadoor", sum := "58d266483300e95a2fa1b9200b38618b3da965cd341e8fe5e0e8e3d9dc69dabb", func := "straddle/straddlelaw24.RiskPlays", spec := "riskPlays", inPlace := ["internal/reflectlite.TypeOf", "internal/reflectlite.ValueOf", "(internal/reflectlite.Value).Type", "(internal/reflectlite.Value).IsNil", "(internal/reflectlite.Value).Elem", "(internal/reflectlite.Value).Set"], unfollowed := true, recurses := true, named := ["errors.errorType"], apart := false, laid := [("errors.errorType", laid_errors_errorType)], narrowed := true }
def RiskPlaysUptoSaid : Prop := riskPlaysUptoRow.holds Tryd.pinned (OpenSpec.upto riskPlaysSpec)

/-- 'straddlelaw24.RiskReturns', WHERE WHAT IT READS IS OF BULK AT MOST 1048576: true; the input reads as it did. -/
def riskReturnsUptoRow : OpenClaim := { program := "ytdkkdoadafhfmaadoor", sum := "58d266483300e95a2fa1b9200b38618b3da965cd341e8fe5e0e8e3d9dc69dabb", func := "straddle/straddlelaw24.RiskReturns", spec := "riskReturns", inPlace := ["internal/reflectlite.TypeOf", "internal/reflectlite.ValueOf", "(internal/reflectlite.Value).Type", "(internal/reflectlite.Value).IsNil", "(internal/reflectlite.Value).Elem", "(internal/reflectlite.Value).Set"], unfollowed := true, recurses := true, named := ["errors.errorType"], apart := false, laid := [("errors.errorType", laid_errors_errorType)], narrowed := true }
def RiskReturnsUptoSaid : Prop := riskReturnsUptoRow.holds Tryd.pinned (OpenSpec.upto riskReturnsSpec)

/-- 'straddlelaw24.RiskBounds', WHERE WHAT IT READS IS OF BULK AT MOST 1048576: true; the input reads as it did. -/
def riskBoundsUptoRow : OpenClaim := { program := "ytdkkdoadafhfmaadoor", sum := "58d266483300e95a2fa1b9200b38618b3da965cd341e8fe5e0e8e3d9dc69dabb", func := "straddle/straddlelaw24.RiskBounds", spec := "riskBounds", inPlace := ["internal/reflectlite.TypeOf", "internal/reflectlite.ValueOf", "(internal/reflectlite.Value).Type", "(internal/reflectlite.Value).IsNil", "(internal/reflectlite.Value).Elem", "(internal/reflectlite.Value).Set"], unfollowed := true, recurses := true, named := ["errors.errorType"], apart := false, laid := [("errors.errorType", laid_errors_errorType)], narrowed := true }
def RiskBoundsUptoSaid : Prop := riskBoundsUptoRow.holds Tryd.pinned (OpenSpec.upto riskBoundsSpec)

/-- 'straddlelaw6.GridAny', WHERE WHAT IT READS IS OF BULK AT MOST 1048576: true; the input reads as it did. -/
def gridAnyUptoRow : OpenClaim := { program := "ytdkkdoadafhfmaadoor", sum := "58d266483300e95a2fa1b9200b38618b3da965cd341e8fe5e0e8e3d9dc69dabb", func := "straddle/straddlelaw6.GridAny", spec := "gridAny", inPlace := ["internal/reflectlite.TypeOf", "internal/reflectlite.ValueOf", "(internal/reflectlite.Value).Type", "(internal/reflectlite.Value).IsNil", "(internal/reflectlite.Value).Elem", "(internal/reflectlite.Value).Set"], unfollowed := true, recurses := true, named := ["errors.errorType"], apart := false, laid := [("errors.errorType", laid_errors_errorType)], narrowed := true }
def GridAnyUptoSaid : Prop := gridAnyUptoRow.holds Tryd.pinned (OpenSpec.upto gridAnySpec)

end Rows
end Go.Proofs.YtdkkdoadafhfmaaDoor
