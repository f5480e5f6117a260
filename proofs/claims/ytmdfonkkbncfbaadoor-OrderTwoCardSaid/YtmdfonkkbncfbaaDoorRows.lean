/-
  NARROWER THAN 'FOR EVERY INPUT', by the rows' own cells (each row's printed sentence says how): SumsTurned: laid · OrderTwo: laid · OrderThree: laid · OrderTakes: laid · SessPlays: laid · SessTurns: laid · SessLate: laid · SessApart: laid · SumsAny: laid · RiskPlays: laid · RiskReturns: laid · RiskBounds: laid.
  DERIVED. THE GIVEN ROWS OF THIS SEAT. 12 by the template 'for every input the law returns true; each argument reads behind the call as it read before'; 0 by the template 'total and deterministic' (their statements: YtmdfonkkbncfbaaDoorTotals.lean).
  GIVEN WITH THE SEED: the statements are not yours to turn. If you find one false, say at which input.
  Laid BY PROGRAM, IN A SANDBOX (cutbox-rows.mjs): the forced cells as the released guide's own fill.sh prints them over the translation 0fb10f849fcbe59a… (all of the seat's roots in one cut). By AI agents, Wed Nov 11 2026. No macro, syntax, notation, axiom, sorry.
-/
import Derived.Test.YtmdfonkkbncfbaaDoorChecked
import GoSem.Claim
import GoSem.ClaimJoined
import GoSem.ClaimMapViews
import Derived.JoinedTies
import Derived.KernelRfl
namespace Go.Proofs.YtmdfonkkbncfbaaDoor
/- THE CELL 'sum', in the pinned program and in every row, IS THE sha256 OF THE DUMP (.gsa) THAT YtmdfonkkbncfbaaDoorProg.lean LOADS. Nothing in Lean hashes anything: it is a label: what it is worth is what the hold of that sum in a sandbox is worth. -/
noncomputable def Tryd.pinned : Pinned := { name := "ytmdfonkkbncfbaadoor", sum := "0fb10f849fcbe59a5021381391abe4b707c7e1e332182a9a24b862eb8220d853", checked := Tryd.checked }
namespace Rows
def none {H : Type} : Left H := { results := [], args := [] }

/- WHAT THE LISTED PACKAGE-LEVEL VARIABLES READ AS WHEN THE CALL BEGINS. Each datum BY PROGRAM (the guide's laid-datum.mjs) off the statement by which the dump's own 'gosem.cut.vars' lays the variable. In a bare row this is a premise. The card (YtmdfonkkbncfbaaDoorCards.lean) ties it to the program's text. -/
def laid_errors_errorType {H : Type} : DataW H := .iface "internal/reflectlite.rtype" (.agg [.ptr (.lit (.string [101, 114, 114, 111, 114]))])
def laid_math_bits_deBruijn32tab {H : Type} : DataW H := .agg [.lit (.int .u8 0), .lit (.int .u8 1), .lit (.int .u8 28), .lit (.int .u8 2), .lit (.int .u8 29), .lit (.int .u8 14), .lit (.int .u8 24), .lit (.int .u8 3), .lit (.int .u8 30), .lit (.int .u8 22), .lit (.int .u8 20), .lit (.int .u8 15), .lit (.int .u8 25), .lit (.int .u8 17), .lit (.int .u8 4), .lit (.int .u8 8), .lit (.int .u8 31), .lit (.int .u8 27), .lit (.int .u8 13), .lit (.int .u8 23), .lit (.int .u8 21), .lit (.int .u8 19), .lit (.int .u8 16), .lit (.int .u8 7), .lit (.int .u8 26), .lit (.int .u8 12), .lit (.int .u8 18), .lit (.int .u8 6), .lit (.int .u8 11), .lit (.int .u8 5), .lit (.int .u8 10), .lit (.int .u8 9)]
def laid_math_bits_deBruijn64tab {H : Type} : DataW H := .agg [.lit (.int .u8 0), .lit (.int .u8 1), .lit (.int .u8 56), .lit (.int .u8 2), .lit (.int .u8 57), .lit (.int .u8 49), .lit (.int .u8 28), .lit (.int .u8 3), .lit (.int .u8 61), .lit (.int .u8 58), .lit (.int .u8 42), .lit (.int .u8 50), .lit (.int .u8 38), .lit (.int .u8 29), .lit (.int .u8 17), .lit (.int .u8 4), .lit (.int .u8 62), .lit (.int .u8 47), .lit (.int .u8 59), .lit (.int .u8 36), .lit (.int .u8 45), .lit (.int .u8 43), .lit (.int .u8 51), .lit (.int .u8 22), .lit (.int .u8 53), .lit (.int .u8 39), .lit (.int .u8 33), .lit (.int .u8 30), .lit (.int .u8 24), .lit (.int .u8 18), .lit (.int .u8 12), .lit (.int .u8 5), .lit (.int .u8 63), .lit (.int .u8 55), .lit (.int .u8 48), .lit (.int .u8 27), .lit (.int .u8 60), .lit (.int .u8 41), .lit (.int .u8 37), .lit (.int .u8 16), .lit (.int .u8 46), .lit (.int .u8 35), .lit (.int .u8 44), .lit (.int .u8 21), .lit (.int .u8 52), .lit (.int .u8 32), .lit (.int .u8 23), .lit (.int .u8 11), .lit (.int .u8 54), .lit (.int .u8 26), .lit (.int .u8 40), .lit (.int .u8 15), .lit (.int .u8 34), .lit (.int .u8 20), .lit (.int .u8 31), .lit (.int .u8 10), .lit (.int .u8 25), .lit (.int .u8 14), .lit (.int .u8 19), .lit (.int .u8 9), .lit (.int .u8 13), .lit (.int .u8 8), .lit (.int .u8 7), .lit (.int .u8 6)]
def laid_internal_strconv_uint64pow10 {H : Type} : DataW H := .agg [.lit (.int .u64 1), .lit (.int .u64 10), .lit (.int .u64 100), .lit (.int .u64 1000), .lit (.int .u64 10000), .lit (.int .u64 100000), .lit (.int .u64 1000000), .lit (.int .u64 10000000), .lit (.int .u64 100000000), .lit (.int .u64 1000000000), .lit (.int .u64 10000000000), .lit (.int .u64 100000000000), .lit (.int .u64 1000000000000), .lit (.int .u64 10000000000000), .lit (.int .u64 100000000000000), .lit (.int .u64 1000000000000000), .lit (.int .u64 10000000000000000), .lit (.int .u64 100000000000000000), .lit (.int .u64 1000000000000000000), .lit (.int .u64 10000000000000000000)]

/-- 'straddlelaw2.SumsTurned': WHATEVER THE INPUT: true; the input reads as it did. -/
def sumsTurnedSpec : ChangeSpec := { name := "sumsTurned", fn := fun _ => fun
  | [d1, d2, d3] => { results := [.lit (.bool true)], args := [d1, d2, d3] }
  | _ => none }
def sumsTurnedRow : OpenClaim := { program := "ytmdfonkkbncfbaadoor", sum := "0fb10f849fcbe59a5021381391abe4b707c7e1e332182a9a24b862eb8220d853", func := "straddle/straddlelaw2.SumsTurned", spec := "sumsTurned", inPlace := ["internal/reflectlite.TypeOf", "internal/reflectlite.ValueOf", "(internal/reflectlite.Value).Type", "(internal/reflectlite.Value).IsNil", "(internal/reflectlite.Value).Elem", "(internal/reflectlite.Value).Set"], unfollowed := true, recurses := true, named := ["errors.errorType"], apart := false, laid := [("errors.errorType", laid_errors_errorType)] }
def SumsTurnedSaid : Prop := sumsTurnedRow.holds Tryd.pinned (OpenSpec.ofChange sumsTurnedSpec)

/-- ITS FALSE NEIGHBOUR: 'it returns false'. Refute it at one input. -/
def sumsTurnedWrong : ChangeSpec := { name := "sumsTurned", fn := fun _ => fun
  | [d1, d2, d3] => { results := [.lit (.bool false)], args := [d1, d2, d3] }
  | _ => none }
def SumsTurnedWrongFalsely : Prop := sumsTurnedRow.holds Tryd.pinned (OpenSpec.ofChange sumsTurnedWrong)

/-- 'straddlelaw11.OrderTwo': WHATEVER THE INPUT: true; the input reads as it did. -/
def orderTwoSpec : ChangeSpec := { name := "orderTwo", fn := fun _ => fun
  | [d1, d2] => { results := [.lit (.bool true)], args := [d1, d2] }
  | _ => none }
def orderTwoRow : OpenClaim := { program := "ytmdfonkkbncfbaadoor", sum := "0fb10f849fcbe59a5021381391abe4b707c7e1e332182a9a24b862eb8220d853", func := "straddle/straddlelaw11.OrderTwo", spec := "orderTwo", unfollowed := true, recurses := true, named := ["internal/strconv.uint64pow10", "math/bits.deBruijn32tab", "math/bits.deBruijn64tab"], apart := false, laid := [("math/bits.deBruijn32tab", laid_math_bits_deBruijn32tab), ("math/bits.deBruijn64tab", laid_math_bits_deBruijn64tab), ("internal/strconv.uint64pow10", laid_internal_strconv_uint64pow10)] }
def OrderTwoSaid : Prop := orderTwoRow.holds Tryd.pinned (OpenSpec.ofChange orderTwoSpec)

/-- ITS FALSE NEIGHBOUR: 'it returns false'. Refute it at one input. -/
def orderTwoWrong : ChangeSpec := { name := "orderTwo", fn := fun _ => fun
  | [d1, d2] => { results := [.lit (.bool false)], args := [d1, d2] }
  | _ => none }
def OrderTwoWrongFalsely : Prop := orderTwoRow.holds Tryd.pinned (OpenSpec.ofChange orderTwoWrong)

/-- 'straddlelaw11.OrderThree': WHATEVER THE INPUT: true; the input reads as it did. -/
def orderThreeSpec : ChangeSpec := { name := "orderThree", fn := fun _ => fun
  | [d1, d2, d3] => { results := [.lit (.bool true)], args := [d1, d2, d3] }
  | _ => none }
def orderThreeRow : OpenClaim := { program := "ytmdfonkkbncfbaadoor", sum := "0fb10f849fcbe59a5021381391abe4b707c7e1e332182a9a24b862eb8220d853", func := "straddle/straddlelaw11.OrderThree", spec := "orderThree", unfollowed := true, recurses := true, named := ["internal/strconv.uint64pow10", "math/bits.deBruijn32tab", "math/bits.deBruijn64tab"], apart := false, laid := [("math/bits.deBruijn32tab", laid_math_bits_deBruijn32tab), ("math/bits.deBruijn64tab", laid_math_bits_deBruijn64tab), ("internal/strconv.uint64pow10", laid_internal_strconv_uint64pow10)] }
def OrderThreeSaid : Prop := orderThreeRow.holds Tryd.pinned (OpenSpec.ofChange orderThreeSpec)

/-- ITS FALSE NEIGHBOUR: 'it returns false'. Refute it at one input. -/
def orderThreeWrong : ChangeSpec := { name := "orderThree", fn := fun _ => fun
  | [d1, d2, d3] => { results := [.lit (.bool false)], args := [d1, d2, d3] }
  | _ => none }
def OrderThreeWrongFalsely : Prop := orderThreeRow.holds Tryd.pinned (OpenSpec.ofChange orderThreeWrong)

/-- 'straddlelaw11.OrderTakes': WHATEVER THE INPUT: true; the input reads as it did. -/
def orderTakesSpec : ChangeSpec := { name := "orderTakes", fn := fun _ => fun
  | [d1, d2] => { results := [.lit (.bool true)], args := [d1, d2] }
  | _ => none }
def orderTakesRow : OpenClaim := { program := "ytmdfonkkbncfbaadoor", sum := "0fb10f849fcbe59a5021381391abe4b707c7e1e332182a9a24b862eb8220d853", func := "straddle/straddlelaw11.OrderTakes", spec := "orderTakes", unfollowed := true, recurses := true, named := ["internal/strconv.uint64pow10", "math/bits.deBruijn32tab", "math/bits.deBruijn64tab"], apart := false, laid := [("math/bits.deBruijn32tab", laid_math_bits_deBruijn32tab), ("math/bits.deBruijn64tab", laid_math_bits_deBruijn64tab), ("internal/strconv.uint64pow10", laid_internal_strconv_uint64pow10)] }
def OrderTakesSaid : Prop := orderTakesRow.holds Tryd.pinned (OpenSpec.ofChange orderTakesSpec)

/-- ITS FALSE NEIGHBOUR: 'it returns false'. Refute it at one input. -/
def orderTakesWrong : ChangeSpec := { name := "orderTakes", fn := fun _ => fun
  | [d1, d2] => { results := [.lit (.bool false)], args := [d1, d2] }
  | _ => none }
def OrderTakesWrongFalsely : Prop := orderTakesRow.holds Tryd.pinned (OpenSpec.ofChange orderTakesWrong)

/-- 'straddlelaw25.SessPlays': WHATEVER THE INPUT: true; the input reads as it did. -/
def sessPlaysSpec : ChangeSpec := { name := "sessPlays", fn := fun _ => fun
  | [d1, d2] => { results := [.lit (.bool true)], args := [d1, d2] }
  | _ => none }
def sessPlaysRow : OpenClaim := { program := "ytmdfonkkbncfbaadoor", sum := "0fb10f849fcbe59a5021381391abe4b707c7e1e332182a9a24b862eb8220d853", func := "straddle/straddlelaw25.SessPlays", spec := "sessPlays", inPlace := ["internal/reflectlite.TypeOf", "internal/reflectlite.ValueOf", "(internal/reflectlite.Value).Type", "(internal/reflectlite.Value).IsNil", "(internal/reflectlite.Value).Elem", "(internal/reflectlite.Value).Set"], unfollowed := true, recurses := true, named := ["errors.errorType"], apart := false, laid := [("errors.errorType", laid_errors_errorType)] }
def SessPlaysSaid : Prop := sessPlaysRow.holds Tryd.pinned (OpenSpec.ofChange sessPlaysSpec)

/-- ITS FALSE NEIGHBOUR: 'it returns false'. Refute it at one input. -/
def sessPlaysWrong : ChangeSpec := { name := "sessPlays", fn := fun _ => fun
  | [d1, d2] => { results := [.lit (.bool false)], args := [d1, d2] }
  | _ => none }
def SessPlaysWrongFalsely : Prop := sessPlaysRow.holds Tryd.pinned (OpenSpec.ofChange sessPlaysWrong)

/-- 'straddlelaw25.SessTurns': WHATEVER THE INPUT: true; the input reads as it did. -/
def sessTurnsSpec : ChangeSpec := { name := "sessTurns", fn := fun _ => fun
  | [d1, d2] => { results := [.lit (.bool true)], args := [d1, d2] }
  | _ => none }
def sessTurnsRow : OpenClaim := { program := "ytmdfonkkbncfbaadoor", sum := "0fb10f849fcbe59a5021381391abe4b707c7e1e332182a9a24b862eb8220d853", func := "straddle/straddlelaw25.SessTurns", spec := "sessTurns", inPlace := ["internal/reflectlite.TypeOf", "internal/reflectlite.ValueOf", "(internal/reflectlite.Value).Type", "(internal/reflectlite.Value).IsNil", "(internal/reflectlite.Value).Elem", "(internal/reflectlite.Value).Set"], unfollowed := true, recurses := true, named := ["errors.errorType"], apart := false, laid := [("errors.errorType", laid_errors_errorType)] }
def SessTurnsSaid : Prop := sessTurnsRow.holds Tryd.pinned (OpenSpec.ofChange sessTurnsSpec)

/-- ITS FALSE NEIGHBOUR: 'it returns false'. Refute it at one input. -/
def sessTurnsWrong : ChangeSpec := { name := "sessTurns", fn := fun _ => fun
  | [d1, d2] => { results := [.lit (.bool false)], args := [d1, d2] }
  | _ => none }
def SessTurnsWrongFalsely : Prop := sessTurnsRow.holds Tryd.pinned (OpenSpec.ofChange sessTurnsWrong)

/-- 'straddlelaw25.SessLate': WHATEVER THE INPUT: true; the input reads as it did. -/
def sessLateSpec : ChangeSpec := { name := "sessLate", fn := fun _ => fun
  | [d1, d2] => { results := [.lit (.bool true)], args := [d1, d2] }
  | _ => none }
def sessLateRow : OpenClaim := { program := "ytmdfonkkbncfbaadoor", sum := "0fb10f849fcbe59a5021381391abe4b707c7e1e332182a9a24b862eb8220d853", func := "straddle/straddlelaw25.SessLate", spec := "sessLate", inPlace := ["internal/reflectlite.TypeOf", "internal/reflectlite.ValueOf", "(internal/reflectlite.Value).Type", "(internal/reflectlite.Value).IsNil", "(internal/reflectlite.Value).Elem", "(internal/reflectlite.Value).Set"], unfollowed := true, recurses := true, named := ["errors.errorType"], apart := false, laid := [("errors.errorType", laid_errors_errorType)] }
def SessLateSaid : Prop := sessLateRow.holds Tryd.pinned (OpenSpec.ofChange sessLateSpec)

/-- ITS FALSE NEIGHBOUR: 'it returns false'. Refute it at one input. -/
def sessLateWrong : ChangeSpec := { name := "sessLate", fn := fun _ => fun
  | [d1, d2] => { results := [.lit (.bool false)], args := [d1, d2] }
  | _ => none }
def SessLateWrongFalsely : Prop := sessLateRow.holds Tryd.pinned (OpenSpec.ofChange sessLateWrong)

/-- 'straddlelaw25.SessApart': WHATEVER THE INPUT: true; the input reads as it did. -/
def sessApartSpec : ChangeSpec := { name := "sessApart", fn := fun _ => fun
  | [d] => { results := [.lit (.bool true)], args := [d] }
  | _ => none }
def sessApartRow : OpenClaim := { program := "ytmdfonkkbncfbaadoor", sum := "0fb10f849fcbe59a5021381391abe4b707c7e1e332182a9a24b862eb8220d853", func := "straddle/straddlelaw25.SessApart", spec := "sessApart", inPlace := ["internal/reflectlite.TypeOf", "internal/reflectlite.ValueOf", "(internal/reflectlite.Value).Type", "(internal/reflectlite.Value).IsNil", "(internal/reflectlite.Value).Elem", "(internal/reflectlite.Value).Set"], unfollowed := true, recurses := true, named := ["errors.errorType"], apart := false, laid := [("errors.errorType", laid_errors_errorType)] }
def SessApartSaid : Prop := sessApartRow.holds Tryd.pinned (OpenSpec.ofChange sessApartSpec)

/-- ITS FALSE NEIGHBOUR: 'it returns false'. Refute it at one input. -/
def sessApartWrong : ChangeSpec := { name := "sessApart", fn := fun _ => fun
  | [d] => { results := [.lit (.bool false)], args := [d] }
  | _ => none }
def SessApartWrongFalsely : Prop := sessApartRow.holds Tryd.pinned (OpenSpec.ofChange sessApartWrong)

/-- 'straddlelaw2.SumsAny': WHATEVER THE INPUT: true; the input reads as it did. -/
def sumsAnySpec : ChangeSpec := { name := "sumsAny", fn := fun _ => fun
  | [d1, d2] => { results := [.lit (.bool true)], args := [d1, d2] }
  | _ => none }
def sumsAnyRow : OpenClaim := { program := "ytmdfonkkbncfbaadoor", sum := "0fb10f849fcbe59a5021381391abe4b707c7e1e332182a9a24b862eb8220d853", func := "straddle/straddlelaw2.SumsAny", spec := "sumsAny", inPlace := ["internal/reflectlite.TypeOf", "internal/reflectlite.ValueOf", "(internal/reflectlite.Value).Type", "(internal/reflectlite.Value).IsNil", "(internal/reflectlite.Value).Elem", "(internal/reflectlite.Value).Set"], unfollowed := true, recurses := true, named := ["errors.errorType"], apart := false, laid := [("errors.errorType", laid_errors_errorType)] }
def SumsAnySaid : Prop := sumsAnyRow.holds Tryd.pinned (OpenSpec.ofChange sumsAnySpec)

/-- ITS FALSE NEIGHBOUR: 'it returns false'. Refute it at one input. -/
def sumsAnyWrong : ChangeSpec := { name := "sumsAny", fn := fun _ => fun
  | [d1, d2] => { results := [.lit (.bool false)], args := [d1, d2] }
  | _ => none }
def SumsAnyWrongFalsely : Prop := sumsAnyRow.holds Tryd.pinned (OpenSpec.ofChange sumsAnyWrong)

/-- 'straddlelaw24.RiskPlays': WHATEVER THE INPUT: true; the input reads as it did. -/
def riskPlaysSpec : ChangeSpec := { name := "riskPlays", fn := fun _ => fun
  | [d1, d2, d3] => { results := [.lit (.bool true)], args := [d1, d2, d3] }
  | _ => none }
def riskPlaysRow : OpenClaim := { program := "ytmdfonkkbncfbaadoor", sum := "0fb10f849fcbe59a5021381391abe4b707c7e1e332182a9a24b862eb8220d853", func := "straddle/straddlelaw24.RiskPlays", spec := "riskPlays", inPlace := ["internal/reflectlite.TypeOf", "internal/reflectlite.ValueOf", "(internal/reflectlite.Value).Type", "(internal/reflectlite.Value).IsNil", "(internal/reflectlite.Value).Elem", "(internal/reflectlite.Value).Set"], unfollowed := true, recurses := true, named := ["errors.errorType"], apart := false, laid := [("errors.errorType", laid_errors_errorType)] }
def RiskPlaysSaid : Prop := riskPlaysRow.holds Tryd.pinned (OpenSpec.ofChange riskPlaysSpec)

/-- ITS FALSE NEIGHBOUR: 'it returns false'. Refute it at one input. -/
def riskPlaysWrong : ChangeSpec := { name := "riskPlays", fn := fun _ => fun
  | [d1, d2, d3] => { results := [.lit (.bool false)], args := [d1, d2, d3] }
  | _ => none }
def RiskPlaysWrongFalsely : Prop := riskPlaysRow.holds Tryd.pinned (OpenSpec.ofChange riskPlaysWrong)

/-- 'straddlelaw24.RiskReturns': WHATEVER THE INPUT: true; the input reads as it did. -/
def riskReturnsSpec : ChangeSpec := { name := "riskReturns", fn := fun _ => fun
  | [d] => { results := [.lit (.bool true)], args := [d] }
  | _ => none }
def riskReturnsRow : OpenClaim := { program := "ytmdfonkkbncfbaadoor", sum := "0fb10f849fcbe59a5021381391abe4b707c7e1e332182a9a24b862eb8220d853", func := "straddle/straddlelaw24.RiskReturns", spec := "riskReturns", inPlace := ["internal/reflectlite.TypeOf", "internal/reflectlite.ValueOf", "(internal/reflectlite.Value).Type", "(internal/reflectlite.Value).IsNil", "(internal/reflectlite.Value).Elem", "(internal/reflectlite.Value).Set"], unfollowed := true, recurses := true, named := ["errors.errorType"], apart := false, laid := [("errors.errorType", laid_errors_errorType)] }
def RiskReturnsSaid : Prop := riskReturnsRow.holds Tryd.pinned (OpenSpec.ofChange riskReturnsSpec)

/-- ITS FALSE NEIGHBOUR: 'it returns false'. Refute it at one input. -/
def riskReturnsWrong : ChangeSpec := { name := "riskReturns", fn := fun _ => fun
  | [d] => { results := [.lit (.bool false)], args := [d] }
  | _ => none }
def RiskReturnsWrongFalsely : Prop := riskReturnsRow.holds Tryd.pinned (OpenSpec.ofChange riskReturnsWrong)

/-- 'straddlelaw24.RiskBounds': WHATEVER THE INPUT: true; the input reads as it did. -/
def riskBoundsSpec : ChangeSpec := { name := "riskBounds", fn := fun _ => fun
  | [d1, d2, d3] => { results := [.lit (.bool true)], args := [d1, d2, d3] }
  | _ => none }
def riskBoundsRow : OpenClaim := { program := "ytmdfonkkbncfbaadoor", sum := "0fb10f849fcbe59a5021381391abe4b707c7e1e332182a9a24b862eb8220d853", func := "straddle/straddlelaw24.RiskBounds", spec := "riskBounds", inPlace := ["internal/reflectlite.TypeOf", "internal/reflectlite.ValueOf", "(internal/reflectlite.Value).Type", "(internal/reflectlite.Value).IsNil", "(internal/reflectlite.Value).Elem", "(internal/reflectlite.Value).Set"], unfollowed := true, recurses := true, named := ["errors.errorType"], apart := false, laid := [("errors.errorType", laid_errors_errorType)] }
def RiskBoundsSaid : Prop := riskBoundsRow.holds Tryd.pinned (OpenSpec.ofChange riskBoundsSpec)

/-- ITS FALSE NEIGHBOUR: 'it returns false'. Refute it at one input. -/
def riskBoundsWrong : ChangeSpec := { name := "riskBounds", fn := fun _ => fun
  | [d1, d2, d3] => { results := [.lit (.bool false)], args := [d1, d2, d3] }
  | _ => none }
def RiskBoundsWrongFalsely : Prop := riskBoundsRow.holds Tryd.pinned (OpenSpec.ofChange riskBoundsWrong)

/- THE SECOND FORM. 'bulk': how many values and letters a reading holds, each counted each time it is reached (what is shared counts as often as it is met; a slice's spare places count too). A statement '..UptoSaid' is the law's where the arguments, and the package variables that the reading takes, are together of bulk at most 1048576: NARROWER than '..Said'. Prove '..Said' where nothing that the law and all that it calls make is longer than what came in: it says more and counts as full. Else prove '..UptoSaid'. A law counts once. -/
mutual
def uptoBulk {H : Type} : DataW H → Nat
  | .lit (.string bytes) => bytes.length + 1
  | .lit _ => 1
  | .nil => 1
  | .ptr d => uptoBulk d + 1
  | .slice elems spare => uptoBulkAll elems + uptoBulkAll spare + 1
  | .agg parts => uptoBulkAll parts + 1
  | .iface _ d => uptoBulk d + 1
  | .map entries => uptoBulkEntries entries + 1
  | .held _ => 1
def uptoBulkAll {H : Type} : List (DataW H) → Nat
  | [] => 0
  | d :: r => uptoBulk d + uptoBulkAll r
def uptoBulkEntries {H : Type} : List (Lit × DataW H) → Nat
  | [] => 0
  | x :: r => uptoBulkEntry x + uptoBulkEntries r
def uptoBulkEntry {H : Type} : Lit × DataW H → Nat
  | (.string bytes, d) => bytes.length + uptoBulk d + 1
  | (_, d) => uptoBulk d + 1
 end
def uptoSmall : (H : Type) → List (DataW H) → Bool := fun _ ds => decide (uptoBulkAll ds ≤ 1048576)
def OpenSpec.upto (s : _root_.Go.ChangeSpec) : _root_.Go.OpenSpec := { _root_.Go.OpenSpec.ofChange s with cond := some uptoSmall }

/-- 'straddlelaw2.SumsTurned', WHERE WHAT IT READS IS OF BULK AT MOST 1048576: true; the input reads as it did. -/
def sumsTurnedUptoRow : OpenClaim := { program := "ytmdfonkkbncfbaadoor", sum := "0fb10f849fcbe59a5021381391abe4b707c7e1e332182a9a24b862eb8220d853", func := "straddle/straddlelaw2.SumsTurned", spec := "sumsTurned", inPlace := ["internal/reflectlite.TypeOf", "internal/reflectlite.ValueOf", "(internal/reflectlite.Value).Type", "(internal/reflectlite.Value).IsNil", "(internal/reflectlite.Value).Elem", "(internal/reflectlite.Value).Set"], unfollowed := true, recurses := true, named := ["errors.errorType"], apart := false, laid := [("errors.errorType", laid_errors_errorType)], narrowed := true }
def SumsTurnedUptoSaid : Prop := sumsTurnedUptoRow.holds Tryd.pinned (OpenSpec.upto sumsTurnedSpec)

/-- 'straddlelaw11.OrderTwo', WHERE WHAT IT READS IS OF BULK AT MOST 1048576: true; the input reads as it did. -/
def orderTwoUptoRow : OpenClaim := { program := "ytmdfonkkbncfbaadoor", sum := "0fb10f849fcbe59a5021381391abe4b707c7e1e332182a9a24b862eb8220d853", func := "straddle/straddlelaw11.OrderTwo", spec := "orderTwo", unfollowed := true, recurses := true, named := ["internal/strconv.uint64pow10", "math/bits.deBruijn32tab", "math/bits.deBruijn64tab"], apart := false, laid := [("math/bits.deBruijn32tab", laid_math_bits_deBruijn32tab), ("math/bits.deBruijn64tab", laid_math_bits_deBruijn64tab), ("internal/strconv.uint64pow10", laid_internal_strconv_uint64pow10)], narrowed := true }
def OrderTwoUptoSaid : Prop := orderTwoUptoRow.holds Tryd.pinned (OpenSpec.upto orderTwoSpec)

/-- 'straddlelaw11.OrderThree', WHERE WHAT IT READS IS OF BULK AT MOST 1048576: true; the input reads as it did. -/
def orderThreeUptoRow : OpenClaim := { program := "ytmdfonkkbncfbaadoor", sum := "0fb10f849fcbe59a5021381391abe4b707c7e1e332182a9a24b862eb8220d853", func := "straddle/straddlelaw11.OrderThree", spec := "orderThree", unfollowed := true, recurses := true, named := ["internal/strconv.uint64pow10", "math/bits.deBruijn32tab", "math/bits.deBruijn64tab"], apart := false, laid := [("math/bits.deBruijn32tab", laid_math_bits_deBruijn32tab), ("math/bits.deBruijn64tab", laid_math_bits_deBruijn64tab), ("internal/strconv.uint64pow10", laid_internal_strconv_uint64pow10)], narrowed := true }
def OrderThreeUptoSaid : Prop := orderThreeUptoRow.holds Tryd.pinned (OpenSpec.upto orderThreeSpec)

/-- 'straddlelaw11.OrderTakes', WHERE WHAT IT READS IS OF BULK AT MOST 1048576: true; the input reads as it did. -/
def orderTakesUptoRow : OpenClaim := { program := "ytmdfonkkbncfbaadoor", sum := "0fb10f849fcbe59a5021381391abe4b707c7e1e332182a9a24b862eb8220d853", func := "straddle/straddlelaw11.OrderTakes", spec := "orderTakes", unfollowed := true, recurses := true, named := ["internal/strconv.uint64pow10", "math/bits.deBruijn32tab", "math/bits.deBruijn64tab"], apart := false, laid := [("math/bits.deBruijn32tab", laid_math_bits_deBruijn32tab), ("math/bits.deBruijn64tab", laid_math_bits_deBruijn64tab), ("internal/strconv.uint64pow10", laid_internal_strconv_uint64pow10)], narrowed := true }
def OrderTakesUptoSaid : Prop := orderTakesUptoRow.holds Tryd.pinned (OpenSpec.upto orderTakesSpec)

/-- 'straddlelaw25.SessPlays', WHERE WHAT IT READS IS OF BULK AT MOST 1048576: true; the input reads as it did. -/
def sessPlaysUptoRow : OpenClaim := { program := "ytmdfonkkbncfbaadoor", sum := "0fb10f849fcbe59a5021381391abe4b707c7e1e332182a9a24b862eb8220d853", func := "straddle/straddlelaw25.SessPlays", spec := "sessPlays", inPlace := ["internal/reflectlite.TypeOf", "internal/reflectlite.ValueOf", "(internal/reflectlite.Value).Type", "(internal/reflectlite.Value).IsNil", "(internal/reflectlite.Value).Elem", "(internal/reflectlite.Value).Set"], unfollowed := true, recurses := true, named := ["errors.errorType"], apart := false, laid := [("errors.errorType", laid_errors_errorType)], narrowed := true }
def SessPlaysUptoSaid : Prop := sessPlaysUptoRow.holds Tryd.pinned (OpenSpec.upto sessPlaysSpec)

/-- 'straddlelaw25.SessTurns', WHERE WHAT IT READS IS OF BULK AT MOST 1048576: true; the input reads as it did. -/
def sessTurnsUptoRow : OpenClaim := { program := "ytmdfonkkbncfbaadoor", sum := "0fb10f849fcbe59a5021381391abe4b707c7e1e332182a9a24b862eb8220d853", func := "straddle/straddlelaw25.SessTurns", spec := "sessTurns", inPlace := ["internal/reflectlite.TypeOf", "internal/reflectlite.ValueOf", "(internal/reflectlite.Value).Type", "(internal/reflectlite.Value).IsNil", "(internal/reflectlite.Value).Elem", "(internal/reflectlite.Value).Set"], unfollowed := true, recurses := true, named := ["errors.errorType"], apart := false, laid := [("errors.errorType", laid_errors_errorType)], narrowed := true }
def SessTurnsUptoSaid : Prop := sessTurnsUptoRow.holds Tryd.pinned (OpenSpec.upto sessTurnsSpec)

/-- 'straddlelaw25.SessLate', WHERE WHAT IT READS IS OF BULK AT MOST 1048576: true; the input reads as it did. -/
def sessLateUptoRow : OpenClaim := { program := "ytmdfonkkbncfbaadoor", sum := "0fb10f849fcbe59a5021381391abe4b707c7e1e332182a9a24b862eb8220d853", func := "straddle/straddlelaw25.SessLate", spec := "sessLate", inPlace := ["internal/reflectlite.TypeOf", "internal/reflectlite.ValueOf", "(internal/reflectlite.Value).Type", "(internal/reflectlite.Value).IsNil", "(internal/reflectlite.Value).Elem", "(internal/reflectlite.Value).Set"], unfollowed := true, recurses := true, named := ["errors.errorType"], apart := false, laid := [("errors.errorType", laid_errors_errorType)], narrowed := true }
def SessLateUptoSaid : Prop := sessLateUptoRow.holds Tryd.pinned (OpenSpec.upto sessLateSpec)

/-- 'straddlelaw25.SessApart', WHERE WHAT IT READS IS OF BULK AT MOST 1048576: true; the input reads as it did. -/
def sessApartUptoRow : OpenClaim := { program := "ytmdfonkkbncfbaadoor", sum := "0fb10f849fcbe59a5021381391abe4b707c7e1e332182a9a24b862eb8220d853", func := "straddle/straddlelaw25.SessApart", spec := "sessApart", inPlace := ["internal/reflectlite.TypeOf", "internal/reflectlite.ValueOf", "(internal/reflectlite.Value).Type", "(internal/reflectlite.Value).IsNil", "(internal/reflectlite.Value).Elem", "(internal/reflectlite.Value).Set"], unfollowed := true, recurses := true, named := ["errors.errorType"], apart := false, laid := [("errors.errorType", laid_errors_errorType)], narrowed := true }
def SessApartUptoSaid : Prop := sessApartUptoRow.holds Tryd.pinned (OpenSpec.upto sessApartSpec)

/-- 'straddlelaw2.SumsAny', WHERE WHAT IT READS IS OF BULK AT MOST 1048576: true; the input reads as it did. -/
def sumsAnyUptoRow : OpenClaim := { program := "ytmdfonkkbncfbaadoor", sum := "0fb10f849fcbe59a5021381391abe4b707c7e1e332182a9a24b862eb8220d853", func := "straddle/straddlelaw2.SumsAny", spec := "sumsAny", inPlace := ["internal/reflectlite.TypeOf", "internal/reflectlite.ValueOf", "(internal/reflectlite.Value).Type", "(internal/reflectlite.Value).IsNil", "(internal/reflectlite.Value).Elem", "(internal/reflectlite.Value).Set"], unfollowed := true, recurses := true, named := ["errors.errorType"], apart := false, laid := [("errors.errorType", laid_errors_errorType)], narrowed := true }
def SumsAnyUptoSaid : Prop := sumsAnyUptoRow.holds Tryd.pinned (OpenSpec.upto sumsAnySpec)

/-- 'straddlelaw24.RiskPlays', WHERE WHAT IT READS IS OF BULK AT MOST 1048576: true; the input reads as it did. -/
def riskPlaysUptoRow : OpenClaim := { program := "ytmdfonkkbncfbaadoor", sum := "0fb10f849fcbe59a5021381391abe4b707c7e1e332182a9a24b862eb8220d853", func := "straddle/straddlelaw24.RiskPlays", spec := "riskPlays", inPlace := ["internal/reflectlite.TypeOf", "internal/reflectlite.ValueOf", "(internal/reflectlite.Value).Type", "(internal/reflectlite.Value).IsNil", "(internal/reflectlite.Value).Elem", "(internal/reflectlite.Value).Set"], unfollowed := true, recurses := true, named := ["errors.errorType"], apart := false, laid := [("errors.errorType", laid_errors_errorType)], narrowed := true }
def RiskPlaysUptoSaid : Prop := riskPlaysUptoRow.holds Tryd.pinned (OpenSpec.upto riskPlaysSpec)

/-- 'straddlelaw24.RiskReturns', WHERE WHAT IT READS IS OF BULK AT MOST 1048576: true; the input reads as it did. -/
def riskReturnsUptoRow : OpenClaim := { program := "ytmdfonkkbncfbaadoor", sum := "0fb10f849fcbe59a5021381391abe4b707c7e1e332182a9a24b862eb8220d853", func := "straddle/straddlelaw24.RiskReturns", spec := "riskReturns", inPlace := ["internal/reflectlite.TypeOf", "internal/reflectlite.ValueOf", "(internal/reflectlite.Value).Type", "(internal/reflectlite.Value).IsNil", "(internal/reflectlite.Value).Elem", "(internal/reflectlite.Value).Set"], unfollowed := true, recurses := true, named := ["errors.errorType"], apart := false, laid := [("errors.errorType", laid_errors_errorType)], narrowed := true }
def RiskReturnsUptoSaid : Prop := riskReturnsUptoRow.holds Tryd.pinned (OpenSpec.upto riskReturnsSpec)

/-- 'straddlelaw24.RiskBounds', WHERE WHAT IT READS IS OF BULK AT MOST 1048576: true; the input reads as it did. -/
def riskBoundsUptoRow : OpenClaim := { program := "ytmdfonkkbncfbaadoor", sum := "0fb10f849fcbe59a5021381391abe4b707c7e1e332182a9a24b862eb8220d853", func := "straddle/straddlelaw24.RiskBounds", spec := "riskBounds", inPlace := ["internal/reflectlite.TypeOf", "internal/reflectlite.ValueOf", "(internal/reflectlite.Value).Type", "(internal/reflectlite.Value).IsNil", "(internal/reflectlite.Value).Elem", "(internal/reflectlite.Value).Set"], unfollowed := true, recurses := true, named := ["errors.errorType"], apart := false, laid := [("errors.errorType", laid_errors_errorType)], narrowed := true }
def RiskBoundsUptoSaid : Prop := riskBoundsUptoRow.holds Tryd.pinned (OpenSpec.upto riskBoundsSpec)

end Rows
end Go.Proofs.YtmdfonkkbncfbaaDoor
