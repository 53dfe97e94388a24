/-
  NARROWER THAN 'FOR EVERY INPUT', by the rows' own cells (each row's printed sentence says how): Round: laid · Power: laid · Piped: laid · Small: laid · Moved: laid · Any: laid · Flips: laid · Others: laid · Ends: laid · Turns: laid.
  DERIVED. THE GIVEN ROWS OF THIS SEAT. 10 by the template 'for every input the law returns true; each argument reads behind the call as it read before'; 0 by the template 'total and deterministic' (their statements: YtkmgcggoemlaaaaGreatDoorTotals.lean).
  GIVEN WITH THE SEED: the statements are not yours to turn. If you find one false, say at which input.
  Laid BY PROGRAM, IN A SANDBOX (cutbox-rows.mjs): the forced cells as the released guide's own fill.sh prints them over the translation 0e9af2d2169974dd… (all of the seat's roots in one cut). By AI agents, Wed Nov 11 2026. No macro, syntax, notation, axiom, sorry.
-/
import Derived.Test.YtkmgcggoemlaaaaGreatDoorChecked
import GoSem.Claim
import GoSem.ClaimJoined
import GoSem.ClaimMapViews
import Derived.JoinedTies
import Derived.KernelRfl
namespace Go.Proofs.YtkmgcggoemlaaaaGreatDoor
/- THE CELL 'sum', in the pinned program and in every row, IS THE sha256 OF THE DUMP (.gsa) THAT YtkmgcggoemlaaaaGreatDoorProg.lean LOADS. Nothing in Lean hashes anything: it is a label: what it is worth is what the hold of that sum in a sandbox is worth. -/
noncomputable def Tryz.pinned : Pinned := { name := "ytkmgcggoemlaaaagreatdoor", sum := "0e9af2d2169974dd50850ac3a11cd4d9870c52aa18b870824558e32d270bb59e", checked := Tryz.checked }
namespace Rows
def none {H : Type} : Left H := { results := [], args := [] }

/- WHAT THE LISTED PACKAGE-LEVEL VARIABLES READ AS WHEN THE CALL BEGINS. Each datum BY PROGRAM (the guide's laid-datum.mjs) off the statement by which the dump's own 'gosem.cut.vars' lays the variable. In a bare row this is a premise. The card (YtkmgcggoemlaaaaGreatDoorCards.lean) ties it to the program's text. -/
def laid_errors_errorType {H : Type} : DataW H := .iface "internal/reflectlite.rtype" (.agg [.ptr (.lit (.string [101, 114, 114, 111, 114]))])

/-- 'firmwarelaw.Round': WHATEVER THE INPUT: true; the input reads as it did. -/
def roundSpec : ChangeSpec := { name := "round", fn := fun _ => fun
  | [d1, d2, d3] => { results := [.lit (.bool true)], args := [d1, d2, d3] }
  | _ => none }
def roundRow : OpenClaim := { program := "ytkmgcggoemlaaaagreatdoor", sum := "0e9af2d2169974dd50850ac3a11cd4d9870c52aa18b870824558e32d270bb59e", func := "firmware/firmwarelaw.Round", spec := "round", inPlace := ["internal/bytealg.Compare", "internal/reflectlite.ValueOf", "(internal/reflectlite.Value).Type", "(internal/reflectlite.Value).IsNil", "internal/reflectlite.TypeOf", "(internal/reflectlite.Value).Elem", "(internal/reflectlite.Value).Set"], unfollowed := true, recurses := true, named := ["errors.errorType"], leaving := true, apart := false, laid := [("errors.errorType", laid_errors_errorType)] }
def RoundSaid : Prop := roundRow.holds Tryz.pinned (OpenSpec.ofChange roundSpec)

/-- ITS FALSE NEIGHBOUR: 'it returns false'. Refute it at one input. -/
def roundWrong : ChangeSpec := { name := "round", fn := fun _ => fun
  | [d1, d2, d3] => { results := [.lit (.bool false)], args := [d1, d2, d3] }
  | _ => none }
def RoundWrongFalsely : Prop := roundRow.holds Tryz.pinned (OpenSpec.ofChange roundWrong)

/-- 'firmwarelaw.Power': WHATEVER THE INPUT: true; the input reads as it did. -/
def powerSpec : ChangeSpec := { name := "power", fn := fun _ => fun
  | [d1, d2, d3, d4, d5] => { results := [.lit (.bool true)], args := [d1, d2, d3, d4, d5] }
  | _ => none }
def powerRow : OpenClaim := { program := "ytkmgcggoemlaaaagreatdoor", sum := "0e9af2d2169974dd50850ac3a11cd4d9870c52aa18b870824558e32d270bb59e", func := "firmware/firmwarelaw.Power", spec := "power", inPlace := ["internal/bytealg.Compare", "internal/reflectlite.ValueOf", "(internal/reflectlite.Value).Type", "(internal/reflectlite.Value).IsNil", "internal/reflectlite.TypeOf", "(internal/reflectlite.Value).Elem", "(internal/reflectlite.Value).Set"], unfollowed := true, recurses := true, named := ["errors.errorType"], leaving := true, apart := false, laid := [("errors.errorType", laid_errors_errorType)] }
def PowerSaid : Prop := powerRow.holds Tryz.pinned (OpenSpec.ofChange powerSpec)

/-- ITS FALSE NEIGHBOUR: 'it returns false'. Refute it at one input. -/
def powerWrong : ChangeSpec := { name := "power", fn := fun _ => fun
  | [d1, d2, d3, d4, d5] => { results := [.lit (.bool false)], args := [d1, d2, d3, d4, d5] }
  | _ => none }
def PowerWrongFalsely : Prop := powerRow.holds Tryz.pinned (OpenSpec.ofChange powerWrong)

/-- 'firmwarelaw.Piped': WHATEVER THE INPUT: true; the input reads as it did. -/
def pipedSpec : ChangeSpec := { name := "piped", fn := fun _ => fun
  | [d1, d2, d3] => { results := [.lit (.bool true)], args := [d1, d2, d3] }
  | _ => none }
def pipedRow : OpenClaim := { program := "ytkmgcggoemlaaaagreatdoor", sum := "0e9af2d2169974dd50850ac3a11cd4d9870c52aa18b870824558e32d270bb59e", func := "firmware/firmwarelaw.Piped", spec := "piped", inPlace := ["internal/bytealg.Compare", "internal/reflectlite.ValueOf", "(internal/reflectlite.Value).Type", "(internal/reflectlite.Value).IsNil", "internal/reflectlite.TypeOf", "(internal/reflectlite.Value).Elem", "(internal/reflectlite.Value).Set"], unfollowed := true, recurses := true, named := ["errors.errorType"], leaving := true, apart := false, laid := [("errors.errorType", laid_errors_errorType)] }
def PipedSaid : Prop := pipedRow.holds Tryz.pinned (OpenSpec.ofChange pipedSpec)

/-- ITS FALSE NEIGHBOUR: 'it returns false'. Refute it at one input. -/
def pipedWrong : ChangeSpec := { name := "piped", fn := fun _ => fun
  | [d1, d2, d3] => { results := [.lit (.bool false)], args := [d1, d2, d3] }
  | _ => none }
def PipedWrongFalsely : Prop := pipedRow.holds Tryz.pinned (OpenSpec.ofChange pipedWrong)

/-- 'firmwarelaw.Small': WHATEVER THE INPUT: true; the input reads as it did. -/
def smallSpec : ChangeSpec := { name := "small", fn := fun _ => fun
  | [d1, d2, d3] => { results := [.lit (.bool true)], args := [d1, d2, d3] }
  | _ => none }
def smallRow : OpenClaim := { program := "ytkmgcggoemlaaaagreatdoor", sum := "0e9af2d2169974dd50850ac3a11cd4d9870c52aa18b870824558e32d270bb59e", func := "firmware/firmwarelaw.Small", spec := "small", inPlace := ["internal/bytealg.Compare", "internal/reflectlite.ValueOf", "(internal/reflectlite.Value).Type", "(internal/reflectlite.Value).IsNil", "internal/reflectlite.TypeOf", "(internal/reflectlite.Value).Elem", "(internal/reflectlite.Value).Set"], unfollowed := true, recurses := true, named := ["errors.errorType"], leaving := true, apart := false, laid := [("errors.errorType", laid_errors_errorType)] }
def SmallSaid : Prop := smallRow.holds Tryz.pinned (OpenSpec.ofChange smallSpec)

/-- ITS FALSE NEIGHBOUR: 'it returns false'. Refute it at one input. -/
def smallWrong : ChangeSpec := { name := "small", fn := fun _ => fun
  | [d1, d2, d3] => { results := [.lit (.bool false)], args := [d1, d2, d3] }
  | _ => none }
def SmallWrongFalsely : Prop := smallRow.holds Tryz.pinned (OpenSpec.ofChange smallWrong)

/-- 'firmwarelaw.Moved': WHATEVER THE INPUT: true; the input reads as it did. -/
def movedSpec : ChangeSpec := { name := "moved", fn := fun _ => fun
  | [d1, d2, d3] => { results := [.lit (.bool true)], args := [d1, d2, d3] }
  | _ => none }
def movedRow : OpenClaim := { program := "ytkmgcggoemlaaaagreatdoor", sum := "0e9af2d2169974dd50850ac3a11cd4d9870c52aa18b870824558e32d270bb59e", func := "firmware/firmwarelaw.Moved", spec := "moved", inPlace := ["internal/bytealg.Compare", "internal/reflectlite.ValueOf", "(internal/reflectlite.Value).Type", "(internal/reflectlite.Value).IsNil", "internal/reflectlite.TypeOf", "(internal/reflectlite.Value).Elem", "(internal/reflectlite.Value).Set"], unfollowed := true, recurses := true, named := ["errors.errorType"], leaving := true, apart := false, laid := [("errors.errorType", laid_errors_errorType)] }
def MovedSaid : Prop := movedRow.holds Tryz.pinned (OpenSpec.ofChange movedSpec)

/-- ITS FALSE NEIGHBOUR: 'it returns false'. Refute it at one input. -/
def movedWrong : ChangeSpec := { name := "moved", fn := fun _ => fun
  | [d1, d2, d3] => { results := [.lit (.bool false)], args := [d1, d2, d3] }
  | _ => none }
def MovedWrongFalsely : Prop := movedRow.holds Tryz.pinned (OpenSpec.ofChange movedWrong)

/-- 'firmwarelaw.Any': WHATEVER THE INPUT: true; the input reads as it did. -/
def anySpec : ChangeSpec := { name := "any", fn := fun _ => fun
  | [d1, d2, d3, d4, d5] => { results := [.lit (.bool true)], args := [d1, d2, d3, d4, d5] }
  | _ => none }
def anyRow : OpenClaim := { program := "ytkmgcggoemlaaaagreatdoor", sum := "0e9af2d2169974dd50850ac3a11cd4d9870c52aa18b870824558e32d270bb59e", func := "firmware/firmwarelaw.Any", spec := "any", inPlace := ["internal/bytealg.Compare", "internal/reflectlite.ValueOf", "(internal/reflectlite.Value).Type", "(internal/reflectlite.Value).IsNil", "internal/reflectlite.TypeOf", "(internal/reflectlite.Value).Elem", "(internal/reflectlite.Value).Set"], unfollowed := true, recurses := true, named := ["errors.errorType"], leaving := true, apart := false, laid := [("errors.errorType", laid_errors_errorType)] }
def AnySaid : Prop := anyRow.holds Tryz.pinned (OpenSpec.ofChange anySpec)

/-- ITS FALSE NEIGHBOUR: 'it returns false'. Refute it at one input. -/
def anyWrong : ChangeSpec := { name := "any", fn := fun _ => fun
  | [d1, d2, d3, d4, d5] => { results := [.lit (.bool false)], args := [d1, d2, d3, d4, d5] }
  | _ => none }
def AnyWrongFalsely : Prop := anyRow.holds Tryz.pinned (OpenSpec.ofChange anyWrong)

/-- 'firmwarelaw.Flips': WHATEVER THE INPUT: true; the input reads as it did. -/
def flipsSpec : ChangeSpec := { name := "flips", fn := fun _ => fun
  | [d1, d2, d3, d4] => { results := [.lit (.bool true)], args := [d1, d2, d3, d4] }
  | _ => none }
def flipsRow : OpenClaim := { program := "ytkmgcggoemlaaaagreatdoor", sum := "0e9af2d2169974dd50850ac3a11cd4d9870c52aa18b870824558e32d270bb59e", func := "firmware/firmwarelaw.Flips", spec := "flips", inPlace := ["internal/bytealg.Compare", "internal/reflectlite.ValueOf", "(internal/reflectlite.Value).Type", "(internal/reflectlite.Value).IsNil", "internal/reflectlite.TypeOf", "(internal/reflectlite.Value).Elem", "(internal/reflectlite.Value).Set"], unfollowed := true, recurses := true, named := ["errors.errorType"], leaving := true, apart := false, laid := [("errors.errorType", laid_errors_errorType)] }
def FlipsSaid : Prop := flipsRow.holds Tryz.pinned (OpenSpec.ofChange flipsSpec)

/-- ITS FALSE NEIGHBOUR: 'it returns false'. Refute it at one input. -/
def flipsWrong : ChangeSpec := { name := "flips", fn := fun _ => fun
  | [d1, d2, d3, d4] => { results := [.lit (.bool false)], args := [d1, d2, d3, d4] }
  | _ => none }
def FlipsWrongFalsely : Prop := flipsRow.holds Tryz.pinned (OpenSpec.ofChange flipsWrong)

/-- 'firmwarelaw.Others': WHATEVER THE INPUT: true; the input reads as it did. -/
def othersSpec : ChangeSpec := { name := "others", fn := fun _ => fun
  | [d1, d2, d3, d4, d5] => { results := [.lit (.bool true)], args := [d1, d2, d3, d4, d5] }
  | _ => none }
def othersRow : OpenClaim := { program := "ytkmgcggoemlaaaagreatdoor", sum := "0e9af2d2169974dd50850ac3a11cd4d9870c52aa18b870824558e32d270bb59e", func := "firmware/firmwarelaw.Others", spec := "others", inPlace := ["internal/bytealg.Compare", "internal/reflectlite.ValueOf", "(internal/reflectlite.Value).Type", "(internal/reflectlite.Value).IsNil", "internal/reflectlite.TypeOf", "(internal/reflectlite.Value).Elem", "(internal/reflectlite.Value).Set"], unfollowed := true, recurses := true, named := ["errors.errorType"], leaving := true, apart := false, laid := [("errors.errorType", laid_errors_errorType)] }
def OthersSaid : Prop := othersRow.holds Tryz.pinned (OpenSpec.ofChange othersSpec)

/-- ITS FALSE NEIGHBOUR: 'it returns false'. Refute it at one input. -/
def othersWrong : ChangeSpec := { name := "others", fn := fun _ => fun
  | [d1, d2, d3, d4, d5] => { results := [.lit (.bool false)], args := [d1, d2, d3, d4, d5] }
  | _ => none }
def OthersWrongFalsely : Prop := othersRow.holds Tryz.pinned (OpenSpec.ofChange othersWrong)

/-- 'firmwarelaw.Ends': WHATEVER THE INPUT: true; the input reads as it did. -/
def endsSpec : ChangeSpec := { name := "ends", fn := fun _ => fun
  | [d1, d2, d3, d4, d5] => { results := [.lit (.bool true)], args := [d1, d2, d3, d4, d5] }
  | _ => none }
def endsRow : OpenClaim := { program := "ytkmgcggoemlaaaagreatdoor", sum := "0e9af2d2169974dd50850ac3a11cd4d9870c52aa18b870824558e32d270bb59e", func := "firmware/firmwarelaw.Ends", spec := "ends", inPlace := ["internal/bytealg.Compare", "internal/reflectlite.ValueOf", "(internal/reflectlite.Value).Type", "(internal/reflectlite.Value).IsNil", "internal/reflectlite.TypeOf", "(internal/reflectlite.Value).Elem", "(internal/reflectlite.Value).Set"], unfollowed := true, recurses := true, named := ["errors.errorType"], leaving := true, apart := false, laid := [("errors.errorType", laid_errors_errorType)] }
def EndsSaid : Prop := endsRow.holds Tryz.pinned (OpenSpec.ofChange endsSpec)

/-- ITS FALSE NEIGHBOUR: 'it returns false'. Refute it at one input. -/
def endsWrong : ChangeSpec := { name := "ends", fn := fun _ => fun
  | [d1, d2, d3, d4, d5] => { results := [.lit (.bool false)], args := [d1, d2, d3, d4, d5] }
  | _ => none }
def EndsWrongFalsely : Prop := endsRow.holds Tryz.pinned (OpenSpec.ofChange endsWrong)

/-- 'firmwarelaw.Turns': WHATEVER THE INPUT: true; the input reads as it did. -/
def turnsSpec : ChangeSpec := { name := "turns", fn := fun _ => fun
  | [d1, d2, d3] => { results := [.lit (.bool true)], args := [d1, d2, d3] }
  | _ => none }
def turnsRow : OpenClaim := { program := "ytkmgcggoemlaaaagreatdoor", sum := "0e9af2d2169974dd50850ac3a11cd4d9870c52aa18b870824558e32d270bb59e", func := "firmware/firmwarelaw.Turns", spec := "turns", inPlace := ["internal/bytealg.Compare", "internal/reflectlite.ValueOf", "(internal/reflectlite.Value).Type", "(internal/reflectlite.Value).IsNil", "internal/reflectlite.TypeOf", "(internal/reflectlite.Value).Elem", "(internal/reflectlite.Value).Set"], unfollowed := true, recurses := true, named := ["errors.errorType"], leaving := true, apart := false, laid := [("errors.errorType", laid_errors_errorType)] }
def TurnsSaid : Prop := turnsRow.holds Tryz.pinned (OpenSpec.ofChange turnsSpec)

/-- ITS FALSE NEIGHBOUR: 'it returns false'. Refute it at one input. -/
def turnsWrong : ChangeSpec := { name := "turns", fn := fun _ => fun
  | [d1, d2, d3] => { results := [.lit (.bool false)], args := [d1, d2, d3] }
  | _ => none }
def TurnsWrongFalsely : Prop := turnsRow.holds Tryz.pinned (OpenSpec.ofChange turnsWrong)

/- THE SECOND FORM. 'bulk': how many values and letters a reading holds, each counted each time it is reached (what is shared counts as often as it is met; a slice's spare places count too). A statement '..UptoSaid' is the law's where the arguments, and the package variables that the reading takes, are together of bulk at most 1048576: NARROWER than '..Said'. Prove '..Said' where nothing that the law and all that it calls make is longer than what came in: it says more and counts as full. Else prove '..UptoSaid'. A law counts once. -/
mutual
def uptoBulk {H : Type} : DataW H → Nat
  | .lit (.string bytes) => bytes.length + 1
  | .lit _ => 1
  | .nil => 1
  | .ptr d => uptoBulk d + 1
  | .slice elems spare => uptoBulkAll elems + uptoBulkAll spare + 1
  | .agg parts => uptoBulkAll parts + 1
  | .iface _ d => uptoBulk d + 1
  | .map entries => uptoBulkEntries entries + 1
  | .held _ => 1
def uptoBulkAll {H : Type} : List (DataW H) → Nat
  | [] => 0
  | d :: r => uptoBulk d + uptoBulkAll r
def uptoBulkEntries {H : Type} : List (Lit × DataW H) → Nat
  | [] => 0
  | x :: r => uptoBulkEntry x + uptoBulkEntries r
def uptoBulkEntry {H : Type} : Lit × DataW H → Nat
  | (.string bytes, d) => bytes.length + uptoBulk d + 1
  | (_, d) => uptoBulk d + 1
 end
def uptoSmall : (H : Type) → List (DataW H) → Bool := fun _ ds => decide (uptoBulkAll ds ≤ 1048576)
def OpenSpec.upto (s : _root_.Go.ChangeSpec) : _root_.Go.OpenSpec := { _root_.Go.OpenSpec.ofChange s with cond := some uptoSmall }

/-- 'firmwarelaw.Round', WHERE WHAT IT READS IS OF BULK AT MOST 1048576: true; the input reads as it did. -/
def roundUptoRow : OpenClaim := { program := "ytkmgcggoemlaaaagreatdoor", sum := "0e9af2d2169974dd50850ac3a11cd4d9870c52aa18b870824558e32d270bb59e", func := "firmware/firmwarelaw.Round", spec := "round", inPlace := ["internal/bytealg.Compare", "internal/reflectlite.ValueOf", "(internal/reflectlite.Value).Type", "(internal/reflectlite.Value).IsNil", "internal/reflectlite.TypeOf", "(internal/reflectlite.Value).Elem", "(internal/reflectlite.Value).Set"], unfollowed := true, recurses := true, named := ["errors.errorType"], leaving := true, apart := false, laid := [("errors.errorType", laid_errors_errorType)], narrowed := true }
def RoundUptoSaid : Prop := roundUptoRow.holds Tryz.pinned (OpenSpec.upto roundSpec)

/-- 'firmwarelaw.Power', WHERE WHAT IT READS IS OF BULK AT MOST 1048576: true; the input reads as it did. -/
def powerUptoRow : OpenClaim := { program := "ytkmgcggoemlaaaagreatdoor", sum := "0e9af2d2169974dd50850ac3a11cd4d9870c52aa18b870824558e32d270bb59e", func := "firmware/firmwarelaw.Power", spec := "power", inPlace := ["internal/bytealg.Compare", "internal/reflectlite.ValueOf", "(internal/reflectlite.Value).Type", "(internal/reflectlite.Value).IsNil", "internal/reflectlite.TypeOf", "(internal/reflectlite.Value).Elem", "(internal/reflectlite.Value).Set"], unfollowed := true, recurses := true, named := ["errors.errorType"], leaving := true, apart := false, laid := [("errors.errorType", laid_errors_errorType)], narrowed := true }
def PowerUptoSaid : Prop := powerUptoRow.holds Tryz.pinned (OpenSpec.upto powerSpec)

/-- 'firmwarelaw.Piped', WHERE WHAT IT READS IS OF BULK AT MOST 1048576: true; the input reads as it did. -/
def pipedUptoRow : OpenClaim := { program := "ytkmgcggoemlaaaagreatdoor", sum := "0e9af2d2169974dd50850ac3a11cd4d9870c52aa18b870824558e32d270bb59e", func := "firmware/firmwarelaw.Piped", spec := "piped", inPlace := ["internal/bytealg.Compare", "internal/reflectlite.ValueOf", "(internal/reflectlite.Value).Type", "(internal/reflectlite.Value).IsNil", "internal/reflectlite.TypeOf", "(internal/reflectlite.Value).Elem", "(internal/reflectlite.Value).Set"], unfollowed := true, recurses := true, named := ["errors.errorType"], leaving := true, apart := false, laid := [("errors.errorType", laid_errors_errorType)], narrowed := true }
def PipedUptoSaid : Prop := pipedUptoRow.holds Tryz.pinned (OpenSpec.upto pipedSpec)

/-- 'firmwarelaw.Small', WHERE WHAT IT READS IS OF BULK AT MOST 1048576: true; the input reads as it did. -/
def smallUptoRow : OpenClaim := { program := "ytkmgcggoemlaaaagreatdoor", sum := "0e9af2d2169974dd50850ac3a11cd4d9870c52aa18b870824558e32d270bb59e", func := "firmware/firmwarelaw.Small", spec := "small", inPlace := ["internal/bytealg.Compare", "internal/reflectlite.ValueOf", "(internal/reflectlite.Value).Type", "(internal/reflectlite.Value).IsNil", "internal/reflectlite.TypeOf", "(internal/reflectlite.Value).Elem", "(internal/reflectlite.Value).Set"], unfollowed := true, recurses := true, named := ["errors.errorType"], leaving := true, apart := false, laid := [("errors.errorType", laid_errors_errorType)], narrowed := true }
def SmallUptoSaid : Prop := smallUptoRow.holds Tryz.pinned (OpenSpec.upto smallSpec)

/-- 'firmwarelaw.Moved', WHERE WHAT IT READS IS OF BULK AT MOST 1048576: true; the input reads as it did. -/
def movedUptoRow : OpenClaim := { program := "ytkmgcggoemlaaaagreatdoor", sum := "0e9af2d2169974dd50850ac3a11cd4d9870c52aa18b870824558e32d270bb59e", func := "firmware/firmwarelaw.Moved", spec := "moved", inPlace := ["internal/bytealg.Compare", "internal/reflectlite.ValueOf", "(internal/reflectlite.Value).Type", "(internal/reflectlite.Value).IsNil", "internal/reflectlite.TypeOf", "(internal/reflectlite.Value).Elem", "(internal/reflectlite.Value).Set"], unfollowed := true, recurses := true, named := ["errors.errorType"], leaving := true, apart := false, laid := [("errors.errorType", laid_errors_errorType)], narrowed := true }
def MovedUptoSaid : Prop := movedUptoRow.holds Tryz.pinned (OpenSpec.upto movedSpec)

/-- 'firmwarelaw.Any', WHERE WHAT IT READS IS OF BULK AT MOST 1048576: true; the input reads as it did. -/
def anyUptoRow : OpenClaim := { program := "ytkmgcggoemlaaaagreatdoor", sum := "0e9af2d2169974dd50850ac3a11cd4d9870c52aa18b870824558e32d270bb59e", func := "firmware/firmwarelaw.Any", spec := "any", inPlace := ["internal/bytealg.Compare", "internal/reflectlite.ValueOf", "(internal/reflectlite.Value).Type", "(internal/reflectlite.Value).IsNil", "internal/reflectlite.TypeOf", "(internal/reflectlite.Value).Elem", "(internal/reflectlite.Value).Set"], unfollowed := true, recurses := true, named := ["errors.errorType"], leaving := true, apart := false, laid := [("errors.errorType", laid_errors_errorType)], narrowed := true }
def AnyUptoSaid : Prop := anyUptoRow.holds Tryz.pinned (OpenSpec.upto anySpec)

/-- 'firmwarelaw.Flips', WHERE WHAT IT READS IS OF BULK AT MOST 1048576: true; the input reads as it did. -/
def flipsUptoRow : OpenClaim := { program := "ytkmgcggoemlaaaagreatdoor", sum := "0e9af2d2169974dd50850ac3a11cd4d9870c52aa18b870824558e32d270bb59e", func := "firmware/firmwarelaw.Flips", spec := "flips", inPlace := ["internal/bytealg.Compare", "internal/reflectlite.ValueOf", "(internal/reflectlite.Value).Type", "(internal/reflectlite.Value).IsNil", "internal/reflectlite.TypeOf", "(internal/reflectlite.Value).Elem", "(internal/reflectlite.Value).Set"], unfollowed := true, recurses := true, named := ["errors.errorType"], leaving := true, apart := false, laid := [("errors.errorType", laid_errors_errorType)], narrowed := true }
def FlipsUptoSaid : Prop := flipsUptoRow.holds Tryz.pinned (OpenSpec.upto flipsSpec)

/-- 'firmwarelaw.Others', WHERE WHAT IT READS IS OF BULK AT MOST 1048576: true; the input reads as it did. -/
def othersUptoRow : OpenClaim := { program := "ytkmgcggoemlaaaagreatdoor", sum := "0e9af2d2169974dd50850ac3a11cd4d9870c52aa18b870824558e32d270bb59e", func := "firmware/firmwarelaw.Others", spec := "others", inPlace := ["internal/bytealg.Compare", "internal/reflectlite.ValueOf", "(internal/reflectlite.Value).Type", "(internal/reflectlite.Value).IsNil", "internal/reflectlite.TypeOf", "(internal/reflectlite.Value).Elem", "(internal/reflectlite.Value).Set"], unfollowed := true, recurses := true, named := ["errors.errorType"], leaving := true, apart := false, laid := [("errors.errorType", laid_errors_errorType)], narrowed := true }
def OthersUptoSaid : Prop := othersUptoRow.holds Tryz.pinned (OpenSpec.upto othersSpec)

/-- 'firmwarelaw.Ends', WHERE WHAT IT READS IS OF BULK AT MOST 1048576: true; the input reads as it did. -/
def endsUptoRow : OpenClaim := { program := "ytkmgcggoemlaaaagreatdoor", sum := "0e9af2d2169974dd50850ac3a11cd4d9870c52aa18b870824558e32d270bb59e", func := "firmware/firmwarelaw.Ends", spec := "ends", inPlace := ["internal/bytealg.Compare", "internal/reflectlite.ValueOf", "(internal/reflectlite.Value).Type", "(internal/reflectlite.Value).IsNil", "internal/reflectlite.TypeOf", "(internal/reflectlite.Value).Elem", "(internal/reflectlite.Value).Set"], unfollowed := true, recurses := true, named := ["errors.errorType"], leaving := true, apart := false, laid := [("errors.errorType", laid_errors_errorType)], narrowed := true }
def EndsUptoSaid : Prop := endsUptoRow.holds Tryz.pinned (OpenSpec.upto endsSpec)

/-- 'firmwarelaw.Turns', WHERE WHAT IT READS IS OF BULK AT MOST 1048576: true; the input reads as it did. -/
def turnsUptoRow : OpenClaim := { program := "ytkmgcggoemlaaaagreatdoor", sum := "0e9af2d2169974dd50850ac3a11cd4d9870c52aa18b870824558e32d270bb59e", func := "firmware/firmwarelaw.Turns", spec := "turns", inPlace := ["internal/bytealg.Compare", "internal/reflectlite.ValueOf", "(internal/reflectlite.Value).Type", "(internal/reflectlite.Value).IsNil", "internal/reflectlite.TypeOf", "(internal/reflectlite.Value).Elem", "(internal/reflectlite.Value).Set"], unfollowed := true, recurses := true, named := ["errors.errorType"], leaving := true, apart := false, laid := [("errors.errorType", laid_errors_errorType)], narrowed := true }
def TurnsUptoSaid : Prop := turnsUptoRow.holds Tryz.pinned (OpenSpec.upto turnsSpec)

end Rows
end Go.Proofs.YtkmgcggoemlaaaaGreatDoor
