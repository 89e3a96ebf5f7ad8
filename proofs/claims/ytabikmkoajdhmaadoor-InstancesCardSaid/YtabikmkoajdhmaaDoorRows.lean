/-
  NARROWER THAN 'FOR EVERY INPUT', by the rows' own cells (each row's printed sentence says how): Names: laid · Shows: laid · Canons: laid · Instances: laid.
  DERIVED. THE GIVEN ROWS OF THIS SEAT. 4 by the template 'for every input the law returns true; each argument reads behind the call as it read before'; 0 by the template 'total and deterministic' (their statements: YtabikmkoajdhmaaDoorTotals.lean).
  GIVEN WITH THE SEED: the statements are not yours to turn. If you find one false, say at which input.
  Laid BY PROGRAM, IN A SANDBOX (cutbox-rows.mjs): the forced cells as the released guide's own fill.sh prints them over the translation aee61d7c24f7a445… (all of the seat's roots in one cut). By AI agents, Wed Nov 11 2026. No macro, syntax, notation, axiom, sorry.
-/
import Derived.Test.YtabikmkoajdhmaaDoorChecked
import GoSem.Claim
import GoSem.ClaimJoined
import GoSem.ClaimMapViews
import Derived.JoinedTies
import Derived.KernelRfl
namespace Go.Proofs.YtabikmkoajdhmaaDoor
/- THE CELL 'sum', in the pinned program and in every row, IS THE sha256 OF THE DUMP (.gsa) THAT YtabikmkoajdhmaaDoorProg.lean LOADS. Nothing in Lean hashes anything: it is a label: what it is worth is what the hold of that sum in a sandbox is worth. -/
noncomputable def Tryd.pinned : Pinned := { name := "ytabikmkoajdhmaadoor", sum := "aee61d7c24f7a445ffd16f7b3e8f9d16d397cc2f6bb9a10b7a61b7ba10a5be44", checked := Tryd.checked }
namespace Rows
def none {H : Type} : Left H := { results := [], args := [] }

/- WHAT THE LISTED PACKAGE-LEVEL VARIABLES READ AS WHEN THE CALL BEGINS. Each datum BY PROGRAM (the guide's laid-datum.mjs) off the statement by which the dump's own 'gosem.cut.vars' lays the variable. In a bare row this is a premise. The card (YtabikmkoajdhmaaDoorCards.lean) ties it to the program's text. -/
def laid_errors_errorType {H : Type} : DataW H := .iface "internal/reflectlite.rtype" (.agg [.ptr (.lit (.string [101, 114, 114, 111, 114]))])
def laid_typer_api_ErrLong {H : Type} : DataW H := .iface "*errors.errorString" (.ptr (.agg [.lit (.string [116, 111, 111, 32, 108, 111, 110, 103])]))
def laid_typer_api_ErrDeep {H : Type} : DataW H := .iface "*errors.errorString" (.ptr (.agg [.lit (.string [116, 111, 111, 32, 109, 97, 110, 121, 32, 112, 97, 114, 116, 115, 32, 119, 105, 116, 104, 105, 110, 32, 101, 97, 99, 104, 32, 111, 116, 104, 101, 114])]))
def laid_typer_api_ErrArg {H : Type} : DataW H := .iface "*errors.errorString" (.ptr (.agg [.lit (.string [97, 32, 110, 117, 109, 98, 101, 114, 32, 111, 102, 32, 114, 111, 117, 110, 100, 115, 32, 116, 104, 97, 116, 32, 105, 115, 32, 110, 111, 110, 101])]))
def laid_typer_api_ErrType {H : Type} : DataW H := .iface "*errors.errorString" (.ptr (.agg [.lit (.string [105, 116, 32, 104, 97, 115, 32, 110, 111, 32, 116, 121, 112, 101])]))
def laid_typer_api_ErrBig {H : Type} : DataW H := .iface "*errors.errorString" (.ptr (.agg [.lit (.string [97, 32, 116, 121, 112, 101, 32, 116, 104, 97, 116, 32, 105, 115, 32, 116, 111, 111, 32, 98, 105, 103])]))
def laid_typer_api_ErrFuel {H : Type} : DataW H := .iface "*errors.errorString" (.ptr (.agg [.lit (.string [109, 111, 114, 101, 32, 114, 111, 117, 110, 100, 115, 32, 97, 114, 101, 32, 110, 101, 101, 100, 101, 100])]))
def laid_typer_api_ErrStopped {H : Type} : DataW H := .iface "*errors.errorString" (.ptr (.agg [.lit (.string [115, 116, 111, 112, 112, 101, 100])]))
def laid_typer_api_ErrNot {H : Type} : DataW H := .iface "*errors.errorString" (.ptr (.agg [.lit (.string [105, 116, 32, 105, 115, 32, 110, 111, 32, 105, 110, 115, 116, 97, 110, 99, 101])]))
def laid_typer_typerref_words {H : Type} : DataW H := .slice [.lit (.string [102, 117, 110]), .lit (.string [108, 101, 116]), .lit (.string [114, 101, 99]), .lit (.string [97, 110, 100]), .lit (.string [105, 110]), .lit (.string [105, 102]), .lit (.string [116, 104, 101, 110]), .lit (.string [101, 108, 115, 101])] []
def laid_math_bits_deBruijn32tab {H : Type} : DataW H := .agg [.lit (.int .u8 0), .lit (.int .u8 1), .lit (.int .u8 28), .lit (.int .u8 2), .lit (.int .u8 29), .lit (.int .u8 14), .lit (.int .u8 24), .lit (.int .u8 3), .lit (.int .u8 30), .lit (.int .u8 22), .lit (.int .u8 20), .lit (.int .u8 15), .lit (.int .u8 25), .lit (.int .u8 17), .lit (.int .u8 4), .lit (.int .u8 8), .lit (.int .u8 31), .lit (.int .u8 27), .lit (.int .u8 13), .lit (.int .u8 23), .lit (.int .u8 21), .lit (.int .u8 19), .lit (.int .u8 16), .lit (.int .u8 7), .lit (.int .u8 26), .lit (.int .u8 12), .lit (.int .u8 18), .lit (.int .u8 6), .lit (.int .u8 11), .lit (.int .u8 5), .lit (.int .u8 10), .lit (.int .u8 9)]
def laid_math_bits_deBruijn64tab {H : Type} : DataW H := .agg [.lit (.int .u8 0), .lit (.int .u8 1), .lit (.int .u8 56), .lit (.int .u8 2), .lit (.int .u8 57), .lit (.int .u8 49), .lit (.int .u8 28), .lit (.int .u8 3), .lit (.int .u8 61), .lit (.int .u8 58), .lit (.int .u8 42), .lit (.int .u8 50), .lit (.int .u8 38), .lit (.int .u8 29), .lit (.int .u8 17), .lit (.int .u8 4), .lit (.int .u8 62), .lit (.int .u8 47), .lit (.int .u8 59), .lit (.int .u8 36), .lit (.int .u8 45), .lit (.int .u8 43), .lit (.int .u8 51), .lit (.int .u8 22), .lit (.int .u8 53), .lit (.int .u8 39), .lit (.int .u8 33), .lit (.int .u8 30), .lit (.int .u8 24), .lit (.int .u8 18), .lit (.int .u8 12), .lit (.int .u8 5), .lit (.int .u8 63), .lit (.int .u8 55), .lit (.int .u8 48), .lit (.int .u8 27), .lit (.int .u8 60), .lit (.int .u8 41), .lit (.int .u8 37), .lit (.int .u8 16), .lit (.int .u8 46), .lit (.int .u8 35), .lit (.int .u8 44), .lit (.int .u8 21), .lit (.int .u8 52), .lit (.int .u8 32), .lit (.int .u8 23), .lit (.int .u8 11), .lit (.int .u8 54), .lit (.int .u8 26), .lit (.int .u8 40), .lit (.int .u8 15), .lit (.int .u8 34), .lit (.int .u8 20), .lit (.int .u8 31), .lit (.int .u8 10), .lit (.int .u8 25), .lit (.int .u8 14), .lit (.int .u8 19), .lit (.int .u8 9), .lit (.int .u8 13), .lit (.int .u8 8), .lit (.int .u8 7), .lit (.int .u8 6)]
def laid_internal_strconv_uint64pow10 {H : Type} : DataW H := .agg [.lit (.int .u64 1), .lit (.int .u64 10), .lit (.int .u64 100), .lit (.int .u64 1000), .lit (.int .u64 10000), .lit (.int .u64 100000), .lit (.int .u64 1000000), .lit (.int .u64 10000000), .lit (.int .u64 100000000), .lit (.int .u64 1000000000), .lit (.int .u64 10000000000), .lit (.int .u64 100000000000), .lit (.int .u64 1000000000000), .lit (.int .u64 10000000000000), .lit (.int .u64 100000000000000), .lit (.int .u64 1000000000000000), .lit (.int .u64 10000000000000000), .lit (.int .u64 100000000000000000), .lit (.int .u64 1000000000000000000), .lit (.int .u64 10000000000000000000)]
def laid_typer_typerref_kinds {H : Type} : DataW H := .slice [.lit (.string [105, 110, 116]), .lit (.string [98, 111, 111, 108])] []

/-- 'typerlaw.Names': WHATEVER THE INPUT: true; the input reads as it did. -/
def namesSpec : ChangeSpec := { name := "names", fn := fun _ => fun
  | [] => { results := [.lit (.bool true)], args := [] }
  | _ => none }
def namesRow : OpenClaim := { program := "ytabikmkoajdhmaadoor", sum := "aee61d7c24f7a445ffd16f7b3e8f9d16d397cc2f6bb9a10b7a61b7ba10a5be44", func := "typer/typerlaw.Names", spec := "names", inPlace := ["internal/reflectlite.TypeOf", "internal/reflectlite.ValueOf", "(internal/reflectlite.Value).Type", "(internal/reflectlite.Value).IsNil", "(internal/reflectlite.Value).Elem", "(internal/reflectlite.Value).Set"], unfollowed := true, recurses := true, named := ["typer/api.ErrLong", "typer/api.ErrDeep", "typer/api.ErrArg", "typer/api.ErrType", "typer/api.ErrBig", "typer/api.ErrFuel", "typer/api.ErrStopped", "typer/api.ErrNot", "errors.errorType"], apart := false, laid := [("errors.errorType", laid_errors_errorType), ("typer/api.ErrLong", laid_typer_api_ErrLong), ("typer/api.ErrDeep", laid_typer_api_ErrDeep), ("typer/api.ErrArg", laid_typer_api_ErrArg), ("typer/api.ErrType", laid_typer_api_ErrType), ("typer/api.ErrBig", laid_typer_api_ErrBig), ("typer/api.ErrFuel", laid_typer_api_ErrFuel), ("typer/api.ErrStopped", laid_typer_api_ErrStopped), ("typer/api.ErrNot", laid_typer_api_ErrNot)] }
def NamesSaid : Prop := namesRow.holds Tryd.pinned (OpenSpec.ofChange namesSpec)

/-- ITS FALSE NEIGHBOUR: 'it returns false'. Refute it at one input. -/
def namesWrong : ChangeSpec := { name := "names", fn := fun _ => fun
  | [] => { results := [.lit (.bool false)], args := [] }
  | _ => none }
def NamesWrongFalsely : Prop := namesRow.holds Tryd.pinned (OpenSpec.ofChange namesWrong)

/-- 'typerlaw.Shows': WHATEVER THE INPUT: true; the input reads as it did. -/
def showsSpec : ChangeSpec := { name := "shows", fn := fun _ => fun
  | [d] => { results := [.lit (.bool true)], args := [d] }
  | _ => none }
def showsRow : OpenClaim := { program := "ytabikmkoajdhmaadoor", sum := "aee61d7c24f7a445ffd16f7b3e8f9d16d397cc2f6bb9a10b7a61b7ba10a5be44", func := "typer/typerlaw.Shows", spec := "shows", inPlace := ["internal/abi.NoEscape", "internal/bytealg.MakeNoZero", "internal/reflectlite.ValueOf", "(internal/reflectlite.Value).Type", "(internal/reflectlite.Value).IsNil", "internal/reflectlite.TypeOf", "(internal/reflectlite.Value).Elem", "(internal/reflectlite.Value).Set"], unfollowed := true, recurses := true, named := ["typer/api.ErrLong", "typer/api.ErrDeep", "typer/api.ErrArg", "typer/api.ErrType", "typer/api.ErrBig", "typer/api.ErrFuel", "typer/api.ErrStopped", "typer/api.ErrNot", "errors.errorType", "typer/typerref.words"], apart := false, laid := [("typer/typerref.words", laid_typer_typerref_words), ("errors.errorType", laid_errors_errorType), ("typer/api.ErrLong", laid_typer_api_ErrLong), ("typer/api.ErrDeep", laid_typer_api_ErrDeep), ("typer/api.ErrArg", laid_typer_api_ErrArg), ("typer/api.ErrType", laid_typer_api_ErrType), ("typer/api.ErrBig", laid_typer_api_ErrBig), ("typer/api.ErrFuel", laid_typer_api_ErrFuel), ("typer/api.ErrStopped", laid_typer_api_ErrStopped), ("typer/api.ErrNot", laid_typer_api_ErrNot)] }
def ShowsSaid : Prop := showsRow.holds Tryd.pinned (OpenSpec.ofChange showsSpec)

/-- ITS FALSE NEIGHBOUR: 'it returns false'. Refute it at one input. -/
def showsWrong : ChangeSpec := { name := "shows", fn := fun _ => fun
  | [d] => { results := [.lit (.bool false)], args := [d] }
  | _ => none }
def ShowsWrongFalsely : Prop := showsRow.holds Tryd.pinned (OpenSpec.ofChange showsWrong)

/-- 'typerlaw.Canons': WHATEVER THE INPUT: true; the input reads as it did. -/
def canonsSpec : ChangeSpec := { name := "canons", fn := fun _ => fun
  | [d] => { results := [.lit (.bool true)], args := [d] }
  | _ => none }
def canonsRow : OpenClaim := { program := "ytabikmkoajdhmaadoor", sum := "aee61d7c24f7a445ffd16f7b3e8f9d16d397cc2f6bb9a10b7a61b7ba10a5be44", func := "typer/typerlaw.Canons", spec := "canons", inPlace := ["internal/reflectlite.ValueOf", "(internal/reflectlite.Value).Type", "(internal/reflectlite.Value).IsNil", "internal/reflectlite.TypeOf", "(internal/reflectlite.Value).Elem", "(internal/reflectlite.Value).Set"], unfollowed := true, recurses := true, named := ["typer/api.ErrLong", "typer/api.ErrBig", "internal/strconv.uint64pow10", "math/bits.deBruijn32tab", "math/bits.deBruijn64tab", "typer/api.ErrDeep", "typer/api.ErrArg", "typer/api.ErrType", "typer/api.ErrFuel", "typer/api.ErrStopped", "typer/api.ErrNot", "errors.errorType", "typer/typerref.kinds"], apart := false, laid := [("math/bits.deBruijn32tab", laid_math_bits_deBruijn32tab), ("math/bits.deBruijn64tab", laid_math_bits_deBruijn64tab), ("internal/strconv.uint64pow10", laid_internal_strconv_uint64pow10), ("typer/typerref.kinds", laid_typer_typerref_kinds), ("errors.errorType", laid_errors_errorType), ("typer/api.ErrLong", laid_typer_api_ErrLong), ("typer/api.ErrDeep", laid_typer_api_ErrDeep), ("typer/api.ErrArg", laid_typer_api_ErrArg), ("typer/api.ErrType", laid_typer_api_ErrType), ("typer/api.ErrBig", laid_typer_api_ErrBig), ("typer/api.ErrFuel", laid_typer_api_ErrFuel), ("typer/api.ErrStopped", laid_typer_api_ErrStopped), ("typer/api.ErrNot", laid_typer_api_ErrNot)] }
def CanonsSaid : Prop := canonsRow.holds Tryd.pinned (OpenSpec.ofChange canonsSpec)

/-- ITS FALSE NEIGHBOUR: 'it returns false'. Refute it at one input. -/
def canonsWrong : ChangeSpec := { name := "canons", fn := fun _ => fun
  | [d] => { results := [.lit (.bool false)], args := [d] }
  | _ => none }
def CanonsWrongFalsely : Prop := canonsRow.holds Tryd.pinned (OpenSpec.ofChange canonsWrong)

/-- 'typerlaw.Instances': WHATEVER THE INPUT: true; the input reads as it did. -/
def instancesSpec : ChangeSpec := { name := "instances", fn := fun _ => fun
  | [d1, d2] => { results := [.lit (.bool true)], args := [d1, d2] }
  | _ => none }
def instancesRow : OpenClaim := { program := "ytabikmkoajdhmaadoor", sum := "aee61d7c24f7a445ffd16f7b3e8f9d16d397cc2f6bb9a10b7a61b7ba10a5be44", func := "typer/typerlaw.Instances", spec := "instances", inPlace := ["internal/reflectlite.ValueOf", "(internal/reflectlite.Value).Type", "(internal/reflectlite.Value).IsNil", "internal/reflectlite.TypeOf", "(internal/reflectlite.Value).Elem", "(internal/reflectlite.Value).Set"], unfollowed := true, recurses := true, named := ["typer/api.ErrNot", "typer/api.ErrLong", "typer/api.ErrBig", "typer/api.ErrDeep", "typer/api.ErrArg", "typer/api.ErrType", "typer/api.ErrFuel", "typer/api.ErrStopped", "errors.errorType", "typer/typerref.kinds"], apart := false, laid := [("typer/typerref.kinds", laid_typer_typerref_kinds), ("errors.errorType", laid_errors_errorType), ("typer/api.ErrLong", laid_typer_api_ErrLong), ("typer/api.ErrDeep", laid_typer_api_ErrDeep), ("typer/api.ErrArg", laid_typer_api_ErrArg), ("typer/api.ErrType", laid_typer_api_ErrType), ("typer/api.ErrBig", laid_typer_api_ErrBig), ("typer/api.ErrFuel", laid_typer_api_ErrFuel), ("typer/api.ErrStopped", laid_typer_api_ErrStopped), ("typer/api.ErrNot", laid_typer_api_ErrNot)] }
def InstancesSaid : Prop := instancesRow.holds Tryd.pinned (OpenSpec.ofChange instancesSpec)

/-- ITS FALSE NEIGHBOUR: 'it returns false'. Refute it at one input. -/
def instancesWrong : ChangeSpec := { name := "instances", fn := fun _ => fun
  | [d1, d2] => { results := [.lit (.bool false)], args := [d1, d2] }
  | _ => none }
def InstancesWrongFalsely : Prop := instancesRow.holds Tryd.pinned (OpenSpec.ofChange instancesWrong)

/- THE SECOND FORM. 'bulk': how many values and letters a reading holds, each counted each time it is reached (what is shared counts as often as it is met; a slice's spare places count too). A statement '..UptoSaid' is the law's where the arguments, and the package variables that the reading takes, are together of bulk at most 1048576: NARROWER than '..Said'. Prove '..Said' where nothing that the law and all that it calls make is longer than what came in: it says more and counts as full. Else prove '..UptoSaid'. A law counts once. -/
mutual
def uptoBulk {H : Type} : DataW H → Nat
  | .lit (.string bytes) => bytes.length + 1
  | .lit _ => 1
  | .nil => 1
  | .ptr d => uptoBulk d + 1
  | .slice elems spare => uptoBulkAll elems + uptoBulkAll spare + 1
  | .agg parts => uptoBulkAll parts + 1
  | .iface _ d => uptoBulk d + 1
  | .map entries => uptoBulkEntries entries + 1
  | .held _ => 1
def uptoBulkAll {H : Type} : List (DataW H) → Nat
  | [] => 0
  | d :: r => uptoBulk d + uptoBulkAll r
def uptoBulkEntries {H : Type} : List (Lit × DataW H) → Nat
  | [] => 0
  | x :: r => uptoBulkEntry x + uptoBulkEntries r
def uptoBulkEntry {H : Type} : Lit × DataW H → Nat
  | (.string bytes, d) => bytes.length + uptoBulk d + 1
  | (_, d) => uptoBulk d + 1
 end
def uptoSmall : (H : Type) → List (DataW H) → Bool := fun _ ds => decide (uptoBulkAll ds ≤ 1048576)
def OpenSpec.upto (s : _root_.Go.ChangeSpec) : _root_.Go.OpenSpec := { _root_.Go.OpenSpec.ofChange s with cond := some uptoSmall }

/-- 'typerlaw.Names', WHERE WHAT IT READS IS OF BULK AT MOST 1048576: true; the input reads as it did. -/
def namesUptoRow : OpenClaim := { program := "ytabikmkoajdhmaadoor", sum := "aee61d7c24f7a445ffd16f7b3e8f9d16d397cc2f6bb9a10b7a61b7ba10a5be44", func := "typer/typerlaw.Names", spec := "names", inPlace := ["internal/reflectlite.TypeOf", "internal/reflectlite.ValueOf", "(internal/reflectlite.Value).Type", "(internal/reflectlite.Value).IsNil", "(internal/reflectlite.Value).Elem", "(internal/reflectlite.Value).Set"], unfollowed := true, recurses := true, named := ["typer/api.ErrLong", "typer/api.ErrDeep", "typer/api.ErrArg", "typer/api.ErrType", "typer/api.ErrBig", "typer/api.ErrFuel", "typer/api.ErrStopped", "typer/api.ErrNot", "errors.errorType"], apart := false, laid := [("errors.errorType", laid_errors_errorType), ("typer/api.ErrLong", laid_typer_api_ErrLong), ("typer/api.ErrDeep", laid_typer_api_ErrDeep), ("typer/api.ErrArg", laid_typer_api_ErrArg), ("typer/api.ErrType", laid_typer_api_ErrType), ("typer/api.ErrBig", laid_typer_api_ErrBig), ("typer/api.ErrFuel", laid_typer_api_ErrFuel), ("typer/api.ErrStopped", laid_typer_api_ErrStopped), ("typer/api.ErrNot", laid_typer_api_ErrNot)], narrowed := true }
def NamesUptoSaid : Prop := namesUptoRow.holds Tryd.pinned (OpenSpec.upto namesSpec)

/-- 'typerlaw.Shows', WHERE WHAT IT READS IS OF BULK AT MOST 1048576: true; the input reads as it did. -/
def showsUptoRow : OpenClaim := { program := "ytabikmkoajdhmaadoor", sum := "aee61d7c24f7a445ffd16f7b3e8f9d16d397cc2f6bb9a10b7a61b7ba10a5be44", func := "typer/typerlaw.Shows", spec := "shows", inPlace := ["internal/abi.NoEscape", "internal/bytealg.MakeNoZero", "internal/reflectlite.ValueOf", "(internal/reflectlite.Value).Type", "(internal/reflectlite.Value).IsNil", "internal/reflectlite.TypeOf", "(internal/reflectlite.Value).Elem", "(internal/reflectlite.Value).Set"], unfollowed := true, recurses := true, named := ["typer/api.ErrLong", "typer/api.ErrDeep", "typer/api.ErrArg", "typer/api.ErrType", "typer/api.ErrBig", "typer/api.ErrFuel", "typer/api.ErrStopped", "typer/api.ErrNot", "errors.errorType", "typer/typerref.words"], apart := false, laid := [("typer/typerref.words", laid_typer_typerref_words), ("errors.errorType", laid_errors_errorType), ("typer/api.ErrLong", laid_typer_api_ErrLong), ("typer/api.ErrDeep", laid_typer_api_ErrDeep), ("typer/api.ErrArg", laid_typer_api_ErrArg), ("typer/api.ErrType", laid_typer_api_ErrType), ("typer/api.ErrBig", laid_typer_api_ErrBig), ("typer/api.ErrFuel", laid_typer_api_ErrFuel), ("typer/api.ErrStopped", laid_typer_api_ErrStopped), ("typer/api.ErrNot", laid_typer_api_ErrNot)], narrowed := true }
def ShowsUptoSaid : Prop := showsUptoRow.holds Tryd.pinned (OpenSpec.upto showsSpec)

/-- 'typerlaw.Canons', WHERE WHAT IT READS IS OF BULK AT MOST 1048576: true; the input reads as it did. -/
def canonsUptoRow : OpenClaim := { program := "ytabikmkoajdhmaadoor", sum := "aee61d7c24f7a445ffd16f7b3e8f9d16d397cc2f6bb9a10b7a61b7ba10a5be44", func := "typer/typerlaw.Canons", spec := "canons", inPlace := ["internal/reflectlite.ValueOf", "(internal/reflectlite.Value).Type", "(internal/reflectlite.Value).IsNil", "internal/reflectlite.TypeOf", "(internal/reflectlite.Value).Elem", "(internal/reflectlite.Value).Set"], unfollowed := true, recurses := true, named := ["typer/api.ErrLong", "typer/api.ErrBig", "internal/strconv.uint64pow10", "math/bits.deBruijn32tab", "math/bits.deBruijn64tab", "typer/api.ErrDeep", "typer/api.ErrArg", "typer/api.ErrType", "typer/api.ErrFuel", "typer/api.ErrStopped", "typer/api.ErrNot", "errors.errorType", "typer/typerref.kinds"], apart := false, laid := [("math/bits.deBruijn32tab", laid_math_bits_deBruijn32tab), ("math/bits.deBruijn64tab", laid_math_bits_deBruijn64tab), ("internal/strconv.uint64pow10", laid_internal_strconv_uint64pow10), ("typer/typerref.kinds", laid_typer_typerref_kinds), ("errors.errorType", laid_errors_errorType), ("typer/api.ErrLong", laid_typer_api_ErrLong), ("typer/api.ErrDeep", laid_typer_api_ErrDeep), ("typer/api.ErrArg", laid_typer_api_ErrArg), ("typer/api.ErrType", laid_typer_api_ErrType), ("typer/api.ErrBig", laid_typer_api_ErrBig), ("typer/api.ErrFuel", laid_typer_api_ErrFuel), ("typer/api.ErrStopped", laid_typer_api_ErrStopped), ("typer/api.ErrNot", laid_typer_api_ErrNot)], narrowed := true }
def CanonsUptoSaid : Prop := canonsUptoRow.holds Tryd.pinned (OpenSpec.upto canonsSpec)

/-- 'typerlaw.Instances', WHERE WHAT IT READS IS OF BULK AT MOST 1048576: true; the input reads as it did. -/
def instancesUptoRow : OpenClaim := { program := "ytabikmkoajdhmaadoor", sum := "aee61d7c24f7a445ffd16f7b3e8f9d16d397cc2f6bb9a10b7a61b7ba10a5be44", func := "typer/typerlaw.Instances", spec := "instances", inPlace := ["internal/reflectlite.ValueOf", "(internal/reflectlite.Value).Type", "(internal/reflectlite.Value).IsNil", "internal/reflectlite.TypeOf", "(internal/reflectlite.Value).Elem", "(internal/reflectlite.Value).Set"], unfollowed := true, recurses := true, named := ["typer/api.ErrNot", "typer/api.ErrLong", "typer/api.ErrBig", "typer/api.ErrDeep", "typer/api.ErrArg", "typer/api.ErrType", "typer/api.ErrFuel", "typer/api.ErrStopped", "errors.errorType", "typer/typerref.kinds"], apart := false, laid := [("typer/typerref.kinds", laid_typer_typerref_kinds), ("errors.errorType", laid_errors_errorType), ("typer/api.ErrLong", laid_typer_api_ErrLong), ("typer/api.ErrDeep", laid_typer_api_ErrDeep), ("typer/api.ErrArg", laid_typer_api_ErrArg), ("typer/api.ErrType", laid_typer_api_ErrType), ("typer/api.ErrBig", laid_typer_api_ErrBig), ("typer/api.ErrFuel", laid_typer_api_ErrFuel), ("typer/api.ErrStopped", laid_typer_api_ErrStopped), ("typer/api.ErrNot", laid_typer_api_ErrNot)], narrowed := true }
def InstancesUptoSaid : Prop := instancesUptoRow.holds Tryd.pinned (OpenSpec.upto instancesSpec)

end Rows
end Go.Proofs.YtabikmkoajdhmaaDoor
