/-
  NARROWER THAN 'FOR EVERY INPUT', by the rows' own cells (each row's printed sentence says how): AgainTells: laid · AgainEnds: laid · AgainNever: laid · JudgeMusts: laid · GameRows: laid · GameRuns: laid · GameTells: laid · GameEnds: laid · GameStops: laid.
  DERIVED. THE GIVEN ROWS OF THIS SEAT. 9 by the template 'for every input the law returns true; each argument reads behind the call as it read before'; 0 by the template 'total and deterministic' (their statements: YtdmgimfgoajmjaaGreatDoorTotals.lean).
  GIVEN WITH THE SEED: the statements are not yours to turn. If you find one false, say at which input.
  Laid BY PROGRAM, IN A SANDBOX (cutbox-rows.mjs): the forced cells as the released guide's own fill.sh prints them over the translation 3e3368d224d273d7… (all of the seat's roots in one cut). By AI agents, Wed Nov 11 2026. No macro, syntax, notation, axiom, sorry.
-/
import Derived.Test.YtdmgimfgoajmjaaGreatDoorChecked
import GoSem.Claim
import GoSem.ClaimJoined
import GoSem.ClaimMapViews
import Derived.JoinedTies
import Derived.KernelRfl
namespace Go.Proofs.YtdmgimfgoajmjaaGreatDoor
/- THE CELL 'sum', in the pinned program and in every row, IS THE sha256 OF THE DUMP (.gsa) THAT YtdmgimfgoajmjaaGreatDoorProg.lean LOADS. Nothing in Lean hashes anything: it is a label: what it is worth is what the hold of that sum in a sandbox is worth. -/
noncomputable def Tryz.pinned : Pinned := { name := "ytdmgimfgoajmjaagreatdoor", sum := "3e3368d224d273d7224098712f7ef19f6143abbf98051d36faee926b156112d4", checked := Tryz.checked }
namespace Rows
def none {H : Type} : Left H := { results := [], args := [] }

/- WHAT THE LISTED PACKAGE-LEVEL VARIABLES READ AS WHEN THE CALL BEGINS. Each datum BY PROGRAM (the guide's laid-datum.mjs) off the statement by which the dump's own 'gosem.cut.vars' lays the variable. In a bare row this is a premise. The card (YtdmgimfgoajmjaaGreatDoorCards.lean) ties it to the program's text. -/
def laid_math_bits_deBruijn32tab {H : Type} : DataW H := .agg [.lit (.int .u8 0), .lit (.int .u8 1), .lit (.int .u8 28), .lit (.int .u8 2), .lit (.int .u8 29), .lit (.int .u8 14), .lit (.int .u8 24), .lit (.int .u8 3), .lit (.int .u8 30), .lit (.int .u8 22), .lit (.int .u8 20), .lit (.int .u8 15), .lit (.int .u8 25), .lit (.int .u8 17), .lit (.int .u8 4), .lit (.int .u8 8), .lit (.int .u8 31), .lit (.int .u8 27), .lit (.int .u8 13), .lit (.int .u8 23), .lit (.int .u8 21), .lit (.int .u8 19), .lit (.int .u8 16), .lit (.int .u8 7), .lit (.int .u8 26), .lit (.int .u8 12), .lit (.int .u8 18), .lit (.int .u8 6), .lit (.int .u8 11), .lit (.int .u8 5), .lit (.int .u8 10), .lit (.int .u8 9)]
def laid_math_bits_deBruijn64tab {H : Type} : DataW H := .agg [.lit (.int .u8 0), .lit (.int .u8 1), .lit (.int .u8 56), .lit (.int .u8 2), .lit (.int .u8 57), .lit (.int .u8 49), .lit (.int .u8 28), .lit (.int .u8 3), .lit (.int .u8 61), .lit (.int .u8 58), .lit (.int .u8 42), .lit (.int .u8 50), .lit (.int .u8 38), .lit (.int .u8 29), .lit (.int .u8 17), .lit (.int .u8 4), .lit (.int .u8 62), .lit (.int .u8 47), .lit (.int .u8 59), .lit (.int .u8 36), .lit (.int .u8 45), .lit (.int .u8 43), .lit (.int .u8 51), .lit (.int .u8 22), .lit (.int .u8 53), .lit (.int .u8 39), .lit (.int .u8 33), .lit (.int .u8 30), .lit (.int .u8 24), .lit (.int .u8 18), .lit (.int .u8 12), .lit (.int .u8 5), .lit (.int .u8 63), .lit (.int .u8 55), .lit (.int .u8 48), .lit (.int .u8 27), .lit (.int .u8 60), .lit (.int .u8 41), .lit (.int .u8 37), .lit (.int .u8 16), .lit (.int .u8 46), .lit (.int .u8 35), .lit (.int .u8 44), .lit (.int .u8 21), .lit (.int .u8 52), .lit (.int .u8 32), .lit (.int .u8 23), .lit (.int .u8 11), .lit (.int .u8 54), .lit (.int .u8 26), .lit (.int .u8 40), .lit (.int .u8 15), .lit (.int .u8 34), .lit (.int .u8 20), .lit (.int .u8 31), .lit (.int .u8 10), .lit (.int .u8 25), .lit (.int .u8 14), .lit (.int .u8 19), .lit (.int .u8 9), .lit (.int .u8 13), .lit (.int .u8 8), .lit (.int .u8 7), .lit (.int .u8 6)]
def laid_internal_strconv_uint64pow10 {H : Type} : DataW H := .agg [.lit (.int .u64 1), .lit (.int .u64 10), .lit (.int .u64 100), .lit (.int .u64 1000), .lit (.int .u64 10000), .lit (.int .u64 100000), .lit (.int .u64 1000000), .lit (.int .u64 10000000), .lit (.int .u64 100000000), .lit (.int .u64 1000000000), .lit (.int .u64 10000000000), .lit (.int .u64 100000000000), .lit (.int .u64 1000000000000), .lit (.int .u64 10000000000000), .lit (.int .u64 100000000000000), .lit (.int .u64 1000000000000000), .lit (.int .u64 10000000000000000), .lit (.int .u64 100000000000000000), .lit (.int .u64 1000000000000000000), .lit (.int .u64 10000000000000000000)]

/-- 'zugzwanglaw12.AgainTells': WHATEVER THE INPUT: true; the input reads as it did. -/
def againTellsSpec : ChangeSpec := { name := "againTells", fn := fun _ => fun
  | [d1, d2] => { results := [.lit (.bool true)], args := [d1, d2] }
  | _ => none }
def againTellsRow : OpenClaim := { program := "ytdmgimfgoajmjaagreatdoor", sum := "3e3368d224d273d7224098712f7ef19f6143abbf98051d36faee926b156112d4", func := "zugzwang/zugzwanglaw12.AgainTells", spec := "againTells", inPlace := ["internal/abi.NoEscape"], unfollowed := true, recurses := true, named := ["internal/strconv.uint64pow10", "math/bits.deBruijn32tab", "math/bits.deBruijn64tab"], apart := false, laid := [("math/bits.deBruijn32tab", laid_math_bits_deBruijn32tab), ("math/bits.deBruijn64tab", laid_math_bits_deBruijn64tab), ("internal/strconv.uint64pow10", laid_internal_strconv_uint64pow10)] }
def AgainTellsSaid : Prop := againTellsRow.holds Tryz.pinned (OpenSpec.ofChange againTellsSpec)

/-- ITS FALSE NEIGHBOUR: 'it returns false'. Refute it at one input. -/
def againTellsWrong : ChangeSpec := { name := "againTells", fn := fun _ => fun
  | [d1, d2] => { results := [.lit (.bool false)], args := [d1, d2] }
  | _ => none }
def AgainTellsWrongFalsely : Prop := againTellsRow.holds Tryz.pinned (OpenSpec.ofChange againTellsWrong)

/-- 'zugzwanglaw12.AgainEnds': WHATEVER THE INPUT: true; the input reads as it did. -/
def againEndsSpec : ChangeSpec := { name := "againEnds", fn := fun _ => fun
  | [] => { results := [.lit (.bool true)], args := [] }
  | _ => none }
def againEndsRow : OpenClaim := { program := "ytdmgimfgoajmjaagreatdoor", sum := "3e3368d224d273d7224098712f7ef19f6143abbf98051d36faee926b156112d4", func := "zugzwang/zugzwanglaw12.AgainEnds", spec := "againEnds", inPlace := ["internal/abi.NoEscape", "maps.clone"], unfollowed := true, recurses := true, named := ["internal/strconv.uint64pow10", "math/bits.deBruijn32tab", "math/bits.deBruijn64tab"], apart := false, laid := [("math/bits.deBruijn32tab", laid_math_bits_deBruijn32tab), ("math/bits.deBruijn64tab", laid_math_bits_deBruijn64tab), ("internal/strconv.uint64pow10", laid_internal_strconv_uint64pow10)] }
def AgainEndsSaid : Prop := againEndsRow.holds Tryz.pinned (OpenSpec.ofChange againEndsSpec)

/-- ITS FALSE NEIGHBOUR: 'it returns false'. Refute it at one input. -/
def againEndsWrong : ChangeSpec := { name := "againEnds", fn := fun _ => fun
  | [] => { results := [.lit (.bool false)], args := [] }
  | _ => none }
def AgainEndsWrongFalsely : Prop := againEndsRow.holds Tryz.pinned (OpenSpec.ofChange againEndsWrong)

/-- 'zugzwanglaw12.AgainNever': WHATEVER THE INPUT: true; the input reads as it did. -/
def againNeverSpec : ChangeSpec := { name := "againNever", fn := fun _ => fun
  | [d1, d2] => { results := [.lit (.bool true)], args := [d1, d2] }
  | _ => none }
def againNeverRow : OpenClaim := { program := "ytdmgimfgoajmjaagreatdoor", sum := "3e3368d224d273d7224098712f7ef19f6143abbf98051d36faee926b156112d4", func := "zugzwang/zugzwanglaw12.AgainNever", spec := "againNever", inPlace := ["internal/abi.NoEscape", "maps.clone"], unfollowed := true, recurses := true, named := ["internal/strconv.uint64pow10", "math/bits.deBruijn32tab", "math/bits.deBruijn64tab"], apart := false, laid := [("math/bits.deBruijn32tab", laid_math_bits_deBruijn32tab), ("math/bits.deBruijn64tab", laid_math_bits_deBruijn64tab), ("internal/strconv.uint64pow10", laid_internal_strconv_uint64pow10)] }
def AgainNeverSaid : Prop := againNeverRow.holds Tryz.pinned (OpenSpec.ofChange againNeverSpec)

/-- ITS FALSE NEIGHBOUR: 'it returns false'. Refute it at one input. -/
def againNeverWrong : ChangeSpec := { name := "againNever", fn := fun _ => fun
  | [d1, d2] => { results := [.lit (.bool false)], args := [d1, d2] }
  | _ => none }
def AgainNeverWrongFalsely : Prop := againNeverRow.holds Tryz.pinned (OpenSpec.ofChange againNeverWrong)

/-- 'zugzwanglaw31.JudgeMusts': WHATEVER THE INPUT: true; the input reads as it did. -/
def judgeMustsSpec : ChangeSpec := { name := "judgeMusts", fn := fun _ => fun
  | [d1, d2, d3] => { results := [.lit (.bool true)], args := [d1, d2, d3] }
  | _ => none }
def judgeMustsRow : OpenClaim := { program := "ytdmgimfgoajmjaagreatdoor", sum := "3e3368d224d273d7224098712f7ef19f6143abbf98051d36faee926b156112d4", func := "zugzwang/zugzwanglaw31.JudgeMusts", spec := "judgeMusts", inPlace := ["internal/abi.NoEscape"], unfollowed := true, recurses := true, named := ["internal/strconv.uint64pow10", "math/bits.deBruijn32tab", "math/bits.deBruijn64tab"], apart := false, laid := [("math/bits.deBruijn32tab", laid_math_bits_deBruijn32tab), ("math/bits.deBruijn64tab", laid_math_bits_deBruijn64tab), ("internal/strconv.uint64pow10", laid_internal_strconv_uint64pow10)] }
def JudgeMustsSaid : Prop := judgeMustsRow.holds Tryz.pinned (OpenSpec.ofChange judgeMustsSpec)

/-- ITS FALSE NEIGHBOUR: 'it returns false'. Refute it at one input. -/
def judgeMustsWrong : ChangeSpec := { name := "judgeMusts", fn := fun _ => fun
  | [d1, d2, d3] => { results := [.lit (.bool false)], args := [d1, d2, d3] }
  | _ => none }
def JudgeMustsWrongFalsely : Prop := judgeMustsRow.holds Tryz.pinned (OpenSpec.ofChange judgeMustsWrong)

/-- 'zugzwanglaw14.GameRows': WHATEVER THE INPUT: true; the input reads as it did. -/
def gameRowsSpec : ChangeSpec := { name := "gameRows", fn := fun _ => fun
  | [d1, d2] => { results := [.lit (.bool true)], args := [d1, d2] }
  | _ => none }
def gameRowsRow : OpenClaim := { program := "ytdmgimfgoajmjaagreatdoor", sum := "3e3368d224d273d7224098712f7ef19f6143abbf98051d36faee926b156112d4", func := "zugzwang/zugzwanglaw14.GameRows", spec := "gameRows", inPlace := ["internal/abi.NoEscape"], unfollowed := true, recurses := true, named := ["internal/strconv.uint64pow10", "math/bits.deBruijn32tab", "math/bits.deBruijn64tab"], apart := false, laid := [("math/bits.deBruijn32tab", laid_math_bits_deBruijn32tab), ("math/bits.deBruijn64tab", laid_math_bits_deBruijn64tab), ("internal/strconv.uint64pow10", laid_internal_strconv_uint64pow10)] }
def GameRowsSaid : Prop := gameRowsRow.holds Tryz.pinned (OpenSpec.ofChange gameRowsSpec)

/-- ITS FALSE NEIGHBOUR: 'it returns false'. Refute it at one input. -/
def gameRowsWrong : ChangeSpec := { name := "gameRows", fn := fun _ => fun
  | [d1, d2] => { results := [.lit (.bool false)], args := [d1, d2] }
  | _ => none }
def GameRowsWrongFalsely : Prop := gameRowsRow.holds Tryz.pinned (OpenSpec.ofChange gameRowsWrong)

/-- 'zugzwanglaw14.GameRuns': WHATEVER THE INPUT: true; the input reads as it did. -/
def gameRunsSpec : ChangeSpec := { name := "gameRuns", fn := fun _ => fun
  | [d1, d2] => { results := [.lit (.bool true)], args := [d1, d2] }
  | _ => none }
def gameRunsRow : OpenClaim := { program := "ytdmgimfgoajmjaagreatdoor", sum := "3e3368d224d273d7224098712f7ef19f6143abbf98051d36faee926b156112d4", func := "zugzwang/zugzwanglaw14.GameRuns", spec := "gameRuns", inPlace := ["internal/abi.NoEscape"], unfollowed := true, recurses := true, named := ["internal/strconv.uint64pow10", "math/bits.deBruijn32tab", "math/bits.deBruijn64tab"], apart := false, laid := [("math/bits.deBruijn32tab", laid_math_bits_deBruijn32tab), ("math/bits.deBruijn64tab", laid_math_bits_deBruijn64tab), ("internal/strconv.uint64pow10", laid_internal_strconv_uint64pow10)] }
def GameRunsSaid : Prop := gameRunsRow.holds Tryz.pinned (OpenSpec.ofChange gameRunsSpec)

/-- ITS FALSE NEIGHBOUR: 'it returns false'. Refute it at one input. -/
def gameRunsWrong : ChangeSpec := { name := "gameRuns", fn := fun _ => fun
  | [d1, d2] => { results := [.lit (.bool false)], args := [d1, d2] }
  | _ => none }
def GameRunsWrongFalsely : Prop := gameRunsRow.holds Tryz.pinned (OpenSpec.ofChange gameRunsWrong)

/-- 'zugzwanglaw14.GameTells': WHATEVER THE INPUT: true; the input reads as it did. -/
def gameTellsSpec : ChangeSpec := { name := "gameTells", fn := fun _ => fun
  | [d1, d2] => { results := [.lit (.bool true)], args := [d1, d2] }
  | _ => none }
def gameTellsRow : OpenClaim := { program := "ytdmgimfgoajmjaagreatdoor", sum := "3e3368d224d273d7224098712f7ef19f6143abbf98051d36faee926b156112d4", func := "zugzwang/zugzwanglaw14.GameTells", spec := "gameTells", inPlace := ["internal/abi.NoEscape", "maps.clone"], unfollowed := true, recurses := true, named := ["internal/strconv.uint64pow10", "math/bits.deBruijn32tab", "math/bits.deBruijn64tab"], apart := false, laid := [("math/bits.deBruijn32tab", laid_math_bits_deBruijn32tab), ("math/bits.deBruijn64tab", laid_math_bits_deBruijn64tab), ("internal/strconv.uint64pow10", laid_internal_strconv_uint64pow10)] }
def GameTellsSaid : Prop := gameTellsRow.holds Tryz.pinned (OpenSpec.ofChange gameTellsSpec)

/-- ITS FALSE NEIGHBOUR: 'it returns false'. Refute it at one input. -/
def gameTellsWrong : ChangeSpec := { name := "gameTells", fn := fun _ => fun
  | [d1, d2] => { results := [.lit (.bool false)], args := [d1, d2] }
  | _ => none }
def GameTellsWrongFalsely : Prop := gameTellsRow.holds Tryz.pinned (OpenSpec.ofChange gameTellsWrong)

/-- 'zugzwanglaw14.GameEnds': WHATEVER THE INPUT: true; the input reads as it did. -/
def gameEndsSpec : ChangeSpec := { name := "gameEnds", fn := fun _ => fun
  | [] => { results := [.lit (.bool true)], args := [] }
  | _ => none }
def gameEndsRow : OpenClaim := { program := "ytdmgimfgoajmjaagreatdoor", sum := "3e3368d224d273d7224098712f7ef19f6143abbf98051d36faee926b156112d4", func := "zugzwang/zugzwanglaw14.GameEnds", spec := "gameEnds", inPlace := ["internal/abi.NoEscape", "maps.clone"], unfollowed := true, recurses := true, named := ["internal/strconv.uint64pow10", "math/bits.deBruijn32tab", "math/bits.deBruijn64tab"], apart := false, laid := [("math/bits.deBruijn32tab", laid_math_bits_deBruijn32tab), ("math/bits.deBruijn64tab", laid_math_bits_deBruijn64tab), ("internal/strconv.uint64pow10", laid_internal_strconv_uint64pow10)] }
def GameEndsSaid : Prop := gameEndsRow.holds Tryz.pinned (OpenSpec.ofChange gameEndsSpec)

/-- ITS FALSE NEIGHBOUR: 'it returns false'. Refute it at one input. -/
def gameEndsWrong : ChangeSpec := { name := "gameEnds", fn := fun _ => fun
  | [] => { results := [.lit (.bool false)], args := [] }
  | _ => none }
def GameEndsWrongFalsely : Prop := gameEndsRow.holds Tryz.pinned (OpenSpec.ofChange gameEndsWrong)

/-- 'zugzwanglaw14.GameStops': WHATEVER THE INPUT: true; the input reads as it did. -/
def gameStopsSpec : ChangeSpec := { name := "gameStops", fn := fun _ => fun
  | [d1, d2, d3] => { results := [.lit (.bool true)], args := [d1, d2, d3] }
  | _ => none }
def gameStopsRow : OpenClaim := { program := "ytdmgimfgoajmjaagreatdoor", sum := "3e3368d224d273d7224098712f7ef19f6143abbf98051d36faee926b156112d4", func := "zugzwang/zugzwanglaw14.GameStops", spec := "gameStops", inPlace := ["internal/abi.NoEscape", "maps.clone"], unfollowed := true, recurses := true, named := ["internal/strconv.uint64pow10", "math/bits.deBruijn32tab", "math/bits.deBruijn64tab"], apart := false, laid := [("math/bits.deBruijn32tab", laid_math_bits_deBruijn32tab), ("math/bits.deBruijn64tab", laid_math_bits_deBruijn64tab), ("internal/strconv.uint64pow10", laid_internal_strconv_uint64pow10)] }
def GameStopsSaid : Prop := gameStopsRow.holds Tryz.pinned (OpenSpec.ofChange gameStopsSpec)

/-- ITS FALSE NEIGHBOUR: 'it returns false'. Refute it at one input. -/
def gameStopsWrong : ChangeSpec := { name := "gameStops", fn := fun _ => fun
  | [d1, d2, d3] => { results := [.lit (.bool false)], args := [d1, d2, d3] }
  | _ => none }
def GameStopsWrongFalsely : Prop := gameStopsRow.holds Tryz.pinned (OpenSpec.ofChange gameStopsWrong)

/- THE SECOND FORM. 'bulk': how many values and letters a reading holds, each counted each time it is reached (what is shared counts as often as it is met; a slice's spare places count too). A statement '..UptoSaid' is the law's where the arguments, and the package variables that the reading takes, are together of bulk at most 1048576: NARROWER than '..Said'. Prove '..Said' where nothing that the law and all that it calls make is longer than what came in: it says more and counts as full. Else prove '..UptoSaid'. A law counts once. -/
mutual
def uptoBulk {H : Type} : DataW H → Nat
  | .lit (.string bytes) => bytes.length + 1
  | .lit _ => 1
  | .nil => 1
  | .ptr d => uptoBulk d + 1
  | .slice elems spare => uptoBulkAll elems + uptoBulkAll spare + 1
  | .agg parts => uptoBulkAll parts + 1
  | .iface _ d => uptoBulk d + 1
  | .map entries => uptoBulkEntries entries + 1
  | .held _ => 1
def uptoBulkAll {H : Type} : List (DataW H) → Nat
  | [] => 0
  | d :: r => uptoBulk d + uptoBulkAll r
def uptoBulkEntries {H : Type} : List (Lit × DataW H) → Nat
  | [] => 0
  | x :: r => uptoBulkEntry x + uptoBulkEntries r
def uptoBulkEntry {H : Type} : Lit × DataW H → Nat
  | (.string bytes, d) => bytes.length + uptoBulk d + 1
  | (_, d) => uptoBulk d + 1
 end
def uptoSmall : (H : Type) → List (DataW H) → Bool := fun _ ds => decide (uptoBulkAll ds ≤ 1048576)
def OpenSpec.upto (s : _root_.Go.ChangeSpec) : _root_.Go.OpenSpec := { _root_.Go.OpenSpec.ofChange s with cond := some uptoSmall }

/-- 'zugzwanglaw12.AgainTells', WHERE WHAT IT READS IS OF BULK AT MOST 1048576: true; the input reads as it did. -/
def againTellsUptoRow : OpenClaim := { program := "ytdmgimfgoajmjaagreatdoor", sum := "3e3368d224d273d7224098712f7ef19f6143abbf98051d36faee926b156112d4", func := "zugzwang/zugzwanglaw12.AgainTells", spec := "againTells", inPlace := ["internal/abi.NoEscape"], unfollowed := true, recurses := true, named := ["internal/strconv.uint64pow10", "math/bits.deBruijn32tab", "math/bits.deBruijn64tab"], apart := false, laid := [("math/bits.deBruijn32tab", laid_math_bits_deBruijn32tab), ("math/bits.deBruijn64tab", laid_math_bits_deBruijn64tab), ("internal/strconv.uint64pow10", laid_internal_strconv_uint64pow10)], narrowed := true }
def AgainTellsUptoSaid : Prop := againTellsUptoRow.holds Tryz.pinned (OpenSpec.upto againTellsSpec)

/-- 'zugzwanglaw12.AgainEnds', WHERE WHAT IT READS IS OF BULK AT MOST 1048576: true; the input reads as it did. -/
def againEndsUptoRow : OpenClaim := { program := "ytdmgimfgoajmjaagreatdoor", sum := "3e3368d224d273d7224098712f7ef19f6143abbf98051d36faee926b156112d4", func := "zugzwang/zugzwanglaw12.AgainEnds", spec := "againEnds", inPlace := ["internal/abi.NoEscape", "maps.clone"], unfollowed := true, recurses := true, named := ["internal/strconv.uint64pow10", "math/bits.deBruijn32tab", "math/bits.deBruijn64tab"], apart := false, laid := [("math/bits.deBruijn32tab", laid_math_bits_deBruijn32tab), ("math/bits.deBruijn64tab", laid_math_bits_deBruijn64tab), ("internal/strconv.uint64pow10", laid_internal_strconv_uint64pow10)], narrowed := true }
def AgainEndsUptoSaid : Prop := againEndsUptoRow.holds Tryz.pinned (OpenSpec.upto againEndsSpec)

/-- 'zugzwanglaw12.AgainNever', WHERE WHAT IT READS IS OF BULK AT MOST 1048576: true; the input reads as it did. -/
def againNeverUptoRow : OpenClaim := { program := "ytdmgimfgoajmjaagreatdoor", sum := "3e3368d224d273d7224098712f7ef19f6143abbf98051d36faee926b156112d4", func := "zugzwang/zugzwanglaw12.AgainNever", spec := "againNever", inPlace := ["internal/abi.NoEscape", "maps.clone"], unfollowed := true, recurses := true, named := ["internal/strconv.uint64pow10", "math/bits.deBruijn32tab", "math/bits.deBruijn64tab"], apart := false, laid := [("math/bits.deBruijn32tab", laid_math_bits_deBruijn32tab), ("math/bits.deBruijn64tab", laid_math_bits_deBruijn64tab), ("internal/strconv.uint64pow10", laid_internal_strconv_uint64pow10)], narrowed := true }
def AgainNeverUptoSaid : Prop := againNeverUptoRow.holds Tryz.pinned (OpenSpec.upto againNeverSpec)

/-- 'zugzwanglaw31.JudgeMusts', WHERE WHAT IT READS IS OF BULK AT MOST 1048576: true; the input reads as it did. -/
def judgeMustsUptoRow : OpenClaim := { program := "ytdmgimfgoajmjaagreatdoor", sum := "3e3368d224d273d7224098712f7ef19f6143abbf98051d36faee926b156112d4", func := "zugzwang/zugzwanglaw31.JudgeMusts", spec := "judgeMusts", inPlace := ["internal/abi.NoEscape"], unfollowed := true, recurses := true, named := ["internal/strconv.uint64pow10", "math/bits.deBruijn32tab", "math/bits.deBruijn64tab"], apart := false, laid := [("math/bits.deBruijn32tab", laid_math_bits_deBruijn32tab), ("math/bits.deBruijn64tab", laid_math_bits_deBruijn64tab), ("internal/strconv.uint64pow10", laid_internal_strconv_uint64pow10)], narrowed := true }
def JudgeMustsUptoSaid : Prop := judgeMustsUptoRow.holds Tryz.pinned (OpenSpec.upto judgeMustsSpec)

/-- 'zugzwanglaw14.GameRows', WHERE WHAT IT READS IS OF BULK AT MOST 1048576: true; the input reads as it did. -/
def gameRowsUptoRow : OpenClaim := { program := "ytdmgimfgoajmjaagreatdoor", sum := "3e3368d224d273d7224098712f7ef19f6143abbf98051d36faee926b156112d4", func := "zugzwang/zugzwanglaw14.GameRows", spec := "gameRows", inPlace := ["internal/abi.NoEscape"], unfollowed := true, recurses := true, named := ["internal/strconv.uint64pow10", "math/bits.deBruijn32tab", "math/bits.deBruijn64tab"], apart := false, laid := [("math/bits.deBruijn32tab", laid_math_bits_deBruijn32tab), ("math/bits.deBruijn64tab", laid_math_bits_deBruijn64tab), ("internal/strconv.uint64pow10", laid_internal_strconv_uint64pow10)], narrowed := true }
def GameRowsUptoSaid : Prop := gameRowsUptoRow.holds Tryz.pinned (OpenSpec.upto gameRowsSpec)

/-- 'zugzwanglaw14.GameRuns', WHERE WHAT IT READS IS OF BULK AT MOST 1048576: true; the input reads as it did. -/
def gameRunsUptoRow : OpenClaim := { program := "ytdmgimfgoajmjaagreatdoor", sum := "3e3368d224d273d7224098712f7ef19f6143abbf98051d36faee926b156112d4", func := "zugzwang/zugzwanglaw14.GameRuns", spec := "gameRuns", inPlace := ["internal/abi.NoEscape"], unfollowed := true, recurses := true, named := ["internal/strconv.uint64pow10", "math/bits.deBruijn32tab", "math/bits.deBruijn64tab"], apart := false, laid := [("math/bits.deBruijn32tab", laid_math_bits_deBruijn32tab), ("math/bits.deBruijn64tab", laid_math_bits_deBruijn64tab), ("internal/strconv.uint64pow10", laid_internal_strconv_uint64pow10)], narrowed := true }
def GameRunsUptoSaid : Prop := gameRunsUptoRow.holds Tryz.pinned (OpenSpec.upto gameRunsSpec)

/-- 'zugzwanglaw14.GameTells', WHERE WHAT IT READS IS OF BULK AT MOST 1048576: true; the input reads as it did. -/
def gameTellsUptoRow : OpenClaim := { program := "ytdmgimfgoajmjaagreatdoor", sum := "3e3368d224d273d7224098712f7ef19f6143abbf98051d36faee926b156112d4", func := "zugzwang/zugzwanglaw14.GameTells", spec := "gameTells", inPlace := ["internal/abi.NoEscape", "maps.clone"], unfollowed := true, recurses := true, named := ["internal/strconv.uint64pow10", "math/bits.deBruijn32tab", "math/bits.deBruijn64tab"], apart := false, laid := [("math/bits.deBruijn32tab", laid_math_bits_deBruijn32tab), ("math/bits.deBruijn64tab", laid_math_bits_deBruijn64tab), ("internal/strconv.uint64pow10", laid_internal_strconv_uint64pow10)], narrowed := true }
def GameTellsUptoSaid : Prop := gameTellsUptoRow.holds Tryz.pinned (OpenSpec.upto gameTellsSpec)

/-- 'zugzwanglaw14.GameEnds', WHERE WHAT IT READS IS OF BULK AT MOST 1048576: true; the input reads as it did. -/
def gameEndsUptoRow : OpenClaim := { program := "ytdmgimfgoajmjaagreatdoor", sum := "3e3368d224d273d7224098712f7ef19f6143abbf98051d36faee926b156112d4", func := "zugzwang/zugzwanglaw14.GameEnds", spec := "gameEnds", inPlace := ["internal/abi.NoEscape", "maps.clone"], unfollowed := true, recurses := true, named := ["internal/strconv.uint64pow10", "math/bits.deBruijn32tab", "math/bits.deBruijn64tab"], apart := false, laid := [("math/bits.deBruijn32tab", laid_math_bits_deBruijn32tab), ("math/bits.deBruijn64tab", laid_math_bits_deBruijn64tab), ("internal/strconv.uint64pow10", laid_internal_strconv_uint64pow10)], narrowed := true }
def GameEndsUptoSaid : Prop := gameEndsUptoRow.holds Tryz.pinned (OpenSpec.upto gameEndsSpec)

/-- 'zugzwanglaw14.GameStops', WHERE WHAT IT READS IS OF BULK AT MOST 1048576: true; the input reads as it did. -/
def gameStopsUptoRow : OpenClaim := { program := "ytdmgimfgoajmjaagreatdoor", sum := "3e3368d224d273d7224098712f7ef19f6143abbf98051d36faee926b156112d4", func := "zugzwang/zugzwanglaw14.GameStops", spec := "gameStops", inPlace := ["internal/abi.NoEscape", "maps.clone"], unfollowed := true, recurses := true, named := ["internal/strconv.uint64pow10", "math/bits.deBruijn32tab", "math/bits.deBruijn64tab"], apart := false, laid := [("math/bits.deBruijn32tab", laid_math_bits_deBruijn32tab), ("math/bits.deBruijn64tab", laid_math_bits_deBruijn64tab), ("internal/strconv.uint64pow10", laid_internal_strconv_uint64pow10)], narrowed := true }
def GameStopsUptoSaid : Prop := gameStopsUptoRow.holds Tryz.pinned (OpenSpec.upto gameStopsSpec)

end Rows
end Go.Proofs.YtdmgimfgoajmjaaGreatDoor
