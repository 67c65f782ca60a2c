/-
  NARROWER THAN 'FOR EVERY INPUT', by the rows' own cells (each row's printed sentence says how): SuiteMusts: loops · SuiteLonger: loops · SuiteSound: loops · SuiteLeast: loops · SuiteTraces: loops · SuiteCovered: loops · SuiteVerdicts: loops · SuiteAfter: loops · SuiteJudges: loops · SuiteCovers: loops · SuiteFound: loops.
  DERIVED. THE GIVEN ROWS OF THIS SEAT. 11 by the template 'for every input the law returns true; each argument reads behind the call as it read before'; 0 by the template 'total and deterministic' (their statements: YtegenalcheooeaaGreatTotals.lean).
  GIVEN WITH THE SEED: the statements are not yours to turn. If you find one false, say at which input.
  Laid BY PROGRAM, IN A SANDBOX (cutbox-rows.mjs): the forced cells as the released guide's own fill.sh prints them over the translation f52150bebab296af… (all of the seat's roots in one cut). By AI agents, Wed Nov 11 2026. No macro, syntax, notation, axiom, sorry.
-/
import Derived.Test.YtegenalcheooeaaGreatChecked
import GoSem.Claim
import GoSem.ClaimJoined
import GoSem.ClaimMapViews
import Derived.JoinedTies
import Derived.KernelRfl
namespace Go.Proofs.YtegenalcheooeaaGreat
/- THE CELL 'sum', in the pinned program and in every row, IS THE sha256 OF THE DUMP (.gsa) THAT YtegenalcheooeaaGreatProg.lean LOADS. Nothing in Lean hashes anything: it is a label: what it is worth is what the hold of that sum in a sandbox is worth. -/
noncomputable def Tryz.pinned : Pinned := { name := "ytegenalcheooeaagreat", sum := "f52150bebab296af7b9e45e4bd6601dcf73b270199f9638329a677bcfc672d2c", checked := Tryz.checked }
namespace Rows
def none {H : Type} : Left H := { results := [], args := [] }

/-- 'madrigallaw34.SuiteMusts': WHATEVER THE INPUT: true; the input reads as it did. -/
def suiteMustsSpec : ChangeSpec := { name := "suiteMusts", fn := fun _ => fun
  | [d1, d2, d3] => { results := [.lit (.bool true)], args := [d1, d2, d3] }
  | _ => none }
def suiteMustsRow : OpenClaim := { program := "ytegenalcheooeaagreat", sum := "f52150bebab296af7b9e45e4bd6601dcf73b270199f9638329a677bcfc672d2c", func := "madrigal/madrigallaw34.SuiteMusts", spec := "suiteMusts", inPlace := ["internal/reflectlite.ValueOf", "internal/reflectlite.Swapper", "(internal/reflectlite.Value).Len", "slices.overlaps[madrigal/api.Label]"], unfollowed := true, recurses := true, loops := true, apart := false }
def SuiteMustsSaid : Prop := suiteMustsRow.holds Tryz.pinned (OpenSpec.ofChange suiteMustsSpec)

/-- ITS FALSE NEIGHBOUR: 'it returns false'. Refute it at one input. -/
def suiteMustsWrong : ChangeSpec := { name := "suiteMusts", fn := fun _ => fun
  | [d1, d2, d3] => { results := [.lit (.bool false)], args := [d1, d2, d3] }
  | _ => none }
def SuiteMustsWrongFalsely : Prop := suiteMustsRow.holds Tryz.pinned (OpenSpec.ofChange suiteMustsWrong)

/-- 'madrigallaw34.SuiteLonger': WHATEVER THE INPUT: true; the input reads as it did. -/
def suiteLongerSpec : ChangeSpec := { name := "suiteLonger", fn := fun _ => fun
  | [d1, d2, d3] => { results := [.lit (.bool true)], args := [d1, d2, d3] }
  | _ => none }
def suiteLongerRow : OpenClaim := { program := "ytegenalcheooeaagreat", sum := "f52150bebab296af7b9e45e4bd6601dcf73b270199f9638329a677bcfc672d2c", func := "madrigal/madrigallaw34.SuiteLonger", spec := "suiteLonger", inPlace := ["internal/reflectlite.ValueOf", "internal/reflectlite.Swapper", "(internal/reflectlite.Value).Len", "slices.overlaps[madrigal/api.Label]"], unfollowed := true, recurses := true, loops := true, apart := false }
def SuiteLongerSaid : Prop := suiteLongerRow.holds Tryz.pinned (OpenSpec.ofChange suiteLongerSpec)

/-- ITS FALSE NEIGHBOUR: 'it returns false'. Refute it at one input. -/
def suiteLongerWrong : ChangeSpec := { name := "suiteLonger", fn := fun _ => fun
  | [d1, d2, d3] => { results := [.lit (.bool false)], args := [d1, d2, d3] }
  | _ => none }
def SuiteLongerWrongFalsely : Prop := suiteLongerRow.holds Tryz.pinned (OpenSpec.ofChange suiteLongerWrong)

/-- 'madrigallaw34.SuiteSound': WHATEVER THE INPUT: true; the input reads as it did. -/
def suiteSoundSpec : ChangeSpec := { name := "suiteSound", fn := fun _ => fun
  | [d1, d2, d3, d4] => { results := [.lit (.bool true)], args := [d1, d2, d3, d4] }
  | _ => none }
def suiteSoundRow : OpenClaim := { program := "ytegenalcheooeaagreat", sum := "f52150bebab296af7b9e45e4bd6601dcf73b270199f9638329a677bcfc672d2c", func := "madrigal/madrigallaw34.SuiteSound", spec := "suiteSound", inPlace := ["internal/reflectlite.ValueOf", "internal/reflectlite.Swapper", "(internal/reflectlite.Value).Len", "slices.overlaps[madrigal/api.Label]"], unfollowed := true, recurses := true, loops := true, apart := false }
def SuiteSoundSaid : Prop := suiteSoundRow.holds Tryz.pinned (OpenSpec.ofChange suiteSoundSpec)

/-- ITS FALSE NEIGHBOUR: 'it returns false'. Refute it at one input. -/
def suiteSoundWrong : ChangeSpec := { name := "suiteSound", fn := fun _ => fun
  | [d1, d2, d3, d4] => { results := [.lit (.bool false)], args := [d1, d2, d3, d4] }
  | _ => none }
def SuiteSoundWrongFalsely : Prop := suiteSoundRow.holds Tryz.pinned (OpenSpec.ofChange suiteSoundWrong)

/-- 'madrigallaw34.SuiteLeast': WHATEVER THE INPUT: true; the input reads as it did. -/
def suiteLeastSpec : ChangeSpec := { name := "suiteLeast", fn := fun _ => fun
  | [d1, d2, d3] => { results := [.lit (.bool true)], args := [d1, d2, d3] }
  | _ => none }
def suiteLeastRow : OpenClaim := { program := "ytegenalcheooeaagreat", sum := "f52150bebab296af7b9e45e4bd6601dcf73b270199f9638329a677bcfc672d2c", func := "madrigal/madrigallaw34.SuiteLeast", spec := "suiteLeast", inPlace := ["internal/reflectlite.ValueOf", "internal/reflectlite.Swapper", "(internal/reflectlite.Value).Len", "slices.overlaps[madrigal/api.Label]"], unfollowed := true, recurses := true, loops := true, apart := false }
def SuiteLeastSaid : Prop := suiteLeastRow.holds Tryz.pinned (OpenSpec.ofChange suiteLeastSpec)

/-- ITS FALSE NEIGHBOUR: 'it returns false'. Refute it at one input. -/
def suiteLeastWrong : ChangeSpec := { name := "suiteLeast", fn := fun _ => fun
  | [d1, d2, d3] => { results := [.lit (.bool false)], args := [d1, d2, d3] }
  | _ => none }
def SuiteLeastWrongFalsely : Prop := suiteLeastRow.holds Tryz.pinned (OpenSpec.ofChange suiteLeastWrong)

/-- 'madrigallaw34.SuiteTraces': WHATEVER THE INPUT: true; the input reads as it did. -/
def suiteTracesSpec : ChangeSpec := { name := "suiteTraces", fn := fun _ => fun
  | [d1, d2, d3, d4] => { results := [.lit (.bool true)], args := [d1, d2, d3, d4] }
  | _ => none }
def suiteTracesRow : OpenClaim := { program := "ytegenalcheooeaagreat", sum := "f52150bebab296af7b9e45e4bd6601dcf73b270199f9638329a677bcfc672d2c", func := "madrigal/madrigallaw34.SuiteTraces", spec := "suiteTraces", inPlace := ["internal/reflectlite.ValueOf", "internal/reflectlite.Swapper", "(internal/reflectlite.Value).Len", "slices.overlaps[madrigal/api.Label]"], unfollowed := true, recurses := true, loops := true, apart := false }
def SuiteTracesSaid : Prop := suiteTracesRow.holds Tryz.pinned (OpenSpec.ofChange suiteTracesSpec)

/-- ITS FALSE NEIGHBOUR: 'it returns false'. Refute it at one input. -/
def suiteTracesWrong : ChangeSpec := { name := "suiteTraces", fn := fun _ => fun
  | [d1, d2, d3, d4] => { results := [.lit (.bool false)], args := [d1, d2, d3, d4] }
  | _ => none }
def SuiteTracesWrongFalsely : Prop := suiteTracesRow.holds Tryz.pinned (OpenSpec.ofChange suiteTracesWrong)

/-- 'madrigallaw34.SuiteCovered': WHATEVER THE INPUT: true; the input reads as it did. -/
def suiteCoveredSpec : ChangeSpec := { name := "suiteCovered", fn := fun _ => fun
  | [d1, d2, d3] => { results := [.lit (.bool true)], args := [d1, d2, d3] }
  | _ => none }
def suiteCoveredRow : OpenClaim := { program := "ytegenalcheooeaagreat", sum := "f52150bebab296af7b9e45e4bd6601dcf73b270199f9638329a677bcfc672d2c", func := "madrigal/madrigallaw34.SuiteCovered", spec := "suiteCovered", inPlace := ["internal/reflectlite.ValueOf", "internal/reflectlite.Swapper", "(internal/reflectlite.Value).Len", "slices.overlaps[madrigal/api.Label]"], unfollowed := true, recurses := true, loops := true, apart := false }
def SuiteCoveredSaid : Prop := suiteCoveredRow.holds Tryz.pinned (OpenSpec.ofChange suiteCoveredSpec)

/-- ITS FALSE NEIGHBOUR: 'it returns false'. Refute it at one input. -/
def suiteCoveredWrong : ChangeSpec := { name := "suiteCovered", fn := fun _ => fun
  | [d1, d2, d3] => { results := [.lit (.bool false)], args := [d1, d2, d3] }
  | _ => none }
def SuiteCoveredWrongFalsely : Prop := suiteCoveredRow.holds Tryz.pinned (OpenSpec.ofChange suiteCoveredWrong)

/-- 'madrigallaw34.SuiteVerdicts': WHATEVER THE INPUT: true; the input reads as it did. -/
def suiteVerdictsSpec : ChangeSpec := { name := "suiteVerdicts", fn := fun _ => fun
  | [d1, d2, d3] => { results := [.lit (.bool true)], args := [d1, d2, d3] }
  | _ => none }
def suiteVerdictsRow : OpenClaim := { program := "ytegenalcheooeaagreat", sum := "f52150bebab296af7b9e45e4bd6601dcf73b270199f9638329a677bcfc672d2c", func := "madrigal/madrigallaw34.SuiteVerdicts", spec := "suiteVerdicts", inPlace := ["internal/reflectlite.ValueOf", "internal/reflectlite.Swapper", "(internal/reflectlite.Value).Len", "slices.overlaps[madrigal/api.Label]"], unfollowed := true, recurses := true, loops := true, apart := false }
def SuiteVerdictsSaid : Prop := suiteVerdictsRow.holds Tryz.pinned (OpenSpec.ofChange suiteVerdictsSpec)

/-- ITS FALSE NEIGHBOUR: 'it returns false'. Refute it at one input. -/
def suiteVerdictsWrong : ChangeSpec := { name := "suiteVerdicts", fn := fun _ => fun
  | [d1, d2, d3] => { results := [.lit (.bool false)], args := [d1, d2, d3] }
  | _ => none }
def SuiteVerdictsWrongFalsely : Prop := suiteVerdictsRow.holds Tryz.pinned (OpenSpec.ofChange suiteVerdictsWrong)

/-- 'madrigallaw34.SuiteAfter': WHATEVER THE INPUT: true; the input reads as it did. -/
def suiteAfterSpec : ChangeSpec := { name := "suiteAfter", fn := fun _ => fun
  | [d1, d2, d3] => { results := [.lit (.bool true)], args := [d1, d2, d3] }
  | _ => none }
def suiteAfterRow : OpenClaim := { program := "ytegenalcheooeaagreat", sum := "f52150bebab296af7b9e45e4bd6601dcf73b270199f9638329a677bcfc672d2c", func := "madrigal/madrigallaw34.SuiteAfter", spec := "suiteAfter", inPlace := ["internal/reflectlite.ValueOf", "internal/reflectlite.Swapper", "(internal/reflectlite.Value).Len", "slices.overlaps[madrigal/api.Label]"], unfollowed := true, recurses := true, loops := true, apart := false }
def SuiteAfterSaid : Prop := suiteAfterRow.holds Tryz.pinned (OpenSpec.ofChange suiteAfterSpec)

/-- ITS FALSE NEIGHBOUR: 'it returns false'. Refute it at one input. -/
def suiteAfterWrong : ChangeSpec := { name := "suiteAfter", fn := fun _ => fun
  | [d1, d2, d3] => { results := [.lit (.bool false)], args := [d1, d2, d3] }
  | _ => none }
def SuiteAfterWrongFalsely : Prop := suiteAfterRow.holds Tryz.pinned (OpenSpec.ofChange suiteAfterWrong)

/-- 'madrigallaw34.SuiteJudges': WHATEVER THE INPUT: true; the input reads as it did. -/
def suiteJudgesSpec : ChangeSpec := { name := "suiteJudges", fn := fun _ => fun
  | [d1, d2, d3, d4, d5] => { results := [.lit (.bool true)], args := [d1, d2, d3, d4, d5] }
  | _ => none }
def suiteJudgesRow : OpenClaim := { program := "ytegenalcheooeaagreat", sum := "f52150bebab296af7b9e45e4bd6601dcf73b270199f9638329a677bcfc672d2c", func := "madrigal/madrigallaw34.SuiteJudges", spec := "suiteJudges", inPlace := ["internal/reflectlite.ValueOf", "internal/reflectlite.Swapper", "(internal/reflectlite.Value).Len", "slices.overlaps[madrigal/api.Label]"], unfollowed := true, recurses := true, loops := true, apart := false }
def SuiteJudgesSaid : Prop := suiteJudgesRow.holds Tryz.pinned (OpenSpec.ofChange suiteJudgesSpec)

/-- ITS FALSE NEIGHBOUR: 'it returns false'. Refute it at one input. -/
def suiteJudgesWrong : ChangeSpec := { name := "suiteJudges", fn := fun _ => fun
  | [d1, d2, d3, d4, d5] => { results := [.lit (.bool false)], args := [d1, d2, d3, d4, d5] }
  | _ => none }
def SuiteJudgesWrongFalsely : Prop := suiteJudgesRow.holds Tryz.pinned (OpenSpec.ofChange suiteJudgesWrong)

/-- 'madrigallaw34.SuiteCovers': WHATEVER THE INPUT: true; the input reads as it did. -/
def suiteCoversSpec : ChangeSpec := { name := "suiteCovers", fn := fun _ => fun
  | [d1, d2, d3, d4] => { results := [.lit (.bool true)], args := [d1, d2, d3, d4] }
  | _ => none }
def suiteCoversRow : OpenClaim := { program := "ytegenalcheooeaagreat", sum := "f52150bebab296af7b9e45e4bd6601dcf73b270199f9638329a677bcfc672d2c", func := "madrigal/madrigallaw34.SuiteCovers", spec := "suiteCovers", inPlace := ["internal/reflectlite.ValueOf", "internal/reflectlite.Swapper", "(internal/reflectlite.Value).Len", "slices.overlaps[madrigal/api.Label]"], unfollowed := true, recurses := true, loops := true, apart := false }
def SuiteCoversSaid : Prop := suiteCoversRow.holds Tryz.pinned (OpenSpec.ofChange suiteCoversSpec)

/-- ITS FALSE NEIGHBOUR: 'it returns false'. Refute it at one input. -/
def suiteCoversWrong : ChangeSpec := { name := "suiteCovers", fn := fun _ => fun
  | [d1, d2, d3, d4] => { results := [.lit (.bool false)], args := [d1, d2, d3, d4] }
  | _ => none }
def SuiteCoversWrongFalsely : Prop := suiteCoversRow.holds Tryz.pinned (OpenSpec.ofChange suiteCoversWrong)

/-- 'madrigallaw34.SuiteFound': WHATEVER THE INPUT: true; the input reads as it did. -/
def suiteFoundSpec : ChangeSpec := { name := "suiteFound", fn := fun _ => fun
  | [d1, d2, d3, d4] => { results := [.lit (.bool true)], args := [d1, d2, d3, d4] }
  | _ => none }
def suiteFoundRow : OpenClaim := { program := "ytegenalcheooeaagreat", sum := "f52150bebab296af7b9e45e4bd6601dcf73b270199f9638329a677bcfc672d2c", func := "madrigal/madrigallaw34.SuiteFound", spec := "suiteFound", inPlace := ["internal/reflectlite.ValueOf", "internal/reflectlite.Swapper", "(internal/reflectlite.Value).Len", "slices.overlaps[madrigal/api.Label]"], unfollowed := true, recurses := true, loops := true, apart := false }
def SuiteFoundSaid : Prop := suiteFoundRow.holds Tryz.pinned (OpenSpec.ofChange suiteFoundSpec)

/-- ITS FALSE NEIGHBOUR: 'it returns false'. Refute it at one input. -/
def suiteFoundWrong : ChangeSpec := { name := "suiteFound", fn := fun _ => fun
  | [d1, d2, d3, d4] => { results := [.lit (.bool false)], args := [d1, d2, d3, d4] }
  | _ => none }
def SuiteFoundWrongFalsely : Prop := suiteFoundRow.holds Tryz.pinned (OpenSpec.ofChange suiteFoundWrong)

/- THE SECOND FORM. 'bulk': how many values and letters a reading holds, each counted each time it is reached (what is shared counts as often as it is met; a slice's spare places count too). A statement '..UptoSaid' is the law's where the arguments, and the package variables that the reading takes, are together of bulk at most 1048576: NARROWER than '..Said'. Prove '..Said' where nothing that the law and all that it calls make is longer than what came in: it says more and counts as full. Else prove '..UptoSaid'. A law counts once. -/
mutual
def uptoBulk {H : Type} : DataW H → Nat
  | .lit (.string bytes) => bytes.length + 1
  | .lit _ => 1
  | .nil => 1
  | .ptr d => uptoBulk d + 1
  | .slice elems spare => uptoBulkAll elems + uptoBulkAll spare + 1
  | .agg parts => uptoBulkAll parts + 1
  | .iface _ d => uptoBulk d + 1
  | .map entries => uptoBulkEntries entries + 1
  | .held _ => 1
def uptoBulkAll {H : Type} : List (DataW H) → Nat
  | [] => 0
  | d :: r => uptoBulk d + uptoBulkAll r
def uptoBulkEntries {H : Type} : List (Lit × DataW H) → Nat
  | [] => 0
  | x :: r => uptoBulkEntry x + uptoBulkEntries r
def uptoBulkEntry {H : Type} : Lit × DataW H → Nat
  | (.string bytes, d) => bytes.length + uptoBulk d + 1
  | (_, d) => uptoBulk d + 1
 end
def uptoSmall : (H : Type) → List (DataW H) → Bool := fun _ ds => decide (uptoBulkAll ds ≤ 1048576)
def OpenSpec.upto (s : _root_.Go.ChangeSpec) : _root_.Go.OpenSpec := { _root_.Go.OpenSpec.ofChange s with cond := some uptoSmall }

/-- 'madrigallaw34.SuiteMusts', WHERE WHAT IT READS IS OF BULK AT MOST 1048576: true; the input reads as it did. -/
def suiteMustsUptoRow : OpenClaim := { program := "ytegenalcheooeaagreat", sum := "f52150bebab296af7b9e45e4bd6601dcf73b270199f9638329a677bcfc672d2c", func := "madrigal/madrigallaw34.SuiteMusts", spec := "suiteMusts", inPlace := ["internal/reflectlite.ValueOf", "internal/reflectlite.Swapper", "(internal/reflectlite.Value).Len", "slices.overlaps[madrigal/api.Label]"], unfollowed := true, recurses := true, loops := true, apart := false, narrowed := true }
def SuiteMustsUptoSaid : Prop := suiteMustsUptoRow.holds Tryz.pinned (OpenSpec.upto suiteMustsSpec)

/-- 'madrigallaw34.SuiteLonger', WHERE WHAT IT READS IS OF BULK AT MOST 1048576: true; the input reads as it did. -/
def suiteLongerUptoRow : OpenClaim := { program := "ytegenalcheooeaagreat", sum := "f52150bebab296af7b9e45e4bd6601dcf73b270199f9638329a677bcfc672d2c", func := "madrigal/madrigallaw34.SuiteLonger", spec := "suiteLonger", inPlace := ["internal/reflectlite.ValueOf", "internal/reflectlite.Swapper", "(internal/reflectlite.Value).Len", "slices.overlaps[madrigal/api.Label]"], unfollowed := true, recurses := true, loops := true, apart := false, narrowed := true }
def SuiteLongerUptoSaid : Prop := suiteLongerUptoRow.holds Tryz.pinned (OpenSpec.upto suiteLongerSpec)

/-- 'madrigallaw34.SuiteSound', WHERE WHAT IT READS IS OF BULK AT MOST 1048576: true; the input reads as it did. -/
def suiteSoundUptoRow : OpenClaim := { program := "ytegenalcheooeaagreat", sum := "f52150bebab296af7b9e45e4bd6601dcf73b270199f9638329a677bcfc672d2c", func := "madrigal/madrigallaw34.SuiteSound", spec := "suiteSound", inPlace := ["internal/reflectlite.ValueOf", "internal/reflectlite.Swapper", "(internal/reflectlite.Value).Len", "slices.overlaps[madrigal/api.Label]"], unfollowed := true, recurses := true, loops := true, apart := false, narrowed := true }
def SuiteSoundUptoSaid : Prop := suiteSoundUptoRow.holds Tryz.pinned (OpenSpec.upto suiteSoundSpec)

/-- 'madrigallaw34.SuiteLeast', WHERE WHAT IT READS IS OF BULK AT MOST 1048576: true; the input reads as it did. -/
def suiteLeastUptoRow : OpenClaim := { program := "ytegenalcheooeaagreat", sum := "f52150bebab296af7b9e45e4bd6601dcf73b270199f9638329a677bcfc672d2c", func := "madrigal/madrigallaw34.SuiteLeast", spec := "suiteLeast", inPlace := ["internal/reflectlite.ValueOf", "internal/reflectlite.Swapper", "(internal/reflectlite.Value).Len", "slices.overlaps[madrigal/api.Label]"], unfollowed := true, recurses := true, loops := true, apart := false, narrowed := true }
def SuiteLeastUptoSaid : Prop := suiteLeastUptoRow.holds Tryz.pinned (OpenSpec.upto suiteLeastSpec)

/-- 'madrigallaw34.SuiteTraces', WHERE WHAT IT READS IS OF BULK AT MOST 1048576: true; the input reads as it did. -/
def suiteTracesUptoRow : OpenClaim := { program := "ytegenalcheooeaagreat", sum := "f52150bebab296af7b9e45e4bd6601dcf73b270199f9638329a677bcfc672d2c", func := "madrigal/madrigallaw34.SuiteTraces", spec := "suiteTraces", inPlace := ["internal/reflectlite.ValueOf", "internal/reflectlite.Swapper", "(internal/reflectlite.Value).Len", "slices.overlaps[madrigal/api.Label]"], unfollowed := true, recurses := true, loops := true, apart := false, narrowed := true }
def SuiteTracesUptoSaid : Prop := suiteTracesUptoRow.holds Tryz.pinned (OpenSpec.upto suiteTracesSpec)

/-- 'madrigallaw34.SuiteCovered', WHERE WHAT IT READS IS OF BULK AT MOST 1048576: true; the input reads as it did. -/
def suiteCoveredUptoRow : OpenClaim := { program := "ytegenalcheooeaagreat", sum := "f52150bebab296af7b9e45e4bd6601dcf73b270199f9638329a677bcfc672d2c", func := "madrigal/madrigallaw34.SuiteCovered", spec := "suiteCovered", inPlace := ["internal/reflectlite.ValueOf", "internal/reflectlite.Swapper", "(internal/reflectlite.Value).Len", "slices.overlaps[madrigal/api.Label]"], unfollowed := true, recurses := true, loops := true, apart := false, narrowed := true }
def SuiteCoveredUptoSaid : Prop := suiteCoveredUptoRow.holds Tryz.pinned (OpenSpec.upto suiteCoveredSpec)

/-- 'madrigallaw34.SuiteVerdicts', WHERE WHAT IT READS IS OF BULK AT MOST 1048576: true; the input reads as it did. -/
def suiteVerdictsUptoRow : OpenClaim := { program := "ytegenalcheooeaagreat", sum := "f52150bebab296af7b9e45e4bd6601dcf73b270199f9638329a677bcfc672d2c", func := "madrigal/madrigallaw34.SuiteVerdicts", spec := "suiteVerdicts", inPlace := ["internal/reflectlite.ValueOf", "internal/reflectlite.Swapper", "(internal/reflectlite.Value).Len", "slices.overlaps[madrigal/api.Label]"], unfollowed := true, recurses := true, loops := true, apart := false, narrowed := true }
def SuiteVerdictsUptoSaid : Prop := suiteVerdictsUptoRow.holds Tryz.pinned (OpenSpec.upto suiteVerdictsSpec)

/-- 'madrigallaw34.SuiteAfter', WHERE WHAT IT READS IS OF BULK AT MOST 1048576: true; the input reads as it did. -/
def suiteAfterUptoRow : OpenClaim := { program := "ytegenalcheooeaagreat", sum := "f52150bebab296af7b9e45e4bd6601dcf73b270199f9638329a677bcfc672d2c", func := "madrigal/madrigallaw34.SuiteAfter", spec := "suiteAfter", inPlace := ["internal/reflectlite.ValueOf", "internal/reflectlite.Swapper", "(internal/reflectlite.Value).Len", "slices.overlaps[madrigal/api.Label]"], unfollowed := true, recurses := true, loops := true, apart := false, narrowed := true }
def SuiteAfterUptoSaid : Prop := suiteAfterUptoRow.holds Tryz.pinned (OpenSpec.upto suiteAfterSpec)

/-- 'madrigallaw34.SuiteJudges', WHERE WHAT IT READS IS OF BULK AT MOST 1048576: true; the input reads as it did. -/
def suiteJudgesUptoRow : OpenClaim := { program := "ytegenalcheooeaagreat", sum := "f52150bebab296af7b9e45e4bd6601dcf73b270199f9638329a677bcfc672d2c", func := "madrigal/madrigallaw34.SuiteJudges", spec := "suiteJudges", inPlace := ["internal/reflectlite.ValueOf", "internal/reflectlite.Swapper", "(internal/reflectlite.Value).Len", "slices.overlaps[madrigal/api.Label]"], unfollowed := true, recurses := true, loops := true, apart := false, narrowed := true }
def SuiteJudgesUptoSaid : Prop := suiteJudgesUptoRow.holds Tryz.pinned (OpenSpec.upto suiteJudgesSpec)

/-- 'madrigallaw34.SuiteCovers', WHERE WHAT IT READS IS OF BULK AT MOST 1048576: true; the input reads as it did. -/
def suiteCoversUptoRow : OpenClaim := { program := "ytegenalcheooeaagreat", sum := "f52150bebab296af7b9e45e4bd6601dcf73b270199f9638329a677bcfc672d2c", func := "madrigal/madrigallaw34.SuiteCovers", spec := "suiteCovers", inPlace := ["internal/reflectlite.ValueOf", "internal/reflectlite.Swapper", "(internal/reflectlite.Value).Len", "slices.overlaps[madrigal/api.Label]"], unfollowed := true, recurses := true, loops := true, apart := false, narrowed := true }
def SuiteCoversUptoSaid : Prop := suiteCoversUptoRow.holds Tryz.pinned (OpenSpec.upto suiteCoversSpec)

/-- 'madrigallaw34.SuiteFound', WHERE WHAT IT READS IS OF BULK AT MOST 1048576: true; the input reads as it did. -/
def suiteFoundUptoRow : OpenClaim := { program := "ytegenalcheooeaagreat", sum := "f52150bebab296af7b9e45e4bd6601dcf73b270199f9638329a677bcfc672d2c", func := "madrigal/madrigallaw34.SuiteFound", spec := "suiteFound", inPlace := ["internal/reflectlite.ValueOf", "internal/reflectlite.Swapper", "(internal/reflectlite.Value).Len", "slices.overlaps[madrigal/api.Label]"], unfollowed := true, recurses := true, loops := true, apart := false, narrowed := true }
def SuiteFoundUptoSaid : Prop := suiteFoundUptoRow.holds Tryz.pinned (OpenSpec.upto suiteFoundSpec)

end Rows
end Go.Proofs.YtegenalcheooeaaGreat
