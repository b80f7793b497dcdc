/-
  No cell of these rows narrows 'for every input' (looked for: loops, veiled, ifaces, maps, wideKeys, modest, calm, conditions, laid).
  DERIVED. THE GIVEN ROWS OF THIS SEAT. 7 by the template 'for every input the law returns true; each argument reads behind the call as it read before'; 0 by the template 'total and deterministic' (their statements: YtojpimpfpjhflaaTotals.lean).
  GIVEN WITH THE SEED: the statements are not yours to turn. If you find one false, say at which input.
  Laid BY PROGRAM, IN A SANDBOX (cutbox-rows.mjs): the forced cells as the released guide's own fill.sh prints them over the translation 0150252f01e400c5… (all of the seat's roots in one cut). By AI agents, Wed Nov 11 2026. No macro, syntax, notation, axiom, sorry.
-/
import Derived.Test.YtojpimpfpjhflaaChecked
import GoSem.Claim
import GoSem.ClaimJoined
import GoSem.ClaimMapViews
import Derived.JoinedTies
import Derived.KernelRfl
namespace Go.Proofs.Ytojpimpfpjhflaa
/- THE CELL 'sum', in the pinned program and in every row, IS THE sha256 OF THE DUMP (.gsa) THAT YtojpimpfpjhflaaProg.lean LOADS. Nothing in Lean hashes anything: it is a label: what it is worth is what the hold of that sum in a sandbox is worth. -/
noncomputable def Try.pinned : Pinned := { name := "ytojpimpfpjhflaa", sum := "0150252f01e400c5ea626697d650264acde6462a20cf01cf72e16f4382f6653d", checked := Try.checked }
namespace Rows
def none {H : Type} : Left H := { results := [], args := [] }

/-- 'laws.FnExactWheelOK': WHATEVER THE INPUT: true; the input reads as it did. -/
def fnExactWheelOKSpec : ChangeSpec := { name := "fnExactWheelOK", fn := fun _ => fun
  | [d] => { results := [.lit (.bool true)], args := [d] }
  | _ => none }
def fnExactWheelOKRow : OpenClaim := { program := "ytojpimpfpjhflaa", sum := "0150252f01e400c5ea626697d650264acde6462a20cf01cf72e16f4382f6653d", func := "loop.example/g00202/laws.FnExactWheelOK", spec := "fnExactWheelOK", unfollowed := true, recurses := true, apart := false }
def FnExactWheelOKSaid : Prop := fnExactWheelOKRow.holds Try.pinned (OpenSpec.ofChange fnExactWheelOKSpec)

/-- ITS FALSE NEIGHBOUR: 'it returns false'. Refute it at one input. -/
def fnExactWheelOKWrong : ChangeSpec := { name := "fnExactWheelOK", fn := fun _ => fun
  | [d] => { results := [.lit (.bool false)], args := [d] }
  | _ => none }
def FnExactWheelOKWrongFalsely : Prop := fnExactWheelOKRow.holds Try.pinned (OpenSpec.ofChange fnExactWheelOKWrong)

/-- 'laws.FnExactWheelNext': WHATEVER THE INPUT: true; the input reads as it did. -/
def fnExactWheelNextSpec : ChangeSpec := { name := "fnExactWheelNext", fn := fun _ => fun
  | [d] => { results := [.lit (.bool true)], args := [d] }
  | _ => none }
def fnExactWheelNextRow : OpenClaim := { program := "ytojpimpfpjhflaa", sum := "0150252f01e400c5ea626697d650264acde6462a20cf01cf72e16f4382f6653d", func := "loop.example/g00202/laws.FnExactWheelNext", spec := "fnExactWheelNext", unfollowed := true, recurses := true, apart := false }
def FnExactWheelNextSaid : Prop := fnExactWheelNextRow.holds Try.pinned (OpenSpec.ofChange fnExactWheelNextSpec)

/-- ITS FALSE NEIGHBOUR: 'it returns false'. Refute it at one input. -/
def fnExactWheelNextWrong : ChangeSpec := { name := "fnExactWheelNext", fn := fun _ => fun
  | [d] => { results := [.lit (.bool false)], args := [d] }
  | _ => none }
def FnExactWheelNextWrongFalsely : Prop := fnExactWheelNextRow.holds Try.pinned (OpenSpec.ofChange fnExactWheelNextWrong)

/-- 'laws.FnWheel': WHATEVER THE INPUT: true; the input reads as it did. -/
def fnWheelSpec : ChangeSpec := { name := "fnWheel", fn := fun _ => fun
  | [d] => { results := [.lit (.bool true)], args := [d] }
  | _ => none }
def fnWheelRow : OpenClaim := { program := "ytojpimpfpjhflaa", sum := "0150252f01e400c5ea626697d650264acde6462a20cf01cf72e16f4382f6653d", func := "loop.example/g00202/laws.FnWheel", spec := "fnWheel", unfollowed := true, recurses := true, apart := false }
def FnWheelSaid : Prop := fnWheelRow.holds Try.pinned (OpenSpec.ofChange fnWheelSpec)

/-- ITS FALSE NEIGHBOUR: 'it returns false'. Refute it at one input. -/
def fnWheelWrong : ChangeSpec := { name := "fnWheel", fn := fun _ => fun
  | [d] => { results := [.lit (.bool false)], args := [d] }
  | _ => none }
def FnWheelWrongFalsely : Prop := fnWheelRow.holds Try.pinned (OpenSpec.ofChange fnWheelWrong)

/-- 'laws.FnExactWheelCancel': WHATEVER THE INPUT: true; the input reads as it did. -/
def fnExactWheelCancelSpec : ChangeSpec := { name := "fnExactWheelCancel", fn := fun _ => fun
  | [d1, d2] => { results := [.lit (.bool true)], args := [d1, d2] }
  | _ => none }
def fnExactWheelCancelRow : OpenClaim := { program := "ytojpimpfpjhflaa", sum := "0150252f01e400c5ea626697d650264acde6462a20cf01cf72e16f4382f6653d", func := "loop.example/g00202/laws.FnExactWheelCancel", spec := "fnExactWheelCancel", unfollowed := true, recurses := true, apart := false }
def FnExactWheelCancelSaid : Prop := fnExactWheelCancelRow.holds Try.pinned (OpenSpec.ofChange fnExactWheelCancelSpec)

/-- ITS FALSE NEIGHBOUR: 'it returns false'. Refute it at one input. -/
def fnExactWheelCancelWrong : ChangeSpec := { name := "fnExactWheelCancel", fn := fun _ => fun
  | [d1, d2] => { results := [.lit (.bool false)], args := [d1, d2] }
  | _ => none }
def FnExactWheelCancelWrongFalsely : Prop := fnExactWheelCancelRow.holds Try.pinned (OpenSpec.ofChange fnExactWheelCancelWrong)

/-- 'laws.FnTimers': WHATEVER THE INPUT: true; the input reads as it did. -/
def fnTimersSpec : ChangeSpec := { name := "fnTimers", fn := fun _ => fun
  | [d1, d2] => { results := [.lit (.bool true)], args := [d1, d2] }
  | _ => none }
def fnTimersRow : OpenClaim := { program := "ytojpimpfpjhflaa", sum := "0150252f01e400c5ea626697d650264acde6462a20cf01cf72e16f4382f6653d", func := "loop.example/g00202/laws.FnTimers", spec := "fnTimers", unfollowed := true, recurses := true, apart := false }
def FnTimersSaid : Prop := fnTimersRow.holds Try.pinned (OpenSpec.ofChange fnTimersSpec)

/-- ITS FALSE NEIGHBOUR: 'it returns false'. Refute it at one input. -/
def fnTimersWrong : ChangeSpec := { name := "fnTimers", fn := fun _ => fun
  | [d1, d2] => { results := [.lit (.bool false)], args := [d1, d2] }
  | _ => none }
def FnTimersWrongFalsely : Prop := fnTimersRow.holds Try.pinned (OpenSpec.ofChange fnTimersWrong)

/-- 'laws.FnExactWheelAdd': WHATEVER THE INPUT: true; the input reads as it did. -/
def fnExactWheelAddSpec : ChangeSpec := { name := "fnExactWheelAdd", fn := fun _ => fun
  | [d1, d2, d3] => { results := [.lit (.bool true)], args := [d1, d2, d3] }
  | _ => none }
def fnExactWheelAddRow : OpenClaim := { program := "ytojpimpfpjhflaa", sum := "0150252f01e400c5ea626697d650264acde6462a20cf01cf72e16f4382f6653d", func := "loop.example/g00202/laws.FnExactWheelAdd", spec := "fnExactWheelAdd", unfollowed := true, recurses := true, apart := false }
def FnExactWheelAddSaid : Prop := fnExactWheelAddRow.holds Try.pinned (OpenSpec.ofChange fnExactWheelAddSpec)

/-- ITS FALSE NEIGHBOUR: 'it returns false'. Refute it at one input. -/
def fnExactWheelAddWrong : ChangeSpec := { name := "fnExactWheelAdd", fn := fun _ => fun
  | [d1, d2, d3] => { results := [.lit (.bool false)], args := [d1, d2, d3] }
  | _ => none }
def FnExactWheelAddWrongFalsely : Prop := fnExactWheelAddRow.holds Try.pinned (OpenSpec.ofChange fnExactWheelAddWrong)

/-- 'laws.FnExactWheelTick': WHATEVER THE INPUT: true; the input reads as it did. -/
def fnExactWheelTickSpec : ChangeSpec := { name := "fnExactWheelTick", fn := fun _ => fun
  | [d] => { results := [.lit (.bool true)], args := [d] }
  | _ => none }
def fnExactWheelTickRow : OpenClaim := { program := "ytojpimpfpjhflaa", sum := "0150252f01e400c5ea626697d650264acde6462a20cf01cf72e16f4382f6653d", func := "loop.example/g00202/laws.FnExactWheelTick", spec := "fnExactWheelTick", unfollowed := true, recurses := true, apart := false }
def FnExactWheelTickSaid : Prop := fnExactWheelTickRow.holds Try.pinned (OpenSpec.ofChange fnExactWheelTickSpec)

/-- ITS FALSE NEIGHBOUR: 'it returns false'. Refute it at one input. -/
def fnExactWheelTickWrong : ChangeSpec := { name := "fnExactWheelTick", fn := fun _ => fun
  | [d] => { results := [.lit (.bool false)], args := [d] }
  | _ => none }
def FnExactWheelTickWrongFalsely : Prop := fnExactWheelTickRow.holds Try.pinned (OpenSpec.ofChange fnExactWheelTickWrong)

/- THE SECOND FORM. 'bulk': how many values and letters a reading holds, each counted each time it is reached (what is shared counts as often as it is met; a slice's spare places count too). A statement '..UptoSaid' is the law's where the arguments, and the package variables that the reading takes, are together of bulk at most 1048576: NARROWER than '..Said'. Prove '..Said' where nothing that the law and all that it calls make is longer than what came in: it says more and counts as full. Else prove '..UptoSaid'. A law counts once. -/
mutual
def uptoBulk {H : Type} : DataW H → Nat
  | .lit (.string bytes) => bytes.length + 1
  | .lit _ => 1
  | .nil => 1
  | .ptr d => uptoBulk d + 1
  | .slice elems spare => uptoBulkAll elems + uptoBulkAll spare + 1
  | .agg parts => uptoBulkAll parts + 1
  | .iface _ d => uptoBulk d + 1
  | .map entries => uptoBulkEntries entries + 1
  | .held _ => 1
def uptoBulkAll {H : Type} : List (DataW H) → Nat
  | [] => 0
  | d :: r => uptoBulk d + uptoBulkAll r
def uptoBulkEntries {H : Type} : List (Lit × DataW H) → Nat
  | [] => 0
  | x :: r => uptoBulkEntry x + uptoBulkEntries r
def uptoBulkEntry {H : Type} : Lit × DataW H → Nat
  | (.string bytes, d) => bytes.length + uptoBulk d + 1
  | (_, d) => uptoBulk d + 1
 end
def uptoSmall : (H : Type) → List (DataW H) → Bool := fun _ ds => decide (uptoBulkAll ds ≤ 1048576)
def OpenSpec.upto (s : _root_.Go.ChangeSpec) : _root_.Go.OpenSpec := { _root_.Go.OpenSpec.ofChange s with cond := some uptoSmall }

/-- 'laws.FnExactWheelOK', WHERE WHAT IT READS IS OF BULK AT MOST 1048576: true; the input reads as it did. -/
def fnExactWheelOKUptoRow : OpenClaim := { program := "ytojpimpfpjhflaa", sum := "0150252f01e400c5ea626697d650264acde6462a20cf01cf72e16f4382f6653d", func := "loop.example/g00202/laws.FnExactWheelOK", spec := "fnExactWheelOK", unfollowed := true, recurses := true, apart := false, narrowed := true }
def FnExactWheelOKUptoSaid : Prop := fnExactWheelOKUptoRow.holds Try.pinned (OpenSpec.upto fnExactWheelOKSpec)

/-- 'laws.FnExactWheelNext', WHERE WHAT IT READS IS OF BULK AT MOST 1048576: true; the input reads as it did. -/
def fnExactWheelNextUptoRow : OpenClaim := { program := "ytojpimpfpjhflaa", sum := "0150252f01e400c5ea626697d650264acde6462a20cf01cf72e16f4382f6653d", func := "loop.example/g00202/laws.FnExactWheelNext", spec := "fnExactWheelNext", unfollowed := true, recurses := true, apart := false, narrowed := true }
def FnExactWheelNextUptoSaid : Prop := fnExactWheelNextUptoRow.holds Try.pinned (OpenSpec.upto fnExactWheelNextSpec)

/-- 'laws.FnWheel', WHERE WHAT IT READS IS OF BULK AT MOST 1048576: true; the input reads as it did. -/
def fnWheelUptoRow : OpenClaim := { program := "ytojpimpfpjhflaa", sum := "0150252f01e400c5ea626697d650264acde6462a20cf01cf72e16f4382f6653d", func := "loop.example/g00202/laws.FnWheel", spec := "fnWheel", unfollowed := true, recurses := true, apart := false, narrowed := true }
def FnWheelUptoSaid : Prop := fnWheelUptoRow.holds Try.pinned (OpenSpec.upto fnWheelSpec)

/-- 'laws.FnExactWheelCancel', WHERE WHAT IT READS IS OF BULK AT MOST 1048576: true; the input reads as it did. -/
def fnExactWheelCancelUptoRow : OpenClaim := { program := "ytojpimpfpjhflaa", sum := "0150252f01e400c5ea626697d650264acde6462a20cf01cf72e16f4382f6653d", func := "loop.example/g00202/laws.FnExactWheelCancel", spec := "fnExactWheelCancel", unfollowed := true, recurses := true, apart := false, narrowed := true }
def FnExactWheelCancelUptoSaid : Prop := fnExactWheelCancelUptoRow.holds Try.pinned (OpenSpec.upto fnExactWheelCancelSpec)

/-- 'laws.FnTimers', WHERE WHAT IT READS IS OF BULK AT MOST 1048576: true; the input reads as it did. -/
def fnTimersUptoRow : OpenClaim := { program := "ytojpimpfpjhflaa", sum := "0150252f01e400c5ea626697d650264acde6462a20cf01cf72e16f4382f6653d", func := "loop.example/g00202/laws.FnTimers", spec := "fnTimers", unfollowed := true, recurses := true, apart := false, narrowed := true }
def FnTimersUptoSaid : Prop := fnTimersUptoRow.holds Try.pinned (OpenSpec.upto fnTimersSpec)

/-- 'laws.FnExactWheelAdd', WHERE WHAT IT READS IS OF BULK AT MOST 1048576: true; the input reads as it did. -/
def fnExactWheelAddUptoRow : OpenClaim := { program := "ytojpimpfpjhflaa", sum := "0150252f01e400c5ea626697d650264acde6462a20cf01cf72e16f4382f6653d", func := "loop.example/g00202/laws.FnExactWheelAdd", spec := "fnExactWheelAdd", unfollowed := true, recurses := true, apart := false, narrowed := true }
def FnExactWheelAddUptoSaid : Prop := fnExactWheelAddUptoRow.holds Try.pinned (OpenSpec.upto fnExactWheelAddSpec)

/-- 'laws.FnExactWheelTick', WHERE WHAT IT READS IS OF BULK AT MOST 1048576: true; the input reads as it did. -/
def fnExactWheelTickUptoRow : OpenClaim := { program := "ytojpimpfpjhflaa", sum := "0150252f01e400c5ea626697d650264acde6462a20cf01cf72e16f4382f6653d", func := "loop.example/g00202/laws.FnExactWheelTick", spec := "fnExactWheelTick", unfollowed := true, recurses := true, apart := false, narrowed := true }
def FnExactWheelTickUptoSaid : Prop := fnExactWheelTickUptoRow.holds Try.pinned (OpenSpec.upto fnExactWheelTickSpec)

end Rows
end Go.Proofs.Ytojpimpfpjhflaa
