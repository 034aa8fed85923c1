/-
  No cell of these rows narrows 'for every input' (looked for: loops, veiled, ifaces, maps, wideKeys, modest, calm, conditions, laid).
  DERIVED. THE GIVEN ROWS OF THIS SEAT. 9 by the template 'for every input the law returns true; each argument reads behind the call as it read before'; 0 by the template 'total and deterministic' (their statements: YtcjnmiopklkifaaTotals.lean).
  GIVEN WITH THE SEED: the statements are not yours to turn. If you find one false, say at which input.
  Laid BY PROGRAM, IN A SANDBOX (cutbox-rows.mjs): the forced cells as the released guide's own fill.sh prints them over the translation 335bdc0158af4583… (all of the seat's roots in one cut). By AI agents, Wed Nov 11 2026. No macro, syntax, notation, axiom, sorry.
-/
import Derived.Test.YtcjnmiopklkifaaChecked
import GoSem.Claim
import GoSem.ClaimJoined
import GoSem.ClaimMapViews
import Derived.JoinedTies
import Derived.KernelRfl
namespace Go.Proofs.Ytcjnmiopklkifaa
/- THE CELL 'sum', in the pinned program and in every row, IS THE sha256 OF THE DUMP (.gsa) THAT YtcjnmiopklkifaaProg.lean LOADS. Nothing in Lean hashes anything: it is a label: what it is worth is what the hold of that sum in a sandbox is worth. -/
noncomputable def Try.pinned : Pinned := { name := "ytcjnmiopklkifaa", sum := "335bdc0158af45833370edf5c9e67035cc5d91d4edd3d9546e96de98b5b831aa", checked := Try.checked }
namespace Rows
def none {H : Type} : Left H := { results := [], args := [] }

/-- 'curfewlaw14.ReadyAll': WHATEVER THE INPUT: true; the input reads as it did. -/
def readyAllSpec : ChangeSpec := { name := "readyAll", fn := fun _ => fun
  | [d1, d2] => { results := [.lit (.bool true)], args := [d1, d2] }
  | _ => none }
def readyAllRow : OpenClaim := { program := "ytcjnmiopklkifaa", sum := "335bdc0158af45833370edf5c9e67035cc5d91d4edd3d9546e96de98b5b831aa", func := "curfew/curfewlaw14.ReadyAll", spec := "readyAll", unfollowed := true, recurses := true, apart := false }
def ReadyAllSaid : Prop := readyAllRow.holds Try.pinned (OpenSpec.ofChange readyAllSpec)

/-- ITS FALSE NEIGHBOUR: 'it returns false'. Refute it at one input. -/
def readyAllWrong : ChangeSpec := { name := "readyAll", fn := fun _ => fun
  | [d1, d2] => { results := [.lit (.bool false)], args := [d1, d2] }
  | _ => none }
def ReadyAllWrongFalsely : Prop := readyAllRow.holds Try.pinned (OpenSpec.ofChange readyAllWrong)

/-- 'curfewlaw14.ReadyTwo': WHATEVER THE INPUT: true; the input reads as it did. -/
def readyTwoSpec : ChangeSpec := { name := "readyTwo", fn := fun _ => fun
  | [d1, d2, d3, d4, d5] => { results := [.lit (.bool true)], args := [d1, d2, d3, d4, d5] }
  | _ => none }
def readyTwoRow : OpenClaim := { program := "ytcjnmiopklkifaa", sum := "335bdc0158af45833370edf5c9e67035cc5d91d4edd3d9546e96de98b5b831aa", func := "curfew/curfewlaw14.ReadyTwo", spec := "readyTwo", unfollowed := true, recurses := true, apart := false }
def ReadyTwoSaid : Prop := readyTwoRow.holds Try.pinned (OpenSpec.ofChange readyTwoSpec)

/-- ITS FALSE NEIGHBOUR: 'it returns false'. Refute it at one input. -/
def readyTwoWrong : ChangeSpec := { name := "readyTwo", fn := fun _ => fun
  | [d1, d2, d3, d4, d5] => { results := [.lit (.bool false)], args := [d1, d2, d3, d4, d5] }
  | _ => none }
def ReadyTwoWrongFalsely : Prop := readyTwoRow.holds Try.pinned (OpenSpec.ofChange readyTwoWrong)

/-- 'curfewlaw14.ReadyFirm': WHATEVER THE INPUT: true; the input reads as it did. -/
def readyFirmSpec : ChangeSpec := { name := "readyFirm", fn := fun _ => fun
  | [d1, d2] => { results := [.lit (.bool true)], args := [d1, d2] }
  | _ => none }
def readyFirmRow : OpenClaim := { program := "ytcjnmiopklkifaa", sum := "335bdc0158af45833370edf5c9e67035cc5d91d4edd3d9546e96de98b5b831aa", func := "curfew/curfewlaw14.ReadyFirm", spec := "readyFirm", unfollowed := true, recurses := true, apart := false }
def ReadyFirmSaid : Prop := readyFirmRow.holds Try.pinned (OpenSpec.ofChange readyFirmSpec)

/-- ITS FALSE NEIGHBOUR: 'it returns false'. Refute it at one input. -/
def readyFirmWrong : ChangeSpec := { name := "readyFirm", fn := fun _ => fun
  | [d1, d2] => { results := [.lit (.bool false)], args := [d1, d2] }
  | _ => none }
def ReadyFirmWrongFalsely : Prop := readyFirmRow.holds Try.pinned (OpenSpec.ofChange readyFirmWrong)

/-- 'curfewlaw14.ReadyEnd': WHATEVER THE INPUT: true; the input reads as it did. -/
def readyEndSpec : ChangeSpec := { name := "readyEnd", fn := fun _ => fun
  | [d1, d2] => { results := [.lit (.bool true)], args := [d1, d2] }
  | _ => none }
def readyEndRow : OpenClaim := { program := "ytcjnmiopklkifaa", sum := "335bdc0158af45833370edf5c9e67035cc5d91d4edd3d9546e96de98b5b831aa", func := "curfew/curfewlaw14.ReadyEnd", spec := "readyEnd", unfollowed := true, recurses := true, apart := false }
def ReadyEndSaid : Prop := readyEndRow.holds Try.pinned (OpenSpec.ofChange readyEndSpec)

/-- ITS FALSE NEIGHBOUR: 'it returns false'. Refute it at one input. -/
def readyEndWrong : ChangeSpec := { name := "readyEnd", fn := fun _ => fun
  | [d1, d2] => { results := [.lit (.bool false)], args := [d1, d2] }
  | _ => none }
def ReadyEndWrongFalsely : Prop := readyEndRow.holds Try.pinned (OpenSpec.ofChange readyEndWrong)

/-- 'curfewlaw14.ReadyNone': WHATEVER THE INPUT: true; the input reads as it did. -/
def readyNoneSpec : ChangeSpec := { name := "readyNone", fn := fun _ => fun
  | [] => { results := [.lit (.bool true)], args := [] }
  | _ => none }
def readyNoneRow : OpenClaim := { program := "ytcjnmiopklkifaa", sum := "335bdc0158af45833370edf5c9e67035cc5d91d4edd3d9546e96de98b5b831aa", func := "curfew/curfewlaw14.ReadyNone", spec := "readyNone", unfollowed := true, recurses := true, apart := false }
def ReadyNoneSaid : Prop := readyNoneRow.holds Try.pinned (OpenSpec.ofChange readyNoneSpec)

/-- ITS FALSE NEIGHBOUR: 'it returns false'. Refute it at one input. -/
def readyNoneWrong : ChangeSpec := { name := "readyNone", fn := fun _ => fun
  | [] => { results := [.lit (.bool false)], args := [] }
  | _ => none }
def ReadyNoneWrongFalsely : Prop := readyNoneRow.holds Try.pinned (OpenSpec.ofChange readyNoneWrong)

/-- 'curfewlaw14.ReadyOrder': WHATEVER THE INPUT: true; the input reads as it did. -/
def readyOrderSpec : ChangeSpec := { name := "readyOrder", fn := fun _ => fun
  | [d1, d2] => { results := [.lit (.bool true)], args := [d1, d2] }
  | _ => none }
def readyOrderRow : OpenClaim := { program := "ytcjnmiopklkifaa", sum := "335bdc0158af45833370edf5c9e67035cc5d91d4edd3d9546e96de98b5b831aa", func := "curfew/curfewlaw14.ReadyOrder", spec := "readyOrder", unfollowed := true, recurses := true, apart := false }
def ReadyOrderSaid : Prop := readyOrderRow.holds Try.pinned (OpenSpec.ofChange readyOrderSpec)

/-- ITS FALSE NEIGHBOUR: 'it returns false'. Refute it at one input. -/
def readyOrderWrong : ChangeSpec := { name := "readyOrder", fn := fun _ => fun
  | [d1, d2] => { results := [.lit (.bool false)], args := [d1, d2] }
  | _ => none }
def ReadyOrderWrongFalsely : Prop := readyOrderRow.holds Try.pinned (OpenSpec.ofChange readyOrderWrong)

/-- 'curfewlaw14.ReadyStrict': WHATEVER THE INPUT: true; the input reads as it did. -/
def readyStrictSpec : ChangeSpec := { name := "readyStrict", fn := fun _ => fun
  | [d1, d2] => { results := [.lit (.bool true)], args := [d1, d2] }
  | _ => none }
def readyStrictRow : OpenClaim := { program := "ytcjnmiopklkifaa", sum := "335bdc0158af45833370edf5c9e67035cc5d91d4edd3d9546e96de98b5b831aa", func := "curfew/curfewlaw14.ReadyStrict", spec := "readyStrict", unfollowed := true, recurses := true, apart := false }
def ReadyStrictSaid : Prop := readyStrictRow.holds Try.pinned (OpenSpec.ofChange readyStrictSpec)

/-- ITS FALSE NEIGHBOUR: 'it returns false'. Refute it at one input. -/
def readyStrictWrong : ChangeSpec := { name := "readyStrict", fn := fun _ => fun
  | [d1, d2] => { results := [.lit (.bool false)], args := [d1, d2] }
  | _ => none }
def ReadyStrictWrongFalsely : Prop := readyStrictRow.holds Try.pinned (OpenSpec.ofChange readyStrictWrong)

/-- 'curfewlaw14.ReadyTimed': WHATEVER THE INPUT: true; the input reads as it did. -/
def readyTimedSpec : ChangeSpec := { name := "readyTimed", fn := fun _ => fun
  | [d1, d2] => { results := [.lit (.bool true)], args := [d1, d2] }
  | _ => none }
def readyTimedRow : OpenClaim := { program := "ytcjnmiopklkifaa", sum := "335bdc0158af45833370edf5c9e67035cc5d91d4edd3d9546e96de98b5b831aa", func := "curfew/curfewlaw14.ReadyTimed", spec := "readyTimed", unfollowed := true, recurses := true, apart := false }
def ReadyTimedSaid : Prop := readyTimedRow.holds Try.pinned (OpenSpec.ofChange readyTimedSpec)

/-- ITS FALSE NEIGHBOUR: 'it returns false'. Refute it at one input. -/
def readyTimedWrong : ChangeSpec := { name := "readyTimed", fn := fun _ => fun
  | [d1, d2] => { results := [.lit (.bool false)], args := [d1, d2] }
  | _ => none }
def ReadyTimedWrongFalsely : Prop := readyTimedRow.holds Try.pinned (OpenSpec.ofChange readyTimedWrong)

/-- 'curfewlaw14.ReadyWeak': WHATEVER THE INPUT: true; the input reads as it did. -/
def readyWeakSpec : ChangeSpec := { name := "readyWeak", fn := fun _ => fun
  | [d] => { results := [.lit (.bool true)], args := [d] }
  | _ => none }
def readyWeakRow : OpenClaim := { program := "ytcjnmiopklkifaa", sum := "335bdc0158af45833370edf5c9e67035cc5d91d4edd3d9546e96de98b5b831aa", func := "curfew/curfewlaw14.ReadyWeak", spec := "readyWeak", unfollowed := true, recurses := true, apart := false }
def ReadyWeakSaid : Prop := readyWeakRow.holds Try.pinned (OpenSpec.ofChange readyWeakSpec)

/-- ITS FALSE NEIGHBOUR: 'it returns false'. Refute it at one input. -/
def readyWeakWrong : ChangeSpec := { name := "readyWeak", fn := fun _ => fun
  | [d] => { results := [.lit (.bool false)], args := [d] }
  | _ => none }
def ReadyWeakWrongFalsely : Prop := readyWeakRow.holds Try.pinned (OpenSpec.ofChange readyWeakWrong)

/- THE SECOND FORM. 'bulk': how many values and letters a reading holds, each counted each time it is reached (what is shared counts as often as it is met; a slice's spare places count too). A statement '..UptoSaid' is the law's where the arguments, and the package variables that the reading takes, are together of bulk at most 1048576: NARROWER than '..Said'. Prove '..Said' where nothing that the law and all that it calls make is longer than what came in: it says more and counts as full. Else prove '..UptoSaid'. A law counts once. -/
mutual
def uptoBulk {H : Type} : DataW H → Nat
  | .lit (.string bytes) => bytes.length + 1
  | .lit _ => 1
  | .nil => 1
  | .ptr d => uptoBulk d + 1
  | .slice elems spare => uptoBulkAll elems + uptoBulkAll spare + 1
  | .agg parts => uptoBulkAll parts + 1
  | .iface _ d => uptoBulk d + 1
  | .map entries => uptoBulkEntries entries + 1
  | .held _ => 1
def uptoBulkAll {H : Type} : List (DataW H) → Nat
  | [] => 0
  | d :: r => uptoBulk d + uptoBulkAll r
def uptoBulkEntries {H : Type} : List (Lit × DataW H) → Nat
  | [] => 0
  | x :: r => uptoBulkEntry x + uptoBulkEntries r
def uptoBulkEntry {H : Type} : Lit × DataW H → Nat
  | (.string bytes, d) => bytes.length + uptoBulk d + 1
  | (_, d) => uptoBulk d + 1
 end
def uptoSmall : (H : Type) → List (DataW H) → Bool := fun _ ds => decide (uptoBulkAll ds ≤ 1048576)
def OpenSpec.upto (s : _root_.Go.ChangeSpec) : _root_.Go.OpenSpec := { _root_.Go.OpenSpec.ofChange s with cond := some uptoSmall }

/-- 'curfewlaw14.ReadyAll', WHERE WHAT IT READS IS OF BULK AT MOST 1048576: true; the input reads as it did. -/
def readyAllUptoRow : OpenClaim := { program := "ytcjnmiopklkifaa", sum := "335bdc0158af45833370edf5c9e67035cc5d91d4edd3d9546e96de98b5b831aa", func := "curfew/curfewlaw14.ReadyAll", spec := "readyAll", unfollowed := true, recurses := true, apart := false, narrowed := true }
def ReadyAllUptoSaid : Prop := readyAllUptoRow.holds Try.pinned (OpenSpec.upto readyAllSpec)

/-- 'curfewlaw14.ReadyTwo', WHERE WHAT IT READS IS OF BULK AT MOST 1048576: true; the input reads as it did. -/
def readyTwoUptoRow : OpenClaim := { program := "ytcjnmiopklkifaa", sum := "335bdc0158af45833370edf5c9e67035cc5d91d4edd3d9546e96de98b5b831aa", func := "curfew/curfewlaw14.ReadyTwo", spec := "readyTwo", unfollowed := true, recurses := true, apart := false, narrowed := true }
def ReadyTwoUptoSaid : Prop := readyTwoUptoRow.holds Try.pinned (OpenSpec.upto readyTwoSpec)

/-- 'curfewlaw14.ReadyFirm', WHERE WHAT IT READS IS OF BULK AT MOST 1048576: true; the input reads as it did. -/
def readyFirmUptoRow : OpenClaim := { program := "ytcjnmiopklkifaa", sum := "335bdc0158af45833370edf5c9e67035cc5d91d4edd3d9546e96de98b5b831aa", func := "curfew/curfewlaw14.ReadyFirm", spec := "readyFirm", unfollowed := true, recurses := true, apart := false, narrowed := true }
def ReadyFirmUptoSaid : Prop := readyFirmUptoRow.holds Try.pinned (OpenSpec.upto readyFirmSpec)

/-- 'curfewlaw14.ReadyEnd', WHERE WHAT IT READS IS OF BULK AT MOST 1048576: true; the input reads as it did. -/
def readyEndUptoRow : OpenClaim := { program := "ytcjnmiopklkifaa", sum := "335bdc0158af45833370edf5c9e67035cc5d91d4edd3d9546e96de98b5b831aa", func := "curfew/curfewlaw14.ReadyEnd", spec := "readyEnd", unfollowed := true, recurses := true, apart := false, narrowed := true }
def ReadyEndUptoSaid : Prop := readyEndUptoRow.holds Try.pinned (OpenSpec.upto readyEndSpec)

/-- 'curfewlaw14.ReadyNone', WHERE WHAT IT READS IS OF BULK AT MOST 1048576: true; the input reads as it did. -/
def readyNoneUptoRow : OpenClaim := { program := "ytcjnmiopklkifaa", sum := "335bdc0158af45833370edf5c9e67035cc5d91d4edd3d9546e96de98b5b831aa", func := "curfew/curfewlaw14.ReadyNone", spec := "readyNone", unfollowed := true, recurses := true, apart := false, narrowed := true }
def ReadyNoneUptoSaid : Prop := readyNoneUptoRow.holds Try.pinned (OpenSpec.upto readyNoneSpec)

/-- 'curfewlaw14.ReadyOrder', WHERE WHAT IT READS IS OF BULK AT MOST 1048576: true; the input reads as it did. -/
def readyOrderUptoRow : OpenClaim := { program := "ytcjnmiopklkifaa", sum := "335bdc0158af45833370edf5c9e67035cc5d91d4edd3d9546e96de98b5b831aa", func := "curfew/curfewlaw14.ReadyOrder", spec := "readyOrder", unfollowed := true, recurses := true, apart := false, narrowed := true }
def ReadyOrderUptoSaid : Prop := readyOrderUptoRow.holds Try.pinned (OpenSpec.upto readyOrderSpec)

/-- 'curfewlaw14.ReadyStrict', WHERE WHAT IT READS IS OF BULK AT MOST 1048576: true; the input reads as it did. -/
def readyStrictUptoRow : OpenClaim := { program := "ytcjnmiopklkifaa", sum := "335bdc0158af45833370edf5c9e67035cc5d91d4edd3d9546e96de98b5b831aa", func := "curfew/curfewlaw14.ReadyStrict", spec := "readyStrict", unfollowed := true, recurses := true, apart := false, narrowed := true }
def ReadyStrictUptoSaid : Prop := readyStrictUptoRow.holds Try.pinned (OpenSpec.upto readyStrictSpec)

/-- 'curfewlaw14.ReadyTimed', WHERE WHAT IT READS IS OF BULK AT MOST 1048576: true; the input reads as it did. -/
def readyTimedUptoRow : OpenClaim := { program := "ytcjnmiopklkifaa", sum := "335bdc0158af45833370edf5c9e67035cc5d91d4edd3d9546e96de98b5b831aa", func := "curfew/curfewlaw14.ReadyTimed", spec := "readyTimed", unfollowed := true, recurses := true, apart := false, narrowed := true }
def ReadyTimedUptoSaid : Prop := readyTimedUptoRow.holds Try.pinned (OpenSpec.upto readyTimedSpec)

/-- 'curfewlaw14.ReadyWeak', WHERE WHAT IT READS IS OF BULK AT MOST 1048576: true; the input reads as it did. -/
def readyWeakUptoRow : OpenClaim := { program := "ytcjnmiopklkifaa", sum := "335bdc0158af45833370edf5c9e67035cc5d91d4edd3d9546e96de98b5b831aa", func := "curfew/curfewlaw14.ReadyWeak", spec := "readyWeak", unfollowed := true, recurses := true, apart := false, narrowed := true }
def ReadyWeakUptoSaid : Prop := readyWeakUptoRow.holds Try.pinned (OpenSpec.upto readyWeakSpec)

end Rows
end Go.Proofs.Ytcjnmiopklkifaa
