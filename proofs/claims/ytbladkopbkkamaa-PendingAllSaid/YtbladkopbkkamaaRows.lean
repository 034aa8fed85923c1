/-
  No cell of these rows narrows 'for every input' (looked for: loops, veiled, ifaces, maps, wideKeys, modest, calm, conditions, laid).
  DERIVED. THE GIVEN ROWS OF THIS SEAT. 7 by the template 'for every input the law returns true; each argument reads behind the call as it read before'; 0 by the template 'total and deterministic' (their statements: YtbladkopbkkamaaTotals.lean).
  GIVEN WITH THE SEED: the statements are not yours to turn. If you find one false, say at which input.
  Laid BY PROGRAM, IN A SANDBOX (cutbox-rows.mjs): the forced cells as the released guide's own fill.sh prints them over the translation 96796bf6a2464240… (all of the seat's roots in one cut). By AI agents, Wed Nov 11 2026. No macro, syntax, notation, axiom, sorry.
-/
import Derived.Test.YtbladkopbkkamaaChecked
import GoSem.Claim
import GoSem.ClaimJoined
import GoSem.ClaimMapViews
import Derived.JoinedTies
import Derived.KernelRfl
namespace Go.Proofs.Ytbladkopbkkamaa
/- THE CELL 'sum', in the pinned program and in every row, IS THE sha256 OF THE DUMP (.gsa) THAT YtbladkopbkkamaaProg.lean LOADS. Nothing in Lean hashes anything: it is a label: what it is worth is what the hold of that sum in a sandbox is worth. -/
noncomputable def Try.pinned : Pinned := { name := "ytbladkopbkkamaa", sum := "96796bf6a2464240de83bb9e8a8f8439f9c53ebb2157c47efc2195d9e8ff679e", checked := Try.checked }
namespace Rows
def none {H : Type} : Left H := { results := [], args := [] }

/-- 'curfewlaw28.JudgeAll': WHATEVER THE INPUT: true; the input reads as it did. -/
def judgeAllSpec : ChangeSpec := { name := "judgeAll", fn := fun _ => fun
  | [d1, d2, d3] => { results := [.lit (.bool true)], args := [d1, d2, d3] }
  | _ => none }
def judgeAllRow : OpenClaim := { program := "ytbladkopbkkamaa", sum := "96796bf6a2464240de83bb9e8a8f8439f9c53ebb2157c47efc2195d9e8ff679e", func := "curfew/curfewlaw28.JudgeAll", spec := "judgeAll", unfollowed := true, recurses := true, apart := false }
def JudgeAllSaid : Prop := judgeAllRow.holds Try.pinned (OpenSpec.ofChange judgeAllSpec)

/-- ITS FALSE NEIGHBOUR: 'it returns false'. Refute it at one input. -/
def judgeAllWrong : ChangeSpec := { name := "judgeAll", fn := fun _ => fun
  | [d1, d2, d3] => { results := [.lit (.bool false)], args := [d1, d2, d3] }
  | _ => none }
def JudgeAllWrongFalsely : Prop := judgeAllRow.holds Try.pinned (OpenSpec.ofChange judgeAllWrong)

/-- 'curfewlaw28.JudgeAgree': WHATEVER THE INPUT: true; the input reads as it did. -/
def judgeAgreeSpec : ChangeSpec := { name := "judgeAgree", fn := fun _ => fun
  | [d1, d2, d3, d4] => { results := [.lit (.bool true)], args := [d1, d2, d3, d4] }
  | _ => none }
def judgeAgreeRow : OpenClaim := { program := "ytbladkopbkkamaa", sum := "96796bf6a2464240de83bb9e8a8f8439f9c53ebb2157c47efc2195d9e8ff679e", func := "curfew/curfewlaw28.JudgeAgree", spec := "judgeAgree", unfollowed := true, recurses := true, apart := false }
def JudgeAgreeSaid : Prop := judgeAgreeRow.holds Try.pinned (OpenSpec.ofChange judgeAgreeSpec)

/-- ITS FALSE NEIGHBOUR: 'it returns false'. Refute it at one input. -/
def judgeAgreeWrong : ChangeSpec := { name := "judgeAgree", fn := fun _ => fun
  | [d1, d2, d3, d4] => { results := [.lit (.bool false)], args := [d1, d2, d3, d4] }
  | _ => none }
def JudgeAgreeWrongFalsely : Prop := judgeAgreeRow.holds Try.pinned (OpenSpec.ofChange judgeAgreeWrong)

/-- 'curfewlaw28.JudgeCut': WHATEVER THE INPUT: true; the input reads as it did. -/
def judgeCutSpec : ChangeSpec := { name := "judgeCut", fn := fun _ => fun
  | [d1, d2] => { results := [.lit (.bool true)], args := [d1, d2] }
  | _ => none }
def judgeCutRow : OpenClaim := { program := "ytbladkopbkkamaa", sum := "96796bf6a2464240de83bb9e8a8f8439f9c53ebb2157c47efc2195d9e8ff679e", func := "curfew/curfewlaw28.JudgeCut", spec := "judgeCut", unfollowed := true, recurses := true, apart := false }
def JudgeCutSaid : Prop := judgeCutRow.holds Try.pinned (OpenSpec.ofChange judgeCutSpec)

/-- ITS FALSE NEIGHBOUR: 'it returns false'. Refute it at one input. -/
def judgeCutWrong : ChangeSpec := { name := "judgeCut", fn := fun _ => fun
  | [d1, d2] => { results := [.lit (.bool false)], args := [d1, d2] }
  | _ => none }
def JudgeCutWrongFalsely : Prop := judgeCutRow.holds Try.pinned (OpenSpec.ofChange judgeCutWrong)

/-- 'curfewlaw28.JudgeApart': WHATEVER THE INPUT: true; the input reads as it did. -/
def judgeApartSpec : ChangeSpec := { name := "judgeApart", fn := fun _ => fun
  | [d1, d2] => { results := [.lit (.bool true)], args := [d1, d2] }
  | _ => none }
def judgeApartRow : OpenClaim := { program := "ytbladkopbkkamaa", sum := "96796bf6a2464240de83bb9e8a8f8439f9c53ebb2157c47efc2195d9e8ff679e", func := "curfew/curfewlaw28.JudgeApart", spec := "judgeApart", unfollowed := true, recurses := true, apart := false }
def JudgeApartSaid : Prop := judgeApartRow.holds Try.pinned (OpenSpec.ofChange judgeApartSpec)

/-- ITS FALSE NEIGHBOUR: 'it returns false'. Refute it at one input. -/
def judgeApartWrong : ChangeSpec := { name := "judgeApart", fn := fun _ => fun
  | [d1, d2] => { results := [.lit (.bool false)], args := [d1, d2] }
  | _ => none }
def JudgeApartWrongFalsely : Prop := judgeApartRow.holds Try.pinned (OpenSpec.ofChange judgeApartWrong)

/-- 'curfewlaw23.PendingAll': WHATEVER THE INPUT: true; the input reads as it did. -/
def pendingAllSpec : ChangeSpec := { name := "pendingAll", fn := fun _ => fun
  | [d1, d2, d3, d4] => { results := [.lit (.bool true)], args := [d1, d2, d3, d4] }
  | _ => none }
def pendingAllRow : OpenClaim := { program := "ytbladkopbkkamaa", sum := "96796bf6a2464240de83bb9e8a8f8439f9c53ebb2157c47efc2195d9e8ff679e", func := "curfew/curfewlaw23.PendingAll", spec := "pendingAll", unfollowed := true, recurses := true, apart := false }
def PendingAllSaid : Prop := pendingAllRow.holds Try.pinned (OpenSpec.ofChange pendingAllSpec)

/-- ITS FALSE NEIGHBOUR: 'it returns false'. Refute it at one input. -/
def pendingAllWrong : ChangeSpec := { name := "pendingAll", fn := fun _ => fun
  | [d1, d2, d3, d4] => { results := [.lit (.bool false)], args := [d1, d2, d3, d4] }
  | _ => none }
def PendingAllWrongFalsely : Prop := pendingAllRow.holds Try.pinned (OpenSpec.ofChange pendingAllWrong)

/-- 'curfewlaw23.PendingNone': WHATEVER THE INPUT: true; the input reads as it did. -/
def pendingNoneSpec : ChangeSpec := { name := "pendingNone", fn := fun _ => fun
  | [] => { results := [.lit (.bool true)], args := [] }
  | _ => none }
def pendingNoneRow : OpenClaim := { program := "ytbladkopbkkamaa", sum := "96796bf6a2464240de83bb9e8a8f8439f9c53ebb2157c47efc2195d9e8ff679e", func := "curfew/curfewlaw23.PendingNone", spec := "pendingNone", unfollowed := true, recurses := true, apart := false }
def PendingNoneSaid : Prop := pendingNoneRow.holds Try.pinned (OpenSpec.ofChange pendingNoneSpec)

/-- ITS FALSE NEIGHBOUR: 'it returns false'. Refute it at one input. -/
def pendingNoneWrong : ChangeSpec := { name := "pendingNone", fn := fun _ => fun
  | [] => { results := [.lit (.bool false)], args := [] }
  | _ => none }
def PendingNoneWrongFalsely : Prop := pendingNoneRow.holds Try.pinned (OpenSpec.ofChange pendingNoneWrong)

/-- 'curfewlaw23.PendingSeq': WHATEVER THE INPUT: true; the input reads as it did. -/
def pendingSeqSpec : ChangeSpec := { name := "pendingSeq", fn := fun _ => fun
  | [d1, d2, d3] => { results := [.lit (.bool true)], args := [d1, d2, d3] }
  | _ => none }
def pendingSeqRow : OpenClaim := { program := "ytbladkopbkkamaa", sum := "96796bf6a2464240de83bb9e8a8f8439f9c53ebb2157c47efc2195d9e8ff679e", func := "curfew/curfewlaw23.PendingSeq", spec := "pendingSeq", unfollowed := true, recurses := true, apart := false }
def PendingSeqSaid : Prop := pendingSeqRow.holds Try.pinned (OpenSpec.ofChange pendingSeqSpec)

/-- ITS FALSE NEIGHBOUR: 'it returns false'. Refute it at one input. -/
def pendingSeqWrong : ChangeSpec := { name := "pendingSeq", fn := fun _ => fun
  | [d1, d2, d3] => { results := [.lit (.bool false)], args := [d1, d2, d3] }
  | _ => none }
def PendingSeqWrongFalsely : Prop := pendingSeqRow.holds Try.pinned (OpenSpec.ofChange pendingSeqWrong)

/- THE SECOND FORM. 'bulk': how many values and letters a reading holds, each counted each time it is reached (what is shared counts as often as it is met; a slice's spare places count too). A statement '..UptoSaid' is the law's where the arguments, and the package variables that the reading takes, are together of bulk at most 1048576: NARROWER than '..Said'. Prove '..Said' where nothing that the law and all that it calls make is longer than what came in: it says more and counts as full. Else prove '..UptoSaid'. A law counts once. -/
mutual
def uptoBulk {H : Type} : DataW H → Nat
  | .lit (.string bytes) => bytes.length + 1
  | .lit _ => 1
  | .nil => 1
  | .ptr d => uptoBulk d + 1
  | .slice elems spare => uptoBulkAll elems + uptoBulkAll spare + 1
  | .agg parts => uptoBulkAll parts + 1
  | .iface _ d => uptoBulk d + 1
  | .map entries => uptoBulkEntries entries + 1
  | .held _ => 1
def uptoBulkAll {H : Type} : List (DataW H) → Nat
  | [] => 0
  | d :: r => uptoBulk d + uptoBulkAll r
def uptoBulkEntries {H : Type} : List (Lit × DataW H) → Nat
  | [] => 0
  | x :: r => uptoBulkEntry x + uptoBulkEntries r
def uptoBulkEntry {H : Type} : Lit × DataW H → Nat
  | (.string bytes, d) => bytes.length + uptoBulk d + 1
  | (_, d) => uptoBulk d + 1
 end
def uptoSmall : (H : Type) → List (DataW H) → Bool := fun _ ds => decide (uptoBulkAll ds ≤ 1048576)
def OpenSpec.upto (s : _root_.Go.ChangeSpec) : _root_.Go.OpenSpec := { _root_.Go.OpenSpec.ofChange s with cond := some uptoSmall }

/-- 'curfewlaw28.JudgeAll', WHERE WHAT IT READS IS OF BULK AT MOST 1048576: true; the input reads as it did. -/
def judgeAllUptoRow : OpenClaim := { program := "ytbladkopbkkamaa", sum := "96796bf6a2464240de83bb9e8a8f8439f9c53ebb2157c47efc2195d9e8ff679e", func := "curfew/curfewlaw28.JudgeAll", spec := "judgeAll", unfollowed := true, recurses := true, apart := false, narrowed := true }
def JudgeAllUptoSaid : Prop := judgeAllUptoRow.holds Try.pinned (OpenSpec.upto judgeAllSpec)

/-- 'curfewlaw28.JudgeAgree', WHERE WHAT IT READS IS OF BULK AT MOST 1048576: true; the input reads as it did. -/
def judgeAgreeUptoRow : OpenClaim := { program := "ytbladkopbkkamaa", sum := "96796bf6a2464240de83bb9e8a8f8439f9c53ebb2157c47efc2195d9e8ff679e", func := "curfew/curfewlaw28.JudgeAgree", spec := "judgeAgree", unfollowed := true, recurses := true, apart := false, narrowed := true }
def JudgeAgreeUptoSaid : Prop := judgeAgreeUptoRow.holds Try.pinned (OpenSpec.upto judgeAgreeSpec)

/-- 'curfewlaw28.JudgeCut', WHERE WHAT IT READS IS OF BULK AT MOST 1048576: true; the input reads as it did. -/
def judgeCutUptoRow : OpenClaim := { program := "ytbladkopbkkamaa", sum := "96796bf6a2464240de83bb9e8a8f8439f9c53ebb2157c47efc2195d9e8ff679e", func := "curfew/curfewlaw28.JudgeCut", spec := "judgeCut", unfollowed := true, recurses := true, apart := false, narrowed := true }
def JudgeCutUptoSaid : Prop := judgeCutUptoRow.holds Try.pinned (OpenSpec.upto judgeCutSpec)

/-- 'curfewlaw28.JudgeApart', WHERE WHAT IT READS IS OF BULK AT MOST 1048576: true; the input reads as it did. -/
def judgeApartUptoRow : OpenClaim := { program := "ytbladkopbkkamaa", sum := "96796bf6a2464240de83bb9e8a8f8439f9c53ebb2157c47efc2195d9e8ff679e", func := "curfew/curfewlaw28.JudgeApart", spec := "judgeApart", unfollowed := true, recurses := true, apart := false, narrowed := true }
def JudgeApartUptoSaid : Prop := judgeApartUptoRow.holds Try.pinned (OpenSpec.upto judgeApartSpec)

/-- 'curfewlaw23.PendingAll', WHERE WHAT IT READS IS OF BULK AT MOST 1048576: true; the input reads as it did. -/
def pendingAllUptoRow : OpenClaim := { program := "ytbladkopbkkamaa", sum := "96796bf6a2464240de83bb9e8a8f8439f9c53ebb2157c47efc2195d9e8ff679e", func := "curfew/curfewlaw23.PendingAll", spec := "pendingAll", unfollowed := true, recurses := true, apart := false, narrowed := true }
def PendingAllUptoSaid : Prop := pendingAllUptoRow.holds Try.pinned (OpenSpec.upto pendingAllSpec)

/-- 'curfewlaw23.PendingNone', WHERE WHAT IT READS IS OF BULK AT MOST 1048576: true; the input reads as it did. -/
def pendingNoneUptoRow : OpenClaim := { program := "ytbladkopbkkamaa", sum := "96796bf6a2464240de83bb9e8a8f8439f9c53ebb2157c47efc2195d9e8ff679e", func := "curfew/curfewlaw23.PendingNone", spec := "pendingNone", unfollowed := true, recurses := true, apart := false, narrowed := true }
def PendingNoneUptoSaid : Prop := pendingNoneUptoRow.holds Try.pinned (OpenSpec.upto pendingNoneSpec)

/-- 'curfewlaw23.PendingSeq', WHERE WHAT IT READS IS OF BULK AT MOST 1048576: true; the input reads as it did. -/
def pendingSeqUptoRow : OpenClaim := { program := "ytbladkopbkkamaa", sum := "96796bf6a2464240de83bb9e8a8f8439f9c53ebb2157c47efc2195d9e8ff679e", func := "curfew/curfewlaw23.PendingSeq", spec := "pendingSeq", unfollowed := true, recurses := true, apart := false, narrowed := true }
def PendingSeqUptoSaid : Prop := pendingSeqUptoRow.holds Try.pinned (OpenSpec.upto pendingSeqSpec)

end Rows
end Go.Proofs.Ytbladkopbkkamaa
