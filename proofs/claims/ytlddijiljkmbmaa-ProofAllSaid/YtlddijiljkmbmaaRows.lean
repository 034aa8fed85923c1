/-
  No cell of these rows narrows 'for every input' (looked for: loops, veiled, ifaces, maps, wideKeys, modest, calm, conditions, laid).
  DERIVED. THE GIVEN ROWS OF THIS SEAT. 6 by the template 'for every input the law returns true; each argument reads behind the call as it read before'; 0 by the template 'total and deterministic' (their statements: YtlddijiljkmbmaaTotals.lean).
  GIVEN WITH THE SEED: the statements are not yours to turn. If you find one false, say at which input.
  Laid BY PROGRAM, IN A SANDBOX (cutbox-rows.mjs): the forced cells as the released guide's own fill.sh prints them over the translation 96cf79c442177052… (all of the seat's roots in one cut). By AI agents, Wed Nov 11 2026. No macro, syntax, notation, axiom, sorry.
-/
import Derived.Test.YtlddijiljkmbmaaChecked
import GoSem.Claim
import GoSem.ClaimJoined
import GoSem.ClaimMapViews
import Derived.JoinedTies
import Derived.KernelRfl
namespace Go.Proofs.Ytlddijiljkmbmaa
/- THE CELL 'sum', in the pinned program and in every row, IS THE sha256 OF THE DUMP (.gsa) THAT YtlddijiljkmbmaaProg.lean LOADS. Nothing in Lean hashes anything: it is a label: what it is worth is what the hold of that sum in a sandbox is worth. -/
noncomputable def Try.pinned : Pinned := { name := "ytlddijiljkmbmaa", sum := "96cf79c4421770524a1fd896579c55c131006b26cb3cb9ad5322028d19efc2e5", checked := Try.checked }
namespace Rows
def none {H : Type} : Left H := { results := [], args := [] }

/-- 'curfewlaw22.ProofMany': WHATEVER THE INPUT: true; the input reads as it did. -/
def proofManySpec : ChangeSpec := { name := "proofMany", fn := fun _ => fun
  | [d1, d2] => { results := [.lit (.bool true)], args := [d1, d2] }
  | _ => none }
def proofManyRow : OpenClaim := { program := "ytlddijiljkmbmaa", sum := "96cf79c4421770524a1fd896579c55c131006b26cb3cb9ad5322028d19efc2e5", func := "curfew/curfewlaw22.ProofMany", spec := "proofMany", apart := false }
def ProofManySaid : Prop := proofManyRow.holds Try.pinned (OpenSpec.ofChange proofManySpec)

/-- ITS FALSE NEIGHBOUR: 'it returns false'. Refute it at one input. -/
def proofManyWrong : ChangeSpec := { name := "proofMany", fn := fun _ => fun
  | [d1, d2] => { results := [.lit (.bool false)], args := [d1, d2] }
  | _ => none }
def ProofManyWrongFalsely : Prop := proofManyRow.holds Try.pinned (OpenSpec.ofChange proofManyWrong)

/-- 'curfewlaw22.ProofStarts': WHATEVER THE INPUT: true; the input reads as it did. -/
def proofStartsSpec : ChangeSpec := { name := "proofStarts", fn := fun _ => fun
  | [d1, d2, d3, d4] => { results := [.lit (.bool true)], args := [d1, d2, d3, d4] }
  | _ => none }
def proofStartsRow : OpenClaim := { program := "ytlddijiljkmbmaa", sum := "96cf79c4421770524a1fd896579c55c131006b26cb3cb9ad5322028d19efc2e5", func := "curfew/curfewlaw22.ProofStarts", spec := "proofStarts", apart := false }
def ProofStartsSaid : Prop := proofStartsRow.holds Try.pinned (OpenSpec.ofChange proofStartsSpec)

/-- ITS FALSE NEIGHBOUR: 'it returns false'. Refute it at one input. -/
def proofStartsWrong : ChangeSpec := { name := "proofStarts", fn := fun _ => fun
  | [d1, d2, d3, d4] => { results := [.lit (.bool false)], args := [d1, d2, d3, d4] }
  | _ => none }
def ProofStartsWrongFalsely : Prop := proofStartsRow.holds Try.pinned (OpenSpec.ofChange proofStartsWrong)

/-- 'curfewlaw22.ProofAge': WHATEVER THE INPUT: true; the input reads as it did. -/
def proofAgeSpec : ChangeSpec := { name := "proofAge", fn := fun _ => fun
  | [d1, d2, d3, d4] => { results := [.lit (.bool true)], args := [d1, d2, d3, d4] }
  | _ => none }
def proofAgeRow : OpenClaim := { program := "ytlddijiljkmbmaa", sum := "96cf79c4421770524a1fd896579c55c131006b26cb3cb9ad5322028d19efc2e5", func := "curfew/curfewlaw22.ProofAge", spec := "proofAge", apart := false }
def ProofAgeSaid : Prop := proofAgeRow.holds Try.pinned (OpenSpec.ofChange proofAgeSpec)

/-- ITS FALSE NEIGHBOUR: 'it returns false'. Refute it at one input. -/
def proofAgeWrong : ChangeSpec := { name := "proofAge", fn := fun _ => fun
  | [d1, d2, d3, d4] => { results := [.lit (.bool false)], args := [d1, d2, d3, d4] }
  | _ => none }
def ProofAgeWrongFalsely : Prop := proofAgeRow.holds Try.pinned (OpenSpec.ofChange proofAgeWrong)

/-- 'curfewlaw22.ProofAll': WHATEVER THE INPUT: true; the input reads as it did. -/
def proofAllSpec : ChangeSpec := { name := "proofAll", fn := fun _ => fun
  | [d1, d2, d3, d4] => { results := [.lit (.bool true)], args := [d1, d2, d3, d4] }
  | _ => none }
def proofAllRow : OpenClaim := { program := "ytlddijiljkmbmaa", sum := "96cf79c4421770524a1fd896579c55c131006b26cb3cb9ad5322028d19efc2e5", func := "curfew/curfewlaw22.ProofAll", spec := "proofAll", apart := false }
def ProofAllSaid : Prop := proofAllRow.holds Try.pinned (OpenSpec.ofChange proofAllSpec)

/-- ITS FALSE NEIGHBOUR: 'it returns false'. Refute it at one input. -/
def proofAllWrong : ChangeSpec := { name := "proofAll", fn := fun _ => fun
  | [d1, d2, d3, d4] => { results := [.lit (.bool false)], args := [d1, d2, d3, d4] }
  | _ => none }
def ProofAllWrongFalsely : Prop := proofAllRow.holds Try.pinned (OpenSpec.ofChange proofAllWrong)

/-- 'curfewlaw22.ProofNone': WHATEVER THE INPUT: true; the input reads as it did. -/
def proofNoneSpec : ChangeSpec := { name := "proofNone", fn := fun _ => fun
  | [] => { results := [.lit (.bool true)], args := [] }
  | _ => none }
def proofNoneRow : OpenClaim := { program := "ytlddijiljkmbmaa", sum := "96cf79c4421770524a1fd896579c55c131006b26cb3cb9ad5322028d19efc2e5", func := "curfew/curfewlaw22.ProofNone", spec := "proofNone", apart := false }
def ProofNoneSaid : Prop := proofNoneRow.holds Try.pinned (OpenSpec.ofChange proofNoneSpec)

/-- ITS FALSE NEIGHBOUR: 'it returns false'. Refute it at one input. -/
def proofNoneWrong : ChangeSpec := { name := "proofNone", fn := fun _ => fun
  | [] => { results := [.lit (.bool false)], args := [] }
  | _ => none }
def ProofNoneWrongFalsely : Prop := proofNoneRow.holds Try.pinned (OpenSpec.ofChange proofNoneWrong)

/-- 'curfewlaw22.ProofCommit': WHATEVER THE INPUT: true; the input reads as it did. -/
def proofCommitSpec : ChangeSpec := { name := "proofCommit", fn := fun _ => fun
  | [d1, d2] => { results := [.lit (.bool true)], args := [d1, d2] }
  | _ => none }
def proofCommitRow : OpenClaim := { program := "ytlddijiljkmbmaa", sum := "96cf79c4421770524a1fd896579c55c131006b26cb3cb9ad5322028d19efc2e5", func := "curfew/curfewlaw22.ProofCommit", spec := "proofCommit", apart := false }
def ProofCommitSaid : Prop := proofCommitRow.holds Try.pinned (OpenSpec.ofChange proofCommitSpec)

/-- ITS FALSE NEIGHBOUR: 'it returns false'. Refute it at one input. -/
def proofCommitWrong : ChangeSpec := { name := "proofCommit", fn := fun _ => fun
  | [d1, d2] => { results := [.lit (.bool false)], args := [d1, d2] }
  | _ => none }
def ProofCommitWrongFalsely : Prop := proofCommitRow.holds Try.pinned (OpenSpec.ofChange proofCommitWrong)

/- THE SECOND FORM. 'bulk': how many values and letters a reading holds, each counted each time it is reached (what is shared counts as often as it is met; a slice's spare places count too). A statement '..UptoSaid' is the law's where the arguments, and the package variables that the reading takes, are together of bulk at most 1048576: NARROWER than '..Said'. Prove '..Said' where nothing that the law and all that it calls make is longer than what came in: it says more and counts as full. Else prove '..UptoSaid'. A law counts once. -/
mutual
def uptoBulk {H : Type} : DataW H → Nat
  | .lit (.string bytes) => bytes.length + 1
  | .lit _ => 1
  | .nil => 1
  | .ptr d => uptoBulk d + 1
  | .slice elems spare => uptoBulkAll elems + uptoBulkAll spare + 1
  | .agg parts => uptoBulkAll parts + 1
  | .iface _ d => uptoBulk d + 1
  | .map entries => uptoBulkEntries entries + 1
  | .held _ => 1
def uptoBulkAll {H : Type} : List (DataW H) → Nat
  | [] => 0
  | d :: r => uptoBulk d + uptoBulkAll r
def uptoBulkEntries {H : Type} : List (Lit × DataW H) → Nat
  | [] => 0
  | x :: r => uptoBulkEntry x + uptoBulkEntries r
def uptoBulkEntry {H : Type} : Lit × DataW H → Nat
  | (.string bytes, d) => bytes.length + uptoBulk d + 1
  | (_, d) => uptoBulk d + 1
 end
def uptoSmall : (H : Type) → List (DataW H) → Bool := fun _ ds => decide (uptoBulkAll ds ≤ 1048576)
def OpenSpec.upto (s : _root_.Go.ChangeSpec) : _root_.Go.OpenSpec := { _root_.Go.OpenSpec.ofChange s with cond := some uptoSmall }

/-- 'curfewlaw22.ProofMany', WHERE WHAT IT READS IS OF BULK AT MOST 1048576: true; the input reads as it did. -/
def proofManyUptoRow : OpenClaim := { program := "ytlddijiljkmbmaa", sum := "96cf79c4421770524a1fd896579c55c131006b26cb3cb9ad5322028d19efc2e5", func := "curfew/curfewlaw22.ProofMany", spec := "proofMany", apart := false, narrowed := true }
def ProofManyUptoSaid : Prop := proofManyUptoRow.holds Try.pinned (OpenSpec.upto proofManySpec)

/-- 'curfewlaw22.ProofStarts', WHERE WHAT IT READS IS OF BULK AT MOST 1048576: true; the input reads as it did. -/
def proofStartsUptoRow : OpenClaim := { program := "ytlddijiljkmbmaa", sum := "96cf79c4421770524a1fd896579c55c131006b26cb3cb9ad5322028d19efc2e5", func := "curfew/curfewlaw22.ProofStarts", spec := "proofStarts", apart := false, narrowed := true }
def ProofStartsUptoSaid : Prop := proofStartsUptoRow.holds Try.pinned (OpenSpec.upto proofStartsSpec)

/-- 'curfewlaw22.ProofAge', WHERE WHAT IT READS IS OF BULK AT MOST 1048576: true; the input reads as it did. -/
def proofAgeUptoRow : OpenClaim := { program := "ytlddijiljkmbmaa", sum := "96cf79c4421770524a1fd896579c55c131006b26cb3cb9ad5322028d19efc2e5", func := "curfew/curfewlaw22.ProofAge", spec := "proofAge", apart := false, narrowed := true }
def ProofAgeUptoSaid : Prop := proofAgeUptoRow.holds Try.pinned (OpenSpec.upto proofAgeSpec)

/-- 'curfewlaw22.ProofAll', WHERE WHAT IT READS IS OF BULK AT MOST 1048576: true; the input reads as it did. -/
def proofAllUptoRow : OpenClaim := { program := "ytlddijiljkmbmaa", sum := "96cf79c4421770524a1fd896579c55c131006b26cb3cb9ad5322028d19efc2e5", func := "curfew/curfewlaw22.ProofAll", spec := "proofAll", apart := false, narrowed := true }
def ProofAllUptoSaid : Prop := proofAllUptoRow.holds Try.pinned (OpenSpec.upto proofAllSpec)

/-- 'curfewlaw22.ProofNone', WHERE WHAT IT READS IS OF BULK AT MOST 1048576: true; the input reads as it did. -/
def proofNoneUptoRow : OpenClaim := { program := "ytlddijiljkmbmaa", sum := "96cf79c4421770524a1fd896579c55c131006b26cb3cb9ad5322028d19efc2e5", func := "curfew/curfewlaw22.ProofNone", spec := "proofNone", apart := false, narrowed := true }
def ProofNoneUptoSaid : Prop := proofNoneUptoRow.holds Try.pinned (OpenSpec.upto proofNoneSpec)

/-- 'curfewlaw22.ProofCommit', WHERE WHAT IT READS IS OF BULK AT MOST 1048576: true; the input reads as it did. -/
def proofCommitUptoRow : OpenClaim := { program := "ytlddijiljkmbmaa", sum := "96cf79c4421770524a1fd896579c55c131006b26cb3cb9ad5322028d19efc2e5", func := "curfew/curfewlaw22.ProofCommit", spec := "proofCommit", apart := false, narrowed := true }
def ProofCommitUptoSaid : Prop := proofCommitUptoRow.holds Try.pinned (OpenSpec.upto proofCommitSpec)

end Rows
end Go.Proofs.Ytlddijiljkmbmaa
