/-
  No cell of these rows narrows 'for every input' (looked for: loops, veiled, ifaces, maps, wideKeys, modest, calm, conditions, laid).
  DERIVED. THE GIVEN ROWS OF THIS SEAT. 5 by the template 'for every input the law returns true; each argument reads behind the call as it read before'; 0 by the template 'total and deterministic' (their statements: YtknaolgiameklaaTotals.lean).
  GIVEN WITH THE SEED: the statements are not yours to turn. If you find one false, say at which input.
  Laid BY PROGRAM, IN A SANDBOX (cutbox-rows.mjs): the forced cells as the released guide's own fill.sh prints them over the translation 1bff4c751a303fb3… (all of the seat's roots in one cut). By AI agents, Wed Nov 11 2026. No macro, syntax, notation, axiom, sorry.
-/
import Derived.Test.YtknaolgiameklaaChecked
import GoSem.Claim
import GoSem.ClaimJoined
import GoSem.ClaimMapViews
import Derived.JoinedTies
import Derived.KernelRfl
namespace Go.Proofs.Ytknaolgiameklaa
/- THE CELL 'sum', in the pinned program and in every row, IS THE sha256 OF THE DUMP (.gsa) THAT YtknaolgiameklaaProg.lean LOADS. Nothing in Lean hashes anything: it is a label: what it is worth is what the hold of that sum in a sandbox is worth. -/
noncomputable def Try.pinned : Pinned := { name := "ytknaolgiameklaa", sum := "1bff4c751a303fb3d1531d0a286dd7b9872f6ba83076f89ae03f2e5e8594e2ad", checked := Try.checked }
namespace Rows
def none {H : Type} : Left H := { results := [], args := [] }

/-- 'curfewlaw0.Names': WHATEVER THE INPUT: true; the input reads as it did. -/
def namesSpec : ChangeSpec := { name := "names", fn := fun _ => fun
  | [] => { results := [.lit (.bool true)], args := [] }
  | _ => none }
def namesRow : OpenClaim := { program := "ytknaolgiameklaa", sum := "1bff4c751a303fb3d1531d0a286dd7b9872f6ba83076f89ae03f2e5e8594e2ad", func := "curfew/curfewlaw0.Names", spec := "names", apart := false }
def NamesSaid : Prop := namesRow.holds Try.pinned (OpenSpec.ofChange namesSpec)

/-- ITS FALSE NEIGHBOUR: 'it returns false'. Refute it at one input. -/
def namesWrong : ChangeSpec := { name := "names", fn := fun _ => fun
  | [] => { results := [.lit (.bool false)], args := [] }
  | _ => none }
def NamesWrongFalsely : Prop := namesRow.holds Try.pinned (OpenSpec.ofChange namesWrong)

/-- 'curfewlaw5.TallyAll': WHATEVER THE INPUT: true; the input reads as it did. -/
def tallyAllSpec : ChangeSpec := { name := "tallyAll", fn := fun _ => fun
  | [d] => { results := [.lit (.bool true)], args := [d] }
  | _ => none }
def tallyAllRow : OpenClaim := { program := "ytknaolgiameklaa", sum := "1bff4c751a303fb3d1531d0a286dd7b9872f6ba83076f89ae03f2e5e8594e2ad", func := "curfew/curfewlaw5.TallyAll", spec := "tallyAll", inPlace := ["sync/atomic.AddInt64", "sync/atomic.LoadInt64", "sync/atomic.SwapInt64"], apart := false }
def TallyAllSaid : Prop := tallyAllRow.holds Try.pinned (OpenSpec.ofChange tallyAllSpec)

/-- ITS FALSE NEIGHBOUR: 'it returns false'. Refute it at one input. -/
def tallyAllWrong : ChangeSpec := { name := "tallyAll", fn := fun _ => fun
  | [d] => { results := [.lit (.bool false)], args := [d] }
  | _ => none }
def TallyAllWrongFalsely : Prop := tallyAllRow.holds Try.pinned (OpenSpec.ofChange tallyAllWrong)

/-- 'curfewlaw5.TallyTwo': WHATEVER THE INPUT: true; the input reads as it did. -/
def tallyTwoSpec : ChangeSpec := { name := "tallyTwo", fn := fun _ => fun
  | [d1, d2, d3] => { results := [.lit (.bool true)], args := [d1, d2, d3] }
  | _ => none }
def tallyTwoRow : OpenClaim := { program := "ytknaolgiameklaa", sum := "1bff4c751a303fb3d1531d0a286dd7b9872f6ba83076f89ae03f2e5e8594e2ad", func := "curfew/curfewlaw5.TallyTwo", spec := "tallyTwo", inPlace := ["sync/atomic.AddInt64", "sync/atomic.LoadInt64", "sync/atomic.SwapInt64"], apart := false }
def TallyTwoSaid : Prop := tallyTwoRow.holds Try.pinned (OpenSpec.ofChange tallyTwoSpec)

/-- ITS FALSE NEIGHBOUR: 'it returns false'. Refute it at one input. -/
def tallyTwoWrong : ChangeSpec := { name := "tallyTwo", fn := fun _ => fun
  | [d1, d2, d3] => { results := [.lit (.bool false)], args := [d1, d2, d3] }
  | _ => none }
def TallyTwoWrongFalsely : Prop := tallyTwoRow.holds Try.pinned (OpenSpec.ofChange tallyTwoWrong)

/-- 'curfewlaw5.TallyNone': WHATEVER THE INPUT: true; the input reads as it did. -/
def tallyNoneSpec : ChangeSpec := { name := "tallyNone", fn := fun _ => fun
  | [] => { results := [.lit (.bool true)], args := [] }
  | _ => none }
def tallyNoneRow : OpenClaim := { program := "ytknaolgiameklaa", sum := "1bff4c751a303fb3d1531d0a286dd7b9872f6ba83076f89ae03f2e5e8594e2ad", func := "curfew/curfewlaw5.TallyNone", spec := "tallyNone", inPlace := ["sync/atomic.AddInt64", "sync/atomic.LoadInt64", "sync/atomic.SwapInt64"], apart := false }
def TallyNoneSaid : Prop := tallyNoneRow.holds Try.pinned (OpenSpec.ofChange tallyNoneSpec)

/-- ITS FALSE NEIGHBOUR: 'it returns false'. Refute it at one input. -/
def tallyNoneWrong : ChangeSpec := { name := "tallyNone", fn := fun _ => fun
  | [] => { results := [.lit (.bool false)], args := [] }
  | _ => none }
def TallyNoneWrongFalsely : Prop := tallyNoneRow.holds Try.pinned (OpenSpec.ofChange tallyNoneWrong)

/-- 'curfewlaw5.TallyReset': WHATEVER THE INPUT: true; the input reads as it did. -/
def tallyResetSpec : ChangeSpec := { name := "tallyReset", fn := fun _ => fun
  | [d1, d2] => { results := [.lit (.bool true)], args := [d1, d2] }
  | _ => none }
def tallyResetRow : OpenClaim := { program := "ytknaolgiameklaa", sum := "1bff4c751a303fb3d1531d0a286dd7b9872f6ba83076f89ae03f2e5e8594e2ad", func := "curfew/curfewlaw5.TallyReset", spec := "tallyReset", inPlace := ["sync/atomic.AddInt64", "sync/atomic.LoadInt64", "sync/atomic.SwapInt64"], apart := false }
def TallyResetSaid : Prop := tallyResetRow.holds Try.pinned (OpenSpec.ofChange tallyResetSpec)

/-- ITS FALSE NEIGHBOUR: 'it returns false'. Refute it at one input. -/
def tallyResetWrong : ChangeSpec := { name := "tallyReset", fn := fun _ => fun
  | [d1, d2] => { results := [.lit (.bool false)], args := [d1, d2] }
  | _ => none }
def TallyResetWrongFalsely : Prop := tallyResetRow.holds Try.pinned (OpenSpec.ofChange tallyResetWrong)

/- THE SECOND FORM. 'bulk': how many values and letters a reading holds, each counted each time it is reached (what is shared counts as often as it is met; a slice's spare places count too). A statement '..UptoSaid' is the law's where the arguments, and the package variables that the reading takes, are together of bulk at most 1048576: NARROWER than '..Said'. Prove '..Said' where nothing that the law and all that it calls make is longer than what came in: it says more and counts as full. Else prove '..UptoSaid'. A law counts once. -/
mutual
def uptoBulk {H : Type} : DataW H → Nat
  | .lit (.string bytes) => bytes.length + 1
  | .lit _ => 1
  | .nil => 1
  | .ptr d => uptoBulk d + 1
  | .slice elems spare => uptoBulkAll elems + uptoBulkAll spare + 1
  | .agg parts => uptoBulkAll parts + 1
  | .iface _ d => uptoBulk d + 1
  | .map entries => uptoBulkEntries entries + 1
  | .held _ => 1
def uptoBulkAll {H : Type} : List (DataW H) → Nat
  | [] => 0
  | d :: r => uptoBulk d + uptoBulkAll r
def uptoBulkEntries {H : Type} : List (Lit × DataW H) → Nat
  | [] => 0
  | x :: r => uptoBulkEntry x + uptoBulkEntries r
def uptoBulkEntry {H : Type} : Lit × DataW H → Nat
  | (.string bytes, d) => bytes.length + uptoBulk d + 1
  | (_, d) => uptoBulk d + 1
 end
def uptoSmall : (H : Type) → List (DataW H) → Bool := fun _ ds => decide (uptoBulkAll ds ≤ 1048576)
def OpenSpec.upto (s : _root_.Go.ChangeSpec) : _root_.Go.OpenSpec := { _root_.Go.OpenSpec.ofChange s with cond := some uptoSmall }

/-- 'curfewlaw0.Names', WHERE WHAT IT READS IS OF BULK AT MOST 1048576: true; the input reads as it did. -/
def namesUptoRow : OpenClaim := { program := "ytknaolgiameklaa", sum := "1bff4c751a303fb3d1531d0a286dd7b9872f6ba83076f89ae03f2e5e8594e2ad", func := "curfew/curfewlaw0.Names", spec := "names", apart := false, narrowed := true }
def NamesUptoSaid : Prop := namesUptoRow.holds Try.pinned (OpenSpec.upto namesSpec)

/-- 'curfewlaw5.TallyAll', WHERE WHAT IT READS IS OF BULK AT MOST 1048576: true; the input reads as it did. -/
def tallyAllUptoRow : OpenClaim := { program := "ytknaolgiameklaa", sum := "1bff4c751a303fb3d1531d0a286dd7b9872f6ba83076f89ae03f2e5e8594e2ad", func := "curfew/curfewlaw5.TallyAll", spec := "tallyAll", inPlace := ["sync/atomic.AddInt64", "sync/atomic.LoadInt64", "sync/atomic.SwapInt64"], apart := false, narrowed := true }
def TallyAllUptoSaid : Prop := tallyAllUptoRow.holds Try.pinned (OpenSpec.upto tallyAllSpec)

/-- 'curfewlaw5.TallyTwo', WHERE WHAT IT READS IS OF BULK AT MOST 1048576: true; the input reads as it did. -/
def tallyTwoUptoRow : OpenClaim := { program := "ytknaolgiameklaa", sum := "1bff4c751a303fb3d1531d0a286dd7b9872f6ba83076f89ae03f2e5e8594e2ad", func := "curfew/curfewlaw5.TallyTwo", spec := "tallyTwo", inPlace := ["sync/atomic.AddInt64", "sync/atomic.LoadInt64", "sync/atomic.SwapInt64"], apart := false, narrowed := true }
def TallyTwoUptoSaid : Prop := tallyTwoUptoRow.holds Try.pinned (OpenSpec.upto tallyTwoSpec)

/-- 'curfewlaw5.TallyNone', WHERE WHAT IT READS IS OF BULK AT MOST 1048576: true; the input reads as it did. -/
def tallyNoneUptoRow : OpenClaim := { program := "ytknaolgiameklaa", sum := "1bff4c751a303fb3d1531d0a286dd7b9872f6ba83076f89ae03f2e5e8594e2ad", func := "curfew/curfewlaw5.TallyNone", spec := "tallyNone", inPlace := ["sync/atomic.AddInt64", "sync/atomic.LoadInt64", "sync/atomic.SwapInt64"], apart := false, narrowed := true }
def TallyNoneUptoSaid : Prop := tallyNoneUptoRow.holds Try.pinned (OpenSpec.upto tallyNoneSpec)

/-- 'curfewlaw5.TallyReset', WHERE WHAT IT READS IS OF BULK AT MOST 1048576: true; the input reads as it did. -/
def tallyResetUptoRow : OpenClaim := { program := "ytknaolgiameklaa", sum := "1bff4c751a303fb3d1531d0a286dd7b9872f6ba83076f89ae03f2e5e8594e2ad", func := "curfew/curfewlaw5.TallyReset", spec := "tallyReset", inPlace := ["sync/atomic.AddInt64", "sync/atomic.LoadInt64", "sync/atomic.SwapInt64"], apart := false, narrowed := true }
def TallyResetUptoSaid : Prop := tallyResetUptoRow.holds Try.pinned (OpenSpec.upto tallyResetSpec)

end Rows
end Go.Proofs.Ytknaolgiameklaa
