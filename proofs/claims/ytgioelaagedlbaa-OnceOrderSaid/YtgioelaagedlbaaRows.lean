/-
  No cell of these rows narrows 'for every input' (looked for: loops, veiled, ifaces, maps, wideKeys, modest, calm, conditions, laid).
  DERIVED. THE GIVEN ROWS OF THIS SEAT. 5 by the template 'for every input the law returns true; each argument reads behind the call as it read before'; 0 by the template 'total and deterministic' (their statements: YtgioelaagedlbaaTotals.lean).
  GIVEN WITH THE SEED: the statements are not yours to turn. If you find one false, say at which input.
  Laid BY PROGRAM, IN A SANDBOX (cutbox-rows.mjs): the forced cells as the released guide's own fill.sh prints them over the translation 6061e2fc94e7ddb2… (all of the seat's roots in one cut). By AI agents, Wed Nov 11 2026. No macro, syntax, notation, axiom, sorry.
-/
import Derived.Test.YtgioelaagedlbaaChecked
import GoSem.Claim
import GoSem.ClaimJoined
import GoSem.ClaimMapViews
import Derived.JoinedTies
import Derived.KernelRfl
namespace Go.Proofs.Ytgioelaagedlbaa
/- THE CELL 'sum', in the pinned program and in every row, IS THE sha256 OF THE DUMP (.gsa) THAT YtgioelaagedlbaaProg.lean LOADS. Nothing in Lean hashes anything: it is a label: what it is worth is what the hold of that sum in a sandbox is worth. -/
noncomputable def Try.pinned : Pinned := { name := "ytgioelaagedlbaa", sum := "6061e2fc94e7ddb2e92e6ae737be86fa00b630dccd030df6e8f570ecbd9a021a", checked := Try.checked }
namespace Rows
def none {H : Type} : Left H := { results := [], args := [] }

/-- 'curfewlaw6.OnceAll': WHATEVER THE INPUT: true; the input reads as it did. -/
def onceAllSpec : ChangeSpec := { name := "onceAll", fn := fun _ => fun
  | [d1, d2] => { results := [.lit (.bool true)], args := [d1, d2] }
  | _ => none }
def onceAllRow : OpenClaim := { program := "ytgioelaagedlbaa", sum := "6061e2fc94e7ddb2e92e6ae737be86fa00b630dccd030df6e8f570ecbd9a021a", func := "curfew/curfewlaw6.OnceAll", spec := "onceAll", inPlace := ["sync/atomic.LoadUint32", "sync/atomic.StoreUint32", "(*internal/sync.Mutex).Lock", "internal/race.Disable", "sync/atomic.CompareAndSwapInt32", "internal/race.Enable", "internal/race.Acquire", "(*internal/sync.Mutex).lockSlow", "internal/sync.runtime_canSpin", "internal/sync.runtime_doSpin", "internal/sync.throw", "internal/sync.runtime_nanotime", "internal/sync.runtime_SemacquireMutex", "sync/atomic.AddInt32", "(*internal/sync.Mutex).Unlock", "internal/race.ReleaseMerge", "(*internal/sync.Mutex).unlockSlow", "internal/sync.fatal", "internal/sync.runtime_Semrelease"], unfollowed := true, recurses := true, apart := false }
def OnceAllSaid : Prop := onceAllRow.holds Try.pinned (OpenSpec.ofChange onceAllSpec)

/-- ITS FALSE NEIGHBOUR: 'it returns false'. Refute it at one input. -/
def onceAllWrong : ChangeSpec := { name := "onceAll", fn := fun _ => fun
  | [d1, d2] => { results := [.lit (.bool false)], args := [d1, d2] }
  | _ => none }
def OnceAllWrongFalsely : Prop := onceAllRow.holds Try.pinned (OpenSpec.ofChange onceAllWrong)

/-- 'curfewlaw6.OncePanics': WHATEVER THE INPUT: true; the input reads as it did. -/
def oncePanicsSpec : ChangeSpec := { name := "oncePanics", fn := fun _ => fun
  | [d] => { results := [.lit (.bool true)], args := [d] }
  | _ => none }
def oncePanicsRow : OpenClaim := { program := "ytgioelaagedlbaa", sum := "6061e2fc94e7ddb2e92e6ae737be86fa00b630dccd030df6e8f570ecbd9a021a", func := "curfew/curfewlaw6.OncePanics", spec := "oncePanics", inPlace := ["sync/atomic.LoadUint32", "sync/atomic.StoreUint32", "(*internal/sync.Mutex).Lock", "internal/race.Disable", "sync/atomic.CompareAndSwapInt32", "internal/race.Enable", "internal/race.Acquire", "(*internal/sync.Mutex).lockSlow", "internal/sync.runtime_canSpin", "internal/sync.runtime_doSpin", "internal/sync.throw", "internal/sync.runtime_nanotime", "internal/sync.runtime_SemacquireMutex", "sync/atomic.AddInt32", "(*internal/sync.Mutex).Unlock", "internal/race.ReleaseMerge", "(*internal/sync.Mutex).unlockSlow", "internal/sync.fatal", "internal/sync.runtime_Semrelease"], unfollowed := true, recurses := true, apart := false }
def OncePanicsSaid : Prop := oncePanicsRow.holds Try.pinned (OpenSpec.ofChange oncePanicsSpec)

/-- ITS FALSE NEIGHBOUR: 'it returns false'. Refute it at one input. -/
def oncePanicsWrong : ChangeSpec := { name := "oncePanics", fn := fun _ => fun
  | [d] => { results := [.lit (.bool false)], args := [d] }
  | _ => none }
def OncePanicsWrongFalsely : Prop := oncePanicsRow.holds Try.pinned (OpenSpec.ofChange oncePanicsWrong)

/-- 'curfewlaw6.OnceNone': WHATEVER THE INPUT: true; the input reads as it did. -/
def onceNoneSpec : ChangeSpec := { name := "onceNone", fn := fun _ => fun
  | [] => { results := [.lit (.bool true)], args := [] }
  | _ => none }
def onceNoneRow : OpenClaim := { program := "ytgioelaagedlbaa", sum := "6061e2fc94e7ddb2e92e6ae737be86fa00b630dccd030df6e8f570ecbd9a021a", func := "curfew/curfewlaw6.OnceNone", spec := "onceNone", inPlace := ["sync/atomic.LoadUint32", "sync/atomic.StoreUint32", "(*internal/sync.Mutex).Lock", "internal/race.Disable", "sync/atomic.CompareAndSwapInt32", "internal/race.Enable", "internal/race.Acquire", "(*internal/sync.Mutex).lockSlow", "internal/sync.runtime_canSpin", "internal/sync.runtime_doSpin", "internal/sync.throw", "internal/sync.runtime_nanotime", "internal/sync.runtime_SemacquireMutex", "sync/atomic.AddInt32", "(*internal/sync.Mutex).Unlock", "internal/race.ReleaseMerge", "(*internal/sync.Mutex).unlockSlow", "internal/sync.fatal", "internal/sync.runtime_Semrelease"], unfollowed := true, recurses := true, apart := false }
def OnceNoneSaid : Prop := onceNoneRow.holds Try.pinned (OpenSpec.ofChange onceNoneSpec)

/-- ITS FALSE NEIGHBOUR: 'it returns false'. Refute it at one input. -/
def onceNoneWrong : ChangeSpec := { name := "onceNone", fn := fun _ => fun
  | [] => { results := [.lit (.bool false)], args := [] }
  | _ => none }
def OnceNoneWrongFalsely : Prop := onceNoneRow.holds Try.pinned (OpenSpec.ofChange onceNoneWrong)

/-- 'curfewlaw6.OncePool': WHATEVER THE INPUT: true; the input reads as it did. -/
def oncePoolSpec : ChangeSpec := { name := "oncePool", fn := fun _ => fun
  | [d1, d2] => { results := [.lit (.bool true)], args := [d1, d2] }
  | _ => none }
def oncePoolRow : OpenClaim := { program := "ytgioelaagedlbaa", sum := "6061e2fc94e7ddb2e92e6ae737be86fa00b630dccd030df6e8f570ecbd9a021a", func := "curfew/curfewlaw6.OncePool", spec := "oncePool", inPlace := ["sync/atomic.LoadUint32", "sync/atomic.StoreUint32", "(*internal/sync.Mutex).Lock", "internal/race.Disable", "sync/atomic.CompareAndSwapInt32", "internal/race.Enable", "internal/race.Acquire", "(*internal/sync.Mutex).lockSlow", "internal/sync.runtime_canSpin", "internal/sync.runtime_doSpin", "internal/sync.throw", "internal/sync.runtime_nanotime", "internal/sync.runtime_SemacquireMutex", "sync/atomic.AddInt32", "(*internal/sync.Mutex).Unlock", "internal/race.ReleaseMerge", "(*internal/sync.Mutex).unlockSlow", "internal/sync.fatal", "internal/sync.runtime_Semrelease"], unfollowed := true, recurses := true, apart := false }
def OncePoolSaid : Prop := oncePoolRow.holds Try.pinned (OpenSpec.ofChange oncePoolSpec)

/-- ITS FALSE NEIGHBOUR: 'it returns false'. Refute it at one input. -/
def oncePoolWrong : ChangeSpec := { name := "oncePool", fn := fun _ => fun
  | [d1, d2] => { results := [.lit (.bool false)], args := [d1, d2] }
  | _ => none }
def OncePoolWrongFalsely : Prop := oncePoolRow.holds Try.pinned (OpenSpec.ofChange oncePoolWrong)

/-- 'curfewlaw6.OnceOrder': WHATEVER THE INPUT: true; the input reads as it did. -/
def onceOrderSpec : ChangeSpec := { name := "onceOrder", fn := fun _ => fun
  | [d1, d2] => { results := [.lit (.bool true)], args := [d1, d2] }
  | _ => none }
def onceOrderRow : OpenClaim := { program := "ytgioelaagedlbaa", sum := "6061e2fc94e7ddb2e92e6ae737be86fa00b630dccd030df6e8f570ecbd9a021a", func := "curfew/curfewlaw6.OnceOrder", spec := "onceOrder", inPlace := ["sync/atomic.LoadUint32", "sync/atomic.StoreUint32", "(*internal/sync.Mutex).Lock", "internal/race.Disable", "sync/atomic.CompareAndSwapInt32", "internal/race.Enable", "internal/race.Acquire", "(*internal/sync.Mutex).lockSlow", "internal/sync.runtime_canSpin", "internal/sync.runtime_doSpin", "internal/sync.throw", "internal/sync.runtime_nanotime", "internal/sync.runtime_SemacquireMutex", "sync/atomic.AddInt32", "(*internal/sync.Mutex).Unlock", "internal/race.ReleaseMerge", "(*internal/sync.Mutex).unlockSlow", "internal/sync.fatal", "internal/sync.runtime_Semrelease"], unfollowed := true, recurses := true, apart := false }
def OnceOrderSaid : Prop := onceOrderRow.holds Try.pinned (OpenSpec.ofChange onceOrderSpec)

/-- ITS FALSE NEIGHBOUR: 'it returns false'. Refute it at one input. -/
def onceOrderWrong : ChangeSpec := { name := "onceOrder", fn := fun _ => fun
  | [d1, d2] => { results := [.lit (.bool false)], args := [d1, d2] }
  | _ => none }
def OnceOrderWrongFalsely : Prop := onceOrderRow.holds Try.pinned (OpenSpec.ofChange onceOrderWrong)

/- THE SECOND FORM. 'bulk': how many values and letters a reading holds, each counted each time it is reached (what is shared counts as often as it is met; a slice's spare places count too). A statement '..UptoSaid' is the law's where the arguments, and the package variables that the reading takes, are together of bulk at most 1048576: NARROWER than '..Said'. Prove '..Said' where nothing that the law and all that it calls make is longer than what came in: it says more and counts as full. Else prove '..UptoSaid'. A law counts once. -/
mutual
def uptoBulk {H : Type} : DataW H → Nat
  | .lit (.string bytes) => bytes.length + 1
  | .lit _ => 1
  | .nil => 1
  | .ptr d => uptoBulk d + 1
  | .slice elems spare => uptoBulkAll elems + uptoBulkAll spare + 1
  | .agg parts => uptoBulkAll parts + 1
  | .iface _ d => uptoBulk d + 1
  | .map entries => uptoBulkEntries entries + 1
  | .held _ => 1
def uptoBulkAll {H : Type} : List (DataW H) → Nat
  | [] => 0
  | d :: r => uptoBulk d + uptoBulkAll r
def uptoBulkEntries {H : Type} : List (Lit × DataW H) → Nat
  | [] => 0
  | x :: r => uptoBulkEntry x + uptoBulkEntries r
def uptoBulkEntry {H : Type} : Lit × DataW H → Nat
  | (.string bytes, d) => bytes.length + uptoBulk d + 1
  | (_, d) => uptoBulk d + 1
 end
def uptoSmall : (H : Type) → List (DataW H) → Bool := fun _ ds => decide (uptoBulkAll ds ≤ 1048576)
def OpenSpec.upto (s : _root_.Go.ChangeSpec) : _root_.Go.OpenSpec := { _root_.Go.OpenSpec.ofChange s with cond := some uptoSmall }

/-- 'curfewlaw6.OnceAll', WHERE WHAT IT READS IS OF BULK AT MOST 1048576: true; the input reads as it did. -/
def onceAllUptoRow : OpenClaim := { program := "ytgioelaagedlbaa", sum := "6061e2fc94e7ddb2e92e6ae737be86fa00b630dccd030df6e8f570ecbd9a021a", func := "curfew/curfewlaw6.OnceAll", spec := "onceAll", inPlace := ["sync/atomic.LoadUint32", "sync/atomic.StoreUint32", "(*internal/sync.Mutex).Lock", "internal/race.Disable", "sync/atomic.CompareAndSwapInt32", "internal/race.Enable", "internal/race.Acquire", "(*internal/sync.Mutex).lockSlow", "internal/sync.runtime_canSpin", "internal/sync.runtime_doSpin", "internal/sync.throw", "internal/sync.runtime_nanotime", "internal/sync.runtime_SemacquireMutex", "sync/atomic.AddInt32", "(*internal/sync.Mutex).Unlock", "internal/race.ReleaseMerge", "(*internal/sync.Mutex).unlockSlow", "internal/sync.fatal", "internal/sync.runtime_Semrelease"], unfollowed := true, recurses := true, apart := false, narrowed := true }
def OnceAllUptoSaid : Prop := onceAllUptoRow.holds Try.pinned (OpenSpec.upto onceAllSpec)

/-- 'curfewlaw6.OncePanics', WHERE WHAT IT READS IS OF BULK AT MOST 1048576: true; the input reads as it did. -/
def oncePanicsUptoRow : OpenClaim := { program := "ytgioelaagedlbaa", sum := "6061e2fc94e7ddb2e92e6ae737be86fa00b630dccd030df6e8f570ecbd9a021a", func := "curfew/curfewlaw6.OncePanics", spec := "oncePanics", inPlace := ["sync/atomic.LoadUint32", "sync/atomic.StoreUint32", "(*internal/sync.Mutex).Lock", "internal/race.Disable", "sync/atomic.CompareAndSwapInt32", "internal/race.Enable", "internal/race.Acquire", "(*internal/sync.Mutex).lockSlow", "internal/sync.runtime_canSpin", "internal/sync.runtime_doSpin", "internal/sync.throw", "internal/sync.runtime_nanotime", "internal/sync.runtime_SemacquireMutex", "sync/atomic.AddInt32", "(*internal/sync.Mutex).Unlock", "internal/race.ReleaseMerge", "(*internal/sync.Mutex).unlockSlow", "internal/sync.fatal", "internal/sync.runtime_Semrelease"], unfollowed := true, recurses := true, apart := false, narrowed := true }
def OncePanicsUptoSaid : Prop := oncePanicsUptoRow.holds Try.pinned (OpenSpec.upto oncePanicsSpec)

/-- 'curfewlaw6.OnceNone', WHERE WHAT IT READS IS OF BULK AT MOST 1048576: true; the input reads as it did. -/
def onceNoneUptoRow : OpenClaim := { program := "ytgioelaagedlbaa", sum := "6061e2fc94e7ddb2e92e6ae737be86fa00b630dccd030df6e8f570ecbd9a021a", func := "curfew/curfewlaw6.OnceNone", spec := "onceNone", inPlace := ["sync/atomic.LoadUint32", "sync/atomic.StoreUint32", "(*internal/sync.Mutex).Lock", "internal/race.Disable", "sync/atomic.CompareAndSwapInt32", "internal/race.Enable", "internal/race.Acquire", "(*internal/sync.Mutex).lockSlow", "internal/sync.runtime_canSpin", "internal/sync.runtime_doSpin", "internal/sync.throw", "internal/sync.runtime_nanotime", "internal/sync.runtime_SemacquireMutex", "sync/atomic.AddInt32", "(*internal/sync.Mutex).Unlock", "internal/race.ReleaseMerge", "(*internal/sync.Mutex).unlockSlow", "internal/sync.fatal", "internal/sync.runtime_Semrelease"], unfollowed := true, recurses := true, apart := false, narrowed := true }
def OnceNoneUptoSaid : Prop := onceNoneUptoRow.holds Try.pinned (OpenSpec.upto onceNoneSpec)

/-- 'curfewlaw6.OncePool', WHERE WHAT IT READS IS OF BULK AT MOST 1048576: true; the input reads as it did. -/
def oncePoolUptoRow : OpenClaim := { program := "ytgioelaagedlbaa", sum := "6061e2fc94e7ddb2e92e6ae737be86fa00b630dccd030df6e8f570ecbd9a021a", func := "curfew/curfewlaw6.OncePool", spec := "oncePool", inPlace := ["sync/atomic.LoadUint32", "sync/atomic.StoreUint32", "(*internal/sync.Mutex).Lock", "internal/race.Disable", "sync/atomic.CompareAndSwapInt32", "internal/race.Enable", "internal/race.Acquire", "(*internal/sync.Mutex).lockSlow", "internal/sync.runtime_canSpin", "internal/sync.runtime_doSpin", "internal/sync.throw", "internal/sync.runtime_nanotime", "internal/sync.runtime_SemacquireMutex", "sync/atomic.AddInt32", "(*internal/sync.Mutex).Unlock", "internal/race.ReleaseMerge", "(*internal/sync.Mutex).unlockSlow", "internal/sync.fatal", "internal/sync.runtime_Semrelease"], unfollowed := true, recurses := true, apart := false, narrowed := true }
def OncePoolUptoSaid : Prop := oncePoolUptoRow.holds Try.pinned (OpenSpec.upto oncePoolSpec)

/-- 'curfewlaw6.OnceOrder', WHERE WHAT IT READS IS OF BULK AT MOST 1048576: true; the input reads as it did. -/
def onceOrderUptoRow : OpenClaim := { program := "ytgioelaagedlbaa", sum := "6061e2fc94e7ddb2e92e6ae737be86fa00b630dccd030df6e8f570ecbd9a021a", func := "curfew/curfewlaw6.OnceOrder", spec := "onceOrder", inPlace := ["sync/atomic.LoadUint32", "sync/atomic.StoreUint32", "(*internal/sync.Mutex).Lock", "internal/race.Disable", "sync/atomic.CompareAndSwapInt32", "internal/race.Enable", "internal/race.Acquire", "(*internal/sync.Mutex).lockSlow", "internal/sync.runtime_canSpin", "internal/sync.runtime_doSpin", "internal/sync.throw", "internal/sync.runtime_nanotime", "internal/sync.runtime_SemacquireMutex", "sync/atomic.AddInt32", "(*internal/sync.Mutex).Unlock", "internal/race.ReleaseMerge", "(*internal/sync.Mutex).unlockSlow", "internal/sync.fatal", "internal/sync.runtime_Semrelease"], unfollowed := true, recurses := true, apart := false, narrowed := true }
def OnceOrderUptoSaid : Prop := onceOrderUptoRow.holds Try.pinned (OpenSpec.upto onceOrderSpec)

end Rows
end Go.Proofs.Ytgioelaagedlbaa
