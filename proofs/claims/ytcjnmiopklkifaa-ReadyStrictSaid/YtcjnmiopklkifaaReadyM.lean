/- Whether an entry may be told: the program's may. -/
import Derived.Test.YtcjnmiopklkifaaReady
import Derived.IntWalk
namespace Go.Proofs.Ytcjnmiopklkifaa
open Go.RowKit
attribute [local go_sem ↓] Go.wp_at_zero Go.wp_at_succ
set_option linter.unusedVariables false
set_option linter.unusedSimpArgs false

/-- what stands ahead: were all told, all of each order -/
structure Sn where
  al : Bool
  o0 : Bool
  o1 : Bool
  o2 : Bool
def Sn.val (s : Sn) : Value := .agg #[.bool s.al, .bool s.o0, .bool s.o1, .bool s.o2]
def Sn.cells (s : Sn) : List Value := [.bool s.al, .bool s.o0, .bool s.o1, .bool s.o2]
/-- an entry's numbers are in their ranges -/
def OkE (e : En) : Prop := (0 ≤ e.od ∧ e.od ≤ 2) ∧ (0 ≤ e.lv ∧ e.lv ≤ 2) ∧ 0 ≤ e.st ∧ e.st ≤ 1099511627776
def lvB (s : Sn) (e : En) (i : Nat) (c : Int) : Bool := e.lv == 0 || (decide ((i : Int) < c) && (e.lv == 1 || (e.lv == 2 && s.al)))
def odB (s : Sn) (e : En) (now : Int) : Bool := e.od == 0 || (e.od == 1 && s.o1) || (e.od == 2 && s.o2 && decide (3 ≤ now) && decide (e.st ≤ now - 3))
def mayB (s : Sn) (e : En) (i : Nat) (c now : Int) : Bool := lvB s e i c && odB s e now

set_option maxHeartbeats 1600000 in
theorem may_any (s : Sn) (e : En) (i : Nat) (c now : Int) (w : World) (he : OkE e) (hi : i < 60) (hc0 : 0 ≤ c) (hc : c ≤ 60) (hn0 : -9223372036854775808 ≤ now) (hn1 : now ≤ 9223372036854775807) :
    Calls Try.prog 27 #[s.val, e.val, .int .i64 ((i : Int) + 1), .int .i64 c, .int .i64 now] w (Only w (.bool (mayB s e i c now))) := by
  obtain ⟨al, o0, o1, o2⟩ := s
  obtain ⟨e0, e1, e2, e3, e4, e5, e6⟩ := e
  obtain ⟨⟨h1, h2⟩, ⟨h3, h4⟩, h5, h6⟩ := he
  unfold Sn.val En.val
  simp only [] at *
  have k1 : e4 = 0 ∨ e4 = 1 ∨ e4 = 2 := by omega
  have k2 : e3 = 0 ∨ e3 = 1 ∨ e3 = 2 := by omega
  clear h1 h2 h3 h4
  rcases k1 with rfl | rfl | rfl <;> rcases k2 with rfl | rfl | rfl
  all_goals
    go_enter Try.func27, Try.ntmps27
    go_wp2_with fail
    all_goals
      go_ret
      refine ⟨congrArg (fun v => Ending.returned (.bool v)) ?_, ((Mod.refl _ _).alloc _).alloc _⟩
      simp only [mayB, lvB, odB]
      first
        | (simp [*]; done)
        | (simp [*]; omega)
        | (have hx : (now ≤ 9223372036854775807) := hn1; clear hn0; rw [Bool.eq_iff_iff]; cases al <;> simp_all <;> omega)
end Go.Proofs.Ytcjnmiopklkifaa
