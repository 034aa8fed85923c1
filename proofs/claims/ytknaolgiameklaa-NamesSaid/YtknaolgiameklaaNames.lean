/- Proved: curfewlaw0.Names answers true, whatever the memory it starts in. No condition. -/
import Derived.Test.YtknaolgiameklaaRows
import Derived.WalkKit
import Derived.WalkSpells
import Derived.ProofKit
import Derived.OpenShut
import Derived.Deep.QuietTactic
import Derived.BigQuiet
import Derived.Lib.Hide
namespace Go.Proofs.Ytknaolgiameklaa.names
open Go.ChangeShapes Go.WideShapes Go.ChangeAt Go.RowKit
set_option linter.unusedVariables false

theorem own : ownKnob Try.prog.godebug = none := by kernel_rfl

def Num : Array Int := #[0, 1, 2, 3, 4, 5, 6, 7, 8, 9, 7, 16, 60, 1099511627776, 1099511627776, 400, 4, 64, 1000000, 8, 14, 12, 3, 0, 1, 2, 0, 1, 2, 1, 2, 3, 4, 5, 6, 7, 8, 9, 10, 11, 12, 13, 1, 2, 3, 4, 5, 6, 7, 8, 9]
def cellsOfNum : Array Value := Num.map (.int .i64)
theorem cellsOfNum_at (j : Nat) (hj : j < 51) : cellsOfNum[j]? = some (.int .i64 (Num.getD j 0)) := by
  have hs : j < Num.size := hj
  simp [cellsOfNum, Array.getD, hs]

/-- two rows of new numbers lie in the world -/
structure Good (w wr : World) : Prop where
  grown : Grown w wr
  a : ∀ j, j < 51 → wr.cell? ⟨w.heap.size, j, none⟩ = some (.int .i64 (Num.getD j 0))
  b : ∀ j, j < 51 → wr.cell? ⟨w.heap.size + 1, j, none⟩ = some (.int .i64 (Num.getD j 0))

theorem good_start (w : World) (t : TypeId) : Good w ((w.alloc (.cells cellsOfNum t)).alloc (.cells cellsOfNum t)) := by
  refine ⟨((Grown.refl _).alloc _ _).alloc _ _, fun j hj => ?_, fun j hj => ?_⟩
  · rw [World.cell?_alloc_past _ _ _ (by simp), World.cell?_alloc_at _ _ _ _ rfl, cellsOfNum_at j hj]
  · rw [World.cell?_alloc_at _ _ _ _ (by simp), cellsOfNum_at j hj]
theorem Good.drewN {w wr : World} (h : Good w wr) (n : Nat) : Good w (wr.drewN n) := ⟨h.grown, h.a, h.b⟩

set_option maxHeartbeats 400000 in
theorem walk (w : World) : Calls Try.prog 3 #[] w fun e w' => e = .returned (.bool true) ∧ Grown w w' := by
  have h0 := good_start w 3
  unfold cellsOfNum Num at h0
  simp only [List.map_toArray, List.map_cons, List.map_nil] at h0
  have H0 := Lib.hid h0
  clear h0
  go_enter Try.func3, Try.ntmps3
  go_wp2
  go_loopw [3] (fun i wr => ∃ k : Nat, k ≤ 51 ∧ i = .int .i64 k ∧ Good w wr) (fun i _ => 51 - (intOf i).toNat)
  case atStart => exact ⟨0, by omega, rfl, H0.out⟩
  case round =>
    obtain ⟨k, hk, rfl, hg⟩ := hrel
    clear H0
    by_cases hlt : k < 51
    · have ca := hg.a k hlt
      have cb := hg.b k hlt
      have HG := Lib.hid hg
      clear hg
      generalize Num.getD k 0 = x at *
      go_wp2
      go_quiet (fail)
      go_wp2
      go_roundw
      case rel => exact ⟨k + 1, by omega, by go_num, HG.out.drewN _⟩
      case measure => simp [intOf]; omega
    · go_wp2
      go_ret
      exact ⟨rfl, hg.grown⟩

set_option maxRecDepth 100000 in
theorem lifted (os : Os) (started : os.Started) (H : Type) (enc : TypeId × Value → H) :
    ReturnsInHanded {} Try.checked os 3 .any (Rows.namesSpec.pre6 enc Try.prog Try.f3 Rows.namesRow.domain false) (Rows.namesSpec.post enc Try.prog Try.f3 false true false false) := by
  refine returnsInHanded_of_change (C := Try.checked) own started (by kernel_rfl) Try.func3
    (ChangeSpec.witness6 (enc := enc) (C := Try.checked) false ⟨#[], #[], []⟩ 8 (by kernel_rfl) (by kernel_rfl) (by kernel_rfl) (by kernel_rfl)) ?_
  intro W base args ds gs before hval0 hW hcnd _
  have hval : ∀ (j : Nat) t v, Try.f3.params[j]? = some t → args[j]? = some v → Value.okWide Try.prog W .any base t v := hval0
  have hW' := hW
  obtain ⟨p, q, hA0, hV, rfl, hfz, hnd⟩ := hW
  have hA : DataW.TrodAll enc Try.prog W 0 (fun _ => true) true Try.f3.params.toList args.toList ds p := hA0
  rw [Try.params3] at hA hval
  obtain ⟨rfl, rfl, rfl⟩ := trodAll_none hA
  obtain ⟨rfl, rfl⟩ := trodVars_none hV
  clear hA0 hval0
  simp only [List.append_nil] at hW'
  refine (walk W).mono fun e W' ⟨he, hg⟩ => ?_
  subst he
  exact ⟨_, rfl, post_of_same (pa := []) (pv := []) hW' (fun _ _ _ => (trodAll_cons_mk (shut_bool Try.underlying4 _) trodAll_mk0)) (fun sp _ => rfl) (fun _ _ => rfl) rfl
    (hg.frame _) hg.2.1 (ok_one (by kernel_rfl) rfl (okWide_bool_mk Try.underlying4 _))⟩

theorem over : Rows.namesRow.holds Try.pinned (OpenSpec.ofChange Rows.namesSpec) :=
  OpenClaim.holds_of_wide 3 Try.f3 rfl rfl rfl rfl rfl rfl rfl ⟨rfl, rfl, rfl, rfl, rfl⟩ rfl rfl rfl rfl rfl (by kernel_rfl) Try.func3 (by kernel_rfl)
    (of_decide_eq_true (by kernel_rfl)) (by unfold Func.isWrapper; first | (rw [if_pos (by decide +kernel)]; kernel_rfl) | (rw [if_neg (by decide +kernel)]; exact ⟨rfl, rfl⟩))
    (fun os started H enc _ => lifted os started H enc)

theorem proved : Rows.NamesSaid := over
#print axioms proved
end Go.Proofs.Ytknaolgiameklaa.names
