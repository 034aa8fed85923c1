/- Proved: curfewlaw22.ProofCommit answers true for every two numbers. No condition. -/
import Derived.Test.YtlddijiljkmbmaaProof
namespace Go.Proofs.Ytlddijiljkmbmaa.proofCommit
open Go.ChangeShapes Go.WideShapes Go.ChangeAt Go.RowKit
set_option linter.unusedVariables false
set_option linter.unusedSimpArgs false

theorem good_of (c h : Int) : decide (0 < (⟨8, [(8, 3)], true, 8, 3, c⟩ : Pf).left 5 h) = decide (c ≤ h) := by
  unfold Pf.left
  by_cases hc : h < c
  · rw [if_pos (.inr (.inl hc))]; simp; omega
  · rw [if_neg (by simp; omega), if_neg (by simp)]; simp; omega

set_option maxHeartbeats 800000 in
theorem in_range (c h : Int) (c0 : 0 ≤ c) (c1 : c ≤ 60) (h0 : 0 ≤ h) (h1 : h ≤ 60) (w : World) :
    Calls Try.prog 8 #[.int .i64 c, .int .i64 h] w fun e w' => e = .returned (.bool true) ∧ Below w.heap.size w w' := by
  go_enter Try.func8, Try.ntmps8
  go_wp2_with fail
  refine (begun_any _).mono ?_
  rintro e w0 ⟨rfl, b0⟩
  have B0 := Lib.hid b0
  clear b0
  go_wp2_with fail
  refine (new_any 7 _).mono ?_
  rintro e w1 ⟨rfl, p1, m1⟩
  have P1 := Lib.hid p1
  have M1 := Lib.hid m1
  clear p1 m1
  go_wp2_with fail
  refine (ask_eq _ _ _ 3 8 _ P1.out (by first | decide | (simp [Pf.ask, Pf.drop]; done)) (by first | decide | (simp [Pf.ask, Pf.drop]; done)) (by first | decide | (simp [Pf.ask, Pf.drop]; done))).mono ?_
  rintro e w2 ⟨rfl, F2, p2, m2, n2⟩
  have P2 := Lib.hid p2
  have M2 := Lib.hid m2
  have N2 := Lib.hid n2
  clear p2 m2 n2
  go_wp2_with fail
  refine (get_eq _ _ _ 8 c ⟨8, [(8, 3)], true, 8, 3, c⟩ true _ P2.out (by rfl)).mono ?_
  rintro e w3 ⟨rfl, p3, m3⟩
  have P3 := Lib.hid p3
  have M3 := Lib.hid m3
  clear p3 m3
  go_wp2_with fail
  refine (good_eq _ _ _ 5 h (decide (c ≤ h)) _ P3.out (good_of c h) (by first | decide | (simp [Pf.ask, Pf.drop]; done)) (by first | decide | (simp [Pf.ask, Pf.drop]; done)) (by first | decide | (simp [Pf.ask, Pf.drop]; done)) (by first | decide | (simp [Pf.ask, Pf.drop]; done))).mono ?_
  rintro e w' ⟨rfl, rfl⟩
  go_wp2_with fail
  refine (drop_any _ _ _ _ P3.out).mono ?_
  rintro e w4 ⟨rfl, p4, m4⟩
  have P4 := Lib.hid p4
  have M4 := Lib.hid m4
  clear p4 m4
  go_wp2_with fail
  refine (good_eq _ _ _ 5 60 false _ P4.out (by rfl) (by first | decide | (simp [Pf.ask, Pf.drop]; done)) (by first | decide | (simp [Pf.ask, Pf.drop]; done)) (by first | decide | (simp [Pf.ask, Pf.drop]; done)) (by first | decide | (simp [Pf.ask, Pf.drop]; done))).mono ?_
  rintro e w' ⟨rfl, rfl⟩
  go_wp2_with fail
  refine (get_eq _ _ _ 8 c ⟨8, [], false, 0, 0, 0⟩ false _ P4.out (by rfl)).mono ?_
  rintro e w5 ⟨rfl, p5, m5⟩
  have P5 := Lib.hid p5
  have M5 := Lib.hid m5
  clear p5 m5
  go_wp2_with fail
  refine (ask_eq _ _ _ 4 9 _ P5.out (by first | decide | (simp [Pf.ask, Pf.drop]; done)) (by first | decide | (simp [Pf.ask, Pf.drop]; done)) (by first | decide | (simp [Pf.ask, Pf.drop]; done))).mono ?_
  rintro e w6 ⟨rfl, F6, p6, m6, n6⟩
  have M6 := Lib.hid m6
  clear p6 m6 n6
  go_wp2_with fail
  go_ret
  refine ⟨rfl, ?_⟩
  have q1 := Mod.below B0.out M1.out (by simp)
  have q2 := Mod.below q1 M2.out (by rintro k rfl; exact B0.out.size)
  have f2 : ∀ k, F2 k → w.heap.size ≤ k := fun k hk => by
    rcases N2.out k hk with h | h
    · rw [h]; exact B0.out.size
    · exact Nat.le_trans q1.size h
  exact Mod.below (Mod.below (Mod.below (Mod.below q2 M3.out f2) M4.out f2) M5.out f2) M6.out f2

set_option maxHeartbeats 1600000 in
theorem walk (a0 : Int) (a1 : Int) (w : World) (w0 : (Lit.int .i64 a0).wf = true) (w1 : (Lit.int .i64 a1).wf = true) :
    Calls Try.prog 8 #[.int .i64 a0, .int .i64 a1] w fun e w' => e = .returned (.bool true) ∧ Below w.heap.size w w' := by
  clear w0 w1
  rcases (show (0 ≤ a0 ∧ a0 ≤ 60 ∧ 0 ≤ a1 ∧ a1 ≤ 60) ∨ a0 < 0 ∨ (0 ≤ a0 ∧ 60 < a0) ∨ (0 ≤ a0 ∧ a0 ≤ 60 ∧ a1 < 0) ∨ (0 ≤ a0 ∧ a0 ≤ 60 ∧ 0 ≤ a1 ∧ 60 < a1) by omega) with ⟨h1, h2, h3, h4⟩ | h | ⟨h1, h2⟩ | ⟨h1, h2, h3⟩ | ⟨h1, h2, h3, h4⟩
  · exact in_range a0 a1 h1 h2 h3 h4 w
  all_goals
    go_enter Try.func8, Try.ntmps8
    go_wp2_with (go_at_call 9; refine (begun_any _).mono ?_; rintro e wb ⟨rfl, hb1⟩)
    go_ret
    exact ⟨rfl, hb1⟩
/-! ### the row's step -/
theorem own : ownKnob Try.prog.godebug = none := by kernel_rfl
theorem laidOut : laidOutB Try.prog = true := by kernel_rfl
set_option maxRecDepth 100000 in
theorem lifted (os : Os) (started : os.Started) (H : Type) (enc : TypeId × Value → H) :
    ReturnsInHanded {} Try.checked os 8 .any (Rows.proofCommitSpec.pre6 enc Try.prog Try.f8 Rows.proofCommitRow.domain false) (Rows.proofCommitSpec.post enc Try.prog Try.f8 false true false false) := by
  refine returnsInHanded_of_change (C := Try.checked) own started (by kernel_rfl) Try.func8
    (ChangeSpec.witness6 (enc := enc) (C := Try.checked) false ⟨#[], #[.int .i64 0, .int .i64 0], []⟩ 8 (by kernel_rfl) (by kernel_rfl) (by kernel_rfl) (by kernel_rfl)) ?_
  intro W base args ds gs before hval0 hW hcnd _
  have hval : ∀ (j : Nat) t v, Try.f8.params[j]? = some t → args[j]? = some v → Value.okWide Try.prog W .any base t v := hval0
  have hW' := hW
  obtain ⟨p, q, hA0, hV, rfl, hfz, hnd⟩ := hW
  have hA : DataW.TrodAll enc Try.prog W 0 (fun _ => true) true Try.f8.params.toList args.toList ds p := hA0
  rw [Try.params8] at hA hval
  obtain ⟨v0, vs0, d0, ds0, p0, q0, hargs, rfl, rfl, h0, r0⟩ := trodAll_cons hA
  obtain ⟨v1, vs1, d1, ds1, p1, q1, rfl, rfl, rfl, h1, r1⟩ := trodAll_cons r0
  obtain ⟨rfl, rfl, rfl⟩ := trodAll_nil r1
  obtain rfl : args = #[v0, v1] := by cases args; simp_all
  obtain ⟨rfl, rfl⟩ := trodVars_none hV
  have k0 := h0
  have lt0 : ∀ x ∈ p0, x.block < W.heap.size := by obtain ⟨m, hm⟩ := k0; exact DataW.trod_lt m _ _ _ hm
  have k1 := h1
  have lt1 : ∀ x ∈ p1, x.block < W.heap.size := by obtain ⟨m, hm⟩ := k1; exact DataW.trod_lt m _ _ _ hm
  obtain ⟨a0, rfl, rfl, rfl, w0⟩ := open_int Try.underlying3 (hval 0 3 v0 rfl rfl) h0
  obtain ⟨a1, rfl, rfl, rfl, w1⟩ := open_int Try.underlying3 (hval 1 3 v1 rfl rfl) h1
  clear hA0 hval0
  refine (walk a0 a1 W w0 w1).mono fun e W' ⟨he, bel⟩ => ?_
  subst he
  exact ⟨_, rfl, _, _, _, [], _, [], hW', trodAll_mk1 (shut_bool Try.underlying4 _), (trodAll_cons_mk (Below.trod laidOut (by kernel_rfl) (of_decide_eq_true (by kernel_rfl)) k0 bel lt0) (trodAll_cons_mk (Below.trod laidOut (by kernel_rfl) (of_decide_eq_true (by kernel_rfl)) k1 bel lt1) trodAll_mk0)), rfl, bel.frame _, fun h => by cases h⟩

theorem over : Rows.proofCommitRow.holds Try.pinned (OpenSpec.ofChange Rows.proofCommitSpec) :=
  OpenClaim.holds_of_wide 8 Try.f8 rfl rfl rfl rfl rfl rfl rfl ⟨rfl, rfl, rfl, rfl, rfl⟩ rfl rfl rfl rfl rfl (by kernel_rfl) Try.func8 (by kernel_rfl)
    (of_decide_eq_true (by kernel_rfl)) (by unfold Func.isWrapper; first | (rw [if_pos (by decide +kernel)]; kernel_rfl) | (rw [if_neg (by decide +kernel)]; exact ⟨rfl, rfl⟩))
    (fun os started H enc _ => lifted os started H enc)

theorem proved : Rows.ProofCommitSaid := over
#print axioms proved
end Go.Proofs.Ytlddijiljkmbmaa.proofCommit
