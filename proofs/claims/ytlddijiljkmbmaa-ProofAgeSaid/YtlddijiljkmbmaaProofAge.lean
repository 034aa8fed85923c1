/- Proved: curfewlaw22.ProofAge answers true for every four numbers. No condition. -/
import Derived.Test.YtlddijiljkmbmaaProof
namespace Go.Proofs.Ytlddijiljkmbmaa.proofAge
open Go.ChangeShapes Go.WideShapes Go.ChangeAt Go.RowKit
set_option linter.unusedVariables false
set_option linter.unusedSimpArgs false

theorem good_late (a b t c : Int) (hb : 0 ≤ b) (ht : 0 ≤ t) (l : List (Int × Int)) (n q : Int) : decide (0 < (⟨n, l, true, q, a, c⟩ : Pf).left (a + b + t) c) = decide (b + t < 12) := by
  unfold Pf.left
  rw [if_neg (by simp; omega)]
  split
  · simp at *; omega
  · simp at *; omega
theorem good_then (a t c : Int) (ht : 0 ≤ t) (l : List (Int × Int)) (n q : Int) : decide (0 < (⟨n, l, true, q, a, c⟩ : Pf).left (a + t) c) = decide (t < 12) := by
  unfold Pf.left
  rw [if_neg (by simp; omega)]
  split
  · simp at *; omega
  · simp at *; omega

set_option maxHeartbeats 800000 in
theorem in_range (a b t c : Int) (a0 : 0 ≤ a) (a1 : a ≤ 1000) (b0 : 0 ≤ b) (b1 : b ≤ 40) (t0 : 0 ≤ t) (t1 : t ≤ 40) (c0 : 0 ≤ c) (c1 : c ≤ 60) (w : World) :
    Calls Try.prog 5 #[.int .i64 a, .int .i64 b, .int .i64 t, .int .i64 c] w fun e w' => e = .returned (.bool true) ∧ Below w.heap.size w w' := by
  go_enter Try.func5, Try.ntmps5
  go_wp2_with fail
  refine (begun_any _).mono ?_
  rintro e w0 ⟨rfl, b0⟩
  have B0 := Lib.hid b0
  clear b0
  go_wp2_with fail
  refine (new_any 0 _).mono ?_
  rintro e w1 ⟨rfl, p1, m1⟩
  have P1 := Lib.hid p1
  have M1 := Lib.hid m1
  clear p1 m1
  go_wp2_with fail
  refine (ask_eq _ _ _ a 1 _ P1.out (by first | decide | (simp [Pf.ask, Pf.drop]; done)) (by first | decide | (simp [Pf.ask, Pf.drop]; done)) (by first | decide | (simp [Pf.ask, Pf.drop]; done))).mono ?_
  rintro e w2 ⟨rfl, F2, p2, m2, n2⟩
  have P2 := Lib.hid p2
  have M2 := Lib.hid m2
  have N2 := Lib.hid n2
  clear p2 m2 n2
  go_wp2_with fail
  refine (ask_eq _ _ _ (a + b) 2 _ P2.out (by first | decide | (simp [Pf.ask, Pf.drop]; done)) (by first | decide | (simp [Pf.ask, Pf.drop]; done)) (by first | decide | (simp [Pf.ask, Pf.drop]; done))).mono ?_
  rintro e w3 ⟨rfl, F3, p3, m3, n3⟩
  have P3 := Lib.hid p3
  have M3 := Lib.hid m3
  have N3 := Lib.hid n3
  clear p3 m3 n3
  go_wp2_with fail
  refine (get_eq _ _ _ 1 c ⟨2, [(1, a), (2, a + b)], true, 1, a, c⟩ true _ P3.out (by rfl)).mono ?_
  rintro e w4 ⟨rfl, p4, m4⟩
  have P4 := Lib.hid p4
  have M4 := Lib.hid m4
  clear p4 m4
  go_wp2_with fail
  refine (good_eq _ _ _ (a + b + t) c (decide (b + t < 12)) _ P4.out (good_late a b t c b0 t0 _ _ _) (by omega) (by omega) (by show 0 ≤ a; omega) (by show a ≤ _; omega)).mono ?_
  rintro e w' ⟨rfl, rfl⟩
  go_wp2_with fail
  refine (get_eq _ _ _ 2 c ⟨2, [(1, a), (2, a + b)], true, 2, a + b, c⟩ true _ P4.out (by rfl)).mono ?_
  rintro e w5 ⟨rfl, p5, m5⟩
  have P5 := Lib.hid p5
  have M5 := Lib.hid m5
  clear p5 m5
  go_wp2_with fail
  refine (good_eq _ _ _ (a + b + t) c (decide (t < 12)) _ P5.out (good_then (a + b) t c t0 _ _ _) (by omega) (by omega) (by show 0 ≤ a + b; omega) (by show a + b ≤ _; omega)).mono ?_
  rintro e w' ⟨rfl, rfl⟩
  go_wp2_with fail
  refine (get_eq _ _ _ 1 c ⟨2, [(1, a), (2, a + b)], true, 2, a + b, c⟩ false _ P5.out (by rfl)).mono ?_
  rintro e w6 ⟨rfl, p6, m6⟩
  have M6 := Lib.hid m6
  clear p6 m6
  go_wp2_with fail
  go_ret
  refine ⟨rfl, ?_⟩
  have q1 := Mod.below B0.out M1.out (by simp)
  have q2 := Mod.below q1 M2.out (by rintro k rfl; exact B0.out.size)
  have f2 : ∀ k, F2 k → w.heap.size ≤ k := fun k hk => by
    rcases N2.out k hk with h | h
    · rw [h]; exact B0.out.size
    · exact Nat.le_trans q1.size h
  have q3 := Mod.below q2 M3.out f2
  have f3 : ∀ k, F3 k → w.heap.size ≤ k := fun k hk => by
    rcases N3.out k hk with h | h
    · exact f2 k h
    · exact Nat.le_trans q2.size h
  exact Mod.below (Mod.below (Mod.below q3 M4.out f3) M5.out f3) M6.out f3

set_option maxHeartbeats 1600000 in
theorem walk (a0 : Int) (a1 : Int) (a2 : Int) (a3 : Int) (w : World) (w0 : (Lit.int .i64 a0).wf = true) (w1 : (Lit.int .i64 a1).wf = true) (w2 : (Lit.int .i64 a2).wf = true) (w3 : (Lit.int .i64 a3).wf = true) :
    Calls Try.prog 5 #[.int .i64 a0, .int .i64 a1, .int .i64 a2, .int .i64 a3] w fun e w' => e = .returned (.bool true) ∧ Below w.heap.size w w' := by
  clear w0 w1 w2 w3
  rcases (show (0 ≤ a0 ∧ a0 ≤ 1000 ∧ 0 ≤ a1 ∧ a1 ≤ 40 ∧ 0 ≤ a2 ∧ a2 ≤ 40 ∧ 0 ≤ a3 ∧ a3 ≤ 60) ∨ a0 < 0 ∨ (0 ≤ a0 ∧ 1000 < a0) ∨ (0 ≤ a0 ∧ a0 ≤ 1000 ∧ a1 < 0) ∨ (0 ≤ a0 ∧ a0 ≤ 1000 ∧ 0 ≤ a1 ∧ 40 < a1) ∨
      (0 ≤ a0 ∧ a0 ≤ 1000 ∧ 0 ≤ a1 ∧ a1 ≤ 40 ∧ a2 < 0) ∨ (0 ≤ a0 ∧ a0 ≤ 1000 ∧ 0 ≤ a1 ∧ a1 ≤ 40 ∧ 0 ≤ a2 ∧ 40 < a2) ∨ (0 ≤ a0 ∧ a0 ≤ 1000 ∧ 0 ≤ a1 ∧ a1 ≤ 40 ∧ 0 ≤ a2 ∧ a2 ≤ 40 ∧ a3 < 0) ∨ (0 ≤ a0 ∧ a0 ≤ 1000 ∧ 0 ≤ a1 ∧ a1 ≤ 40 ∧ 0 ≤ a2 ∧ a2 ≤ 40 ∧ 0 ≤ a3 ∧ 60 < a3) by omega)
    with ⟨h1, h2, h3, h4, h5, h6, h7, h8⟩ | h | ⟨h1, h2⟩ | ⟨h1, h2, h3⟩ | ⟨h1, h2, h3, h4⟩ | ⟨h1, h2, h3, h4, h5⟩ | ⟨h1, h2, h3, h4, h5, h6⟩ | ⟨h1, h2, h3, h4, h5, h6, h7⟩ | ⟨h1, h2, h3, h4, h5, h6, h7, h8⟩
  · exact in_range a0 a1 a2 a3 h1 h2 h3 h4 h5 h6 h7 h8 w
  all_goals
    go_enter Try.func5, Try.ntmps5
    go_wp2_with (go_at_call 9; refine (begun_any _).mono ?_; rintro e wb ⟨rfl, hb1⟩)
    go_ret
    exact ⟨rfl, hb1⟩
/-! ### the row's step -/
theorem own : ownKnob Try.prog.godebug = none := by kernel_rfl
theorem laidOut : laidOutB Try.prog = true := by kernel_rfl
set_option maxRecDepth 100000 in
theorem lifted (os : Os) (started : os.Started) (H : Type) (enc : TypeId × Value → H) :
    ReturnsInHanded {} Try.checked os 5 .any (Rows.proofAgeSpec.pre6 enc Try.prog Try.f5 Rows.proofAgeRow.domain false) (Rows.proofAgeSpec.post enc Try.prog Try.f5 false true false false) := by
  refine returnsInHanded_of_change (C := Try.checked) own started (by kernel_rfl) Try.func5
    (ChangeSpec.witness6 (enc := enc) (C := Try.checked) false ⟨#[], #[.int .i64 0, .int .i64 0, .int .i64 0, .int .i64 0], []⟩ 8 (by kernel_rfl) (by kernel_rfl) (by kernel_rfl) (by kernel_rfl)) ?_
  intro W base args ds gs before hval0 hW hcnd _
  have hval : ∀ (j : Nat) t v, Try.f5.params[j]? = some t → args[j]? = some v → Value.okWide Try.prog W .any base t v := hval0
  have hW' := hW
  obtain ⟨p, q, hA0, hV, rfl, hfz, hnd⟩ := hW
  have hA : DataW.TrodAll enc Try.prog W 0 (fun _ => true) true Try.f5.params.toList args.toList ds p := hA0
  rw [Try.params5] at hA hval
  obtain ⟨v0, vs0, d0, ds0, p0, q0, hargs, rfl, rfl, h0, r0⟩ := trodAll_cons hA
  obtain ⟨v1, vs1, d1, ds1, p1, q1, rfl, rfl, rfl, h1, r1⟩ := trodAll_cons r0
  obtain ⟨v2, vs2, d2, ds2, p2, q2, rfl, rfl, rfl, h2, r2⟩ := trodAll_cons r1
  obtain ⟨v3, vs3, d3, ds3, p3, q3, rfl, rfl, rfl, h3, r3⟩ := trodAll_cons r2
  obtain ⟨rfl, rfl, rfl⟩ := trodAll_nil r3
  obtain rfl : args = #[v0, v1, v2, v3] := by cases args; simp_all
  obtain ⟨rfl, rfl⟩ := trodVars_none hV
  have k0 := h0
  have lt0 : ∀ x ∈ p0, x.block < W.heap.size := by obtain ⟨m, hm⟩ := k0; exact DataW.trod_lt m _ _ _ hm
  have k1 := h1
  have lt1 : ∀ x ∈ p1, x.block < W.heap.size := by obtain ⟨m, hm⟩ := k1; exact DataW.trod_lt m _ _ _ hm
  have k2 := h2
  have lt2 : ∀ x ∈ p2, x.block < W.heap.size := by obtain ⟨m, hm⟩ := k2; exact DataW.trod_lt m _ _ _ hm
  have k3 := h3
  have lt3 : ∀ x ∈ p3, x.block < W.heap.size := by obtain ⟨m, hm⟩ := k3; exact DataW.trod_lt m _ _ _ hm
  obtain ⟨a0, rfl, rfl, rfl, w0⟩ := open_int Try.underlying2 (hval 0 2 v0 rfl rfl) h0
  obtain ⟨a1, rfl, rfl, rfl, w1⟩ := open_int Try.underlying2 (hval 1 2 v1 rfl rfl) h1
  obtain ⟨a2, rfl, rfl, rfl, w2⟩ := open_int Try.underlying2 (hval 2 2 v2 rfl rfl) h2
  obtain ⟨a3, rfl, rfl, rfl, w3⟩ := open_int Try.underlying3 (hval 3 3 v3 rfl rfl) h3
  clear hA0 hval0
  refine (walk a0 a1 a2 a3 W w0 w1 w2 w3).mono fun e W' ⟨he, bel⟩ => ?_
  subst he
  exact ⟨_, rfl, _, _, _, [], _, [], hW', trodAll_mk1 (shut_bool Try.underlying4 _), (trodAll_cons_mk (Below.trod laidOut (by kernel_rfl) (of_decide_eq_true (by kernel_rfl)) k0 bel lt0) (trodAll_cons_mk (Below.trod laidOut (by kernel_rfl) (of_decide_eq_true (by kernel_rfl)) k1 bel lt1) (trodAll_cons_mk (Below.trod laidOut (by kernel_rfl) (of_decide_eq_true (by kernel_rfl)) k2 bel lt2) (trodAll_cons_mk (Below.trod laidOut (by kernel_rfl) (of_decide_eq_true (by kernel_rfl)) k3 bel lt3) trodAll_mk0)))), rfl, bel.frame _, fun h => by cases h⟩

theorem over : Rows.proofAgeRow.holds Try.pinned (OpenSpec.ofChange Rows.proofAgeSpec) :=
  OpenClaim.holds_of_wide 5 Try.f5 rfl rfl rfl rfl rfl rfl rfl ⟨rfl, rfl, rfl, rfl, rfl⟩ rfl rfl rfl rfl rfl (by kernel_rfl) Try.func5 (by kernel_rfl)
    (of_decide_eq_true (by kernel_rfl)) (by unfold Func.isWrapper; first | (rw [if_pos (by decide +kernel)]; kernel_rfl) | (rw [if_neg (by decide +kernel)]; exact ⟨rfl, rfl⟩))
    (fun os started H enc _ => lifted os started H enc)

theorem proved : Rows.ProofAgeSaid := over
#print axioms proved
end Go.Proofs.Ytlddijiljkmbmaa.proofAge
