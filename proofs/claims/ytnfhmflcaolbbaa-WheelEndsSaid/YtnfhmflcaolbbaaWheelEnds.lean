/- Proved: curfewlaw7.WheelEnds answers true for every number, time and way back. No condition. -/
import Derived.Test.YtnfhmflcaolbbaaWheelB
namespace Go.Proofs.Ytnfhmflcaolbbaa.wheelEnds
open Go.ChangeShapes Go.WideShapes Go.ChangeAt Go.RowKit
set_option linter.unusedVariables false
set_option linter.unusedSimpArgs false

theorem AtR.empty {w w' : World} {id : Int} {e : Ending} (h : AtR w [] id e w') : e = .returned (.tuple #[.int .i64 0, .bool false]) ∧ Mod (fun _ => False) w w' := by
  obtain ⟨a, b, rfl, h | h, hm⟩ := h
  · obtain ⟨_, k, hk, _⟩ := h
    exact absurd hk (by simp)
  · obtain ⟨rfl, rfl, _⟩ := h
    exact ⟨rfl, hm⟩
theorem AtR.one {w w' : World} {x : Tm} {e : Ending} (h : AtR w [x] x.id e w') : e = .returned (.tuple #[.int .i64 x.t, .bool true]) ∧ Mod (fun _ => False) w w' := by
  obtain ⟨a, b, rfl, h | h, hm⟩ := h
  · obtain ⟨rfl, k, hk, _, h2⟩ := h
    have : k = 0 := by simpa using hk
    subst this
    exact ⟨by rw [← h2]; rfl, hm⟩
  · exact absurd rfl (h.2.2 x (by simp))

set_option maxHeartbeats 3200000 in
theorem walk (a0 : Int) (a1 : Int) (a2 : Int) (a3 : Int) (w : World) (w0 : (Lit.int .i64 a0).wf = true) (w1 : (Lit.int .i64 a1).wf = true) (w2 : (Lit.int .i64 a2).wf = true) (w3 : (Lit.int .i64 a3).wf = true) :
    Calls Try.prog 6 #[.int .i64 a0, .int .i64 a1, .int .i64 a2, .int .i64 a3] w fun e w' => e = .returned (.bool true) ∧ Below w.heap.size w w' := by
  clear w0 w1 w2 w3
  go_enter Try.func6, Try.ntmps6
  go_wp2_with fail
  refine (begunW_any w).mono ?_
  rintro e w1 ⟨rfl, hb⟩
  have B1 := Lib.hid hb
  clear hb
  rcases (show a2 < 0 ∨ (0 ≤ a2 ∧ 1099511627776 < a2) ∨ (0 ≤ a2 ∧ a2 ≤ 1099511627776) by omega) with h | ⟨h, h'⟩ | ⟨n1, n2⟩
  · go_wp2_with fail
    go_ret
    exact ⟨rfl, B1.out⟩
  · go_wp2_with fail
    go_ret
    exact ⟨rfl, B1.out⟩
  go_wp2_with fail
  refine (newW_any a2 w1).mono ?_
  rintro e w2 ⟨g, rfl, p2, hg, m2⟩
  rw [show timeB a2 = true from timeB_true.2 ⟨by omega, by omega⟩] at p2
  have P2 := Lib.hid (show IsW w2 g (fun k => k = g) a2 [] from p2)
  have B2 := Lib.hid (Mod.below B1.out m2 (by simp))
  have hgw : w.heap.size ≤ g := by have := B1.out.size; omega
  clear p2 m2
  rcases (show a0 < 0 ∨ (0 ≤ a0 ∧ 64 ≤ a0) ∨ (0 ≤ a0 ∧ a0 < 64 ∧ a1 < -1099511627776) ∨ (0 ≤ a0 ∧ a0 < 64 ∧ -1099511627776 ≤ a1 ∧ 1099511627776 < a1) ∨ (0 ≤ a0 ∧ a0 < 64 ∧ -1099511627776 ≤ a1 ∧ a1 ≤ 1099511627776) by omega) with h1 | ⟨h1, h2⟩ | ⟨h1, h2, h3⟩ | ⟨h1, h2, h3, h4⟩ | ⟨h1, h2, h3, h4⟩
  · have hset := Lib.hid (set_bad g a0 a1 w2 (.inl h1))
    go_wp2_with fail
    refine hset.out.mono ?_
    rintro e w3 ⟨rfl, m3⟩
    have P3 := Lib.hid (P2.out.none_ m3)
    have B3 := Lib.hid (Mod.below B2.out m3 (by simp))
    clear m3
    by_cases hk : a3 < a2
    · go_wp2_with fail
      refine (go_bad g _ a2 a3 [] w3 P3.out (.inr hk)).mono ?_
      rintro e w4 ⟨rfl, m4⟩
      have P4 := Lib.hid (P3.out.none_ m4)
      have B4 := Lib.hid (Mod.below B3.out m4 (by simp))
      clear m4
      go_wp2_with fail
      refine (nowW_any g _ a2 [] w4 P4.out).mono ?_
      rintro e w5 ⟨rfl, rfl⟩
      go_wp2_with fail
      go_ret
      exact ⟨rfl, B4.out⟩
    · have hk2 : a2 ≤ a3 := by omega
      go_wp2_with fail
      refine (at_any g _ a2 [] a0 w3 P3.out).mono ?_
      intro e w4 h4
      obtain ⟨rfl, m4⟩ := AtR.empty h4
      have B4 := Lib.hid (Mod.below B3.out m4 (by simp))
      clear m4 h4
      go_wp2_with fail
      go_ret
      first
        | exact ⟨rfl, B4.out⟩
        | exact ⟨by show Ending.returned (.bool (!decide (a1 ≤ 1099511627776))) = _; rw [decide_eq_false (by omega)]; rfl, B4.out⟩
  · have hset := Lib.hid (set_bad g a0 a1 w2 (.inr (.inl h2)))
    go_wp2_with fail
    refine hset.out.mono ?_
    rintro e w3 ⟨rfl, m3⟩
    have P3 := Lib.hid (P2.out.none_ m3)
    have B3 := Lib.hid (Mod.below B2.out m3 (by simp))
    clear m3
    by_cases hk : a3 < a2
    · go_wp2_with fail
      refine (go_bad g _ a2 a3 [] w3 P3.out (.inr hk)).mono ?_
      rintro e w4 ⟨rfl, m4⟩
      have P4 := Lib.hid (P3.out.none_ m4)
      have B4 := Lib.hid (Mod.below B3.out m4 (by simp))
      clear m4
      go_wp2_with fail
      refine (nowW_any g _ a2 [] w4 P4.out).mono ?_
      rintro e w5 ⟨rfl, rfl⟩
      go_wp2_with fail
      go_ret
      exact ⟨rfl, B4.out⟩
    · have hk2 : a2 ≤ a3 := by omega
      go_wp2_with fail
      refine (at_any g _ a2 [] a0 w3 P3.out).mono ?_
      intro e w4 h4
      obtain ⟨rfl, m4⟩ := AtR.empty h4
      have B4 := Lib.hid (Mod.below B3.out m4 (by simp))
      clear m4 h4
      go_wp2_with fail
      go_ret
      first
        | exact ⟨rfl, B4.out⟩
        | exact ⟨by show Ending.returned (.bool (!decide (a1 ≤ 1099511627776))) = _; rw [decide_eq_false (by omega)]; rfl, B4.out⟩
  · have hset := Lib.hid (set_bad g a0 a1 w2 (.inr (.inr (timeB_false.2 (.inl h3)))))
    go_wp2_with fail
    refine hset.out.mono ?_
    rintro e w3 ⟨rfl, m3⟩
    have P3 := Lib.hid (P2.out.none_ m3)
    have B3 := Lib.hid (Mod.below B2.out m3 (by simp))
    clear m3
    by_cases hk : a3 < a2
    · go_wp2_with fail
      refine (go_bad g _ a2 a3 [] w3 P3.out (.inr hk)).mono ?_
      rintro e w4 ⟨rfl, m4⟩
      have P4 := Lib.hid (P3.out.none_ m4)
      have B4 := Lib.hid (Mod.below B3.out m4 (by simp))
      clear m4
      go_wp2_with fail
      refine (nowW_any g _ a2 [] w4 P4.out).mono ?_
      rintro e w5 ⟨rfl, rfl⟩
      go_wp2_with fail
      go_ret
      exact ⟨rfl, B4.out⟩
    · have hk2 : a2 ≤ a3 := by omega
      go_wp2_with fail
      refine (at_any g _ a2 [] a0 w3 P3.out).mono ?_
      intro e w4 h4
      obtain ⟨rfl, m4⟩ := AtR.empty h4
      have B4 := Lib.hid (Mod.below B3.out m4 (by simp))
      clear m4 h4
      go_wp2_with fail
      go_ret
      first
        | exact ⟨rfl, B4.out⟩
        | exact ⟨by show Ending.returned (.bool (!decide (a1 ≤ 1099511627776))) = _; rw [decide_eq_false (by omega)]; rfl, B4.out⟩
  · have hset := Lib.hid (set_bad g a0 a1 w2 (.inr (.inr (timeB_false.2 (.inr ⟨h3, h4⟩)))))
    go_wp2_with fail
    refine hset.out.mono ?_
    rintro e w3 ⟨rfl, m3⟩
    have P3 := Lib.hid (P2.out.none_ m3)
    have B3 := Lib.hid (Mod.below B2.out m3 (by simp))
    clear m3
    by_cases hk : a3 < a2
    · go_wp2_with fail
      refine (go_bad g _ a2 a3 [] w3 P3.out (.inr hk)).mono ?_
      rintro e w4 ⟨rfl, m4⟩
      have P4 := Lib.hid (P3.out.none_ m4)
      have B4 := Lib.hid (Mod.below B3.out m4 (by simp))
      clear m4
      go_wp2_with fail
      refine (nowW_any g _ a2 [] w4 P4.out).mono ?_
      rintro e w5 ⟨rfl, rfl⟩
      go_wp2_with fail
      go_ret
      exact ⟨rfl, B4.out⟩
    · have hk2 : a2 ≤ a3 := by omega
      go_wp2_with fail
      refine (at_any g _ a2 [] a0 w3 P3.out).mono ?_
      intro e w4 h4
      obtain ⟨rfl, m4⟩ := AtR.empty h4
      have B4 := Lib.hid (Mod.below B3.out m4 (by simp))
      clear m4 h4
      go_wp2_with fail
      go_ret
      first
        | exact ⟨rfl, B4.out⟩
        | exact ⟨by show Ending.returned (.bool (!decide (a1 ≤ 1099511627776))) = _; rw [decide_eq_false (by omega)]; rfl, B4.out⟩
  · have hset := Lib.hid (set_ok g _ a2 [] a0 a1 w2 P2.out (by simp) (by omega) (by omega) (timeB_true.2 ⟨by omega, by omega⟩))
    go_wp2_with fail
    refine hset.out.mono ?_
    rintro e w3 ⟨F3, l3, rfl, p3, hp3, hs3, m3, f3⟩
    have e3 : l3 = [⟨a0, a1⟩] := List.perm_singleton.1 hp3
    subst e3
    have P3 := Lib.hid p3
    have B3 := Lib.hid (Mod.below B2.out m3 (fun k hk => by subst hk; exact hgw))
    clear m3 p3 hp3 hs3 f3
    by_cases hk : a3 < a2
    · go_wp2_with fail
      refine (go_bad g _ a2 a3 _ w3 P3.out (.inr hk)).mono ?_
      rintro e w4 ⟨rfl, m4⟩
      have P4 := Lib.hid (P3.out.none_ m4)
      have B4 := Lib.hid (Mod.below B3.out m4 (by simp))
      clear m4
      go_wp2_with fail
      refine (nowW_any g _ a2 _ w4 P4.out).mono ?_
      rintro e w5 ⟨rfl, rfl⟩
      go_wp2_with fail
      go_ret
      exact ⟨rfl, B4.out⟩
    · have hk2 : a2 ≤ a3 := by omega
      go_wp2_with fail
      refine (at_any g _ a2 _ a0 w3 P3.out).mono ?_
      intro e w4 h4
      obtain ⟨rfl, m4⟩ := AtR.one (x := ⟨a0, a1⟩) h4
      have B4 := Lib.hid (Mod.below B3.out m4 (by simp))
      clear m4 h4
      go_wp2_with fail
      go_ret
      exact ⟨rfl, B4.out⟩
/-! ### the row's step -/
theorem own : ownKnob Try.prog.godebug = none := by kernel_rfl
theorem laidOut : laidOutB Try.prog = true := by kernel_rfl
set_option maxRecDepth 100000 in
theorem lifted (os : Os) (started : os.Started) (H : Type) (enc : TypeId × Value → H) :
    ReturnsInHanded {} Try.checked os 6 .any (Rows.wheelEndsSpec.pre6 enc Try.prog Try.f6 Rows.wheelEndsRow.domain false) (Rows.wheelEndsSpec.post enc Try.prog Try.f6 false true false false) := by
  refine returnsInHanded_of_change (C := Try.checked) own started (by kernel_rfl) Try.func6
    (ChangeSpec.witness6 (enc := enc) (C := Try.checked) false ⟨#[], #[.int .i64 0, .int .i64 0, .int .i64 0, .int .i64 0], []⟩ 8 (by kernel_rfl) (by kernel_rfl) (by kernel_rfl) (by kernel_rfl)) ?_
  intro W base args ds gs before hval0 hW hcnd _
  have hval : ∀ (j : Nat) t v, Try.f6.params[j]? = some t → args[j]? = some v → Value.okWide Try.prog W .any base t v := hval0
  have hW' := hW
  obtain ⟨p, q, hA0, hV, rfl, hfz, hnd⟩ := hW
  have hA : DataW.TrodAll enc Try.prog W 0 (fun _ => true) true Try.f6.params.toList args.toList ds p := hA0
  rw [Try.params6] at hA hval
  obtain ⟨v0, vs0, d0, ds0, p0, q0, hargs, rfl, rfl, h0, r0⟩ := trodAll_cons hA
  obtain ⟨v1, vs1, d1, ds1, p1, q1, rfl, rfl, rfl, h1, r1⟩ := trodAll_cons r0
  obtain ⟨v2, vs2, d2, ds2, p2, q2, rfl, rfl, rfl, h2, r2⟩ := trodAll_cons r1
  obtain ⟨v3, vs3, d3, ds3, p3, q3, rfl, rfl, rfl, h3, r3⟩ := trodAll_cons r2
  obtain ⟨rfl, rfl, rfl⟩ := trodAll_nil r3
  obtain rfl : args = #[v0, v1, v2, v3] := by cases args; simp_all
  obtain ⟨rfl, rfl⟩ := trodVars_none hV
  have k0 := h0
  have lt0 : ∀ x ∈ p0, x.block < W.heap.size := by obtain ⟨m, hm⟩ := k0; exact DataW.trod_lt m _ _ _ hm
  have k1 := h1
  have lt1 : ∀ x ∈ p1, x.block < W.heap.size := by obtain ⟨m, hm⟩ := k1; exact DataW.trod_lt m _ _ _ hm
  have k2 := h2
  have lt2 : ∀ x ∈ p2, x.block < W.heap.size := by obtain ⟨m, hm⟩ := k2; exact DataW.trod_lt m _ _ _ hm
  have k3 := h3
  have lt3 : ∀ x ∈ p3, x.block < W.heap.size := by obtain ⟨m, hm⟩ := k3; exact DataW.trod_lt m _ _ _ hm
  obtain ⟨a0, rfl, rfl, rfl, w0⟩ := open_int Try.underlying3 (hval 0 3 v0 rfl rfl) h0
  obtain ⟨a1, rfl, rfl, rfl, w1⟩ := open_int Try.underlying2 (hval 1 2 v1 rfl rfl) h1
  obtain ⟨a2, rfl, rfl, rfl, w2⟩ := open_int Try.underlying2 (hval 2 2 v2 rfl rfl) h2
  obtain ⟨a3, rfl, rfl, rfl, w3⟩ := open_int Try.underlying2 (hval 3 2 v3 rfl rfl) h3
  clear hA0 hval0
  refine (walk a0 a1 a2 a3 W w0 w1 w2 w3).mono fun e W' ⟨he, bel⟩ => ?_
  subst he
  exact ⟨_, rfl, _, _, _, [], _, [], hW', trodAll_mk1 (shut_bool Try.underlying4 _), (trodAll_cons_mk (Below.trod laidOut (by kernel_rfl) (of_decide_eq_true (by kernel_rfl)) k0 bel lt0) (trodAll_cons_mk (Below.trod laidOut (by kernel_rfl) (of_decide_eq_true (by kernel_rfl)) k1 bel lt1) (trodAll_cons_mk (Below.trod laidOut (by kernel_rfl) (of_decide_eq_true (by kernel_rfl)) k2 bel lt2) (trodAll_cons_mk (Below.trod laidOut (by kernel_rfl) (of_decide_eq_true (by kernel_rfl)) k3 bel lt3) trodAll_mk0)))), rfl, bel.frame _, fun h => by cases h⟩

theorem over : Rows.wheelEndsRow.holds Try.pinned (OpenSpec.ofChange Rows.wheelEndsSpec) :=
  OpenClaim.holds_of_wide 6 Try.f6 rfl rfl rfl rfl rfl rfl rfl ⟨rfl, rfl, rfl, rfl, rfl⟩ rfl rfl rfl rfl rfl (by kernel_rfl) Try.func6 (by kernel_rfl)
    (of_decide_eq_true (by kernel_rfl)) (by unfold Func.isWrapper; first | (rw [if_pos (by decide +kernel)]; kernel_rfl) | (rw [if_neg (by decide +kernel)]; exact ⟨rfl, rfl⟩))
    (fun os started H enc _ => lifted os started H enc)

theorem proved : Rows.WheelEndsSaid := over
#print axioms proved
end Go.Proofs.Ytnfhmflcaolbbaa.wheelEnds
