/- Proved: curfewlaw5.TallyTwo answers true for every three numbers. No condition. -/
import Derived.Test.YtknaolgiameklaaTally
namespace Go.Proofs.Ytknaolgiameklaa.tallyTwo
open Go.ChangeShapes Go.WideShapes Go.ChangeAt Go.RowKit
set_option linter.unusedVariables false

/-- one kind was counted k times -/
def only (q : Nat) (k : Int) : Nat → Int := upd (fun _ => 0) q k
theorem only_bd (q : Nat) (k : Int) (h0 : 0 ≤ k) (h1 : k ≤ 1000) : ∀ j, j < 16 → 0 ≤ only q k j ∧ only q k j ≤ 1000 := by
  intro j _; unfold only upd; split
  · exact ⟨h0, h1⟩
  · exact ⟨Int.le_refl 0, Int.ofNat_le.2 (by decide : 0 ≤ 1000)⟩
theorem only_sum (q : Nat) (k : Int) (hq : q < 16) : sumTo (only q k) 16 = k := by
  unfold only; rw [sumTo_upd _ _ _ _ hq, sumTo_zero]; omega
theorem only_at (q : Nat) (k : Int) : only q k q = k := upd_at _ _ _
theorem only_zero (q j : Nat) : only q 0 j = 0 := by unfold only upd; split <;> rfl
theorem only_next (q : Nat) (k : Int) (j : Nat) : upd (only q k) q (only q k q + 1) j = only q (k + 1) j := by
  rw [only_at]; unfold only upd; split <;> rfl

/-- what stands at the loop's head: the first tally lies in block g, the other in block h -/
def Rel (W : World) (g h : Nat) (a b p q : Nat) (i : Value) (wr : World) : Prop :=
  ∃ k : Nat, k ≤ max a b ∧ i = .int .i64 k ∧ Tal wr g (only p (min k a : Nat)) ∧ Tal wr h (only q (min k b : Nat)) ∧ Below W.heap.size W wr

def zeros : Array Value := #[.int .i64 0, .int .i64 0, .int .i64 0, .int .i64 0, .int .i64 0, .int .i64 0, .int .i64 0, .int .i64 0, .int .i64 0, .int .i64 0, .int .i64 0, .int .i64 0, .int .i64 0, .int .i64 0, .int .i64 0, .int .i64 0]

theorem rel_start (W wb : World) (hb : Below W.heap.size W wb) (t : TypeId) (a b p q : Nat) :
    Rel W wb.heap.size (wb.heap.size + 1) a b p q (.int .i64 0) ((wb.alloc (.cells #[.int .i64 0, .int .i64 0, .int .i64 0, .int .i64 0, .int .i64 0, .int .i64 0, .int .i64 0, .int .i64 0, .int .i64 0, .int .i64 0, .int .i64 0, .int .i64 0, .int .i64 0, .int .i64 0, .int .i64 0, .int .i64 0] t)).alloc
      (.cells #[.int .i64 0, .int .i64 0, .int .i64 0, .int .i64 0, .int .i64 0, .int .i64 0, .int .i64 0, .int .i64 0, .int .i64 0, .int .i64 0, .int .i64 0, .int .i64 0, .int .i64 0, .int .i64 0, .int .i64 0, .int .i64 0] t)) := by
  refine ⟨0, by omega, rfl, ?_, ?_, (hb.alloc hb.size _).alloc (by have := hb.size; simp; omega) _⟩
  · refine ((tal_new wb t).of_block (Below.heap_alloc _ _ _ (by simp))).ext fun j _ => ?_
    simp [only_zero]
  · have := tal_new (wb.alloc (.cells zeros t)) t
    refine Tal.ext (c := fun _ => 0) ?_ fun j _ => by simp [only_zero]
    simpa [zeros] using this

set_option maxHeartbeats 800000 in
theorem in_range (a b p : Nat) (ha : a ≤ 50) (hb : b ≤ 50) (hp : p ≤ 15) (w : World) :
    Calls Try.prog 5 #[.int .i64 (a : Int), .int .i64 (b : Int), .int .i64 (p : Int)] w fun e w' => e = .returned (.bool true) ∧ Below w.heap.size w w' := by
  go_enter Try.func5, Try.ntmps5
  go_wp2_with fail
  refine (begun_any _).mono ?_
  rintro e wb ⟨rfl, hb1⟩
  have hst := Lib.hid (rel_start w wb hb1 31 a b p (15 - p))
  have hsz := hb1.size
  clear hb1
  have n0 : (0 : Int) ≤ (a : Int) := by omega
  have n1 : (0 : Int) ≤ (b : Int) := by omega
  have n2 : (0 : Int) ≤ (p : Int) := by omega
  go_wp2_with fail
  go_loopw [10] (fun i wr => Rel w wb.heap.size (wb.heap.size + 1) a b p (15 - p) i wr) (fun i _ => max a b - (intOf i).toNat)
  case atStart => exact hst.out
  case round =>
    obtain ⟨k, hk, rfl, hT, hU, hB⟩ := hrel
    clear hst
    have HT := Lib.hid hT
    have HU := Lib.hid hU
    have HB := Lib.hid hB
    clear hT hU hB
    have eq1 : ((15 : Int) - (p : Int)).toNat = 15 - p := by omega
    have E1 := Lib.hid eq1
    clear eq1
    by_cases ka : k < a
    · have m1 := Lib.hid (show ((min k a : Nat) : Int) = k by omega)
      have m1' := Lib.hid (show ((min (k + 1) a : Nat) : Int) = (k : Int) + 1 by omega)
      by_cases kb : k < b
      · have m2 := Lib.hid (show ((min k b : Nat) : Int) = k by omega)
        have m2' := Lib.hid (show ((min (k + 1) b : Nat) : Int) = (k : Int) + 1 by omega)
        go_wp2_with fail
        refine (add_in _ _ _ (by omega) (by omega) _ HT.out (only_bd _ _ (by omega) (by omega) _ (by omega))).mono ?_
        rintro e w1 ⟨rfl, h1, g1⟩
        have hU1 := Lib.hid (HU.out.of_block (g1.block _ HU.out.lt (by simp)))
        have hB1 := Lib.hid (HB.out.grown g1 HB.out.size (by rintro z ⟨⟩; exact hsz))
        rw [Int.toNat_natCast] at h1
        have H1 := Lib.hid h1
        clear h1 g1
        go_wp2_with fail
        refine (add_in _ _ _ (by omega) (by omega) (only (15 - p) (min k b : Nat)) hU1.out (only_bd _ _ (by omega) (by omega) _ (by omega))).mono ?_
        rintro e w2 ⟨rfl, h2, g2⟩
        have hB2 := Lib.hid (hB1.out.grown g2 hB1.out.size (by rintro z ⟨⟩; omega))
        have hT2 := Lib.hid (H1.out.of_block (g2.block _ H1.out.lt (by simp)))
        rw [E1.out] at h2
        have H2 := Lib.hid h2
        clear h2 g2
        go_wp2_with fail
        go_roundw
        case rel =>
          refine ⟨k + 1, by omega, by go_num, hT2.out.ext fun j _ => ?_, H2.out.ext fun j _ => ?_, hB2.out⟩
          · rw [m1'.out, m1.out]; exact only_next _ _ _
          · rw [m2'.out, m2.out]; exact only_next _ _ _
        case measure => simp [intOf]; omega
      · have m2 := Lib.hid (show (min (k + 1) b : Nat) = min k b by omega)
        go_wp2_with fail
        refine (add_in _ _ _ (by omega) (by omega) _ HT.out (only_bd _ _ (by omega) (by omega) _ (by omega))).mono ?_
        rintro e w1 ⟨rfl, h1, g1⟩
        have hU1 := Lib.hid (HU.out.of_block (g1.block _ HU.out.lt (by simp)))
        have hB1 := Lib.hid (HB.out.grown g1 HB.out.size (by rintro z ⟨⟩; exact hsz))
        rw [Int.toNat_natCast] at h1
        have H1 := Lib.hid h1
        clear h1 g1
        go_wp2_with fail
        go_roundw
        case rel =>
          refine ⟨k + 1, by omega, by go_num, H1.out.ext fun j _ => ?_, ?_, hB1.out⟩
          · rw [m1'.out, m1.out]; exact only_next _ _ _
          · rw [m2.out]; exact hU1.out
        case measure => simp [intOf]; omega
    · have m1 := Lib.hid (show (min (k + 1) a : Nat) = min k a by omega)
      by_cases kb : k < b
      · have m2 := Lib.hid (show ((min k b : Nat) : Int) = k by omega)
        have m2' := Lib.hid (show ((min (k + 1) b : Nat) : Int) = (k : Int) + 1 by omega)
        go_wp2_with fail
        refine (add_in _ _ _ (by omega) (by omega) (only (15 - p) (min k b : Nat)) HU.out (only_bd _ _ (by omega) (by omega) _ (by omega))).mono ?_
        rintro e w2 ⟨rfl, h2, g2⟩
        have hB2 := Lib.hid (HB.out.grown g2 HB.out.size (by rintro z ⟨⟩; omega))
        have hT2 := Lib.hid (HT.out.of_block (g2.block _ HT.out.lt (by simp)))
        rw [E1.out] at h2
        have H2 := Lib.hid h2
        clear h2 g2
        go_wp2_with fail
        go_roundw
        case rel =>
          refine ⟨k + 1, by omega, by go_num, ?_, H2.out.ext fun j _ => ?_, hB2.out⟩
          · rw [m1.out]; exact hT2.out
          · rw [m2'.out, m2.out]; exact only_next _ _ _
        case measure => simp [intOf]; omega
      · have m2 := Lib.hid (show (min k a : Nat) = a by omega)
        have m3 := Lib.hid (show (min k b : Nat) = b by omega)
        have hT1 := HT.out
        have hU1 := HU.out
        rw [m2.out] at hT1
        rw [m3.out] at hU1
        have H1 := Lib.hid hT1
        have H2 := Lib.hid hU1
        clear hT1 hU1 HT HU
        go_wp2_with fail
        refine (get_eq _ _ _ _ (a : Int) H1.out (by omega) (by omega) (only_at _ _)).mono ?_
        rintro e w' ⟨rfl, rfl⟩
        go_wp2_with fail
        refine (get_eq _ _ _ _ (b : Int) H2.out (by omega) (by omega) (by rw [E1.out]; exact only_at _ _)).mono ?_
        rintro e w' ⟨rfl, rfl⟩
        go_wp2_with fail
        refine (sum_eq _ _ _ (a : Int) H1.out (only_bd _ _ (by omega) (by omega)) (only_sum _ _ (by omega))).mono ?_
        rintro e w' ⟨rfl, rfl⟩
        go_wp2_with fail
        refine (sum_eq _ _ _ (b : Int) H2.out (only_bd _ _ (by omega) (by omega)) (only_sum _ _ (by omega))).mono ?_
        rintro e w' ⟨rfl, rfl⟩
        go_wp2_with fail
        refine (reset_eq _ _ _ (a : Int) H1.out (only_bd _ _ (by omega) (by omega)) (only_sum _ _ (by omega))).mono ?_
        rintro e w1 ⟨rfl, h1, g1⟩
        have hU3 := Lib.hid (H2.out.of_block (g1.block _ H2.out.lt (by simp)))
        have hB3 := Lib.hid (HB.out.grown g1 HB.out.size (by rintro z ⟨⟩; exact hsz))
        clear h1 g1
        go_wp2_with fail
        refine (sum_eq _ _ _ (b : Int) hU3.out (only_bd _ _ (by omega) (by omega)) (only_sum _ _ (by omega))).mono ?_
        rintro e w' ⟨rfl, rfl⟩
        go_wp2_with fail
        go_ret
        exact ⟨rfl, hB3.out⟩

theorem walk (a0 : Int) (a1 : Int) (a2 : Int) (w : World) (w0 : (Lit.int .i64 a0).wf = true) (w1 : (Lit.int .i64 a1).wf = true) (w2 : (Lit.int .i64 a2).wf = true) :
    Calls Try.prog 5 #[.int .i64 a0, .int .i64 a1, .int .i64 a2] w fun e w' => e = .returned (.bool true) ∧ Below w.heap.size w w' := by
  by_cases h : 0 ≤ a0 ∧ a0 ≤ 50 ∧ 0 ≤ a1 ∧ a1 ≤ 50 ∧ 0 ≤ a2 ∧ a2 ≤ 15
  · obtain ⟨h1, h2, h3, h4, h5, h6⟩ := h
    obtain ⟨a, rfl⟩ := Int.eq_ofNat_of_zero_le h1
    obtain ⟨b, rfl⟩ := Int.eq_ofNat_of_zero_le h3
    obtain ⟨p, rfl⟩ := Int.eq_ofNat_of_zero_le h5
    exact in_range a b p (by omega) (by omega) (by omega) w
  · clear w0 w1 w2
    have h' : a0 < 0 ∨ (0 ≤ a0 ∧ 50 < a0) ∨ (0 ≤ a0 ∧ a0 ≤ 50 ∧ a1 < 0) ∨ (0 ≤ a0 ∧ a0 ≤ 50 ∧ 0 ≤ a1 ∧ 50 < a1) ∨ (0 ≤ a0 ∧ a0 ≤ 50 ∧ 0 ≤ a1 ∧ a1 ≤ 50 ∧ a2 < 0) ∨ (0 ≤ a0 ∧ a0 ≤ 50 ∧ 0 ≤ a1 ∧ a1 ≤ 50 ∧ 0 ≤ a2 ∧ 15 < a2) := by omega
    clear h
    rcases h' with h | ⟨h1, h2⟩ | ⟨h1, h2, h3⟩ | ⟨h1, h2, h3, h4⟩ | ⟨h1, h2, h3, h4, h5⟩ | ⟨h1, h2, h3, h4, h5, h6⟩
    all_goals
      go_enter Try.func5, Try.ntmps5
      go_wp2_with (go_at_call 8; refine (begun_any _).mono ?_; rintro e wb ⟨rfl, hb1⟩)
      go_ret
      exact ⟨rfl, hb1⟩
/-! ### the row's step -/
theorem own : ownKnob Try.prog.godebug = none := by kernel_rfl
theorem laidOut : laidOutB Try.prog = true := by kernel_rfl
set_option maxRecDepth 100000 in
theorem lifted (os : Os) (started : os.Started) (H : Type) (enc : TypeId × Value → H) :
    ReturnsInHanded {} Try.checked os 5 .any (Rows.tallyTwoSpec.pre6 enc Try.prog Try.f5 Rows.tallyTwoRow.domain false) (Rows.tallyTwoSpec.post enc Try.prog Try.f5 false true false false) := by
  refine returnsInHanded_of_change (C := Try.checked) own started (by kernel_rfl) Try.func5
    (ChangeSpec.witness6 (enc := enc) (C := Try.checked) false ⟨#[], #[.int .i64 0, .int .i64 0, .int .i64 0], []⟩ 8 (by kernel_rfl) (by kernel_rfl) (by kernel_rfl) (by kernel_rfl)) ?_
  intro W base args ds gs before hval0 hW hcnd _
  have hval : ∀ (j : Nat) t v, Try.f5.params[j]? = some t → args[j]? = some v → Value.okWide Try.prog W .any base t v := hval0
  have hW' := hW
  obtain ⟨p, q, hA0, hV, rfl, hfz, hnd⟩ := hW
  have hA : DataW.TrodAll enc Try.prog W 0 (fun _ => true) true Try.f5.params.toList args.toList ds p := hA0
  rw [Try.params5] at hA hval
  obtain ⟨v0, vs0, d0, ds0, p0, q0, hargs, rfl, rfl, h0, r0⟩ := trodAll_cons hA
  obtain ⟨v1, vs1, d1, ds1, p1, q1, rfl, rfl, rfl, h1, r1⟩ := trodAll_cons r0
  obtain ⟨v2, vs2, d2, ds2, p2, q2, rfl, rfl, rfl, h2, r2⟩ := trodAll_cons r1
  obtain ⟨rfl, rfl, rfl⟩ := trodAll_nil r2
  obtain rfl : args = #[v0, v1, v2] := by cases args; simp_all
  obtain ⟨rfl, rfl⟩ := trodVars_none hV
  have k0 := h0
  have lt0 : ∀ x ∈ p0, x.block < W.heap.size := by obtain ⟨m, hm⟩ := k0; exact DataW.trod_lt m _ _ _ hm
  have k1 := h1
  have lt1 : ∀ x ∈ p1, x.block < W.heap.size := by obtain ⟨m, hm⟩ := k1; exact DataW.trod_lt m _ _ _ hm
  have k2 := h2
  have lt2 : ∀ x ∈ p2, x.block < W.heap.size := by obtain ⟨m, hm⟩ := k2; exact DataW.trod_lt m _ _ _ hm
  obtain ⟨a0, rfl, rfl, rfl, w0⟩ := open_int Try.underlying3 (hval 0 3 v0 rfl rfl) h0
  obtain ⟨a1, rfl, rfl, rfl, w1⟩ := open_int Try.underlying3 (hval 1 3 v1 rfl rfl) h1
  obtain ⟨a2, rfl, rfl, rfl, w2⟩ := open_int Try.underlying3 (hval 2 3 v2 rfl rfl) h2
  clear hA0 hval0
  refine (walk a0 a1 a2 W w0 w1 w2).mono fun e W' ⟨he, bel⟩ => ?_
  subst he
  exact ⟨_, rfl, _, _, _, [], _, [], hW', trodAll_mk1 (shut_bool Try.underlying4 _), (trodAll_cons_mk (Below.trod laidOut (by kernel_rfl) (of_decide_eq_true (by kernel_rfl)) k0 bel lt0) (trodAll_cons_mk (Below.trod laidOut (by kernel_rfl) (of_decide_eq_true (by kernel_rfl)) k1 bel lt1) (trodAll_cons_mk (Below.trod laidOut (by kernel_rfl) (of_decide_eq_true (by kernel_rfl)) k2 bel lt2) trodAll_mk0))), rfl, bel.frame _, fun h => by cases h⟩

theorem over : Rows.tallyTwoRow.holds Try.pinned (OpenSpec.ofChange Rows.tallyTwoSpec) :=
  OpenClaim.holds_of_wide 5 Try.f5 rfl rfl rfl rfl rfl rfl rfl ⟨rfl, rfl, rfl, rfl, rfl⟩ rfl rfl rfl rfl rfl (by kernel_rfl) Try.func5 (by kernel_rfl)
    (of_decide_eq_true (by kernel_rfl)) (by unfold Func.isWrapper; first | (rw [if_pos (by decide +kernel)]; kernel_rfl) | (rw [if_neg (by decide +kernel)]; exact ⟨rfl, rfl⟩))
    (fun os started H enc _ => lifted os started H enc)

theorem proved : Rows.TallyTwoSaid := over
#print axioms proved
end Go.Proofs.Ytknaolgiameklaa.tallyTwo
