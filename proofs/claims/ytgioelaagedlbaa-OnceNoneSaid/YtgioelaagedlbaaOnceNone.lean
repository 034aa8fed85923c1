/- Proved: curfewlaw6.OnceNone answers true. No condition. -/
import Derived.Test.YtgioelaagedlbaaOnceH
import Derived.Test.YtgioelaagedlbaaOnceB
namespace Go.Proofs.Ytgioelaagedlbaa.onceNone
open Go.ChangeShapes Go.WideShapes Go.ChangeAt Go.RowKit
set_option linter.unusedVariables false
set_option linter.unusedSimpArgs false

theorem get_none (g : Nat) (w : World) (hC : Cells w g (cold .nilFunc)) :
    Calls Try.prog 12 #[.pointer (some ⟨g, 0, none⟩)] w (Got w g .nilFunc [] (fun _ => False) (fun _ => True)) := by
  have hg : g < w.heap.size := hC.2.2
  refine get_first g .nilFunc (.slice none 0 0) w hC [] (by simp) (fun _ => False) (by simp) (by simp) (fun _ => True) (fun _ _ _ _ => trivial) fun pl W hpl hp hW hM => ?_
  refine (get1_nil g pl false 1 (.slice none 0 0) (by omega) W hp hW).mono ?_
  rintro e w' ⟨rfl, h1, h2⟩
  exact ⟨rfl, _, h1, none, 0, rfl, Own.nil _ _, by simp [blk], trivial, (hM.trans h2 fun k hk => .inl hk).mono fun k _ hk => .inl hk⟩

set_option maxHeartbeats 3200000 in
theorem walk (w : World) : Calls Try.prog 5 #[] w fun e w' => e = .returned (.bool true) ∧ Below w.heap.size w w' := by
  have hnot : ∀ (x : Bool) (w : World), (Op.unary .not (.bool x)).run Try.prog w = .ok (.bool (!x)) w := fun _ _ => rfl
  go_enter Try.func5, Try.ntmps5
  go_wp2_with fail
  refine (new_any _ _ (.inr rfl)).mono ?_
  rintro e w1 ⟨g, rfl, cg, hg, m1⟩
  have C1 := Lib.hid cg
  have M1 := Lib.hid m1
  clear cg m1
  go_wp2_with fail
  refine (begun_any _).mono ?_
  rintro e w2 ⟨rfl, hb⟩
  have C2 := Lib.hid (C1.out.mod (Mod.of_below hb) (by have := C1.out.2.2; omega))
  have B2 := Lib.hid ((Mod.below (Below.refl _ _) M1.out (by simp)).trans (Below.mono hb M1.out.size))
  clear hb
  go_wp2_with fail
  refine (get_nil _).mono ?_
  rintro e w3 ⟨rfl, m3⟩
  have C3 := Lib.hid (C2.out.mod m3 (by simp))
  have B3 := Lib.hid (Mod.below B2.out m3 (by simp))
  clear m3
  go_wp2_with fail
  refine (done_nil _).mono ?_
  rintro e w4 ⟨rfl, rfl⟩
  go_wp2_with fail
  refine (get_none g _ C3.out).mono ?_
  rintro e w4 ⟨A, c, hi, rfl, o2, ⟨L, cL, h2, _, _⟩, j2, m2, b2, s1, s2⟩
  have HD := Lib.hid (done_any g _ _ _ _ _ w4 h2)
  have B4 := Lib.hid (Mod.below B3.out m2 (fun k hk => by rcases hk with e | e; omega; exact e.elim))
  clear o2 h2 j2 m2 b2 s1 s2
  go_wp2_with fail
  refine HD.out.mono ?_
  rintro e w5 ⟨rfl, rfl⟩
  go_wp2_with fail
  go_ret
  exact ⟨rfl, B4.out⟩
/-! ### the row's step -/
theorem own : ownKnob Try.prog.godebug = none := by kernel_rfl
theorem laidOut : laidOutB Try.prog = true := by kernel_rfl
set_option maxRecDepth 100000 in
theorem lifted (os : Os) (started : os.Started) (H : Type) (enc : TypeId × Value → H) :
    ReturnsInHanded {} Try.checked os 5 .any (Rows.onceNoneSpec.pre6 enc Try.prog Try.f5 Rows.onceNoneRow.domain false) (Rows.onceNoneSpec.post enc Try.prog Try.f5 false true false false) := by
  refine returnsInHanded_of_change (C := Try.checked) own started (by kernel_rfl) Try.func5
    (ChangeSpec.witness6 (enc := enc) (C := Try.checked) false ⟨#[], #[], []⟩ 8 (by kernel_rfl) (by kernel_rfl) (by kernel_rfl) (by kernel_rfl)) ?_
  intro W base args ds gs before hval0 hW hcnd _
  have hval : ∀ (j : Nat) t v, Try.f5.params[j]? = some t → args[j]? = some v → Value.okWide Try.prog W .any base t v := hval0
  have hW' := hW
  obtain ⟨p, q, hA0, hV, rfl, hfz, hnd⟩ := hW
  have hA : DataW.TrodAll enc Try.prog W 0 (fun _ => true) true Try.f5.params.toList args.toList ds p := hA0
  rw [Try.params5] at hA hval
  obtain ⟨rfl, rfl, rfl⟩ := trodAll_none hA
  obtain ⟨rfl, rfl⟩ := trodVars_none hV

  clear hA0 hval0
  refine (walk  W ).mono fun e W' ⟨he, bel⟩ => ?_
  subst he
  exact ⟨_, rfl, _, _, _, [], _, [], hW', trodAll_mk1 (shut_bool Try.underlying4 _), trodAll_mk0, rfl, bel.frame _, fun h => by cases h⟩

theorem over : Rows.onceNoneRow.holds Try.pinned (OpenSpec.ofChange Rows.onceNoneSpec) :=
  OpenClaim.holds_of_wide 5 Try.f5 rfl rfl rfl rfl rfl rfl rfl ⟨rfl, rfl, rfl, rfl, rfl⟩ rfl rfl rfl rfl rfl (by kernel_rfl) Try.func5 (by kernel_rfl)
    (of_decide_eq_true (by kernel_rfl)) (by unfold Func.isWrapper; first | (rw [if_pos (by decide +kernel)]; kernel_rfl) | (rw [if_neg (by decide +kernel)]; exact ⟨rfl, rfl⟩))
    (fun os started H enc _ => lifted os started H enc)

theorem proved : Rows.OnceNoneSaid := over
#print axioms proved
end Go.Proofs.Ytgioelaagedlbaa.onceNone
