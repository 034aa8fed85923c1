/- Proved: curfewlaw5.TallyReset answers true for every two slices of numbers, and leaves them as they were. No condition. -/
import Derived.Test.YtknaolgiameklaaTally
namespace Go.Proofs.Ytknaolgiameklaa.tallyReset
open Go.ChangeShapes Go.WideShapes Go.ChangeAt Go.RowKit
set_option linter.unusedVariables false

/-- what stands at the head of either loop -/
def Rel (W : World) (g : Nat) (len : Nat) (n i : Value) (wr : World) : Prop :=
  ∃ (k : Nat) (c : Nat → Int), k ≤ len ∧ k ≤ 60 ∧ i = .int .i64 k ∧ n = .int .i64 (sumTo c 16) ∧ Tal wr g c ∧ (∀ j, j < 16 → 0 ≤ c j ∧ c j ≤ k) ∧ Below W.heap.size W wr

theorem sum16_bd {c : Nat → Int} {k : Nat} (h : ∀ j, j < 16 → 0 ≤ c j ∧ c j ≤ k) (hk : k ≤ 60) : 0 ≤ sumTo c 16 ∧ sumTo c 16 ≤ 960 := by
  have := sumTo_bd (c := c) (b := 60) 16 fun j hj => ⟨(h j hj).1, by have := (h j hj).2; omega⟩
  omega

set_option maxHeartbeats 800000 in
theorem walk (a0 : Option Addr) (len0 cap0 : Nat) (z0 : Nat → Int) (a1 : Option Addr) (len1 cap1 : Nat) (z1 : Nat → Int) (w : World) (w0 : IntsAt .i64 w a0 len0 z0) (w1 : IntsAt .i64 w a1 len1 z1) :
    Calls Try.prog 7 #[.slice a0 len0 cap0, .slice a1 len1 cap1] w fun e w' => e = .returned (.bool true) ∧ Below w.heap.size w w' := by
  have hm0 := w0.1
  have hm1 := w1.1
  unfold maxLen at hm0 hm1
  have W0 := Lib.hid w0
  have W1 := Lib.hid w1
  clear w0 w1
  go_enter Try.func7, Try.ntmps7
  go_wp2_with fail
  refine (begun_any _).mono ?_
  rintro e wb ⟨rfl, hb1⟩
  have h0 := Lib.hid (tal_new wb 31)
  have hbb := Lib.hid (hb1.alloc (o := .cells #[.int .i64 0, .int .i64 0, .int .i64 0, .int .i64 0, .int .i64 0, .int .i64 0, .int .i64 0, .int .i64 0, .int .i64 0, .int .i64 0, .int .i64 0, .int .i64 0, .int .i64 0, .int .i64 0, .int .i64 0, .int .i64 0] 31) hb1.size)
  have hsz := hb1.size
  clear hb1
  go_wp2_with fail
  go_loopw [7, 8] (fun n i wr => Rel w wb.heap.size len0 n i wr) (fun _ i _ => len0 - (intOf i).toNat)
  case atStart => exact ⟨0, fun _ => 0, by omega, by omega, rfl, rfl, h0.out, by simp, hbb.out⟩
  case round =>
    obtain ⟨k, c, hk, hk60, rfl, rfl, hT, hc, hB⟩ := hrel
    clear h0 hbb
    by_cases hin : k < len0 ∧ k < 60
    · obtain ⟨hlt, h60⟩ := hin
      obtain ⟨b, o, rfl, hbl, hcell, hwf⟩ := (W0.out.below hB (Nat.le_refl _)).at_ hlt
      obtain ⟨s0, s1⟩ := sum16_bd hc hk60
      have zb := i64_bd hwf
      have HC := Lib.hid hc
      have HT := Lib.hid hT
      have HB := Lib.hid hB
      clear hwf hc hT hB
      generalize z0 k = x at *
      by_cases x0 : x < 0
      · go_wp2_with (go_at_call 10; refine (add_low _ _ _ x0).mono ?_; rintro e w' ⟨rfl, rfl⟩)
        go_roundw
        case rel => exact ⟨k + 1, c, by omega, by omega, by go_num, rfl, HT.out, fun j hj => ⟨(HC.out j hj).1, by have := (HC.out j hj).2; omega⟩, HB.out⟩
        case measure => simp [intOf]; omega
      · by_cases x16 : x < 16
        · have hs := Lib.hid (sumTo_upd c x.toNat (c x.toNat + 1) 16 (by omega))
          generalize hS : sumTo c 16 = S at *
          have HS := Lib.hid hS
          clear hS
          go_wp2_with (go_at_call 10; refine (add_in _ _ _ (by omega) x16 c HT.out ⟨(HC.out _ (by omega)).1, by have := (HC.out x.toNat (by omega)).2; omega⟩).mono ?_; rintro e w2 ⟨rfl, hT2, hg2⟩)
          have hB2 := HB.out.grown hg2 HB.out.size (by rintro q ⟨⟩; exact hsz)
          go_roundw
          case rel =>
            refine ⟨k + 1, _, by omega, by omega, by go_num, ?_, hT2, fun j hj => ?_, hB2⟩
            · rw [hs.out, show S - c x.toNat + (c x.toNat + 1) = S + 1 by omega]
            · have h1 := HC.out j hj
              have h2 := HC.out x.toNat (by omega)
              unfold upd
              split <;> omega
          case measure => simp [intOf]; omega
        · go_wp2_with (go_at_call 10; refine (add_high _ _ _ (by omega)).mono ?_; rintro e w' ⟨rfl, rfl⟩)
          go_roundw
          case rel => exact ⟨k + 1, c, by omega, by omega, by go_num, rfl, HT.out, fun j hj => ⟨(HC.out j hj).1, by have := (HC.out j hj).2; omega⟩, HB.out⟩
          case measure => simp [intOf]; omega
    · have hout : k = len0 ∨ k = 60 := by omega
      clear hin
      have hc' : ∀ j, j < 16 → 0 ≤ c j ∧ c j ≤ 1000 := fun j hj => ⟨(hc j hj).1, by have := (hc j hj).2; omega⟩
      obtain ⟨s0, s1⟩ := sum16_bd hc hk60
      have HC := Lib.hid hc'
      have HT := Lib.hid hT
      have HB := Lib.hid hB
      clear hc hc' hT hB
      rcases (show (k < len0 ∧ 60 ≤ k) ∨ len0 ≤ k by omega) with ⟨hlt, hx⟩ | hlt
      all_goals
        clear hout
        go_wp2_with fail
        refine (reset_eq _ _ c (sumTo c 16) HT.out HC.out rfl).mono ?_
        rintro e w2 ⟨rfl, hT2, hg2⟩
        go_wp2_with fail
        refine (reset_eq _ _ _ 0 hT2 (by simp) (sumTo_zero 16)).mono ?_
        rintro e w3 ⟨rfl, hT3, hg3⟩
        have hB3 := Lib.hid ((HB.out.grown hg2 HB.out.size (by rintro q ⟨⟩; exact hsz)).grown hg3 (Nat.le_trans HB.out.size hg2.size) (by rintro q ⟨⟩; exact hsz))
        have H3 := Lib.hid hT3
        clear hT2 hg2 hT3 hg3 HT HB HC hlt
        go_wp2_with fail
        clear hk hk60 s0 s1
        go_loopw [7, 9] (fun n i wr => Rel w wb.heap.size len1 n i wr) (fun _ i _ => len1 - (intOf i).toNat)
        case atStart => exact ⟨0, fun _ => 0, by omega, by omega, rfl, rfl, H3.out, by simp, hB3.out⟩
        case round =>
          obtain ⟨k, c, hk, hk60, rfl, rfl, hT, hc, hB⟩ := hrel
          clear H3 hB3
          by_cases hin : k < len1 ∧ k < 60
          · obtain ⟨hlt, h60⟩ := hin
            obtain ⟨b, o, rfl, hbl, hcell, hwf⟩ := (W1.out.below hB (Nat.le_refl _)).at_ hlt
            obtain ⟨s0, s1⟩ := sum16_bd hc hk60
            have zb := i64_bd hwf
            have HC := Lib.hid hc
            have HT := Lib.hid hT
            have HB := Lib.hid hB
            clear hwf hc hT hB
            generalize z1 k = x at *
            by_cases x0 : x < 0
            · go_wp2_with (go_at_call 10; refine (add_low _ _ _ x0).mono ?_; rintro e w' ⟨rfl, rfl⟩)
              go_roundw
              case rel => exact ⟨k + 1, c, by omega, by omega, by go_num, rfl, HT.out, fun j hj => ⟨(HC.out j hj).1, by have := (HC.out j hj).2; omega⟩, HB.out⟩
              case measure => simp [intOf]; omega
            · by_cases x16 : x < 16
              · have hs := Lib.hid (sumTo_upd c x.toNat (c x.toNat + 1) 16 (by omega))
                generalize hS : sumTo c 16 = S at *
                have HS := Lib.hid hS
                clear hS
                go_wp2_with (go_at_call 10; refine (add_in _ _ _ (by omega) x16 c HT.out ⟨(HC.out _ (by omega)).1, by have := (HC.out x.toNat (by omega)).2; omega⟩).mono ?_; rintro e w2 ⟨rfl, hT2, hg2⟩)
                have hB2 := HB.out.grown hg2 HB.out.size (by rintro q ⟨⟩; exact hsz)
                go_roundw
                case rel =>
                  refine ⟨k + 1, _, by omega, by omega, by go_num, ?_, hT2, fun j hj => ?_, hB2⟩
                  · rw [hs.out, show S - c x.toNat + (c x.toNat + 1) = S + 1 by omega]
                  · have h1 := HC.out j hj
                    have h2 := HC.out x.toNat (by omega)
                    unfold upd
                    split <;> omega
                case measure => simp [intOf]; omega
              · go_wp2_with (go_at_call 10; refine (add_high _ _ _ (by omega)).mono ?_; rintro e w' ⟨rfl, rfl⟩)
                go_roundw
                case rel => exact ⟨k + 1, c, by omega, by omega, by go_num, rfl, HT.out, fun j hj => ⟨(HC.out j hj).1, by have := (HC.out j hj).2; omega⟩, HB.out⟩
                case measure => simp [intOf]; omega
          · have hout : k = len1 ∨ k = 60 := by omega
            clear hin
            have hc' : ∀ j, j < 16 → 0 ≤ c j ∧ c j ≤ 1000 := fun j hj => ⟨(hc j hj).1, by have := (hc j hj).2; omega⟩
            have HC := Lib.hid hc'
            have HT := Lib.hid hT
            have HB := Lib.hid hB
            clear hc hc' hT hB
            rcases (show (k < len1 ∧ 60 ≤ k) ∨ len1 ≤ k by omega) with ⟨hlt, hx⟩ | hlt
            all_goals
              clear hout
              go_wp2_with fail
              refine (sum_eq _ _ c (sumTo c 16) HT.out HC.out rfl).mono ?_
              rintro e w' ⟨rfl, rfl⟩
              go_wp2_with fail
              go_ret
              exact ⟨rfl, HB.out⟩
/-! ### the row's step -/
theorem own : ownKnob Try.prog.godebug = none := by kernel_rfl
theorem laidOut : laidOutB Try.prog = true := by kernel_rfl
set_option maxRecDepth 100000 in
theorem lifted (os : Os) (started : os.Started) (H : Type) (enc : TypeId × Value → H) :
    ReturnsInHanded {} Try.checked os 7 .any (Rows.tallyResetSpec.pre6 enc Try.prog Try.f7 Rows.tallyResetRow.domain false) (Rows.tallyResetSpec.post enc Try.prog Try.f7 false true false false) := by
  refine returnsInHanded_of_change (C := Try.checked) own started (by kernel_rfl) Try.func7
    (ChangeSpec.witness6 (enc := enc) (C := Try.checked) false ⟨#[], #[.slice none 0 0, .slice none 0 0], []⟩ 8 (by kernel_rfl) (by kernel_rfl) (by kernel_rfl) (by kernel_rfl)) ?_
  intro W base args ds gs before hval0 hW hcnd _
  have hval : ∀ (j : Nat) t v, Try.f7.params[j]? = some t → args[j]? = some v → Value.okWide Try.prog W .any base t v := hval0
  have hW' := hW
  obtain ⟨p, q, hA0, hV, rfl, hfz, hnd⟩ := hW
  have hA : DataW.TrodAll enc Try.prog W 0 (fun _ => true) true Try.f7.params.toList args.toList ds p := hA0
  rw [Try.params7] at hA hval
  obtain ⟨v0, vs0, d0, ds0, p0, q0, hargs, rfl, rfl, h0, r0⟩ := trodAll_cons hA
  obtain ⟨v1, vs1, d1, ds1, p1, q1, rfl, rfl, rfl, h1, r1⟩ := trodAll_cons r0
  obtain ⟨rfl, rfl, rfl⟩ := trodAll_nil r1
  obtain rfl : args = #[v0, v1] := by cases args; simp_all
  obtain ⟨rfl, rfl⟩ := trodVars_none hV
  have k0 := h0
  have lt0 : ∀ x ∈ p0, x.block < W.heap.size := by obtain ⟨m, hm⟩ := k0; exact DataW.trod_lt m _ _ _ hm
  have k1 := h1
  have lt1 : ∀ x ∈ p1, x.block < W.heap.size := by obtain ⟨m, hm⟩ := k1; exact DataW.trod_lt m _ _ _ hm
  obtain ⟨a0, len0, cap0, rfl⟩ := okWide_slice Try.underlying22 (hval 0 22 v0 rfl rfl)
  obtain ⟨z0, w0⟩ := IntsAt.open_ Try.underlying22 Try.underlying3 (by kernel_rfl) h0
  obtain ⟨a1, len1, cap1, rfl⟩ := okWide_slice Try.underlying22 (hval 1 22 v1 rfl rfl)
  obtain ⟨z1, w1⟩ := IntsAt.open_ Try.underlying22 Try.underlying3 (by kernel_rfl) h1
  clear hA0 hval0
  refine (walk a0 len0 cap0 z0 a1 len1 cap1 z1 W w0 w1).mono fun e W' ⟨he, bel⟩ => ?_
  subst he
  exact ⟨_, rfl, _, _, _, [], _, [], hW', trodAll_mk1 (shut_bool Try.underlying4 _), (trodAll_cons_mk (Below.trod laidOut (by kernel_rfl) (of_decide_eq_true (by kernel_rfl)) k0 bel lt0) (trodAll_cons_mk (Below.trod laidOut (by kernel_rfl) (of_decide_eq_true (by kernel_rfl)) k1 bel lt1) trodAll_mk0)), rfl, bel.frame _, fun h => by cases h⟩

theorem over : Rows.tallyResetRow.holds Try.pinned (OpenSpec.ofChange Rows.tallyResetSpec) :=
  OpenClaim.holds_of_wide 7 Try.f7 rfl rfl rfl rfl rfl rfl rfl ⟨rfl, rfl, rfl, rfl, rfl⟩ rfl rfl rfl rfl rfl (by kernel_rfl) Try.func7 (by kernel_rfl)
    (of_decide_eq_true (by kernel_rfl)) (by unfold Func.isWrapper; first | (rw [if_pos (by decide +kernel)]; kernel_rfl) | (rw [if_neg (by decide +kernel)]; exact ⟨rfl, rfl⟩))
    (fun os started H enc _ => lifted os started H enc)

theorem proved : Rows.TallyResetSaid := over
#print axioms proved
end Go.Proofs.Ytknaolgiameklaa.tallyReset
