/- Proved: curfewlaw7.WheelAgain answers true for every list of times. No condition. -/
import Derived.Test.YtnfhmflcaolbbaaWheelB
namespace Go.Proofs.Ytnfhmflcaolbbaa.wheelAgain
open Go.ChangeShapes Go.WideShapes Go.ChangeAt Go.RowKit
set_option linter.unusedVariables false
set_option linter.unusedSimpArgs false
attribute [local go_sem ↓] Go.wp_at_zero Go.wp_at_succ

theorem and_mask (c : Int) (m : Nat) (hm : m < 9223372036854775808) : ∃ t : Nat, t ≤ m ∧ bits .and .i64 c (m : Int) = (t : Int) := by
  have h2 : (BitVec.ofInt 64 (m : Int)).toNat = m := by
    rw [BitVec.ofInt_natCast, BitVec.toNat_ofNat]; exact Nat.mod_eq_of_lt (by omega)
  have hle : (BitVec.ofInt 64 c).toNat &&& m ≤ m := Nat.and_le_right
  refine ⟨(BitVec.ofInt 64 c).toNat &&& m, hle, ?_⟩
  show IntKind.i64.wrap ((BitVec.ofInt 64 c &&& BitVec.ofInt 64 (m : Int)).toNat : Int) = _
  rw [BitVec.toNat_and, h2]
  generalize (BitVec.ofInt 64 c).toNat &&& m = t at *
  have e : ((t : Int)) % 2 ^ 64 = t := by omega
  simp only [IntKind.wrap, IntKind.bits, IntKind.signed, e]
  rw [if_neg (by simp; omega)]

def lst (i : Nat) (last : Int) : List Tm := if i = 0 then [] else [⟨7, last⟩]
theorem lst_len (i : Nat) (last : Int) : (lst i last).length ≤ 1 := by unfold lst; split <;> simp
theorem lst_del (i : Nat) (last : Int) : del (lst i last) 7 = [] := by unfold lst; split <;> rfl

set_option maxRecDepth 100000 in
set_option maxHeartbeats 6400000 in
theorem walk (a0 : Option Addr) (len0 cap0 : Nat) (z0 : Nat → Int) (w : World) (w0 : IntsAt .i64 w a0 len0 z0) :
    Calls Try.prog 7 #[.slice a0 len0 cap0] w fun e w' => e = .returned (.bool true) ∧ Below w.heap.size w w' := by
  have HZ := Lib.hid w0
  have hb1 := w0.1
  unfold maxLen at hb1
  clear w0
  go_enter Try.func7, Try.ntmps7
  go_wp2_with fail
  refine (begunW_any _).mono ?_
  rintro e wb ⟨rfl, hb⟩
  have HB := Lib.hid hb
  clear hb
  go_wp2_with fail
  refine (newW_any 0 wb).mono ?_
  rintro e wp ⟨g, rfl, pp, hg, mp⟩
  rw [show (if timeB 0 then (0 : Int) else 0) = 0 from by decide] at pp
  have PP := Lib.hid pp
  have BP := Lib.hid (Mod.below HB.out mp (by simp))
  have hgw : w.heap.size ≤ g := Nat.le_trans HB.out.size hg
  clear pp mp HB
  go_wp2_with fail
  go_loopg [5, 6] 20 (fun m v5 v6 wr => ∃ (i : Nat) (last : Int) (F : Nat → Prop), i ≤ 20 ∧ i ≤ len0 ∧ (i = 0 → last = -1) ∧ (0 < i → 1 ≤ last ∧ last ≤ 1024) ∧ v6 = .int .i64 i ∧ v5 = .int .i64 last ∧
      Hid (IsW wr g F 0 (lst i last)) ∧ Hid (∀ q, F q → w.heap.size ≤ q) ∧ Hid (Below w.heap.size w wr) ∧ m + i = 20)
  case atStart => exact ⟨0, -1, fun k => k = g, by omega, by omega, by omega, by omega, rfl, rfl, PP, Lib.hid (fun q e => by subst e; exact hgw), BP, by omega⟩
  case round =>
    obtain ⟨i, last, F, hi, hil, hl0, hl1, rfl, rfl, HP, HF, HBW, hm⟩ := hrel
    by_cases hin : i < len0 ∧ i < 20
    · obtain ⟨h1, h2⟩ := hin
      obtain ⟨bb, ob, hA1, hbb, q0, hwf⟩ := HZ.out.at_ h1
      have q1 := (HBW.out.cell (p := ⟨bb, ob + i, none⟩) hbb).trans q0
      have HA1 := Lib.hid hA1
      have j0 : (0 : Int) ≤ (i : Int) := by omega
      have j1 : (i : Int) < (len0 : Int) := by omega
      have HN := Lib.hid (and_mask (z0 i) 1023 (by omega))
      clear hwf q0
      generalize z0 i = x at *
      rw [hA1]
      clear hA1
      go_upto_region 9 with (fail)
      go_cut [5] (fun s5 wx => ∃ t : Nat, t ≤ 1023 ∧ s5 = .int .i64 (1 + t) ∧ wr = wx)
      case first =>
        obtain ⟨t, ht, hte⟩ := HN.out
        have HT := Lib.hid hte
        clear hte
        go_wp2_with fail
        go_meet
        exact ⟨t, ht, by first | rfl | (show Value.int .i64 (wrap64 (1 + bits .and .i64 x ((1023 : Nat) : Int))) = _; rw [HT.out, IntWalk.wrap64_in _ ⟨by omega, by omega⟩]) , rfl⟩
      case rest =>
        obtain ⟨t, ht, rfl, rfl⟩ := hcut
        clear HN q1
        have hset := set_ok g F 0 (lst i last) 7 (1 + t) wr HP.out (by have := lst_len i last; omega) (by omega) (by omega) (timeB_true.2 ⟨by omega, by omega⟩)
        have HS := Lib.hid hset
        have HLD := Lib.hid (lst_del i last)
        clear hset
        go_wp2_with fail
        refine HS.out.mono ?_
        rintro e w3 ⟨F3, l3, rfl, p3, hp3, hs3, m3, f3⟩
        rw [HLD.out] at hp3
        have e3 : l3 = [⟨7, 1 + t⟩] := List.perm_singleton.1 hp3
        subst e3
        have P3 := Lib.hid p3
        have P4 := Lib.hid (show IsW w3 g F3 0 (lst (i + 1) (1 + t)) from p3)
        have B3 := Lib.hid (Mod.below HBW.out m3 HF.out)
        have F3' := Lib.hid (show ∀ q, F3 q → w.heap.size ≤ q from fun q hq => by have := HBW.out.size; rcases f3 q hq with h | h; (exact HF.out q h); omega)
        clear m3 p3 hp3 hs3 f3 HS
        go_wp2_with fail
        refine (lenW_any g F3 0 _ w3 P3.out).mono ?_
        rintro e w4 ⟨rfl, rfl⟩
        rw [← HA1.out]
        go_wp2_with fail
        go_roundg (20 - (i + 1))
        case measure => omega
        case rel => exact ⟨i + 1, 1 + t, F3, by omega, by omega, by omega, by omega, by go_num, rfl, P4, F3', B3, by omega⟩
    · have hd : ¬ i < len0 ∨ (i < len0 ∧ ¬ i < 20) := by omega
      by_cases hi0 : i = 0
      · subst hi0
        have hl := hl0 rfl
        subst hl
        have HG := Lib.hid (go_ok g F 0 5000 [] wr HP.out (by simp) (by decide) (by omega))
        have n0 : ¬ (0 : Nat) < len0 := by omega
        have n1 : len0 = 0 := by omega
        clear HP hin hl0 hl1 hd
        subst n1
        go_wp2_with fail
        refine HG.out.mono ?_
        intro e w4 h4
        obtain ⟨B, d, rfl, o4, p4, m4, b4⟩ := h4.none (by simp)
        have B4 := Lib.hid (Mod.below HBW.out m4 HF.out)
        clear h4 o4 p4 m4 b4
        go_wp2_with fail
        go_ret
        exact ⟨rfl, B4.out⟩
      · obtain ⟨hl2, hl3⟩ := hl1 (by omega)
        have el : lst i last = [⟨7, last⟩] := by unfold lst; rw [if_neg hi0]
        rw [el] at HP
        have HG1 := Lib.hid (go_ok g F 0 (last - 1) [⟨7, last⟩] wr HP.out (by simp) (timeB_true.2 ⟨by omega, by omega⟩) (by omega))
        have hw1 : wrap64 (last - 1) = last - 1 := IntWalk.wrap64_in _ ⟨by omega, by omega⟩
        have nl : ¬ last < 0 := by omega
        clear HP hin hl0 hl1
        rcases hd with hd | ⟨hd1, hd2⟩
        all_goals
          go_wp2_with fail
          refine HG1.out.mono ?_
          intro e w4 h4
          obtain ⟨B, d, rfl, o4, p4, m4, b4⟩ := h4.none (fun _ => by show last - 1 < last; omega)
          have P4 := Lib.hid p4
          have B4 := Lib.hid (Mod.below HBW.out m4 HF.out)
          have HG2 := Lib.hid (go_ok g F (last - 1) last [⟨7, last⟩] w4 p4 (by simp) (timeB_true.2 ⟨by omega, by omega⟩) (by omega))
          clear h4 o4 p4 m4 b4
          go_wp2_with fail
          refine HG2.out.mono ?_
          intro e w5 h5
          obtain ⟨B5, d5, rfl, o5, p5, m5, b5⟩ := h5.all (fun j hj => by have : j = 0 := by simpa using hj
                                                                         subst this; exact Int.le_refl last)
          have HO5 := Lib.hid o5
          have P5 := Lib.hid p5
          have B6 := Lib.hid (Mod.below B4.out m5 HF.out)
          have HG3 := Lib.hid (go_ok g F last 5000 [] w5 p5 (by simp) (by decide) (by omega))
          obtain ⟨gb, ob, hB, hgb⟩ := o5.form (by simp)
          subst hB
          obtain ⟨g', o', e', _, q0⟩ := o5.at_ (j := 0) (u := .int .i64 7) rfl
          injection e' with e'
          injection e' with e1 e2
          subst e1 e2
          simp only [Nat.add_zero] at q0
          rw [show ([⟨7, last⟩] : List Tm).length = 1 from rfl]
          clear h5 o5 p5 m5 b5
          go_wp2_with fail
          refine HG3.out.mono ?_
          intro e w6 h6
          obtain ⟨B7, d7, rfl, o6, p6, m6, b6⟩ := h6.none (by simp)
          have B8 := Lib.hid (Mod.below B6.out m6 HF.out)
          clear h6 o6 p6 m6 b6
          go_wp2_with fail
          go_ret
          exact ⟨rfl, B8.out⟩
/-! ### the row's step -/
theorem own : ownKnob Try.prog.godebug = none := by kernel_rfl
theorem laidOut : laidOutB Try.prog = true := by kernel_rfl
set_option maxRecDepth 100000 in
theorem lifted (os : Os) (started : os.Started) (H : Type) (enc : TypeId × Value → H) :
    ReturnsInHanded {} Try.checked os 7 .any (Rows.wheelAgainSpec.pre6 enc Try.prog Try.f7 Rows.wheelAgainRow.domain false) (Rows.wheelAgainSpec.post enc Try.prog Try.f7 false true false false) := by
  refine returnsInHanded_of_change (C := Try.checked) own started (by kernel_rfl) Try.func7
    (ChangeSpec.witness6 (enc := enc) (C := Try.checked) false ⟨#[], #[.slice none 0 0], []⟩ 8 (by kernel_rfl) (by kernel_rfl) (by kernel_rfl) (by kernel_rfl)) ?_
  intro W base args ds gs before hval0 hW hcnd _
  have hval : ∀ (j : Nat) t v, Try.f7.params[j]? = some t → args[j]? = some v → Value.okWide Try.prog W .any base t v := hval0
  have hW' := hW
  obtain ⟨p, q, hA0, hV, rfl, hfz, hnd⟩ := hW
  have hA : DataW.TrodAll enc Try.prog W 0 (fun _ => true) true Try.f7.params.toList args.toList ds p := hA0
  rw [Try.params7] at hA hval
  obtain ⟨v0, vs0, d0, ds0, p0, q0, hargs, rfl, rfl, h0, r0⟩ := trodAll_cons hA
  obtain ⟨rfl, rfl, rfl⟩ := trodAll_nil r0
  obtain rfl : args = #[v0] := by cases args; simp_all
  obtain ⟨rfl, rfl⟩ := trodVars_none hV
  have k0 := h0
  have lt0 : ∀ x ∈ p0, x.block < W.heap.size := by obtain ⟨m, hm⟩ := k0; exact DataW.trod_lt m _ _ _ hm
  obtain ⟨a0, len0, cap0, rfl⟩ := okWide_slice Try.underlying39 (hval 0 39 v0 rfl rfl)
  obtain ⟨z0, w0⟩ := IntsAt.open_ Try.underlying39 Try.underlying2 (by kernel_rfl) h0
  clear hA0 hval0
  refine (walk a0 len0 cap0 z0 W w0).mono fun e W' ⟨he, bel⟩ => ?_
  subst he
  exact ⟨_, rfl, _, _, _, [], _, [], hW', trodAll_mk1 (shut_bool Try.underlying4 _), (trodAll_cons_mk (Below.trod laidOut (by kernel_rfl) (of_decide_eq_true (by kernel_rfl)) k0 bel lt0) trodAll_mk0), rfl, bel.frame _, fun h => by cases h⟩

theorem over : Rows.wheelAgainRow.holds Try.pinned (OpenSpec.ofChange Rows.wheelAgainSpec) :=
  OpenClaim.holds_of_wide 7 Try.f7 rfl rfl rfl rfl rfl rfl rfl ⟨rfl, rfl, rfl, rfl, rfl⟩ rfl rfl rfl rfl rfl (by kernel_rfl) Try.func7 (by kernel_rfl)
    (of_decide_eq_true (by kernel_rfl)) (by unfold Func.isWrapper; first | (rw [if_pos (by decide +kernel)]; kernel_rfl) | (rw [if_neg (by decide +kernel)]; exact ⟨rfl, rfl⟩))
    (fun os started H enc _ => lifted os started H enc)

theorem proved : Rows.WheelAgainSaid := over
#print axioms proved
end Go.Proofs.Ytnfhmflcaolbbaa.wheelAgain
