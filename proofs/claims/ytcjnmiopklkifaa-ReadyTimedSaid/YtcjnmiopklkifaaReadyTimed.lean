/- Proved: curfewlaw14.ReadyTimed answers true for every list of kinds and every list of times, and leaves what came in as it was. No condition. -/
import Derived.Test.YtcjnmiopklkifaaReadyJ
namespace Go.Proofs.Ytcjnmiopklkifaa.readyTimed
open Go.ChangeShapes Go.WideShapes Go.ChangeAt Go.RowKit
set_option linter.unusedVariables false
set_option linter.unusedSimpArgs false
attribute [local go_sem ↓] Go.wp_at_zero Go.wp_at_succ

theorem and_mask (c : Int) (m : Nat) (hm : m < 9223372036854775808) : ∃ t : Nat, t ≤ m ∧ bits .and .i64 c (m : Int) = (t : Int) := by
  have h2 : (BitVec.ofInt 64 (m : Int)).toNat = m := by
    rw [BitVec.ofInt_natCast, BitVec.toNat_ofNat]; exact Nat.mod_eq_of_lt (by omega)
  have hle : (BitVec.ofInt 64 c).toNat &&& m ≤ m := Nat.and_le_right
  refine ⟨(BitVec.ofInt 64 c).toNat &&& m, hle, ?_⟩
  show IntKind.i64.wrap ((BitVec.ofInt 64 c &&& BitVec.ofInt 64 (m : Int)).toNat : Int) = _
  rw [BitVec.toNat_and, h2]
  generalize (BitVec.ofInt 64 c).toNat &&& m = t at *
  have e : ((t : Int)) % 2 ^ 64 = t := by omega
  simp only [IntKind.wrap, IntKind.bits, IntKind.signed, e]
  rw [if_neg (by simp; omega)]

set_option maxRecDepth 100000 in
set_option maxHeartbeats 6400000 in
theorem walk (a0 : Option Addr) (len0 cap0 : Nat) (z0 : Nat → Int) (a1 : Option Addr) (len1 cap1 : Nat) (z1 : Nat → Int) (w : World) (w0 : IntsAt .i64 w a0 len0 z0) (w1 : IntsAt .i64 w a1 len1 z1) :
    Calls Try.prog 10 #[.slice a0 len0 cap0, .slice a1 len1 cap1] w fun e w' => e = .returned (.bool true) ∧ Below w.heap.size w w' := by
  have HZ := Lib.hid w0
  have HC := Lib.hid w1
  have hb1 := w1.1
  unfold maxLen at hb1
  clear w0 w1
  go_enter Try.func10, Try.ntmps10
  go_wp2_with fail
  refine (begun_any _).mono ?_
  rintro e wb ⟨rfl, hb⟩
  have HB := Lib.hid hb
  clear hb
  go_wp2_with fail
  refine (kinds_t a0 len0 cap0 z0 wb (HZ.out.below HB.out (Nat.le_refl _))).mono ?_
  rintro e w1 ⟨es, L, cl, hel, hks, rfl, oL, mL, bL⟩
  have hle : es.length ≤ 30 := by omega
  have hoks := Lib.hid (hks.ok (by omega))
  have HKS := Lib.hid hks
  have OL := Lib.hid oL
  have ML := Lib.hid mL
  have hcl := oL.2.1
  have hcm := oL.2.2.1
  unfold maxLen at hcm
  clear hks oL mL bL hel
  go_wp2_with fail
  refine (newQ_any _).mono ?_
  rintro e w3 ⟨g, rfl, hq, m3, hg3⟩
  have hst := Lib.hid (show St wb g L cl es [] w3 from ⟨_, hq, OL.out.mod m3 (by simp), fun k hk h => by have := OL.out.lt hk; omega, fun k h => by have := ML.out.size; omega, (ML.out.trans m3 (by simp)).mono (by simp)⟩)
  clear hq m3 hg3 ML OL
  go_wp2_with fail
  go_loopg [8, 9] 20 (fun m v8 v9 wr => ∃ (i f : Nat), i ≤ 20 ∧ i ≤ len1 ∧ f ≤ es.length ∧ v9 = .int .i64 i ∧ v8 = .int .i64 f ∧ Hid (St wb g L cl es (tp es f) wr) ∧ m + i = 20)
  case atStart => exact ⟨0, 0, by omega, by omega, by omega, rfl, rfl, hst, by omega⟩
  case round =>
    obtain ⟨i, f, hi, hil, hf, rfl, rfl, HS, hm⟩ := hrel
    by_cases hin : i < len1 ∧ i < 20
    · obtain ⟨h1, h2⟩ := hin
      have BW := Lib.hid (Mod.below HB.out HS.out.choose_spec.2.2.2.2 (fun k hk => Nat.le_trans HB.out.size hk))
      obtain ⟨b, o, ha1, hb1, q0, hwf⟩ := HC.out.at_ h1
      have q1 := (BW.out.cell (p := ⟨b, o + i, none⟩) hb1).trans q0
      have HA1 := Lib.hid ha1
      have i0 : (0 : Int) ≤ (i : Int) := by omega
      have i1 : (i : Int) < (len1 : Int) := by omega
      have HN := Lib.hid (and_mask (z1 i) 63 (by omega))
      clear hwf q0
      generalize z1 i = c at *
      rw [ha1]
      clear ha1
      go_upto_region 10 with (fail)
      go_cut [10] (fun s10 wx => ∃ t : Int, 0 ≤ t ∧ t ≤ 63 ∧ s10 = .int .i64 t ∧ wr = wx)
      case first =>
        go_wp2_with fail
        go_meet
        obtain ⟨t, ht, hte⟩ := HN.out
        exact ⟨t, by omega, by omega, by rw [← hte]; rfl, rfl⟩
      case rest =>
        obtain ⟨t, ht0, ht1, rfl, rfl⟩ := hcut
        have hg := HS.out.go es.length es.length t (Nat.le_refl _) (by omega) (by rw [tp_len hf]; omega) hoks.out (by omega) (by omega) (by omega) (by omega)
        rw [List.take_length] at hg
        have HSG := Lib.hid (timed_go HKS.out hf t ht0)
        have HG := Lib.hid hg
        clear hg q1
        go_wp2_with fail
        with_reducible refine HG.out.mono ?_
        rintro e z ⟨AT, ct, rfl, oT, sT, mT⟩
        rw [HSG.out] at sT
        have ST := Lib.hid sT
        clear oT sT mT HSG HG
        go_upto_region 12 with (fail)
        go_cut [8] (fun s8 wx => s8 = .int .i64 ((max f (min es.length (t - 2).toNat) : Nat) : Int) ∧ z = wx)
        case first =>
          go_wp2_with fail
          all_goals
            go_meet
            refine ⟨?_, rfl⟩
            show Value.int .i64 _ = Value.int .i64 _
            congr 1
            omega
        case rest =>
          obtain ⟨rfl, rfl⟩ := hcut
          have hf2 : max f (min es.length (t - 2).toNat) ≤ es.length := by omega
          generalize max f (min es.length (t - 2).toNat) = f2 at *
          have HTL := Lib.hid (tp_len hf2)
          have htold := ST.out.told (by rw [HTL.out]; omega)
          have HT := Lib.hid htold
          clear htold
          go_wp2_with fail
          refine HT.out.mono ?_
          rintro e z2 ⟨A5, c5, rfl, o5, m5, -⟩
          have S5 := Lib.hid (ST.out.mod m5)
          rw [HTL.out]
          clear o5 m5 ST HT
          rw [← HA1.out]
          go_wp2_with fail
          go_roundg (20 - (i + 1))
          case measure => omega
          case rel => exact ⟨i + 1, f2, by omega, by omega, by omega, by go_num, rfl, S5, by omega⟩
    · have hend : i < len1 ∧ 20 ≤ i ∨ len1 ≤ i := by omega
      have BW := Lib.hid (Mod.below HB.out HS.out.choose_spec.2.2.2.2 (fun k hk => Nat.le_trans HB.out.size hk))
      clear hin
      rcases hend with ⟨h1, h2⟩ | h1
      all_goals
        go_wp2_with fail
        go_ret
        exact ⟨rfl, BW.out⟩
/-! ### the row's step -/
theorem own : ownKnob Try.prog.godebug = none := by kernel_rfl
theorem laidOut : laidOutB Try.prog = true := by kernel_rfl
set_option maxRecDepth 100000 in
theorem lifted (os : Os) (started : os.Started) (H : Type) (enc : TypeId × Value → H) :
    ReturnsInHanded {} Try.checked os 10 .any (Rows.readyTimedSpec.pre6 enc Try.prog Try.f10 Rows.readyTimedRow.domain false) (Rows.readyTimedSpec.post enc Try.prog Try.f10 false true false false) := by
  refine returnsInHanded_of_change (C := Try.checked) own started (by kernel_rfl) Try.func10
    (ChangeSpec.witness6 (enc := enc) (C := Try.checked) false ⟨#[], #[.slice none 0 0, .slice none 0 0], []⟩ 8 (by kernel_rfl) (by kernel_rfl) (by kernel_rfl) (by kernel_rfl)) ?_
  intro W base args ds gs before hval0 hW hcnd _
  have hval : ∀ (j : Nat) t v, Try.f10.params[j]? = some t → args[j]? = some v → Value.okWide Try.prog W .any base t v := hval0
  have hW' := hW
  obtain ⟨p, q, hA0, hV, rfl, hfz, hnd⟩ := hW
  have hA : DataW.TrodAll enc Try.prog W 0 (fun _ => true) true Try.f10.params.toList args.toList ds p := hA0
  rw [Try.params10] at hA hval
  obtain ⟨v0, vs0, d0, ds0, p0, q0, hargs, rfl, rfl, h0, r0⟩ := trodAll_cons hA
  obtain ⟨v1, vs1, d1, ds1, p1, q1, rfl, rfl, rfl, h1, r1⟩ := trodAll_cons r0
  obtain ⟨rfl, rfl, rfl⟩ := trodAll_nil r1
  obtain rfl : args = #[v0, v1] := by cases args; simp_all
  obtain ⟨rfl, rfl⟩ := trodVars_none hV
  have k0 := h0
  have lt0 : ∀ x ∈ p0, x.block < W.heap.size := by obtain ⟨m, hm⟩ := k0; exact DataW.trod_lt m _ _ _ hm
  have k1 := h1
  have lt1 : ∀ x ∈ p1, x.block < W.heap.size := by obtain ⟨m, hm⟩ := k1; exact DataW.trod_lt m _ _ _ hm
  obtain ⟨a0, len0, cap0, rfl⟩ := okWide_slice Try.underlying46 (hval 0 46 v0 rfl rfl)
  obtain ⟨z0, w0⟩ := IntsAt.open_ Try.underlying46 Try.underlying3 (by kernel_rfl) h0
  obtain ⟨a1, len1, cap1, rfl⟩ := okWide_slice Try.underlying51 (hval 1 51 v1 rfl rfl)
  obtain ⟨z1, w1⟩ := IntsAt.open_ Try.underlying51 Try.underlying2 (by kernel_rfl) h1
  clear hA0 hval0
  refine (walk a0 len0 cap0 z0 a1 len1 cap1 z1 W w0 w1).mono fun e W' ⟨he, bel⟩ => ?_
  subst he
  exact ⟨_, rfl, _, _, _, [], _, [], hW', trodAll_mk1 (shut_bool Try.underlying4 _), (trodAll_cons_mk (Below.trod laidOut (by kernel_rfl) (of_decide_eq_true (by kernel_rfl)) k0 bel lt0) (trodAll_cons_mk (Below.trod laidOut (by kernel_rfl) (of_decide_eq_true (by kernel_rfl)) k1 bel lt1) trodAll_mk0)), rfl, bel.frame _, fun h => by cases h⟩

theorem over : Rows.readyTimedRow.holds Try.pinned (OpenSpec.ofChange Rows.readyTimedSpec) :=
  OpenClaim.holds_of_wide 10 Try.f10 rfl rfl rfl rfl rfl rfl rfl ⟨rfl, rfl, rfl, rfl, rfl⟩ rfl rfl rfl rfl rfl (by kernel_rfl) Try.func10 (by kernel_rfl)
    (of_decide_eq_true (by kernel_rfl)) (by unfold Func.isWrapper; first | (rw [if_pos (by decide +kernel)]; kernel_rfl) | (rw [if_neg (by decide +kernel)]; exact ⟨rfl, rfl⟩))
    (fun os started H enc _ => lifted os started H enc)

theorem proved : Rows.ReadyTimedSaid := over
#print axioms proved
end Go.Proofs.Ytcjnmiopklkifaa.readyTimed
