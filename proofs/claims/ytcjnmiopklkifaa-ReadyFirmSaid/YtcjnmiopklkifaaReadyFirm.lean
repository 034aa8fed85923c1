/- Proved: curfewlaw14.ReadyFirm answers true for every list of entries and every script, and leaves what came in as it was. No condition. -/
import Derived.Test.YtcjnmiopklkifaaReadyP
namespace Go.Proofs.Ytcjnmiopklkifaa.readyFirm
open Go.ChangeShapes Go.WideShapes Go.ChangeAt Go.RowKit
set_option linter.unusedVariables false
set_option linter.unusedSimpArgs false
attribute [local go_sem ↓] Go.wp_at_zero Go.wp_at_succ

set_option maxRecDepth 100000 in
set_option maxHeartbeats 12800000 in
theorem walk (a0 : Option Addr) (len0 cap0 : Nat) (a1 : Option Addr) (len1 cap1 : Nat) (w : World) (w0 : EntryRow w a0 len0 cap0) (w1 : OpRow w a1 len1 cap1) :
    Calls Try.prog 5 #[.slice a0 len0 cap0, .slice a1 len1 cap1] w fun e w' => e = .returned (.bool true) ∧ Below w.heap.size w w' := by
  obtain ⟨es, rfl, hes, hde⟩ := w0
  obtain ⟨ops, rfl, hop, hok⟩ := w1
  have HES := Lib.hid hes
  have HOP := Lib.hid hop
  have HOK := Lib.hid hok
  have hopl := hop.2.1
  unfold maxLen at hopl
  clear hes hop hok
  go_enter Try.func5, Try.ntmps5
  go_wp2_with fail
  refine (begun_any _).mono ?_
  rintro e wb ⟨rfl, hb⟩
  have HB := Lib.hid hb
  clear hb
  have hx : ((es.take 30).map En.cut).length ≤ 30 := by simp; omega
  have hdx := ent_size (n := 30) hde
  go_wp2_with fail
  refine (entries_any a0 es cap0 30 wb (HES.out.below HB.out) hde (by decide)).mono ?_
  rintro e w1 ⟨A, c, rfl, oA, mA, bA⟩
  generalize (es.take 30).map En.cut = x at *
  have M1 := Lib.hid mA
  have OA := Lib.hid oA
  clear oA mA bA hde HES
  go_wp2_with fail
  refine (log_any A x c w1 (Sl.of_own OA.out) hdx (by omega)).mono ?_
  rintro e w2 ⟨L, cl, rfl, oL, mL, bL⟩
  have hll := logL_len x
  have hlo := Lib.hid (logL_ok x)
  generalize logL x = l at *
  have M2 := Lib.hid (M1.out.trans mL (by simp))
  have OL := Lib.hid oL
  have BL := Lib.hid bL
  clear oL mL bL hdx M1
  go_wp2_with fail
  refine (newQ_any _).mono ?_
  rintro e w3 ⟨g, rfl, hq, m3, hg3⟩
  have M3 := Lib.hid (M2.out.trans m3 (by simp))
  have hst := Lib.hid (show St wb g L cl l [] w3 from ⟨_, hq, OL.out.mod m3 (by simp), fun k hk h => by have := OL.out.lt hk; omega, fun k h => by have := M2.out.size; omega, M3.out.mono (by simp)⟩)
  have hcl := OL.out.2.1
  have hcm := OL.out.2.2.1
  unfold maxLen at hcm
  have hle30 : l.length ≤ 30 := by omega
  clear hq m3 hg3 M2 M3 OA
  go_wp2_with fail
  go_loopg [8] 20 (fun m v8 wr => ∃ (i : Nat) (T : List To), i ≤ 20 ∧ i ≤ ops.length ∧ v8 = .int .i64 i ∧ Hid (St wb g L cl l T wr) ∧ Hid (Of l T) ∧ m + i = 20)
  case atStart => exact ⟨0, [], by omega, by omega, rfl, hst, Lib.hid (Of.nil l), by omega⟩
  case round =>
    obtain ⟨i, T, hi, hio, rfl, HS, HOf, hm⟩ := hrel
    have hTl := HOf.out.len
    obtain ⟨wo, rfl⟩ : ∃ wo : World, wo = wr := ⟨_, rfl⟩
    by_cases hin : i < ops.length ∧ i < 20
    · obtain ⟨h1, h2⟩ := hin
      have BW := Lib.hid (Mod.below HB.out HS.out.choose_spec.2.2.2.2 (fun k hk => Nat.le_trans HB.out.size hk))
      obtain ⟨b, o, ha1, hb1, q0, q1, q2⟩ := (HOP.out.below BW.out).op h1
      obtain ⟨k0, k1, k2⟩ := HOK.out ops[i] (List.getElem_mem h1)
      have hg := fun W hW => HS.out.go2 (wr := W) hW ops[i].cm ops[i].nw (by omega) (by omega) (log_okE hlo.out) k1.1 k1.2 k2.1 k2.2
      have HOf2 := Lib.hid (HOf.out.go (m := l) (fun e h => h) ops[i].cm ops[i].nw)
      have HTo := Lib.hid (goR_told (T := T) (l := l) (c := ops[i].cm) (now := ops[i].nw))
      have HA1 := Lib.hid ha1
      have i0 : (0 : Int) ≤ (i : Int) := by omega
      have i1 : (i : Int) < (ops.length : Int) := by omega
      have HG := Lib.hid hg
      clear hg k0 k2
      generalize ops[i] = x at *
      rw [ha1]
      clear ha1
      go_wp2_with fail
      with_reducible refine (HG.out _ ((Mod.refl _ _).alloc _)).mono ?_
      rintro e z ⟨AT, ct, rfl, oT, sT, mT⟩
      have hoc := (Cells.new wo #[.int .i64 x.ln, .int .i64 x.cm, .int .i64 x.nw] 34).mod mT (by omega)
      have HOC := Lib.hid hoc
      have ST := Lib.hid sT
      have OT := Lib.hid oT
      have hgl : (goR T l x.cm x.nw).length ≤ 30 := by
        have h := HOf2.out.len
        rw [List.length_append] at h
        omega
      rw [← HA1.out]
      generalize hout : goR T l x.cm x.nw = out at *
      clear hout oT sT mT hoc
      go_wp2_with fail
      go_loopg [11] out.length (fun m v11 wr => ∃ k : Nat, k ≤ out.length ∧ v11 = .int .i64 k ∧ Hid (Mod (fun _ => False) z wr) ∧ m + k = out.length)
      case atStart => exact ⟨0, by omega, rfl, Lib.hid (Mod.refl _ _), by omega⟩
      case round =>
        obtain ⟨k, hk, rfl, HM, hm2⟩ := hrel
        obtain ⟨wm, rfl⟩ : ∃ wm : World, wm = wr := ⟨_, rfl⟩
        by_cases hlk : k < out.length
        · obtain ⟨gt, ot, hAT, hgt, p0, p1, p2, p3, p4, p5, p6, p7⟩ := (Sl.of_own (OT.out.mod HM.out (by simp))).to hlk
          obtain ⟨n, hn, htn, hlv, hprev⟩ := HTo.out out[k] (List.getElem_mem hlk)
          have hoE := log_okE hlo.out l[n] (List.getElem_mem hn)
          have hoc := HOC.out.mod HM.out (by simp)
          have y1 : wm.cell? ⟨wo.heap.size, 1, none⟩ = some (.int .i64 x.cm) := hoc.1 1 _ rfl
          have hwo : wo.heap.size < wm.heap.size := hoc.2.2
          rw [htn] at p0 p1 p2 p3 p4 p5 p6 p7
          have HPrev := Lib.hid hprev
          have HLv := Lib.hid hlv
          have HOE := Lib.hid hoE
          have HAT := Lib.hid hAT
          clear htn hprev hlv hoE hoc
          simp only [] at p0 p1 p2 p3 p4 p5 p6 p7
          generalize l[n] = e at *
          have i2 : (0 : Int) ≤ (k : Int) := by omega
          have i3 : (k : Int) < (out.length : Int) := by omega
          have n0 : (0 : Int) ≤ (n : Int) := by omega
          have n1 : (n : Int) ≤ 1000 := by omega
          rw [hAT]
          clear hAT
          go_upto_region 15 with (fail)
          go_cut [65] (fun s65 wx => s65 = .bool false ∧ Hid (Mod (fun _ => False) (wm.alloc (.cells #[.int .i64 e.fr, .int .i64 e.bo, .int .i64 e.se, .int .i64 e.od, .int .i64 e.lv, .int .i64 e.st, .string e.da] 39)) wx))
          case first =>
            by_cases hz : e.lv = 0
            · have hz1 : (e.lv != 0) = false := by simp [hz]
              go_quiet (fail)
              all_goals
                go_wp2_with fail
                go_meet
                exact ⟨rfl, Lib.hid ((Mod.refl _ _).drewN _)⟩
            · have hz1 : (e.lv != 0) = true := by simpa using hz
              have hz2 : decide (x.cm < (n : Int) + 1) = false := decide_eq_false (by have := HLv.out hz; omega)
              have hz3 : ¬ x.cm < (n : Int) + 1 := by have := HLv.out hz; omega
              go_quiet (fail)
              all_goals
                go_wp2_with fail
                go_meet
                exact ⟨rfl, Lib.hid ((Mod.refl _ _).drewN _)⟩
          case rest =>
            obtain ⟨rfl, MC⟩ := hcut
            have MZ := Lib.hid (((HM.out.alloc _)).trans MC.out (by simp))
            have HEC := Lib.hid ((Cells.new wm #[.int .i64 e.fr, .int .i64 e.bo, .int .i64 e.se, .int .i64 e.od, .int .i64 e.lv, .int .i64 e.st, .string e.da] 39).mod MC.out (by simp))
            have P0 := Lib.hid (((Mod.refl (fun _ => False) wm).alloc _).trans MC.out (by simp) |>.cell p0 (by simp))
            clear y1 hwo p0 p1 p2 p3 p4 p5 p6 p7
            go_wp2_with fail
            go_loopg [13] n (fun m3 v13 wr => ∃ j : Nat, j ≤ n ∧ v13 = .int .i64 j ∧ Hid (Mod (fun _ => False) wc wr) ∧ m3 + j = n)
            case atStart => exact ⟨0, by omega, rfl, Lib.hid (Mod.refl _ _), by omega⟩
            case round =>
              obtain ⟨j, hj, rfl, HJ, hm3⟩ := hrel
              have p0 := HJ.out.cell P0.out (by simp)
              by_cases hjn : j < n
              · have hjl : j < l.length := by omega
                have hec := HEC.out.mod HJ.out (by simp)
                have x3 : wr.cell? ⟨wm.heap.size, 3, none⟩ = some (.int .i64 e.od) := hec.1 3 _ rfl
                have x4 : wr.cell? ⟨wm.heap.size, 4, none⟩ = some (.int .i64 e.lv) := hec.1 4 _ rfl
                have hxz := hec.2.2
                have HSJ := Lib.hid ((ST.out.mod MZ.out).mod HJ.out)
                obtain ⟨_, _, hOw, _⟩ := HSJ.out
                obtain ⟨gl, ol, hL, hgl2, r0, r1, r2, r3, r4, r5, r6⟩ := (Sl.of_own hOw).ent hjl
                have hc := HSJ.out.has l[j]
                have hpj := HPrev.out j hjl hjn
                have hoj := (log_okE hlo.out l[j] (List.getElem_mem hjl)).1
                have hoe := HOE.out.1
                have HLA := Lib.hid hL
                unfold En.val at hc
                have j0 : (0 : Int) ≤ (j : Int) := by omega
                have j1 : (j : Int) < (l.length : Int) := by omega
                have j2 : (j : Int) < (n : Int) := by omega
                have HPJ := Lib.hid hpj
                have HC := Lib.hid hc
                clear hec hOw hpj hc
                generalize l[j] = y at *
                rw [hL]
                clear hL
                cases hv : hasB (T ++ out) y
                · have HV := Lib.hid hv
                  have f1 : ¬ e.lv = 2 := fun h => by have := HPJ.out (.inl h); rw [HV.out] at this; cases this
                  have f2 : ¬ (e.od = 1 ∧ y.od = 1) := fun h => by have := HPJ.out (.inr (.inl h)); rw [HV.out] at this; cases this
                  have f3 : ¬ (e.od = 2 ∧ y.od = 2) := fun h => by have := HPJ.out (.inr (.inr h)); rw [HV.out] at this; cases this
                  have g1 : (e.lv == 2) = false := by simpa using f1
                  have hod : e.od = 0 ∨ e.od = 1 ∨ e.od = 2 := by omega
                  clear hv
                  rcases hod with h | h | h
                  · rw [h] at x3
                    clear f1 f2 f3 h
                    go_wp2_with fail
                    rw [← HLA.out]
                    go_roundg (n - (j + 1))
                    case measure => omega
                    case rel => exact ⟨j + 1, by omega, by go_num, HJ, by omega⟩
                  · rw [h] at x3
                    have g2 : (y.od == 1) = false := by simpa using (fun h2 => f2 ⟨h, h2⟩)
                    clear f1 f2 f3 h
                    go_wp2_with fail
                    rw [← HLA.out]
                    go_roundg (n - (j + 1))
                    case measure => omega
                    case rel => exact ⟨j + 1, by omega, by go_num, HJ, by omega⟩
                  · rw [h] at x3
                    have g2 : (y.od == 2) = false := by simpa using (fun h2 => f3 ⟨h, h2⟩)
                    clear f1 f2 f3 h
                    go_wp2_with fail
                    rw [← HLA.out]
                    go_roundg (n - (j + 1))
                    case measure => omega
                    case rel => exact ⟨j + 1, by omega, by go_num, HJ, by omega⟩
                · rw [hv] at HC
                  clear hv HPJ
                  obtain ⟨y0, y1, y2, y3, y4, y5, y6⟩ := y
                  simp only [] at *
                  have hyo : y3 = 0 ∨ y3 = 1 ∨ y3 = 2 := by omega
                  rcases hyo with rfl | rfl | rfl
                  all_goals go_wp2_with (go_at_call 19; (with_reducible refine HC.out.mono ?_); rintro xx z2 ⟨rfl, mz⟩)
                  all_goals
                    rw [← HLA.out]
                    go_roundg (n - (j + 1))
                    case measure => omega
                    case rel => exact ⟨j + 1, by omega, by go_num, by first | exact HJ | exact Lib.hid (HJ.out.trans mz (by simp)), by omega⟩
              · obtain rfl : j = n := by omega
                have HJ2 := Lib.hid (MZ.out.trans HJ.out (by simp))
                go_wp2_with fail
                rw [← HAT.out]
                go_roundg (out.length - (k + 1))
                case measure => omega
                case rel => exact ⟨k + 1, by omega, by go_num, HJ2, by omega⟩
        · obtain rfl : k = out.length := by omega
          have HS2 := Lib.hid (ST.out.mod HM.out)
          go_wp2_with fail
          go_roundg (20 - (i + 1))
          case measure => omega
          case rel => exact ⟨i + 1, _, by omega, by omega, by go_num, HS2, HOf2, by omega⟩
    · have BW := Lib.hid (Mod.below HB.out HS.out.choose_spec.2.2.2.2 (fun k hk => Nat.le_trans HB.out.size hk))
      have hend : i < ops.length ∧ 20 ≤ i ∨ ops.length ≤ i := by omega
      clear hin
      rcases hend with ⟨h1, h2⟩ | h1
      all_goals
        go_wp2_with fail
        go_ret
        exact ⟨rfl, BW.out⟩
/-! ### the row's step -/
theorem own : ownKnob Try.prog.godebug = none := by kernel_rfl
theorem laidOut : laidOutB Try.prog = true := by kernel_rfl
set_option maxRecDepth 100000 in
theorem lifted (os : Os) (started : os.Started) (H : Type) (enc : TypeId × Value → H) :
    ReturnsInHanded {} Try.checked os 5 .any (Rows.readyFirmSpec.pre6 enc Try.prog Try.f5 Rows.readyFirmRow.domain false) (Rows.readyFirmSpec.post enc Try.prog Try.f5 false true false false) := by
  refine returnsInHanded_of_change (C := Try.checked) own started (by kernel_rfl) Try.func5
    (ChangeSpec.witness6 (enc := enc) (C := Try.checked) false ⟨#[], #[.slice none 0 0, .slice none 0 0], []⟩ 8 (by kernel_rfl) (by kernel_rfl) (by kernel_rfl) (by kernel_rfl)) ?_
  intro W base args ds gs before hval0 hW hcnd _
  have hval : ∀ (j : Nat) t v, Try.f5.params[j]? = some t → args[j]? = some v → Value.okWide Try.prog W .any base t v := hval0
  have hW' := hW
  obtain ⟨p, q, hA0, hV, rfl, hfz, hnd⟩ := hW
  have hA : DataW.TrodAll enc Try.prog W 0 (fun _ => true) true Try.f5.params.toList args.toList ds p := hA0
  rw [Try.params5] at hA hval
  obtain ⟨v0, vs0, d0, ds0, p0, q0, hargs, rfl, rfl, h0, r0⟩ := trodAll_cons hA
  obtain ⟨v1, vs1, d1, ds1, p1, q1, rfl, rfl, rfl, h1, r1⟩ := trodAll_cons r0
  obtain ⟨rfl, rfl, rfl⟩ := trodAll_nil r1
  obtain rfl : args = #[v0, v1] := by cases args; simp_all
  obtain ⟨rfl, rfl⟩ := trodVars_none hV
  have k0 := h0
  have lt0 : ∀ x ∈ p0, x.block < W.heap.size := by obtain ⟨m, hm⟩ := k0; exact DataW.trod_lt m _ _ _ hm
  have k1 := h1
  have lt1 : ∀ x ∈ p1, x.block < W.heap.size := by obtain ⟨m, hm⟩ := k1; exact DataW.trod_lt m _ _ _ hm
  obtain ⟨a0, len0, cap0, rfl⟩ := okWide_slice Try.underlying22 (hval 0 22 v0 rfl rfl)
  have w0 : EntryRow W a0 len0 cap0 := EntryRow.open_ h0
  obtain ⟨a1, len1, cap1, rfl⟩ := okWide_slice Try.underlying23 (hval 1 23 v1 rfl rfl)
  have w1 : OpRow W a1 len1 cap1 := OpRow.open_ h1
  clear hA0 hval0
  refine (walk a0 len0 cap0 a1 len1 cap1 W w0 w1).mono fun e W' ⟨he, bel⟩ => ?_
  subst he
  exact ⟨_, rfl, _, _, _, [], _, [], hW', trodAll_mk1 (shut_bool Try.underlying4 _), (trodAll_cons_mk (Below.trod laidOut (by kernel_rfl) (of_decide_eq_true (by kernel_rfl)) k0 bel lt0) (trodAll_cons_mk (Below.trod laidOut (by kernel_rfl) (of_decide_eq_true (by kernel_rfl)) k1 bel lt1) trodAll_mk0)), rfl, bel.frame _, fun h => by cases h⟩

theorem over : Rows.readyFirmRow.holds Try.pinned (OpenSpec.ofChange Rows.readyFirmSpec) :=
  OpenClaim.holds_of_wide 5 Try.f5 rfl rfl rfl rfl rfl rfl rfl ⟨rfl, rfl, rfl, rfl, rfl⟩ rfl rfl rfl rfl rfl (by kernel_rfl) Try.func5 (by kernel_rfl)
    (of_decide_eq_true (by kernel_rfl)) (by unfold Func.isWrapper; first | (rw [if_pos (by decide +kernel)]; kernel_rfl) | (rw [if_neg (by decide +kernel)]; exact ⟨rfl, rfl⟩))
    (fun os started H enc _ => lifted os started H enc)

theorem proved : Rows.ReadyFirmSaid := over
#print axioms proved
end Go.Proofs.Ytcjnmiopklkifaa.readyFirm
