/- Proved: curfewlaw14.ReadyEnd answers true for every list of entries and every script, and leaves what came in as it was. No condition. -/
import Derived.Test.YtcjnmiopklkifaaReadyP
namespace Go.Proofs.Ytcjnmiopklkifaa.readyEnd
open Go.ChangeShapes Go.WideShapes Go.ChangeAt Go.RowKit
set_option linter.unusedVariables false
set_option linter.unusedSimpArgs false
attribute [local go_sem ↓] Go.wp_at_zero Go.wp_at_succ

set_option maxRecDepth 100000 in
set_option maxHeartbeats 6400000 in
theorem walk (a0 : Option Addr) (len0 cap0 : Nat) (a1 : Option Addr) (len1 cap1 : Nat) (w : World) (w0 : EntryRow w a0 len0 cap0) (w1 : OpRow w a1 len1 cap1) :
    Calls Try.prog 6 #[.slice a0 len0 cap0, .slice a1 len1 cap1] w fun e w' => e = .returned (.bool true) ∧ Below w.heap.size w w' := by
  obtain ⟨es, rfl, hes, hde⟩ := w0
  obtain ⟨ops, rfl, hop, hok⟩ := w1
  have HES := Lib.hid hes
  have HOP := Lib.hid hop
  have HOK := Lib.hid hok
  have hopl := hop.2.1
  unfold maxLen at hopl
  clear hes hop hok
  go_enter Try.func6, Try.ntmps6
  go_wp2_with fail
  refine (begun_any _).mono ?_
  rintro e wb ⟨rfl, hb⟩
  have HB := Lib.hid hb
  clear hb
  have hx : ((es.take 30).map En.cut).length ≤ 30 := by simp; omega
  have hdx := ent_size (n := 30) hde
  go_wp2_with fail
  refine (entries_any a0 es cap0 30 wb (HES.out.below HB.out) hde (by decide)).mono ?_
  rintro e w1 ⟨A, c, rfl, oA, mA, bA⟩
  generalize (es.take 30).map En.cut = x at *
  have M1 := Lib.hid mA
  have OA := Lib.hid oA
  clear oA mA bA hde HES
  go_wp2_with fail
  refine (log_any A x c w1 (Sl.of_own OA.out) hdx (by omega)).mono ?_
  rintro e w2 ⟨L, cl, rfl, oL, mL, bL⟩
  have hll := logL_len x
  have hlo := Lib.hid (logL_ok x)
  generalize logL x = l at *
  have M2 := Lib.hid (M1.out.trans mL (by simp))
  have OL := Lib.hid oL
  have BL := Lib.hid bL
  clear oL mL bL hdx M1
  go_wp2_with fail
  refine (newQ_any _).mono ?_
  rintro e w3 ⟨g, rfl, hq, m3, hg3⟩
  have M3 := Lib.hid (M2.out.trans m3 (by simp))
  have hst := Lib.hid (show St wb g L cl l [] w3 from ⟨_, hq, OL.out.mod m3 (by simp), fun k hk h => by have := OL.out.lt hk; omega, fun k h => by have := M2.out.size; omega, M3.out.mono (by simp)⟩)
  have hcl := OL.out.2.1
  have hcm := OL.out.2.2.1
  unfold maxLen at hcm
  have hle30 : l.length ≤ 30 := by omega
  clear hq m3 hg3 M2 M3 OA
  go_wp2_with fail
  go_loopg [8] 20 (fun m v8 wr => ∃ (i : Nat) (T : List To), i ≤ 20 ∧ i ≤ ops.length ∧ v8 = .int .i64 i ∧ Hid (St wb g L cl l T wr) ∧ Hid (Of l T) ∧ m + i = 20)
  case atStart => exact ⟨0, [], by omega, by omega, rfl, hst, Lib.hid (Of.nil l), by omega⟩
  case round =>
    obtain ⟨i, T, hi, hio, rfl, HS, HOf, hm⟩ := hrel
    have hTl := HOf.out.len
    by_cases hin : i < ops.length ∧ i < 20
    · obtain ⟨h1, h2⟩ := hin
      have BW := Lib.hid (Mod.below HB.out HS.out.choose_spec.2.2.2.2 (fun k hk => Nat.le_trans HB.out.size hk))
      obtain ⟨b, o, ha1, hb1, q0, q1, q2⟩ := (HOP.out.below BW.out).op h1
      have hbw : b < w.heap.size := by
        obtain ⟨b', o', e', hb', _⟩ := HOP.out.op h1
        rw [ha1] at e'
        injection e' with e'
        injection e' with e1 e2
        omega
      have hbb : ¬ wb.heap.size ≤ b := by have := HB.out.size; omega
      obtain ⟨k0, k1, k2⟩ := HOK.out ops[i] (List.getElem_mem h1)
      have hg := (HS.out.mod ((Mod.refl _ _).drew)).go l.length ops[i].cm ops[i].nw (Nat.le_refl _) (by omega) (by omega) (log_okE hlo.out) k1.1 k1.2 k2.1 k2.2
      rw [List.take_length] at hg
      have HOf2 := Lib.hid (HOf.out.go (m := l) (fun e h => h) ops[i].cm ops[i].nw)
      have HA1 := Lib.hid ha1
      have i0 : (0 : Int) ≤ (i : Int) := by omega
      have i1 : (i : Int) < (ops.length : Int) := by omega
      have HG := Lib.hid hg
      clear hg k0 k1 k2 q0
      generalize ops[i] = x at *
      rw [ha1]
      go_wp2_with fail
      refine wp_region_held_drew (S := (fun w' => w'.cell? ⟨b, o + i * 3 + 1, none⟩ = some (.int .i64 x.cm) ∧ w'.cell? ⟨b, o + i * 3 + 2, none⟩ = some (.int .i64 x.nw))) (by kernel_rfl) (by go_keep) (fun hHeld => ?_)
      refine wpAnyH_take (i := 0) (oi := _) (v := ?_) (by simp only [List.getElem?_toArray, List.getElem?_cons_succ, List.getElem?_cons_zero]; rfl) (by kernel_rfl) (by kernel_rfl) (by kernel_rfl) (by intro _ _ _ h; exact h) (Or.inl ⟨by rfl, ?_⟩) (by assumption) ?_
      rotate_left 1
      · (intro w hSw; (try dsimp only at hSw); go_simp; try with_reducible rfl)
      try simp only [Act.put, List.setIfInBounds_toArray, List.set_cons_zero, List.set_cons_succ]
      refine wpAnyH_take (i := 1) (oi := _) (v := ?_) (by simp only [List.getElem?_toArray, List.getElem?_cons_succ, List.getElem?_cons_zero]; rfl) (by kernel_rfl) (by kernel_rfl) (by kernel_rfl) (by intro _ _ _ h; exact h) (Or.inl ⟨by rfl, ?_⟩) (by assumption) ?_
      rotate_left 1
      · (intro w hSw; (try dsimp only at hSw); go_simp; try with_reducible rfl)
      try simp only [Act.put, List.setIfInBounds_toArray, List.set_cons_zero, List.set_cons_succ]
      refine wpAnyH_take (i := 2) (oi := _) (v := ?_) (by simp only [List.getElem?_toArray, List.getElem?_cons_succ, List.getElem?_cons_zero]; rfl) (by kernel_rfl) (by kernel_rfl) (by kernel_rfl) (by intro _ _ _ h; exact h) (Or.inl ⟨by rfl, ?_⟩) (by assumption) ?_
      rotate_left 1
      · (intro w hSw; (try dsimp only at hSw); go_simp; try with_reducible rfl)
      try simp only [Act.put, List.setIfInBounds_toArray, List.set_cons_zero, List.set_cons_succ]
      refine wpAnyH_take (i := 3) (oi := _) (v := ?_) (by simp only [List.getElem?_toArray, List.getElem?_cons_succ, List.getElem?_cons_zero]; rfl) (by kernel_rfl) (by kernel_rfl) (by kernel_rfl) (by intro _ _ _ h; exact h) (Or.inl ⟨by rfl, ?_⟩) (by assumption) ?_
      rotate_left 1
      · (intro w hSw; (try dsimp only at hSw); go_simp; try with_reducible rfl)
      try simp only [Act.put, List.setIfInBounds_toArray, List.set_cons_zero, List.set_cons_succ]
      refine wpAnyH_take (i := 4) (oi := _) (v := ?_) (by simp only [List.getElem?_toArray, List.getElem?_cons_succ, List.getElem?_cons_zero]; rfl) (by kernel_rfl) (by kernel_rfl) (by kernel_rfl) (by intro _ _ _ h; exact h) (Or.inl ⟨by rfl, ?_⟩) (by assumption) ?_
      rotate_left 1
      · (intro w hSw; (try dsimp only at hSw); go_simp; try with_reducible rfl)
      try simp only [Act.put, List.setIfInBounds_toArray, List.set_cons_zero, List.set_cons_succ]
      refine wpAnyH_take (i := 5) (oi := _) (v := ?_) (by simp only [List.getElem?_toArray, List.getElem?_cons_succ, List.getElem?_cons_zero]; rfl) (by kernel_rfl) (by kernel_rfl) (by kernel_rfl) (by intro _ _ _ h; exact h) (Or.inl ⟨by rfl, ?_⟩) (by assumption) ?_
      rotate_left 1
      · (intro w hSw; (try dsimp only at hSw); go_simp; try with_reducible rfl)
      try simp only [Act.put, List.setIfInBounds_toArray, List.set_cons_zero, List.set_cons_succ]
      refine wpAnyH_take (i := 6) (oi := _) (v := ?_) (by simp only [List.getElem?_toArray, List.getElem?_cons_succ, List.getElem?_cons_zero]; rfl) (by kernel_rfl) (by kernel_rfl) (by kernel_rfl) (by intro _ _ _ h; exact h) (Or.inl ⟨by rfl, ?_⟩) (by assumption) ?_
      rotate_left 1
      · (intro w hSw; (try dsimp only at hSw); go_simp; try with_reducible rfl)
      try simp only [Act.put, List.setIfInBounds_toArray, List.set_cons_zero, List.set_cons_succ]
      refine wpAnyH_take (i := 7) (oi := _) (v := ?_) (by simp only [List.getElem?_toArray, List.getElem?_cons_succ, List.getElem?_cons_zero]; rfl) (by kernel_rfl) (by kernel_rfl) (by kernel_rfl) (by intro _ _ _ h; exact h) (Or.inl ⟨by rfl, ?_⟩) (by assumption) ?_
      rotate_left 1
      · (intro w hSw; (try dsimp only at hSw); go_simp; try with_reducible rfl)
      try simp only [Act.put, List.setIfInBounds_toArray, List.set_cons_zero, List.set_cons_succ]
      refine wpAnyH_take (i := 8) (oi := _) (v := ?_) (by simp only [List.getElem?_toArray, List.getElem?_cons_succ, List.getElem?_cons_zero]; rfl) (by kernel_rfl) (by kernel_rfl) (by kernel_rfl) (by intro _ _ _ h; exact h) (Or.inl ⟨by rfl, ?_⟩) (by assumption) ?_
      rotate_left 1
      · (intro w hSw; (try dsimp only at hSw); go_simp; try with_reducible rfl)
      try simp only [Act.put, List.setIfInBounds_toArray, List.set_cons_zero, List.set_cons_succ]
      refine wpAnyH_take (i := 9) (oi := _) (v := ?_) (by simp only [List.getElem?_toArray, List.getElem?_cons_succ, List.getElem?_cons_zero]; rfl) (by kernel_rfl) (by kernel_rfl) (by kernel_rfl) (by intro _ _ _ h; exact h) (Or.inl ⟨by rfl, ?_⟩) (by assumption) ?_
      rotate_left 1
      · (intro w hSw; (try dsimp only at hSw); go_simp; try with_reducible rfl)
      try simp only [Act.put, List.setIfInBounds_toArray, List.set_cons_zero, List.set_cons_succ]
      refine wpAnyH_take (i := 10) (oi := _) (v := ?_) (by simp only [List.getElem?_toArray, List.getElem?_cons_succ, List.getElem?_cons_zero]; rfl) (by kernel_rfl) (by kernel_rfl) (by kernel_rfl) (by intro _ _ _ h; exact h) (Or.inl ⟨by rfl, ?_⟩) (by assumption) ?_
      rotate_left 1
      · (intro w hSw; (try dsimp only at hSw); go_simp; try with_reducible rfl)
      try simp only [Act.put, List.setIfInBounds_toArray, List.set_cons_zero, List.set_cons_succ]
      refine wpAnyH_take (i := 11) (oi := _) (v := ?_) (by simp only [List.getElem?_toArray, List.getElem?_cons_succ, List.getElem?_cons_zero]; rfl) (by kernel_rfl) (by kernel_rfl) (by kernel_rfl) (by intro _ _ _ h; exact h) (Or.inl ⟨by rfl, ?_⟩) (by assumption) ?_
      rotate_left 1
      · (intro w hSw; (try dsimp only at hSw); go_simp; try with_reducible rfl)
      try simp only [Act.put, List.setIfInBounds_toArray, List.set_cons_zero, List.set_cons_succ]
      refine wpAnyH_ready (rs := [12]) (by kernel_rfl) (by simp) ?_
      refine AllReadyH.cons (by simp only [List.getElem?_toArray, List.getElem?_cons_succ, List.getElem?_cons_zero]; rfl) (fun K hK => ?_) AllReadyH.nil
      go_simp
      (go_at_call 17; (with_reducible refine HG.out.mono ?_); rintro e z ⟨AT, ct, rfl, oT, sT, mT⟩; have y1 := (undrew mT).cell q1 (by omega); have y2 := (undrew mT).cell q2 (by omega); have ST := Lib.hid sT; clear oT sT mT)
      refine hK.out _ _ (by go_keep) (fun hHeld => ?_)
      clear hK K
      try simp only [Act.put, List.setIfInBounds_toArray, List.set_cons_zero, List.set_cons_succ]
      refine wpAnyH_done (by kernel_rfl) ?_ _
      clear y1 y2
      rw [← HA1.out]
      go_wp2_with fail
      go_roundg (20 - (i + 1))
      case measure => omega
      case rel => exact ⟨i + 1, _, by omega, by omega, by go_num, ST, HOf2, by omega⟩
    · have hg := HS.out.go l.length l.length 1099511627781 (Nat.le_refl _) (by omega) (by omega) (log_okE hlo.out) (by omega) (by omega) (by omega) (by omega)
      rw [List.take_length] at hg
      have HOf2 := Lib.hid (HOf.out.go (m := l) (fun e h => h) l.length 1099511627781)
      have HAll := Lib.hid (show ∀ j (h : j < l.length), hasB (T ++ goR T l l.length 1099511627781) l[j] = true from fun j hj => (run_all (T := T) (l := l) (c := l.length) (now := 1099511627781) (fun i hi => by
        have h := log_okE hlo.out l[i] (List.getElem_mem hi)
        unfold OkE at h
        omega) l.length (Nat.le_refl _)).2 j hj hj)
      have HG := Lib.hid hg
      have hgl : (goR T l l.length 1099511627781).length ≤ 30 := by
        have h := HOf2.out.len
        rw [List.length_append] at h
        omega
      generalize goR T l l.length 1099511627781 = out at *
      clear hg
      have hend : i < ops.length ∧ 20 ≤ i ∨ ops.length ≤ i := by omega
      clear hin
      rcases hend with ⟨h1, h2⟩ | h1
      all_goals
        go_wp2_with fail
        with_reducible refine HG.out.mono ?_
        rintro e z ⟨AT, ct, rfl, oT, sT, mT⟩
        have ST := Lib.hid sT
        clear oT sT mT
        go_wp2_with fail
        go_loopg [9] l.length (fun m v9 wr => ∃ k : Nat, k ≤ l.length ∧ v9 = .int .i64 k ∧ Hid (Mod (fun _ => False) z wr) ∧ m + k = l.length)
        case atStart => exact ⟨0, by omega, rfl, Lib.hid (Mod.refl _ _), by omega⟩
        case round =>
          obtain ⟨k, hk, rfl, HM, hm⟩ := hrel
          by_cases hlt : k < l.length
          · have hc := (ST.out.mod HM.out).has l[k]
            rw [HAll.out k hlt] at hc
            obtain ⟨_, _, hOw, _⟩ := (ST.out.mod HM.out)
            obtain ⟨gl, ol, hL, hgl2, p0, p1, p2, p3, p4, p5, p6⟩ := (Sl.of_own hOw).ent hlt
            unfold En.val at hc
            have HC := Lib.hid hc
            have i0 : (0 : Int) ≤ (k : Int) := by omega
            have i1 : (k : Int) < (l.length : Int) := by omega
            have HLA := Lib.hid hL
            clear hc hOw
            generalize l[k] = y at *
            rw [hL]
            clear hL
            go_wp2_with fail
            with_reducible refine HC.out.mono ?_
            rintro e z2 ⟨rfl, mz⟩
            have M2 := Lib.hid (HM.out.trans mz (by simp))
            clear mz
            rw [← HLA.out]
            go_wp2_with fail
            go_roundg (l.length - (k + 1))
            case measure => omega
            case rel => exact ⟨k + 1, by omega, by go_num, M2, by omega⟩
          · obtain rfl : k = l.length := by omega
            have hc := (ST.out.mod HM.out).told (by rw [List.length_append]; omega)
            have hfull := HOf2.out.full (keys_nodup hlo.out.2) (fun e he => by
              obtain ⟨j, hj, rfl⟩ := List.getElem_of_mem he
              exact HAll.out j hj)
            have HC := Lib.hid hc
            have HFull := Lib.hid hfull
            clear hc hfull
            go_wp2_with fail
            refine HC.out.mono ?_
            rintro e z2 ⟨A5, c5, rfl, -, m5, -⟩
            rw [HFull.out]
            have BW := Lib.hid (Mod.below HB.out ((ST.out.mod HM.out).mod m5).choose_spec.2.2.2.2 (fun k hk => Nat.le_trans HB.out.size hk))
            clear m5
            go_wp2_with fail
            go_ret
            exact ⟨rfl, BW.out⟩
/-! ### the row's step -/
theorem own : ownKnob Try.prog.godebug = none := by kernel_rfl
theorem laidOut : laidOutB Try.prog = true := by kernel_rfl
set_option maxRecDepth 100000 in
theorem lifted (os : Os) (started : os.Started) (H : Type) (enc : TypeId × Value → H) :
    ReturnsInHanded {} Try.checked os 6 .any (Rows.readyEndSpec.pre6 enc Try.prog Try.f6 Rows.readyEndRow.domain false) (Rows.readyEndSpec.post enc Try.prog Try.f6 false true false false) := by
  refine returnsInHanded_of_change (C := Try.checked) own started (by kernel_rfl) Try.func6
    (ChangeSpec.witness6 (enc := enc) (C := Try.checked) false ⟨#[], #[.slice none 0 0, .slice none 0 0], []⟩ 8 (by kernel_rfl) (by kernel_rfl) (by kernel_rfl) (by kernel_rfl)) ?_
  intro W base args ds gs before hval0 hW hcnd _
  have hval : ∀ (j : Nat) t v, Try.f6.params[j]? = some t → args[j]? = some v → Value.okWide Try.prog W .any base t v := hval0
  have hW' := hW
  obtain ⟨p, q, hA0, hV, rfl, hfz, hnd⟩ := hW
  have hA : DataW.TrodAll enc Try.prog W 0 (fun _ => true) true Try.f6.params.toList args.toList ds p := hA0
  rw [Try.params6] at hA hval
  obtain ⟨v0, vs0, d0, ds0, p0, q0, hargs, rfl, rfl, h0, r0⟩ := trodAll_cons hA
  obtain ⟨v1, vs1, d1, ds1, p1, q1, rfl, rfl, rfl, h1, r1⟩ := trodAll_cons r0
  obtain ⟨rfl, rfl, rfl⟩ := trodAll_nil r1
  obtain rfl : args = #[v0, v1] := by cases args; simp_all
  obtain ⟨rfl, rfl⟩ := trodVars_none hV
  have k0 := h0
  have lt0 : ∀ x ∈ p0, x.block < W.heap.size := by obtain ⟨m, hm⟩ := k0; exact DataW.trod_lt m _ _ _ hm
  have k1 := h1
  have lt1 : ∀ x ∈ p1, x.block < W.heap.size := by obtain ⟨m, hm⟩ := k1; exact DataW.trod_lt m _ _ _ hm
  obtain ⟨a0, len0, cap0, rfl⟩ := okWide_slice Try.underlying22 (hval 0 22 v0 rfl rfl)
  have w0 : EntryRow W a0 len0 cap0 := EntryRow.open_ h0
  obtain ⟨a1, len1, cap1, rfl⟩ := okWide_slice Try.underlying23 (hval 1 23 v1 rfl rfl)
  have w1 : OpRow W a1 len1 cap1 := OpRow.open_ h1
  clear hA0 hval0
  refine (walk a0 len0 cap0 a1 len1 cap1 W w0 w1).mono fun e W' ⟨he, bel⟩ => ?_
  subst he
  exact ⟨_, rfl, _, _, _, [], _, [], hW', trodAll_mk1 (shut_bool Try.underlying4 _), (trodAll_cons_mk (Below.trod laidOut (by kernel_rfl) (of_decide_eq_true (by kernel_rfl)) k0 bel lt0) (trodAll_cons_mk (Below.trod laidOut (by kernel_rfl) (of_decide_eq_true (by kernel_rfl)) k1 bel lt1) trodAll_mk0)), rfl, bel.frame _, fun h => by cases h⟩

theorem over : Rows.readyEndRow.holds Try.pinned (OpenSpec.ofChange Rows.readyEndSpec) :=
  OpenClaim.holds_of_wide 6 Try.f6 rfl rfl rfl rfl rfl rfl rfl ⟨rfl, rfl, rfl, rfl, rfl⟩ rfl rfl rfl rfl rfl (by kernel_rfl) Try.func6 (by kernel_rfl)
    (of_decide_eq_true (by kernel_rfl)) (by unfold Func.isWrapper; first | (rw [if_pos (by decide +kernel)]; kernel_rfl) | (rw [if_neg (by decide +kernel)]; exact ⟨rfl, rfl⟩))
    (fun os started H enc _ => lifted os started H enc)

theorem proved : Rows.ReadyEndSaid := over
#print axioms proved
end Go.Proofs.Ytcjnmiopklkifaa.readyEnd
