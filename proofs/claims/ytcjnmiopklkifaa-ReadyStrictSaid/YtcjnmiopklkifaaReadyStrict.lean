/- Proved: curfewlaw14.ReadyStrict answers true for every list of kinds and every list of commits, and leaves what came in as it was. No condition. -/
import Derived.Test.YtcjnmiopklkifaaReadyJ
namespace Go.Proofs.Ytcjnmiopklkifaa.readyStrict
open Go.ChangeShapes Go.WideShapes Go.ChangeAt Go.RowKit
set_option linter.unusedVariables false
set_option linter.unusedSimpArgs false
attribute [local go_sem ↓] Go.wp_at_zero Go.wp_at_succ

theorem wrap_in (x : Int) (h0 : 0 ≤ x) (h1 : x < 9223372036854775808) : IntKind.i64.wrap x = x := by
  have e : x % 2 ^ 64 = x := by omega
  simp only [IntKind.wrap, IntKind.bits, IntKind.signed, e]
  rw [if_neg (by simp; omega)]
theorem eqE_self (e : En) : eqE e e = true := by
  unfold eqE same; simp

set_option maxRecDepth 100000 in
set_option maxHeartbeats 6400000 in
theorem walk (a0 : Option Addr) (len0 cap0 : Nat) (z0 : Nat → Int) (a1 : Option Addr) (len1 cap1 : Nat) (z1 : Nat → Int) (w : World) (w0 : IntsAt .i64 w a0 len0 z0) (w1 : IntsAt .i64 w a1 len1 z1) :
    Calls Try.prog 9 #[.slice a0 len0 cap0, .slice a1 len1 cap1] w fun e w' => e = .returned (.bool true) ∧ Below w.heap.size w w' := by
  have HZ := Lib.hid w0
  have HC := Lib.hid w1
  have hb1 := w1.1
  unfold maxLen at hb1
  clear w0 w1
  go_enter Try.func9, Try.ntmps9
  go_wp2_with fail
  refine (begun_any _).mono ?_
  rintro e wb ⟨rfl, hb⟩
  have HB := Lib.hid hb
  clear hb
  go_wp2_with fail
  refine (kinds_s a0 len0 cap0 z0 wb (HZ.out.below HB.out (Nat.le_refl _))).mono ?_
  rintro e w1 ⟨es, L, cl, hel, hks, rfl, oL, mL, bL⟩
  have hle : es.length ≤ 30 := by omega
  have hoks := Lib.hid (hks.ok (by omega))
  have HKS := Lib.hid hks
  have OL := Lib.hid oL
  have ML := Lib.hid mL
  have hcl := oL.2.1
  have hcm := oL.2.2.1
  unfold maxLen at hcm
  clear hks oL mL bL hel
  go_wp2_with fail
  refine (newQ_any _).mono ?_
  rintro e w3 ⟨g, rfl, hq, m3, hg3⟩
  have hst := Lib.hid (show St wb g L cl es [] w3 from ⟨_, hq, OL.out.mod m3 (by simp), fun k hk h => by have := OL.out.lt hk; omega, fun k h => by have := ML.out.size; omega, (ML.out.trans m3 (by simp)).mono (by simp)⟩)
  clear hq m3 hg3 ML OL
  go_wp2_with fail
  go_loopg [8, 9] 20 (fun m v8 v9 wr => ∃ (i f : Nat), i ≤ 20 ∧ i ≤ len1 ∧ f ≤ es.length ∧ v9 = .int .i64 i ∧ v8 = .int .i64 f ∧ Hid (St wb g L cl es (tp es f) wr) ∧ m + i = 20)
  case atStart => exact ⟨0, 0, by omega, by omega, by omega, rfl, rfl, hst, by omega⟩
  case round =>
    obtain ⟨i, f, hi, hil, hf, rfl, rfl, HS, hm⟩ := hrel
    by_cases hin : i < len1 ∧ i < 20
    · obtain ⟨h1, h2⟩ := hin
      have BW := Lib.hid (Mod.below HB.out HS.out.choose_spec.2.2.2.2 (fun k hk => Nat.le_trans HB.out.size hk))
      obtain ⟨b, o, ha1, hb1, q0, hwf⟩ := HC.out.at_ h1
      have q1 := (BW.out.cell (p := ⟨b, o + i, none⟩) hb1).trans q0
      have hc := i64_bd hwf
      have hgb : b < wb.heap.size := by have := HB.out.size; omega
      have hg := HS.out.go es.length (z1 i) 0 (Nat.le_refl _) (by omega) (by rw [tp_len hf]; omega) hoks.out hc.1 hc.2 (by omega) (by omega)
      rw [List.take_length] at hg
      have HSG := Lib.hid (strict_go HKS.out hf (z1 i))
      have HA1 := Lib.hid ha1
      have i0 : (0 : Int) ≤ (i : Int) := by omega
      have i1 : (i : Int) < (len1 : Int) := by omega
      have HG := Lib.hid hg
      clear hg hwf q0
      generalize z1 i = c at *
      rw [ha1]
      clear ha1
      go_wp2_with fail
      with_reducible refine HG.out.mono ?_
      rintro e z ⟨AT, ct, rfl, oT, sT, mT⟩
      have q2 := mT.cell q1 (fun h => by have h2 : wb.heap.size ≤ b := h; omega)
      rw [HSG.out] at sT
      have ST := Lib.hid sT
      clear oT sT mT HSG HG
      go_upto_region 11 with (fail)
      go_cut [8] (fun s8 wx => s8 = .int .i64 ((max f (min es.length c.toNat) : Nat) : Int) ∧ z = wx)
      case first =>
        go_wp2_with fail
        all_goals
          go_meet
          refine ⟨?_, rfl⟩
          show Value.int .i64 _ = Value.int .i64 _
          congr 1
          omega
      case rest =>
        obtain ⟨rfl, rfl⟩ := hcut
        have hf2 : max f (min es.length c.toNat) ≤ es.length := by omega
        generalize max f (min es.length c.toNat) = f2 at *
        have HTL := Lib.hid (tp_len hf2)
        have htold := ST.out.told (by rw [HTL.out]; omega)
        have HT := Lib.hid htold
        clear htold
        go_wp2_with fail
        refine HT.out.mono ?_
        rintro e z2 ⟨A5, c5, rfl, o5, m5, -⟩
        have O5 := Lib.hid o5
        have S5 := Lib.hid (ST.out.mod m5)
        rw [HTL.out] at O5 ⊢
        clear o5 m5 ST HT
        go_wp2_with fail
        go_loopg [11] f2 (fun m2 v11 wr => ∃ k : Nat, k ≤ f2 ∧ v11 = .int .i64 k ∧ Hid (Mod (fun _ => False) z2 wr) ∧ m2 + k = f2)
        case atStart => exact ⟨0, by omega, rfl, Lib.hid (Mod.refl _ _), by omega⟩
        case round =>
          obtain ⟨k, hk, rfl, HM, hm2⟩ := hrel
          by_cases hlt : k < f2
          · have hkT : k < (tp es f2).length := by rw [HTL.out]; exact hlt
            have hkE : k < es.length := by omega
            obtain ⟨gt, ot, hA5, hgt, u0, u1, u2, u3, u4, u5, u6, u7⟩ := ((Sl.of_own O5.out).none_ HM.out).to hkT
            obtain ⟨_, _, hOw, _⟩ := S5.out.mod HM.out
            obtain ⟨gl, ol, hL, hgl2, v0, v1, v2, v3, v4, v5, v6⟩ := (Sl.of_own hOw).ent hkE
            rw [tp_at hf2 hlt] at u0 u1 u2 u3 u4 u5 u6 u7
            simp only [] at u0 u1 u2 u3 u4 u5 u6 u7
            have he := fun W => eq_ref es[k] es[k] W
            rw [eqE_self] at he
            unfold En.val at he
            have HE := Lib.hid he
            have HA5 := Lib.hid hA5
            have HLA := Lib.hid hL
            have j0 : (0 : Int) ≤ (k : Int) := by omega
            have j1 : (k : Int) < (f2 : Int) := by omega
            have j2 : (k : Int) < (es.length : Int) := by omega
            have hne : ((k : Int) + 1 != IntKind.i64.wrap ((k : Int) + 1)) = false := by rw [wrap_in ((k : Int) + 1) (by omega) (by omega)]; simp
            clear hOw he
            generalize es[k] = X at *
            rw [hA5, hL]
            clear hA5 hL
            go_wp2_with fail
            refine wp_region_held_drew (S := (fun w' => w'.cell? ⟨gt, ot + k * 8, none⟩ = some (.int .i64 ((k : Int) + 1)) ∧ w'.cell? ⟨gt, ot + k * 8 + 1, none⟩ = some (.int .i64 X.fr) ∧ w'.cell? ⟨gt, ot + k * 8 + 2, none⟩ = some (.int .i64 X.bo) ∧ w'.cell? ⟨gt, ot + k * 8 + 3, none⟩ = some (.int .i64 X.se) ∧ w'.cell? ⟨gt, ot + k * 8 + 4, none⟩ = some (.int .i64 X.od) ∧ w'.cell? ⟨gt, ot + k * 8 + 5, none⟩ = some (.int .i64 X.lv) ∧ w'.cell? ⟨gt, ot + k * 8 + 6, none⟩ = some (.int .i64 X.st) ∧ w'.cell? ⟨gt, ot + k * 8 + 7, none⟩ = some (.string X.da) ∧ w'.cell? ⟨gl, ol + k * 7, none⟩ = some (.int .i64 X.fr) ∧ w'.cell? ⟨gl, ol + k * 7 + 1, none⟩ = some (.int .i64 X.bo) ∧ w'.cell? ⟨gl, ol + k * 7 + 2, none⟩ = some (.int .i64 X.se) ∧ w'.cell? ⟨gl, ol + k * 7 + 3, none⟩ = some (.int .i64 X.od) ∧ w'.cell? ⟨gl, ol + k * 7 + 4, none⟩ = some (.int .i64 X.lv) ∧ w'.cell? ⟨gl, ol + k * 7 + 5, none⟩ = some (.int .i64 X.st) ∧ w'.cell? ⟨gl, ol + k * 7 + 6, none⟩ = some (.string X.da))) (by kernel_rfl) (by go_keep) (fun hHeld => ?_)
            refine wpAnyH_take (i := 0) (oi := _) (v := ?_) (by simp only [List.getElem?_toArray, List.getElem?_cons_succ, List.getElem?_cons_zero]; rfl) (by kernel_rfl) (by kernel_rfl) (by kernel_rfl) (by intro _ _ _ h; exact h) (Or.inl ⟨by rfl, ?_⟩) (by assumption) ?_
            rotate_left 1
            · (intro w hSw; (try dsimp only at hSw); go_simp; try with_reducible rfl)
            try simp only [Act.put, List.setIfInBounds_toArray, List.set_cons_zero, List.set_cons_succ]
            refine wpAnyH_take (i := 1) (oi := _) (v := ?_) (by simp only [List.getElem?_toArray, List.getElem?_cons_succ, List.getElem?_cons_zero]; rfl) (by kernel_rfl) (by kernel_rfl) (by kernel_rfl) (by intro _ _ _ h; exact h) (Or.inl ⟨by rfl, ?_⟩) (by assumption) ?_
            rotate_left 1
            · (intro w hSw; (try dsimp only at hSw); go_simp; try with_reducible rfl)
            try simp only [Act.put, List.setIfInBounds_toArray, List.set_cons_zero, List.set_cons_succ]
            refine wpAnyH_take (i := 2) (oi := _) (v := ?_) (by simp only [List.getElem?_toArray, List.getElem?_cons_succ, List.getElem?_cons_zero]; rfl) (by kernel_rfl) (by kernel_rfl) (by kernel_rfl) (by intro _ _ _ h; exact h) (Or.inl ⟨by rfl, ?_⟩) (by assumption) ?_
            rotate_left 1
            · (intro w hSw; (try dsimp only at hSw); go_simp; try with_reducible rfl)
            try simp only [Act.put, List.setIfInBounds_toArray, List.set_cons_zero, List.set_cons_succ]
            refine wpAnyH_take (i := 3) (oi := _) (v := ?_) (by simp only [List.getElem?_toArray, List.getElem?_cons_succ, List.getElem?_cons_zero]; rfl) (by kernel_rfl) (by kernel_rfl) (by kernel_rfl) (by intro _ _ _ h; exact h) (Or.inl ⟨by rfl, ?_⟩) (by assumption) ?_
            rotate_left 1
            · (intro w hSw; (try dsimp only at hSw); go_simp; try with_reducible rfl)
            try simp only [Act.put, List.setIfInBounds_toArray, List.set_cons_zero, List.set_cons_succ]
            refine wpAnyH_take (i := 4) (oi := _) (v := ?_) (by simp only [List.getElem?_toArray, List.getElem?_cons_succ, List.getElem?_cons_zero]; rfl) (by kernel_rfl) (by kernel_rfl) (by kernel_rfl) (by intro _ _ _ h; exact h) (Or.inl ⟨by rfl, ?_⟩) (by assumption) ?_
            rotate_left 1
            · (intro w hSw; (try dsimp only at hSw); go_simp; try with_reducible rfl)
            try simp only [Act.put, List.setIfInBounds_toArray, List.set_cons_zero, List.set_cons_succ]
            refine wpAnyH_take (i := 5) (oi := _) (v := ?_) (by simp only [List.getElem?_toArray, List.getElem?_cons_succ, List.getElem?_cons_zero]; rfl) (by kernel_rfl) (by kernel_rfl) (by kernel_rfl) (by intro _ _ _ h; exact h) (Or.inl ⟨by rfl, ?_⟩) (by assumption) ?_
            rotate_left 1
            · (intro w hSw; (try dsimp only at hSw); go_simp; try with_reducible rfl)
            try simp only [Act.put, List.setIfInBounds_toArray, List.set_cons_zero, List.set_cons_succ]
            refine wpAnyH_take (i := 6) (oi := _) (v := ?_) (by simp only [List.getElem?_toArray, List.getElem?_cons_succ, List.getElem?_cons_zero]; rfl) (by kernel_rfl) (by kernel_rfl) (by kernel_rfl) (by intro _ _ _ h; exact h) (Or.inl ⟨by rfl, ?_⟩) (by assumption) ?_
            rotate_left 1
            · (intro w hSw; (try dsimp only at hSw); go_simp; try with_reducible rfl)
            try simp only [Act.put, List.setIfInBounds_toArray, List.set_cons_zero, List.set_cons_succ]
            refine wpAnyH_take (i := 7) (oi := _) (v := ?_) (by simp only [List.getElem?_toArray, List.getElem?_cons_succ, List.getElem?_cons_zero]; rfl) (by kernel_rfl) (by kernel_rfl) (by kernel_rfl) (by intro _ _ _ h; exact h) (Or.inl ⟨by rfl, ?_⟩) (by assumption) ?_
            rotate_left 1
            · (intro w hSw; (try dsimp only at hSw); go_simp; try with_reducible rfl)
            try simp only [Act.put, List.setIfInBounds_toArray, List.set_cons_zero, List.set_cons_succ]
            refine wpAnyH_take (i := 8) (oi := _) (v := ?_) (by simp only [List.getElem?_toArray, List.getElem?_cons_succ, List.getElem?_cons_zero]; rfl) (by kernel_rfl) (by kernel_rfl) (by kernel_rfl) (by intro _ _ _ h; exact h) (Or.inl ⟨by rfl, ?_⟩) (by assumption) ?_
            rotate_left 1
            · (intro w hSw; (try dsimp only at hSw); go_simp; try with_reducible rfl)
            try simp only [Act.put, List.setIfInBounds_toArray, List.set_cons_zero, List.set_cons_succ]
            refine wpAnyH_take (i := 9) (oi := _) (v := ?_) (by simp only [List.getElem?_toArray, List.getElem?_cons_succ, List.getElem?_cons_zero]; rfl) (by kernel_rfl) (by kernel_rfl) (by kernel_rfl) (by intro _ _ _ h; exact h) (Or.inl ⟨by rfl, ?_⟩) (by assumption) ?_
            rotate_left 1
            · (intro w hSw; (try dsimp only at hSw); go_simp; try with_reducible rfl)
            try simp only [Act.put, List.setIfInBounds_toArray, List.set_cons_zero, List.set_cons_succ]
            refine wpAnyH_take (i := 10) (oi := _) (v := ?_) (by simp only [List.getElem?_toArray, List.getElem?_cons_succ, List.getElem?_cons_zero]; rfl) (by kernel_rfl) (by kernel_rfl) (by kernel_rfl) (by intro _ _ _ h; exact h) (Or.inl ⟨by rfl, ?_⟩) (by assumption) ?_
            rotate_left 1
            · (intro w hSw; (try dsimp only at hSw); go_simp; try with_reducible rfl)
            try simp only [Act.put, List.setIfInBounds_toArray, List.set_cons_zero, List.set_cons_succ]
            refine wpAnyH_take (i := 11) (oi := _) (v := ?_) (by simp only [List.getElem?_toArray, List.getElem?_cons_succ, List.getElem?_cons_zero]; rfl) (by kernel_rfl) (by kernel_rfl) (by kernel_rfl) (by intro _ _ _ h; exact h) (Or.inl ⟨by rfl, ?_⟩) (by assumption) ?_
            rotate_left 1
            · (intro w hSw; (try dsimp only at hSw); go_simp; try with_reducible rfl)
            try simp only [Act.put, List.setIfInBounds_toArray, List.set_cons_zero, List.set_cons_succ]
            refine wpAnyH_take (i := 12) (oi := _) (v := ?_) (by simp only [List.getElem?_toArray, List.getElem?_cons_succ, List.getElem?_cons_zero]; rfl) (by kernel_rfl) (by kernel_rfl) (by kernel_rfl) (by intro _ _ _ h; exact h) (Or.inl ⟨by rfl, ?_⟩) (by assumption) ?_
            rotate_left 1
            · (intro w hSw; (try dsimp only at hSw); go_simp; try with_reducible rfl)
            try simp only [Act.put, List.setIfInBounds_toArray, List.set_cons_zero, List.set_cons_succ]
            refine wpAnyH_take (i := 13) (oi := _) (v := ?_) (by simp only [List.getElem?_toArray, List.getElem?_cons_succ, List.getElem?_cons_zero]; rfl) (by kernel_rfl) (by kernel_rfl) (by kernel_rfl) (by intro _ _ _ h; exact h) (Or.inl ⟨by rfl, ?_⟩) (by assumption) ?_
            rotate_left 1
            · (intro w hSw; (try dsimp only at hSw); go_simp; try with_reducible rfl)
            try simp only [Act.put, List.setIfInBounds_toArray, List.set_cons_zero, List.set_cons_succ]
            refine wpAnyH_take (i := 14) (oi := _) (v := ?_) (by simp only [List.getElem?_toArray, List.getElem?_cons_succ, List.getElem?_cons_zero]; rfl) (by kernel_rfl) (by kernel_rfl) (by kernel_rfl) (by intro _ _ _ h; exact h) (Or.inl ⟨by rfl, ?_⟩) (by assumption) ?_
            rotate_left 1
            · (intro w hSw; (try dsimp only at hSw); go_simp; try with_reducible rfl)
            try simp only [Act.put, List.setIfInBounds_toArray, List.set_cons_zero, List.set_cons_succ]
            refine wpAnyH_take (i := 15) (oi := _) (v := ?_) (by simp only [List.getElem?_toArray, List.getElem?_cons_succ, List.getElem?_cons_zero]; rfl) (by kernel_rfl) (by kernel_rfl) (by kernel_rfl) (by intro _ _ _ h; exact h) (Or.inl ⟨by rfl, ?_⟩) (by assumption) ?_
            rotate_left 1
            · (intro w hSw; (try dsimp only at hSw); go_simp; try with_reducible rfl)
            try simp only [Act.put, List.setIfInBounds_toArray, List.set_cons_zero, List.set_cons_succ]
            refine wpAnyH_take (i := 16) (oi := _) (v := ?_) (by simp only [List.getElem?_toArray, List.getElem?_cons_succ, List.getElem?_cons_zero]; rfl) (by kernel_rfl) (by kernel_rfl) (by kernel_rfl) (by intro _ _ _ h; exact h) (Or.inl ⟨by rfl, ?_⟩) (by assumption) ?_
            rotate_left 1
            · (intro w hSw; (try dsimp only at hSw); go_simp; try with_reducible rfl)
            try simp only [Act.put, List.setIfInBounds_toArray, List.set_cons_zero, List.set_cons_succ]
            refine wpAnyH_take (i := 17) (oi := _) (v := ?_) (by simp only [List.getElem?_toArray, List.getElem?_cons_succ, List.getElem?_cons_zero]; rfl) (by kernel_rfl) (by kernel_rfl) (by kernel_rfl) (by intro _ _ _ h; exact h) (Or.inl ⟨by rfl, ?_⟩) (by assumption) ?_
            rotate_left 1
            · (intro w hSw; (try dsimp only at hSw); go_simp; try with_reducible rfl)
            try simp only [Act.put, List.setIfInBounds_toArray, List.set_cons_zero, List.set_cons_succ]
            refine wpAnyH_ready (rs := [18]) (by kernel_rfl) (by simp) ?_
            refine AllReadyH.cons (by simp only [List.getElem?_toArray, List.getElem?_cons_succ, List.getElem?_cons_zero]; rfl) (fun K hK => ?_) AllReadyH.nil
            go_simp
            (go_at_call 24; (with_reducible refine (HE.out _).mono ?_); rintro e z3 ⟨rfl, mz⟩; have MM := Lib.hid mz; have u0 := (undrew MM.out).cell u0 (by simp); have u1 := (undrew MM.out).cell u1 (by simp); have u2 := (undrew MM.out).cell u2 (by simp); have u3 := (undrew MM.out).cell u3 (by simp); have u4 := (undrew MM.out).cell u4 (by simp); have u5 := (undrew MM.out).cell u5 (by simp); have u6 := (undrew MM.out).cell u6 (by simp); have u7 := (undrew MM.out).cell u7 (by simp); have v0 := (undrew MM.out).cell v0 (by simp); have v1 := (undrew MM.out).cell v1 (by simp); have v2 := (undrew MM.out).cell v2 (by simp); have v3 := (undrew MM.out).cell v3 (by simp); have v4 := (undrew MM.out).cell v4 (by simp); have v5 := (undrew MM.out).cell v5 (by simp); have v6 := (undrew MM.out).cell v6 (by simp); clear mz)
            refine hK.out _ _ (by go_keep) (fun hHeld => ?_)
            clear hK K
            try simp only [Act.put, List.setIfInBounds_toArray, List.set_cons_zero, List.set_cons_succ]
            refine wpAnyH_take (i := 19) (oi := _) (v := ?_) (by simp only [List.getElem?_toArray, List.getElem?_cons_succ, List.getElem?_cons_zero]; rfl) (by kernel_rfl) (by kernel_rfl) (by kernel_rfl) (by intro _ _ _ h; exact h) (Or.inl ⟨by rfl, ?_⟩) (by assumption) ?_
            rotate_left 1
            · (intro w hSw; (try dsimp only at hSw); go_simp; try with_reducible rfl)
            try simp only [Act.put, List.setIfInBounds_toArray, List.set_cons_zero, List.set_cons_succ]
            refine wpAnyH_take (i := 20) (oi := _) (v := ?_) (by simp only [List.getElem?_toArray, List.getElem?_cons_succ, List.getElem?_cons_zero]; rfl) (by kernel_rfl) (by kernel_rfl) (by kernel_rfl) (by intro _ _ _ h; exact h) (Or.inl ⟨by rfl, ?_⟩) (by assumption) ?_
            rotate_left 1
            · (intro w hSw; (try dsimp only at hSw); go_simp; try with_reducible rfl)
            try simp only [Act.put, List.setIfInBounds_toArray, List.set_cons_zero, List.set_cons_succ]
            refine wpAnyH_done (by kernel_rfl) ?_ _
            have HM2 := Lib.hid (HM.out.trans (undrew MM.out) (by simp))
            clear u0 u1 u2 u3 u4 u5 u6 u7 v0 v1 v2 v3 v4 v5 v6
            rw [← HA5.out, ← HLA.out]
            go_wp2_with fail
            go_roundg (f2 - (k + 1))
            case measure => omega
            case rel => exact ⟨k + 1, by omega, by go_num, HM2, by omega⟩
          · obtain rfl : k = f2 := by omega
            have S6 := Lib.hid (S5.out.mod HM.out)
            rw [← HA1.out]
            go_wp2_with fail
            go_roundg (20 - (i + 1))
            case measure => omega
            case rel => exact ⟨i + 1, k, by omega, by omega, by omega, by go_num, rfl, S6, by omega⟩
    · have hend : i < len1 ∧ 20 ≤ i ∨ len1 ≤ i := by omega
      have BW := Lib.hid (Mod.below HB.out HS.out.choose_spec.2.2.2.2 (fun k hk => Nat.le_trans HB.out.size hk))
      clear hin
      rcases hend with ⟨h1, h2⟩ | h1
      all_goals
        go_wp2_with fail
        go_ret
        exact ⟨rfl, BW.out⟩
/-! ### the row's step -/
theorem own : ownKnob Try.prog.godebug = none := by kernel_rfl
theorem laidOut : laidOutB Try.prog = true := by kernel_rfl
set_option maxRecDepth 100000 in
theorem lifted (os : Os) (started : os.Started) (H : Type) (enc : TypeId × Value → H) :
    ReturnsInHanded {} Try.checked os 9 .any (Rows.readyStrictSpec.pre6 enc Try.prog Try.f9 Rows.readyStrictRow.domain false) (Rows.readyStrictSpec.post enc Try.prog Try.f9 false true false false) := by
  refine returnsInHanded_of_change (C := Try.checked) own started (by kernel_rfl) Try.func9
    (ChangeSpec.witness6 (enc := enc) (C := Try.checked) false ⟨#[], #[.slice none 0 0, .slice none 0 0], []⟩ 8 (by kernel_rfl) (by kernel_rfl) (by kernel_rfl) (by kernel_rfl)) ?_
  intro W base args ds gs before hval0 hW hcnd _
  have hval : ∀ (j : Nat) t v, Try.f9.params[j]? = some t → args[j]? = some v → Value.okWide Try.prog W .any base t v := hval0
  have hW' := hW
  obtain ⟨p, q, hA0, hV, rfl, hfz, hnd⟩ := hW
  have hA : DataW.TrodAll enc Try.prog W 0 (fun _ => true) true Try.f9.params.toList args.toList ds p := hA0
  rw [Try.params9] at hA hval
  obtain ⟨v0, vs0, d0, ds0, p0, q0, hargs, rfl, rfl, h0, r0⟩ := trodAll_cons hA
  obtain ⟨v1, vs1, d1, ds1, p1, q1, rfl, rfl, rfl, h1, r1⟩ := trodAll_cons r0
  obtain ⟨rfl, rfl, rfl⟩ := trodAll_nil r1
  obtain rfl : args = #[v0, v1] := by cases args; simp_all
  obtain ⟨rfl, rfl⟩ := trodVars_none hV
  have k0 := h0
  have lt0 : ∀ x ∈ p0, x.block < W.heap.size := by obtain ⟨m, hm⟩ := k0; exact DataW.trod_lt m _ _ _ hm
  have k1 := h1
  have lt1 : ∀ x ∈ p1, x.block < W.heap.size := by obtain ⟨m, hm⟩ := k1; exact DataW.trod_lt m _ _ _ hm
  obtain ⟨a0, len0, cap0, rfl⟩ := okWide_slice Try.underlying46 (hval 0 46 v0 rfl rfl)
  obtain ⟨z0, w0⟩ := IntsAt.open_ Try.underlying46 Try.underlying3 (by kernel_rfl) h0
  obtain ⟨a1, len1, cap1, rfl⟩ := okWide_slice Try.underlying46 (hval 1 46 v1 rfl rfl)
  obtain ⟨z1, w1⟩ := IntsAt.open_ Try.underlying46 Try.underlying3 (by kernel_rfl) h1
  clear hA0 hval0
  refine (walk a0 len0 cap0 z0 a1 len1 cap1 z1 W w0 w1).mono fun e W' ⟨he, bel⟩ => ?_
  subst he
  exact ⟨_, rfl, _, _, _, [], _, [], hW', trodAll_mk1 (shut_bool Try.underlying4 _), (trodAll_cons_mk (Below.trod laidOut (by kernel_rfl) (of_decide_eq_true (by kernel_rfl)) k0 bel lt0) (trodAll_cons_mk (Below.trod laidOut (by kernel_rfl) (of_decide_eq_true (by kernel_rfl)) k1 bel lt1) trodAll_mk0)), rfl, bel.frame _, fun h => by cases h⟩

theorem over : Rows.readyStrictRow.holds Try.pinned (OpenSpec.ofChange Rows.readyStrictSpec) :=
  OpenClaim.holds_of_wide 9 Try.f9 rfl rfl rfl rfl rfl rfl rfl ⟨rfl, rfl, rfl, rfl, rfl⟩ rfl rfl rfl rfl rfl (by kernel_rfl) Try.func9 (by kernel_rfl)
    (of_decide_eq_true (by kernel_rfl)) (by unfold Func.isWrapper; first | (rw [if_pos (by decide +kernel)]; kernel_rfl) | (rw [if_neg (by decide +kernel)]; exact ⟨rfl, rfl⟩))
    (fun os started H enc _ => lifted os started H enc)

theorem proved : Rows.ReadyStrictSaid := over
#print axioms proved
end Go.Proofs.Ytcjnmiopklkifaa.readyStrict
