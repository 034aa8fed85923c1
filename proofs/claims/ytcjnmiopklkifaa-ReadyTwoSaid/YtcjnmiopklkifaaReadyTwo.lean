/- Proved: curfewlaw14.ReadyTwo answers true for every two lists of entries and every three numbers, and leaves what came in as it was. No condition. -/
import Derived.Test.YtcjnmiopklkifaaReadyT
namespace Go.Proofs.Ytcjnmiopklkifaa.readyTwo
open Go.ChangeShapes Go.WideShapes Go.ChangeAt Go.RowKit
set_option linter.unusedVariables false
set_option linter.unusedSimpArgs false
attribute [local go_sem ↓] Go.wp_at_zero Go.wp_at_succ

set_option maxRecDepth 100000 in
set_option maxHeartbeats 12800000 in
theorem walk (a0 : Option Addr) (len0 cap0 : Nat) (a1 : Option Addr) (len1 cap1 : Nat) (a2 : Int) (a3 : Int) (a4 : Int) (w : World) (w0 : EntryRow w a0 len0 cap0) (w1 : EntryRow w a1 len1 cap1) (w2 : (Lit.int .i64 a2).wf = true) (w3 : (Lit.int .i64 a3).wf = true) (w4 : (Lit.int .i64 a4).wf = true) :
    Calls Try.prog 4 #[.slice a0 len0 cap0, .slice a1 len1 cap1, .int .i64 a2, .int .i64 a3, .int .i64 a4] w fun e w' => e = .returned (.bool true) ∧ Below w.heap.size w w' := by
  obtain ⟨es, rfl, hes, hde⟩ := w0
  obtain ⟨fs, rfl, hfs, hdf⟩ := w1
  have b2 := i64_bd w2
  have b3 := i64_bd w3
  have b4 := i64_bd w4
  clear w2 w3 w4
  have HES := Lib.hid hes
  have HFS := Lib.hid hfs
  clear hes hfs
  go_enter Try.func4, Try.ntmps4
  go_wp2_with fail
  refine (begun_any _).mono ?_
  rintro e wb ⟨rfl, hb⟩
  have HB := Lib.hid hb
  clear hb
  have hx : ((es.take 12).map En.cut).length ≤ 12 := by simp; omega
  have hy : ((fs.take 12).map En.cut).length ≤ 12 := by simp; omega
  have hdx := ent_size (n := 12) hde
  have hdy := ent_size (n := 12) hdf
  go_wp2_with fail
  refine (entries_any a0 es cap0 12 wb (HES.out.below HB.out) hde (by decide)).mono ?_
  rintro e w1 ⟨A, c, rfl, oA, mA, bA⟩
  generalize (es.take 12).map En.cut = x at *
  have M1 := Lib.hid mA
  have OA := Lib.hid oA
  clear oA mA bA hde HES
  go_wp2_with fail
  refine (log_any A x c w1 (Sl.of_own OA.out) hdx (by omega)).mono ?_
  rintro e w2 ⟨L, cl, rfl, oL, mL, bL⟩
  have hll := logL_len x
  have hlo := Lib.hid (logL_ok x)
  generalize logL x = l at *
  have M2 := Lib.hid (M1.out.trans mL (by simp))
  have OL := Lib.hid oL
  have BL := Lib.hid bL
  clear oL mL bL hdx
  go_wp2_with fail
  refine (entries_any a1 fs cap1 12 w2 ((HFS.out.below HB.out).none_ M2.out) hdf (by decide)).mono ?_
  rintro e w3 ⟨B, d, rfl, oB, mB, bB⟩
  generalize (fs.take 12).map En.cut = y at *
  have M3 := Lib.hid (M2.out.trans mB (by simp))
  have OB := Lib.hid oB
  have OL3 := Lib.hid (OL.out.mod mB (by simp))
  clear oB mB bB hdf HFS
  go_wp2_with fail
  refine (log_any B y d w3 (Sl.of_own OB.out) hdy (by omega)).mono ?_
  rintro e w4 ⟨K, ck, rfl, oK, mK, bK⟩
  have hlk := logL_len y
  have hko := Lib.hid (logL_ok y)
  generalize logL y = m at *
  have M4 := Lib.hid (M3.out.trans mK (by simp))
  have OL4 := Lib.hid (OL3.out.mod mK (by simp))
  have OK4 := Lib.hid oK
  clear oK mK bK hdy
  go_wp2_with fail
  refine (newQ_any _).mono ?_
  rintro e w5 ⟨g, rfl, hq, m5, hg5⟩
  have M5 := Lib.hid (M4.out.trans m5 (by simp))
  have hst := Lib.hid (St2.start (n0 := wb.heap.size) (g1 := g) (g2 := w5.heap.size) (P := fun k => blk L = some k ∨ blk K = some k) hq ((Mod.refl _ _).alloc (.cells #[.slice none 0 0] 32)) (Cells.new w5 _ _) (by have := M4.out.size; omega) (Nat.le_refl _)
    (by rintro (h | h)
        · (have := OL4.out.lt h; omega)
        · (have := OK4.out.lt h; omega))
    (by have := m5.size
        rintro (h | h)
        · (have := OL4.out.lt h; omega)
        · (have := OK4.out.lt h; omega))
    (by have := m5.size
        rintro k (h | h)
        · (have := OL4.out.lt h; simp; omega)
        · (have := OK4.out.lt h; simp; omega)))
  have OL6 := Lib.hid ((OL4.out.mod m5 (by simp)).alloc (.cells #[.slice none 0 0] 32))
  have OK6 := Lib.hid ((OK4.out.mod m5 (by simp)).alloc (.cells #[.slice none 0 0] 32))
  have BW6 := Lib.hid (Mod.mono (G := fun k => wb.heap.size ≤ k) (M5.out.alloc (.cells #[.slice none 0 0] 32)) (by simp))
  have hc1 := OL.out.2.1
  have hc2 := OK4.out.2.1
  have hlen1 : l.length ≤ 12 := by omega
  have hlen2 : m.length ≤ 12 := by omega
  clear hq m5 hg5 M1 M2 M3 M4 M5 OA OB OL OL3 OL4 OK4 BL
  go_wp2_with fail
  refine (hst.out.go1 L l cl a2 a4 (Sl.of_own OL6.out) (fun k hk => .inl hk) (by omega) hc1 OL6.out.2.2.1 (by simp) (log_okE hlo.out) b2.1 b2.2 b4.1 b4.2).mono ?_
  rintro e w7 ⟨A7, c7, rfl, o7, s7, m7⟩
  have ST7 := Lib.hid s7
  have O7 := Lib.hid o7
  have OL7 := Lib.hid (OL6.out.mod m7 fun k hk h => h.2 (.inl hk))
  have OK7 := Lib.hid (OK6.out.mod m7 fun k hk h => h.2 (.inr hk))
  have BW7 := Lib.hid (BW6.out.trans m7 fun k h => .inl h.1)
  clear o7 s7 m7 OL6 OK6 BW6 hst
  go_wp2_with fail
  refine (ST7.out.go2 L l cl a2 a4 (Sl.of_own OL7.out) (fun k hk => .inl (.inl hk)) (by omega) hc1 OL7.out.2.2.1 (by simp) (log_okE hlo.out) b2.1 b2.2 b4.1 b4.2).mono ?_
  rintro e w8 ⟨A8, c8, rfl, o8, s8, m8⟩
  have O7b := Lib.hid (O7.out.mod m8 fun k hk h => h.2 (.inr hk))
  have O8 := Lib.hid o8
  have ST8 := Lib.hid (s8.less (Q := fun k => blk L = some k ∨ blk K = some k) fun k hk => .inl (.inl hk))
  have OL8 := Lib.hid (OL7.out.mod m8 fun k hk h => h.2 (.inl (.inl hk)))
  have OK8 := Lib.hid (OK7.out.mod m8 fun k hk h => h.2 (.inl (.inr hk)))
  have BW8 := Lib.hid (BW7.out.trans m8 fun k h => .inl h.1)
  have hu1 := Lib.hid (run_uniq (T := []) (l := l) (c := a2) (now := a4) Uniq.nil l.length (Nat.le_refl _))
  have hn1 := runR_len [] l a2 a4 l.length
  change (goR [] l a2 a4).length ≤ l.length at hn1
  change Hid (Uniq ([] ++ goR [] l a2 a4)) at hu1
  clear o8 s8 m8 O7 OL7 OK7 BW7 ST7
  simp only [List.nil_append] at hu1
  have ST8b := Lib.hid (show St2 wb.heap.size _ g w5.heap.size (goR [] l a2 a4) (goR [] l a2 a4) w8 by have h := ST8.out; simp only [List.nil_append] at h; exact h)
  clear ST8
  generalize goR [] l a2 a4 = out1 at *
  go_wp2_with fail
  refine (eqT_same A7 A8 out1 c7 c8 w8 (Sl.of_own O7b.out) (Sl.of_own O8.out)).mono ?_
  rintro e w9 ⟨rfl, m9⟩
  have ST9 := Lib.hid (ST8b.out.mod m9)
  have OL9 := Lib.hid (OL8.out.mod m9 (by simp))
  have OK9 := Lib.hid (OK8.out.mod m9 (by simp))
  have BW9 := Lib.hid (BW8.out.trans m9 (by simp))
  clear m9 O7b O8 OL8 OK8 BW8 ST8b
  go_wp2_with fail
  refine (ST9.out.go1 K m ck a3 a4 (Sl.of_own OK9.out) (fun k hk => .inr hk) (by omega) hc2 OK9.out.2.2.1 (by omega) (log_okE hko.out) b3.1 b3.2 b4.1 b4.2).mono ?_
  rintro e w10 ⟨A10, c10, rfl, o10, s10, m10⟩
  have ST10 := Lib.hid s10
  have O10 := Lib.hid o10
  have OK10 := Lib.hid (OK9.out.mod m10 fun k hk h => h.2 (.inr hk))
  have BW10 := Lib.hid (BW9.out.trans m10 fun k h => .inl h.1)
  clear o10 s10 m10 OL9 OK9 BW9 ST9
  go_wp2_with fail
  refine (ST10.out.go2 K m ck a3 a4 (Sl.of_own OK10.out) (fun k hk => .inl (.inr hk)) (by omega) hc2 OK10.out.2.2.1 (by omega) (log_okE hko.out) b3.1 b3.2 b4.1 b4.2).mono ?_
  rintro e w11 ⟨A11, c11, rfl, o11, s11, m11⟩
  have O10b := Lib.hid (O10.out.mod m11 fun k hk h => h.2 (.inr hk))
  have O11 := Lib.hid o11
  have ST11 := Lib.hid s11
  have BW11 := Lib.hid (BW10.out.trans m11 fun k h => .inl h.1)
  have hu2 := Lib.hid (run_uniq (T := out1) (l := m) (c := a3) (now := a4) hu1.out m.length (Nat.le_refl _))
  have hn2 := runR_len out1 m a3 a4 m.length
  change (goR out1 m a3 a4).length ≤ m.length at hn2
  change Hid (Uniq (out1 ++ goR out1 m a3 a4)) at hu2
  clear o11 s11 m11 O10 OK10 BW10 ST10 hu1
  generalize goR out1 m a3 a4 = out2 at *
  go_wp2_with fail
  refine (eqT_same A10 A11 out2 c10 c11 w11 (Sl.of_own O10b.out) (Sl.of_own O11.out)).mono ?_
  rintro e w12 ⟨rfl, m12⟩
  have ST12 := Lib.hid (ST11.out.mod m12)
  have BW12 := Lib.hid (BW11.out.trans m12 (by simp))
  have hTn : (out1 ++ out2).length ≤ 24 := by rw [List.length_append]; omega
  clear m12 O10b O11 BW11 ST11
  generalize out1 ++ out2 = T at *
  go_wp2_with fail
  refine (ST12.out.told (by omega)).mono ?_
  rintro e z ⟨A13, c13, rfl, o13, m13, b13⟩
  have ST := Lib.hid (ST12.out.mod m13)
  have BW := Lib.hid (BW12.out.trans m13 (by simp))
  have OT := Lib.hid o13
  clear o13 m13 b13 ST12 BW12
  go_wp2_with fail
  go_loopg [17] T.length (fun mm v17 wr => ∃ i : Nat, i ≤ T.length ∧ v17 = .int .i64 i ∧ Hid (Mod (fun _ => False) z wr) ∧ mm + i = T.length)
  case atStart => exact ⟨0, by omega, rfl, Lib.hid (Mod.refl _ _), by omega⟩
  case round =>
    obtain ⟨i, hi, rfl, HM, hm⟩ := hrel
    obtain ⟨wo, rfl⟩ : ∃ wo : World, wo = wr := ⟨_, rfl⟩
    by_cases hlt : i < T.length
    · go_wp2_with fail
      go_loopg [18] i (fun mm v18 wr => ∃ k : Nat, k ≤ i ∧ v18 = .int .i64 k ∧ Hid (Mod (fun _ => False) z wr) ∧ mm + k = i)
      case atStart => exact ⟨0, by omega, rfl, HM, by omega⟩
      case round =>
        obtain ⟨k, hk, rfl, HZ, hm2⟩ := hrel
        by_cases hlk : k < i
        · have hkx : k < T.length := by omega
          have hc := fun W => same_ref T[i].e T[k].e W
          rw [hu2.out.at_ hlt hlk] at hc
          obtain ⟨gt, ot, hAT, hgt, q0, q1, q2, q3, q4, q5, q6, q7⟩ := ((Sl.of_own OT.out).none_ HZ.out).to hlt
          obtain ⟨gt', ot', e', hgt', p0, p1, p2, p3, p4, p5, p6, p7⟩ := ((Sl.of_own OT.out).none_ HZ.out).to hkx
          rw [hAT] at e'
          injection e' with e'
          injection e' with e1 e2
          subst e1 e2
          have i0 : (0 : Int) ≤ (k : Int) := by omega
          have i1 : (k : Int) < (T.length : Int) := by omega
          have i2 : (0 : Int) ≤ (i : Int) := by omega
          have i3 : (i : Int) < (T.length : Int) := by omega
          have HAT := Lib.hid hAT
          unfold En.val at hc
          have HC := Lib.hid hc
          clear hc
          generalize T[i] = X at *
          generalize T[k] = Y at *
          rw [hAT]
          clear hAT
          go_wp2_with fail
          refine wp_region_held_drew (S := (fun w' => w'.cell? ⟨gt, ot + i * 8 + 1, none⟩ = some (.int .i64 X.e.fr) ∧ w'.cell? ⟨gt, ot + i * 8 + 2, none⟩ = some (.int .i64 X.e.bo) ∧ w'.cell? ⟨gt, ot + i * 8 + 3, none⟩ = some (.int .i64 X.e.se) ∧ w'.cell? ⟨gt, ot + i * 8 + 4, none⟩ = some (.int .i64 X.e.od) ∧ w'.cell? ⟨gt, ot + i * 8 + 5, none⟩ = some (.int .i64 X.e.lv) ∧ w'.cell? ⟨gt, ot + i * 8 + 6, none⟩ = some (.int .i64 X.e.st) ∧ w'.cell? ⟨gt, ot + i * 8 + 7, none⟩ = some (.string X.e.da) ∧ w'.cell? ⟨gt, ot + k * 8 + 1, none⟩ = some (.int .i64 Y.e.fr) ∧ w'.cell? ⟨gt, ot + k * 8 + 2, none⟩ = some (.int .i64 Y.e.bo) ∧ w'.cell? ⟨gt, ot + k * 8 + 3, none⟩ = some (.int .i64 Y.e.se) ∧ w'.cell? ⟨gt, ot + k * 8 + 4, none⟩ = some (.int .i64 Y.e.od) ∧ w'.cell? ⟨gt, ot + k * 8 + 5, none⟩ = some (.int .i64 Y.e.lv) ∧ w'.cell? ⟨gt, ot + k * 8 + 6, none⟩ = some (.int .i64 Y.e.st) ∧ w'.cell? ⟨gt, ot + k * 8 + 7, none⟩ = some (.string Y.e.da))) (by kernel_rfl) (by go_keep) (fun hHeld => ?_)
          refine wpAnyH_take (i := 0) (oi := _) (v := ?_) (by simp only [List.getElem?_toArray, List.getElem?_cons_succ, List.getElem?_cons_zero]; rfl) (by kernel_rfl) (by kernel_rfl) (by kernel_rfl) (by intro _ _ _ h; exact h) (Or.inl ⟨by rfl, ?_⟩) (by assumption) ?_
          rotate_left 1
          · (intro w hSw; (try dsimp only at hSw); go_simp; try with_reducible rfl)
          try simp only [Act.put, List.setIfInBounds_toArray, List.set_cons_zero, List.set_cons_succ]
          refine wpAnyH_take (i := 1) (oi := _) (v := ?_) (by simp only [List.getElem?_toArray, List.getElem?_cons_succ, List.getElem?_cons_zero]; rfl) (by kernel_rfl) (by kernel_rfl) (by kernel_rfl) (by intro _ _ _ h; exact h) (Or.inl ⟨by rfl, ?_⟩) (by assumption) ?_
          rotate_left 1
          · (intro w hSw; (try dsimp only at hSw); go_simp; try with_reducible rfl)
          try simp only [Act.put, List.setIfInBounds_toArray, List.set_cons_zero, List.set_cons_succ]
          refine wpAnyH_take (i := 2) (oi := _) (v := ?_) (by simp only [List.getElem?_toArray, List.getElem?_cons_succ, List.getElem?_cons_zero]; rfl) (by kernel_rfl) (by kernel_rfl) (by kernel_rfl) (by intro _ _ _ h; exact h) (Or.inl ⟨by rfl, ?_⟩) (by assumption) ?_
          rotate_left 1
          · (intro w hSw; (try dsimp only at hSw); go_simp; try with_reducible rfl)
          try simp only [Act.put, List.setIfInBounds_toArray, List.set_cons_zero, List.set_cons_succ]
          refine wpAnyH_take (i := 3) (oi := _) (v := ?_) (by simp only [List.getElem?_toArray, List.getElem?_cons_succ, List.getElem?_cons_zero]; rfl) (by kernel_rfl) (by kernel_rfl) (by kernel_rfl) (by intro _ _ _ h; exact h) (Or.inl ⟨by rfl, ?_⟩) (by assumption) ?_
          rotate_left 1
          · (intro w hSw; (try dsimp only at hSw); go_simp; try with_reducible rfl)
          try simp only [Act.put, List.setIfInBounds_toArray, List.set_cons_zero, List.set_cons_succ]
          refine wpAnyH_take (i := 4) (oi := _) (v := ?_) (by simp only [List.getElem?_toArray, List.getElem?_cons_succ, List.getElem?_cons_zero]; rfl) (by kernel_rfl) (by kernel_rfl) (by kernel_rfl) (by intro _ _ _ h; exact h) (Or.inl ⟨by rfl, ?_⟩) (by assumption) ?_
          rotate_left 1
          · (intro w hSw; (try dsimp only at hSw); go_simp; try with_reducible rfl)
          try simp only [Act.put, List.setIfInBounds_toArray, List.set_cons_zero, List.set_cons_succ]
          refine wpAnyH_take (i := 5) (oi := _) (v := ?_) (by simp only [List.getElem?_toArray, List.getElem?_cons_succ, List.getElem?_cons_zero]; rfl) (by kernel_rfl) (by kernel_rfl) (by kernel_rfl) (by intro _ _ _ h; exact h) (Or.inl ⟨by rfl, ?_⟩) (by assumption) ?_
          rotate_left 1
          · (intro w hSw; (try dsimp only at hSw); go_simp; try with_reducible rfl)
          try simp only [Act.put, List.setIfInBounds_toArray, List.set_cons_zero, List.set_cons_succ]
          refine wpAnyH_take (i := 6) (oi := _) (v := ?_) (by simp only [List.getElem?_toArray, List.getElem?_cons_succ, List.getElem?_cons_zero]; rfl) (by kernel_rfl) (by kernel_rfl) (by kernel_rfl) (by intro _ _ _ h; exact h) (Or.inl ⟨by rfl, ?_⟩) (by assumption) ?_
          rotate_left 1
          · (intro w hSw; (try dsimp only at hSw); go_simp; try with_reducible rfl)
          try simp only [Act.put, List.setIfInBounds_toArray, List.set_cons_zero, List.set_cons_succ]
          refine wpAnyH_take (i := 7) (oi := _) (v := ?_) (by simp only [List.getElem?_toArray, List.getElem?_cons_succ, List.getElem?_cons_zero]; rfl) (by kernel_rfl) (by kernel_rfl) (by kernel_rfl) (by intro _ _ _ h; exact h) (Or.inl ⟨by rfl, ?_⟩) (by assumption) ?_
          rotate_left 1
          · (intro w hSw; (try dsimp only at hSw); go_simp; try with_reducible rfl)
          try simp only [Act.put, List.setIfInBounds_toArray, List.set_cons_zero, List.set_cons_succ]
          refine wpAnyH_take (i := 8) (oi := _) (v := ?_) (by simp only [List.getElem?_toArray, List.getElem?_cons_succ, List.getElem?_cons_zero]; rfl) (by kernel_rfl) (by kernel_rfl) (by kernel_rfl) (by intro _ _ _ h; exact h) (Or.inl ⟨by rfl, ?_⟩) (by assumption) ?_
          rotate_left 1
          · (intro w hSw; (try dsimp only at hSw); go_simp; try with_reducible rfl)
          try simp only [Act.put, List.setIfInBounds_toArray, List.set_cons_zero, List.set_cons_succ]
          refine wpAnyH_take (i := 9) (oi := _) (v := ?_) (by simp only [List.getElem?_toArray, List.getElem?_cons_succ, List.getElem?_cons_zero]; rfl) (by kernel_rfl) (by kernel_rfl) (by kernel_rfl) (by intro _ _ _ h; exact h) (Or.inl ⟨by rfl, ?_⟩) (by assumption) ?_
          rotate_left 1
          · (intro w hSw; (try dsimp only at hSw); go_simp; try with_reducible rfl)
          try simp only [Act.put, List.setIfInBounds_toArray, List.set_cons_zero, List.set_cons_succ]
          refine wpAnyH_ready (rs := [10]) (by kernel_rfl) (by simp) ?_
          refine AllReadyH.cons (by simp only [List.getElem?_toArray, List.getElem?_cons_succ, List.getElem?_cons_zero]; rfl) (fun K hK => ?_) AllReadyH.nil
          go_simp
          (go_at_call 22; (with_reducible refine (HC.out _).mono ?_); rintro e w1 ⟨rfl, m1⟩; have y1 := (undrew m1).cell q1 (by simp); have y2 := (undrew m1).cell q2 (by simp); have y3 := (undrew m1).cell q3 (by simp); have y4 := (undrew m1).cell q4 (by simp); have y5 := (undrew m1).cell q5 (by simp); have y6 := (undrew m1).cell q6 (by simp); have y7 := (undrew m1).cell q7 (by simp); have z1 := (undrew m1).cell p1 (by simp); have z2 := (undrew m1).cell p2 (by simp); have z3 := (undrew m1).cell p3 (by simp); have z4 := (undrew m1).cell p4 (by simp); have z5 := (undrew m1).cell p5 (by simp); have z6 := (undrew m1).cell p6 (by simp); have z7 := (undrew m1).cell p7 (by simp))
          refine hK.out _ _ (by go_keep) (fun hHeld => ?_)
          clear hK K
          try simp only [Act.put, List.setIfInBounds_toArray, List.set_cons_zero, List.set_cons_succ]
          refine wpAnyH_done (by kernel_rfl) ?_ _
          have HZ2 := Lib.hid (HZ.out.trans (undrew m1) (by simp))
          clear m1 y1 y2 y3 y4 y5 y6 y7 z1 z2 z3 z4 z5 z6 z7
          rw [← HAT.out]
          go_wp2_with fail
          go_roundg (i - (k + 1))
          case measure => omega
          case rel => exact ⟨k + 1, by omega, by go_num, HZ2, by omega⟩
        · obtain rfl : k = i := by omega
          go_wp2_with fail
          go_roundg (T.length - (k + 1))
          case measure => omega
          case rel => exact ⟨k + 1, by omega, by go_num, HZ, by omega⟩
    · obtain rfl : i = T.length := by omega
      obtain ⟨A2, c2, f0, hO2, hg2⟩ := (ST.out.mod HM.out).field
      have HO2 := Lib.hid (Sl.of_own hO2)
      clear hO2
      go_wp2_with fail
      refine (eqT_same A13 A2 T c13 c2 _ ((Sl.of_own OT.out).none_ HM.out) HO2.out).mono ?_
      rintro e z2 ⟨rfl, m2⟩
      have M2 := Lib.hid ((BW.out.trans HM.out (by simp)).trans m2 (by simp))
      clear m2
      go_wp2_with fail
      go_ret
      exact ⟨rfl, Mod.below HB.out M2.out (fun k hk => Nat.le_trans HB.out.size hk)⟩
/-! ### the row's step -/
theorem own : ownKnob Try.prog.godebug = none := by kernel_rfl
theorem laidOut : laidOutB Try.prog = true := by kernel_rfl
set_option maxRecDepth 100000 in
theorem lifted (os : Os) (started : os.Started) (H : Type) (enc : TypeId × Value → H) :
    ReturnsInHanded {} Try.checked os 4 .any (Rows.readyTwoSpec.pre6 enc Try.prog Try.f4 Rows.readyTwoRow.domain false) (Rows.readyTwoSpec.post enc Try.prog Try.f4 false true false false) := by
  refine returnsInHanded_of_change (C := Try.checked) own started (by kernel_rfl) Try.func4
    (ChangeSpec.witness6 (enc := enc) (C := Try.checked) false ⟨#[], #[.slice none 0 0, .slice none 0 0, .int .i64 0, .int .i64 0, .int .i64 0], []⟩ 8 (by kernel_rfl) (by kernel_rfl) (by kernel_rfl) (by kernel_rfl)) ?_
  intro W base args ds gs before hval0 hW hcnd _
  have hval : ∀ (j : Nat) t v, Try.f4.params[j]? = some t → args[j]? = some v → Value.okWide Try.prog W .any base t v := hval0
  have hW' := hW
  obtain ⟨p, q, hA0, hV, rfl, hfz, hnd⟩ := hW
  have hA : DataW.TrodAll enc Try.prog W 0 (fun _ => true) true Try.f4.params.toList args.toList ds p := hA0
  rw [Try.params4] at hA hval
  obtain ⟨v0, vs0, d0, ds0, p0, q0, hargs, rfl, rfl, h0, r0⟩ := trodAll_cons hA
  obtain ⟨v1, vs1, d1, ds1, p1, q1, rfl, rfl, rfl, h1, r1⟩ := trodAll_cons r0
  obtain ⟨v2, vs2, d2, ds2, p2, q2, rfl, rfl, rfl, h2, r2⟩ := trodAll_cons r1
  obtain ⟨v3, vs3, d3, ds3, p3, q3, rfl, rfl, rfl, h3, r3⟩ := trodAll_cons r2
  obtain ⟨v4, vs4, d4, ds4, p4, q4, rfl, rfl, rfl, h4, r4⟩ := trodAll_cons r3
  obtain ⟨rfl, rfl, rfl⟩ := trodAll_nil r4
  obtain rfl : args = #[v0, v1, v2, v3, v4] := by cases args; simp_all
  obtain ⟨rfl, rfl⟩ := trodVars_none hV
  have k0 := h0
  have lt0 : ∀ x ∈ p0, x.block < W.heap.size := by obtain ⟨m, hm⟩ := k0; exact DataW.trod_lt m _ _ _ hm
  have k1 := h1
  have lt1 : ∀ x ∈ p1, x.block < W.heap.size := by obtain ⟨m, hm⟩ := k1; exact DataW.trod_lt m _ _ _ hm
  have k2 := h2
  have lt2 : ∀ x ∈ p2, x.block < W.heap.size := by obtain ⟨m, hm⟩ := k2; exact DataW.trod_lt m _ _ _ hm
  have k3 := h3
  have lt3 : ∀ x ∈ p3, x.block < W.heap.size := by obtain ⟨m, hm⟩ := k3; exact DataW.trod_lt m _ _ _ hm
  have k4 := h4
  have lt4 : ∀ x ∈ p4, x.block < W.heap.size := by obtain ⟨m, hm⟩ := k4; exact DataW.trod_lt m _ _ _ hm
  obtain ⟨a0, len0, cap0, rfl⟩ := okWide_slice Try.underlying22 (hval 0 22 v0 rfl rfl)
  have w0 : EntryRow W a0 len0 cap0 := EntryRow.open_ h0
  obtain ⟨a1, len1, cap1, rfl⟩ := okWide_slice Try.underlying22 (hval 1 22 v1 rfl rfl)
  have w1 : EntryRow W a1 len1 cap1 := EntryRow.open_ h1
  obtain ⟨a2, rfl, rfl, rfl, w2⟩ := open_int Try.underlying3 (hval 2 3 v2 rfl rfl) h2
  obtain ⟨a3, rfl, rfl, rfl, w3⟩ := open_int Try.underlying3 (hval 3 3 v3 rfl rfl) h3
  obtain ⟨a4, rfl, rfl, rfl, w4⟩ := open_int Try.underlying2 (hval 4 2 v4 rfl rfl) h4
  clear hA0 hval0
  refine (walk a0 len0 cap0 a1 len1 cap1 a2 a3 a4 W w0 w1 w2 w3 w4).mono fun e W' ⟨he, bel⟩ => ?_
  subst he
  exact ⟨_, rfl, _, _, _, [], _, [], hW', trodAll_mk1 (shut_bool Try.underlying4 _), (trodAll_cons_mk (Below.trod laidOut (by kernel_rfl) (of_decide_eq_true (by kernel_rfl)) k0 bel lt0) (trodAll_cons_mk (Below.trod laidOut (by kernel_rfl) (of_decide_eq_true (by kernel_rfl)) k1 bel lt1) (trodAll_cons_mk (Below.trod laidOut (by kernel_rfl) (of_decide_eq_true (by kernel_rfl)) k2 bel lt2) (trodAll_cons_mk (Below.trod laidOut (by kernel_rfl) (of_decide_eq_true (by kernel_rfl)) k3 bel lt3) (trodAll_cons_mk (Below.trod laidOut (by kernel_rfl) (of_decide_eq_true (by kernel_rfl)) k4 bel lt4) trodAll_mk0))))), rfl, bel.frame _, fun h => by cases h⟩

theorem over : Rows.readyTwoRow.holds Try.pinned (OpenSpec.ofChange Rows.readyTwoSpec) :=
  OpenClaim.holds_of_wide 4 Try.f4 rfl rfl rfl rfl rfl rfl rfl ⟨rfl, rfl, rfl, rfl, rfl⟩ rfl rfl rfl rfl rfl (by kernel_rfl) Try.func4 (by kernel_rfl)
    (of_decide_eq_true (by kernel_rfl)) (by unfold Func.isWrapper; first | (rw [if_pos (by decide +kernel)]; kernel_rfl) | (rw [if_neg (by decide +kernel)]; exact ⟨rfl, rfl⟩))
    (fun os started H enc _ => lifted os started H enc)

theorem proved : Rows.ReadyTwoSaid := over
#print axioms proved
end Go.Proofs.Ytcjnmiopklkifaa.readyTwo
