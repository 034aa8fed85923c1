/- Proved: curfewlaw14.ReadyAll answers true for every list of entries and every script, and leaves what came in as it was. No condition. -/
import Derived.Test.YtcjnmiopklkifaaReadyT
import Derived.IntWalk
namespace Go.Proofs.Ytcjnmiopklkifaa.readyAll
open Go.ChangeShapes Go.WideShapes Go.ChangeAt Go.RowKit
set_option linter.unusedVariables false
set_option linter.unusedSimpArgs false
attribute [local go_sem ↓] Go.wp_at_zero Go.wp_at_succ

theorem pick_n (a : Int) (n : Nat) (hn : n ≤ 50) : ∃ k : Nat, k ≤ n ∧ (wrap64 (wrap64 (a.tmod ((n : Int) + 1) + n) + 1)).tmod ((n : Int) + 1) = k := by
  have h1 := Int.tmod_lt_of_pos a (show 0 < (n : Int) + 1 by omega)
  have h2 := Int.lt_tmod_of_pos a (show 0 < (n : Int) + 1 by omega)
  generalize a.tmod ((n : Int) + 1) = b at *
  have e1 : wrap64 (b + (n : Int)) = b + n := IntWalk.wrap64_in _ ⟨by omega, by omega⟩
  have e2 : wrap64 (b + (n : Int) + 1) = b + n + 1 := IntWalk.wrap64_in _ ⟨by omega, by omega⟩
  rw [e1, e2]
  clear e1 e2
  have h3 := Int.tmod_lt_of_pos (b + (n : Int) + 1) (show 0 < (n : Int) + 1 by omega)
  have h4 : 0 ≤ (b + (n : Int) + 1).tmod ((n : Int) + 1) := Int.tmod_nonneg _ (by omega)
  generalize (b + (n : Int) + 1).tmod ((n : Int) + 1) = r at *
  exact ⟨r.toNat, by omega, by omega⟩

set_option maxRecDepth 100000 in
set_option maxHeartbeats 12800000 in
theorem walk (a0 : Option Addr) (len0 cap0 : Nat) (a1 : Option Addr) (len1 cap1 : Nat) (w : World) (w0 : EntryRow w a0 len0 cap0) (w1 : OpRow w a1 len1 cap1) :
    Calls Try.prog 3 #[.slice a0 len0 cap0, .slice a1 len1 cap1] w fun e w' => e = .returned (.bool true) ∧ Below w.heap.size w w' := by
  obtain ⟨es, rfl, hes, hde⟩ := w0
  obtain ⟨ops, rfl, hop, hok⟩ := w1
  have HES := Lib.hid hes
  have HOP := Lib.hid hop
  have HOK := Lib.hid hok
  have hopl := hop.2.1
  unfold maxLen at hopl
  clear hes hop hok
  go_enter Try.func3, Try.ntmps3
  go_wp2_with fail
  refine (begun_any _).mono ?_
  rintro e wb ⟨rfl, hb⟩
  have HB := Lib.hid hb
  clear hb
  have hx : ((es.take 30).map En.cut).length ≤ 30 := by simp; omega
  have hdx := ent_size (n := 30) hde
  go_wp2_with fail
  refine (entries_any a0 es cap0 30 wb (HES.out.below HB.out) hde (by decide)).mono ?_
  rintro e w1 ⟨A, c, rfl, oA, mA, bA⟩
  generalize (es.take 30).map En.cut = x at *
  have M1 := Lib.hid mA
  have OA := Lib.hid oA
  clear oA mA bA hde HES
  go_wp2_with fail
  refine (log_any A x c w1 (Sl.of_own OA.out) hdx (by omega)).mono ?_
  rintro e w2 ⟨L, cl, rfl, oL, mL, bL⟩
  have hll := logL_len x
  have hlo := Lib.hid (logL_ok x)
  generalize logL x = l at *
  have M2 := Lib.hid (M1.out.trans mL (by simp))
  have OL := Lib.hid oL
  have BL := Lib.hid bL
  clear oL mL bL hdx M1
  go_wp2_with fail
  refine (newQ_any _).mono ?_
  rintro e w3 ⟨g, rfl, hq, m3, hg3⟩
  have M3 := Lib.hid (M2.out.trans m3 (by simp))
  have hst := Lib.hid (St2.start (n0 := wb.heap.size) (g1 := g) (g2 := w3.heap.size) (P := fun k => blk L = some k) hq ((Mod.refl _ _).alloc (.cells #[.slice none 0 0] 32)) (Cells.new w3 _ _) (by have := M2.out.size; omega) (Nat.le_refl _)
    (fun h => by have := OL.out.lt h; omega) (fun h => by have := m3.size; have := OL.out.lt h; omega) (fun k h => by have := m3.size; have := OL.out.lt h; simp; omega))
  have OL4 := Lib.hid ((OL.out.mod m3 (by simp)).alloc (.cells #[.slice none 0 0] 32))
  have BW4 := Lib.hid (Mod.mono (G := fun k => wb.heap.size ≤ k) (M3.out.alloc (.cells #[.slice none 0 0] 32)) (by simp))
  have hcl := OL.out.2.1
  have hcm := OL.out.2.2.1
  unfold maxLen at hcm
  have hle30 : l.length ≤ 30 := by omega
  clear hq m3 hg3 M2 M3 OA OL
  go_wp2_with fail
  go_loopg [9] 30 (fun m v9 wr => ∃ (i : Nat) (T : List To), i ≤ 30 ∧ i ≤ ops.length ∧ v9 = .int .i64 i ∧ Hid (St2 wb.heap.size (fun k => blk L = some k) g w3.heap.size T T wr) ∧ Hid (Own wr 7 L l.length cl (ecells l)) ∧ Hid (Mod (fun k => wb.heap.size ≤ k) wb wr) ∧ Hid (Of l T) ∧ m + i = 30)
  case atStart => exact ⟨0, [], by omega, by omega, rfl, hst, OL4, BW4, Lib.hid (Of.nil l), by omega⟩
  case round =>
    obtain ⟨i, T, hi, hio, rfl, HS, HO, HM, HOf, hm⟩ := hrel
    have hTl := HOf.out.len
    obtain ⟨wo, rfl⟩ : ∃ wo : World, wo = wr := ⟨_, rfl⟩
    by_cases hin : i < ops.length ∧ i < 30
    · obtain ⟨h1, h2⟩ := hin
      have BW := Lib.hid (Mod.below HB.out HM.out (fun k hk => Nat.le_trans HB.out.size hk))
      obtain ⟨b, o, ha1, hb1, q0, q1, q2⟩ := (HOP.out.below BW.out).op h1
      obtain ⟨k0, k1, k2⟩ := HOK.out ops[i] (List.getElem_mem h1)
      have HA1 := Lib.hid ha1
      have i0 : (0 : Int) ≤ (i : Int) := by omega
      have i1 : (i : Int) < (ops.length : Int) := by omega
      obtain ⟨k00, k01⟩ := k0
      generalize ops[i] = x at *
      rw [ha1]
      clear ha1
      go_upto_region 12 with (fail)
      go_upto_if 38 with (fail)
      go_cut [11] (fun s11 wx => ∃ n : Nat, n ≤ l.length ∧ s11 = .int .i64 n ∧ wo.alloc (.cells #[.int .i64 x.ln, .int .i64 x.cm, .int .i64 x.nw] 34) = wx)
      case first =>
        by_cases hz : l.length = 0
        · have hz1 : decide (0 < l.length) = false := decide_eq_false (by omega)
          go_wp2_with fail
          go_meet
          exact ⟨0, by omega, rfl, rfl⟩
        · have hz1 : decide (0 < l.length) = true := decide_eq_true (by omega)
          have hz2 : 0 < l.length := by omega
          have HPick := Lib.hid (pick_n x.ln l.length (by omega))
          go_wp2_with fail
          go_meet
          obtain ⟨n, hn1, hn2⟩ := HPick.out
          exact ⟨n, hn1, by rw [hn2], rfl⟩
      case rest =>
        obtain ⟨n, hnl, rfl, rfl⟩ := hcut
        have hnt : (l.take n).length = n := by simp; omega
        have HOC := Lib.hid ((Cells.new wo #[.int .i64 x.ln, .int .i64 x.cm, .int .i64 x.nw] 34).drew)
        have hokt : ∀ e ∈ l.take n, OkE e := fun e he => log_okE hlo.out e (List.mem_of_mem_take he)
        have MA := Lib.hid (((Mod.refl (fun _ => False) wo).alloc (.cells #[.int .i64 x.ln, .int .i64 x.cm, .int .i64 x.nw] 34)).drew)
        have hst2 := HS.out.add MA.out (fun k => k = wo.heap.size) (fun k hk => by subst hk; exact ⟨Nat.le_refl _, HOC.out.2.2⟩)
        have HSl := Lib.hid ((Sl.of_own (HO.out.mod MA.out (by simp))).takeE hnl)
        have hg1 := hst2.go1 L (l.take n) cl x.cm x.nw HSl.out (fun k hk => .inl hk) (by omega) (by omega) HO.out.2.2.1 (by omega) hokt k1.1 k1.2 k2.1 k2.2
        have HOf2 := Lib.hid (HOf.out.go (m := l.take n) (fun e h => List.mem_of_mem_take h) x.cm x.nw)
        rw [hnt] at hg1
        have HG1 := Lib.hid hg1
        have HNT := Lib.hid hnt
        have HOKT := Lib.hid hokt
        have y1 : (wo.alloc (.cells #[.int .i64 x.ln, .int .i64 x.cm, .int .i64 x.nw] 34)).cell? ⟨wo.heap.size, 1, none⟩ = some (.int .i64 x.cm) := HOC.out.1 1 _ rfl
        have y2 : (wo.alloc (.cells #[.int .i64 x.ln, .int .i64 x.cm, .int .i64 x.nw] 34)).cell? ⟨wo.heap.size, 2, none⟩ = some (.int .i64 x.nw) := HOC.out.1 2 _ rfl
        have n0 : (0 : Int) ≤ (n : Int) := by omega
        have n1 : (n : Int) ≤ (cl : Int) := by omega
        clear hg1 hnt hokt hst2
        go_wp2_with fail
        refine wp_region_held_drew (S := (fun w' => w'.cell? ⟨wo.heap.size, 1, none⟩ = some (.int .i64 x.cm) ∧ w'.cell? ⟨wo.heap.size, 2, none⟩ = some (.int .i64 x.nw))) (by kernel_rfl) (by go_keep) (fun hHeld => ?_)
        refine wpAnyH_take (i := 0) (oi := _) (v := ?_) (by simp only [List.getElem?_toArray, List.getElem?_cons_succ, List.getElem?_cons_zero]; rfl) (by kernel_rfl) (by kernel_rfl) (by kernel_rfl) (by intro _ _ _ h; exact h) (Or.inl ⟨by rfl, ?_⟩) (by assumption) ?_
        rotate_left 1
        · (intro w hSw; (try dsimp only at hSw); go_simp; try with_reducible rfl)
        try simp only [Act.put, List.setIfInBounds_toArray, List.set_cons_zero, List.set_cons_succ]
        refine wpAnyH_take (i := 1) (oi := _) (v := ?_) (by simp only [List.getElem?_toArray, List.getElem?_cons_succ, List.getElem?_cons_zero]; rfl) (by kernel_rfl) (by kernel_rfl) (by kernel_rfl) (by intro _ _ _ h; exact h) (Or.inl ⟨by rfl, ?_⟩) (by assumption) ?_
        rotate_left 1
        · (intro w hSw; (try dsimp only at hSw); go_simp; try with_reducible rfl)
        try simp only [Act.put, List.setIfInBounds_toArray, List.set_cons_zero, List.set_cons_succ]
        refine wpAnyH_take (i := 2) (oi := _) (v := ?_) (by simp only [List.getElem?_toArray, List.getElem?_cons_succ, List.getElem?_cons_zero]; rfl) (by kernel_rfl) (by kernel_rfl) (by kernel_rfl) (by intro _ _ _ h; exact h) (Or.inl ⟨by rfl, ?_⟩) (by assumption) ?_
        rotate_left 1
        · (intro w hSw; (try dsimp only at hSw); go_simp; try with_reducible rfl)
        try simp only [Act.put, List.setIfInBounds_toArray, List.set_cons_zero, List.set_cons_succ]
        refine wpAnyH_take (i := 3) (oi := _) (v := ?_) (by simp only [List.getElem?_toArray, List.getElem?_cons_succ, List.getElem?_cons_zero]; rfl) (by kernel_rfl) (by kernel_rfl) (by kernel_rfl) (by intro _ _ _ h; exact h) (Or.inl ⟨by rfl, ?_⟩) (by assumption) ?_
        rotate_left 1
        · (intro w hSw; (try dsimp only at hSw); go_simp; try with_reducible rfl)
        try simp only [Act.put, List.setIfInBounds_toArray, List.set_cons_zero, List.set_cons_succ]
        refine wpAnyH_take (i := 4) (oi := _) (v := ?_) (by simp only [List.getElem?_toArray, List.getElem?_cons_succ, List.getElem?_cons_zero]; rfl) (by kernel_rfl) (by kernel_rfl) (by kernel_rfl) (by intro _ _ _ h; exact h) (Or.inl ⟨by rfl, ?_⟩) (by assumption) ?_
        rotate_left 1
        · (intro w hSw; (try dsimp only at hSw); go_simp; try with_reducible rfl)
        try simp only [Act.put, List.setIfInBounds_toArray, List.set_cons_zero, List.set_cons_succ]
        refine wpAnyH_take (i := 5) (oi := _) (v := ?_) (by simp only [List.getElem?_toArray, List.getElem?_cons_succ, List.getElem?_cons_zero]; rfl) (by kernel_rfl) (by kernel_rfl) (by kernel_rfl) (by intro _ _ _ h; exact h) (Or.inl ⟨by rfl, ?_⟩) (by assumption) ?_
        rotate_left 1
        · (intro w hSw; (try dsimp only at hSw); go_simp; try with_reducible rfl)
        try simp only [Act.put, List.setIfInBounds_toArray, List.set_cons_zero, List.set_cons_succ]
        refine wpAnyH_take (i := 6) (oi := _) (v := ?_) (by simp only [List.getElem?_toArray, List.getElem?_cons_succ, List.getElem?_cons_zero]; rfl) (by kernel_rfl) (by kernel_rfl) (by kernel_rfl) (by intro _ _ _ h; exact h) (Or.inl ⟨by rfl, ?_⟩) (by assumption) ?_
        rotate_left 1
        · (intro w hSw; (try dsimp only at hSw); go_simp; try with_reducible rfl)
        try simp only [Act.put, List.setIfInBounds_toArray, List.set_cons_zero, List.set_cons_succ]
        refine wpAnyH_take (i := 7) (oi := _) (v := ?_) (by simp only [List.getElem?_toArray, List.getElem?_cons_succ, List.getElem?_cons_zero]; rfl) (by kernel_rfl) (by kernel_rfl) (by kernel_rfl) (by intro _ _ _ h; exact h) (Or.inl ⟨by rfl, ?_⟩) (by assumption) ?_
        rotate_left 1
        · (intro w hSw; (try dsimp only at hSw); go_simp; try with_reducible rfl)
        try simp only [Act.put, List.setIfInBounds_toArray, List.set_cons_zero, List.set_cons_succ]
        refine wpAnyH_take (i := 9) (oi := _) (v := ?_) (by simp only [List.getElem?_toArray, List.getElem?_cons_succ, List.getElem?_cons_zero]; rfl) (by kernel_rfl) (by kernel_rfl) (by kernel_rfl) (by intro _ _ _ h; exact h) (Or.inl ⟨by rfl, ?_⟩) (by assumption) ?_
        rotate_left 1
        · (intro w hSw; (try dsimp only at hSw); go_simp; try with_reducible rfl)
        try simp only [Act.put, List.setIfInBounds_toArray, List.set_cons_zero, List.set_cons_succ]
        refine wpAnyH_take (i := 10) (oi := _) (v := ?_) (by simp only [List.getElem?_toArray, List.getElem?_cons_succ, List.getElem?_cons_zero]; rfl) (by kernel_rfl) (by kernel_rfl) (by kernel_rfl) (by intro _ _ _ h; exact h) (Or.inl ⟨by rfl, ?_⟩) (by assumption) ?_
        rotate_left 1
        · (intro w hSw; (try dsimp only at hSw); go_simp; try with_reducible rfl)
        try simp only [Act.put, List.setIfInBounds_toArray, List.set_cons_zero, List.set_cons_succ]
        refine wpAnyH_take (i := 11) (oi := _) (v := ?_) (by simp only [List.getElem?_toArray, List.getElem?_cons_succ, List.getElem?_cons_zero]; rfl) (by kernel_rfl) (by kernel_rfl) (by kernel_rfl) (by intro _ _ _ h; exact h) (Or.inl ⟨by rfl, ?_⟩) (by assumption) ?_
        rotate_left 1
        · (intro w hSw; (try dsimp only at hSw); go_simp; try with_reducible rfl)
        try simp only [Act.put, List.setIfInBounds_toArray, List.set_cons_zero, List.set_cons_succ]
        refine wpAnyH_take (i := 12) (oi := _) (v := ?_) (by simp only [List.getElem?_toArray, List.getElem?_cons_succ, List.getElem?_cons_zero]; rfl) (by kernel_rfl) (by kernel_rfl) (by kernel_rfl) (by intro _ _ _ h; exact h) (Or.inl ⟨by rfl, ?_⟩) (by assumption) ?_
        rotate_left 1
        · (intro w hSw; (try dsimp only at hSw); go_simp; try with_reducible rfl)
        try simp only [Act.put, List.setIfInBounds_toArray, List.set_cons_zero, List.set_cons_succ]
        refine wpAnyH_take (i := 13) (oi := _) (v := ?_) (by simp only [List.getElem?_toArray, List.getElem?_cons_succ, List.getElem?_cons_zero]; rfl) (by kernel_rfl) (by kernel_rfl) (by kernel_rfl) (by intro _ _ _ h; exact h) (Or.inl ⟨by rfl, ?_⟩) (by assumption) ?_
        rotate_left 1
        · (intro w hSw; (try dsimp only at hSw); go_simp; try with_reducible rfl)
        try simp only [Act.put, List.setIfInBounds_toArray, List.set_cons_zero, List.set_cons_succ]
        refine wpAnyH_take (i := 14) (oi := _) (v := ?_) (by simp only [List.getElem?_toArray, List.getElem?_cons_succ, List.getElem?_cons_zero]; rfl) (by kernel_rfl) (by kernel_rfl) (by kernel_rfl) (by intro _ _ _ h; exact h) (Or.inl ⟨by rfl, ?_⟩) (by assumption) ?_
        rotate_left 1
        · (intro w hSw; (try dsimp only at hSw); go_simp; try with_reducible rfl)
        try simp only [Act.put, List.setIfInBounds_toArray, List.set_cons_zero, List.set_cons_succ]
        refine wpAnyH_take (i := 15) (oi := _) (v := ?_) (by simp only [List.getElem?_toArray, List.getElem?_cons_succ, List.getElem?_cons_zero]; rfl) (by kernel_rfl) (by kernel_rfl) (by kernel_rfl) (by intro _ _ _ h; exact h) (Or.inl ⟨by rfl, ?_⟩) (by assumption) ?_
        rotate_left 1
        · (intro w hSw; (try dsimp only at hSw); go_simp; try with_reducible rfl)
        try simp only [Act.put, List.setIfInBounds_toArray, List.set_cons_zero, List.set_cons_succ]
        refine wpAnyH_take (i := 16) (oi := _) (v := ?_) (by simp only [List.getElem?_toArray, List.getElem?_cons_succ, List.getElem?_cons_zero]; rfl) (by kernel_rfl) (by kernel_rfl) (by kernel_rfl) (by intro _ _ _ h; exact h) (Or.inl ⟨by rfl, ?_⟩) (by assumption) ?_
        rotate_left 1
        · (intro w hSw; (try dsimp only at hSw); go_simp; try with_reducible rfl)
        try simp only [Act.put, List.setIfInBounds_toArray, List.set_cons_zero, List.set_cons_succ]
        refine wpAnyH_ready (rs := [8]) (by kernel_rfl) (by simp) ?_
        refine AllReadyH.cons (by simp only [List.getElem?_toArray, List.getElem?_cons_succ, List.getElem?_cons_zero]; rfl) (fun K hK => ?_) AllReadyH.nil
        go_simp
        (go_at_call 17; (with_reducible refine HG1.out.mono ?_); rintro xe z1 ⟨A1, c1, rfl, o1, s1, m1⟩; have O1 := Lib.hid o1; have S1 := Lib.hid s1; have N1 := Lib.hid m1; have oc := HOC.out.mod m1 (fun h => h.2 (.inr rfl)); have OC1 := Lib.hid oc; have y1 := oc.1 1 _ rfl; have y2 := oc.1 2 _ rfl; have HG2 := Lib.hid (S1.out.go2 L (l.take n) cl x.cm x.nw ((Sl.of_own ((HO.out.mod MA.out (by simp)).mod N1.out (fun k hk h => h.2 (.inl hk)))).takeE hnl) (fun k hk => .inl (.inl hk)) (by rw [HNT.out]; omega) (by rw [HNT.out]; omega) HO.out.2.2.1 (by omega) HOKT.out k1.1 k1.2 k2.1 k2.2); rw [HNT.out] at HG2; clear o1 s1 m1 oc)
        refine hK.out _ _ (by go_keep) (fun hHeld => ?_)
        clear hK K
        try simp only [Act.put, List.setIfInBounds_toArray, List.set_cons_zero, List.set_cons_succ]
        refine wpAnyH_ready (rs := [17]) (by kernel_rfl) (by simp) ?_
        refine AllReadyH.cons (by simp only [List.getElem?_toArray, List.getElem?_cons_succ, List.getElem?_cons_zero]; rfl) (fun K hK => ?_) AllReadyH.nil
        go_simp
        (go_at_call 18; (with_reducible refine HG2.out.mono ?_); rintro xe z2 ⟨A2, c2, rfl, o2, s2, m2⟩; have O2 := Lib.hid o2; have S2 := Lib.hid s2; have N2 := Lib.hid m2; have oc := OC1.out.mod m2 (fun h => h.2 (.inl (.inr rfl))); have y1 := oc.1 1 _ rfl; have y2 := oc.1 2 _ rfl; have HE := Lib.hid (eqT_same A1 A2 (goR T (l.take n) x.cm x.nw) c1 c2 z2 (Sl.of_own (O1.out.mod m2 (fun k hk h => h.2 (.inr hk)))) (Sl.of_own o2)); clear o2 s2 m2 oc)
        refine hK.out _ _ (by go_keep) (fun hHeld => ?_)
        clear hK K
        try simp only [Act.put, List.setIfInBounds_toArray, List.set_cons_zero, List.set_cons_succ]
        refine wpAnyH_ready (rs := [18]) (by kernel_rfl) (by simp) ?_
        refine AllReadyH.cons (by simp only [List.getElem?_toArray, List.getElem?_cons_succ, List.getElem?_cons_zero]; rfl) (fun K hK => ?_) AllReadyH.nil
        go_simp
        (go_at_call 16; (with_reducible refine HE.out.mono ?_); rintro xe z3 ⟨rfl, m3⟩; have y1 := m3.cell y1 (by simp); have y2 := m3.cell y2 (by simp); have N3 := Lib.hid m3; clear m3)
        refine hK.out _ _ (by go_keep) (fun hHeld => ?_)
        clear hK K
        try simp only [Act.put, List.setIfInBounds_toArray, List.set_cons_zero, List.set_cons_succ]
        refine wpAnyH_take (i := 19) (oi := _) (v := ?_) (by simp only [List.getElem?_toArray, List.getElem?_cons_succ, List.getElem?_cons_zero]; rfl) (by kernel_rfl) (by kernel_rfl) (by kernel_rfl) (by intro _ _ _ h; exact h) (Or.inl ⟨by rfl, ?_⟩) (by assumption) ?_
        rotate_left 1
        · (intro w hSw; (try dsimp only at hSw); go_simp; try with_reducible rfl)
        try simp only [Act.put, List.setIfInBounds_toArray, List.set_cons_zero, List.set_cons_succ]
        refine wpAnyH_done (by kernel_rfl) ?_ _
        have HS9 := Lib.hid ((S2.out.less (Q := fun k => blk L = some k) fun k hk => .inl (.inl (.inl hk))).mod N3.out)
        have HO9 := Lib.hid ((((HO.out.mod MA.out (by simp)).mod N1.out (fun k hk h => h.2 (.inl hk))).mod N2.out (fun k hk h => h.2 (.inl (.inl hk)))).mod N3.out (by simp))
        have HM9 := Lib.hid ((((HM.out.trans MA.out (by simp)).trans N1.out (fun k h => .inl h.1)).trans N2.out (fun k h => .inl h.1)).trans N3.out (by simp))
        clear y1 y2
        rw [← HA1.out]
        go_wp2_with fail
        go_roundg (30 - (i + 1))
        case measure => omega
        case rel => exact ⟨i + 1, _, by omega, by omega, by go_num, HS9, HO9, HM9, HOf2, by omega⟩
    · have hend : i < ops.length ∧ 30 ≤ i ∨ ops.length ≤ i := by omega
      clear hin
      rcases hend with ⟨h1, h2⟩ | h1
      all_goals
        go_wp2_with fail
        go_loopg [12] l.length (fun m v12 wr => ∃ k : Nat, k ≤ l.length ∧ v12 = .int .i64 k ∧ Hid (Mod (fun _ => False) wo wr) ∧ m + k = l.length)
        case atStart => exact ⟨0, by omega, rfl, Lib.hid (Mod.refl _ _), by omega⟩
        case round =>
          obtain ⟨k, hk, rfl, HK, hmk⟩ := hrel
          by_cases hlt : k < l.length
          · have hc1 := fun W hW => ((HS.out.mod HK.out).mod (w' := W) hW).has1 l[k]
            have hc2 := fun W hW => ((HS.out.mod HK.out).mod (w' := W) hW).has2 l[k]
            obtain ⟨gl, ol, hL, hgl2, q0, q1, q2, q3, q4, q5, q6⟩ := (Sl.of_own (HO.out.mod HK.out (by simp))).ent hlt
            unfold En.val at hc1 hc2
            have i0 : (0 : Int) ≤ (k : Int) := by omega
            have i1 : (k : Int) < (l.length : Int) := by omega
            have HLA := Lib.hid hL
            generalize l[k] = y at *
            generalize hasB T y = v at *
            have hvv : (v != v) = false := by simp
            have HC1 := Lib.hid hc1
            have HC2 := Lib.hid hc2
            have MD := Lib.hid ((Mod.refl (fun _ => False) wr).drew)
            clear hc1 hc2
            rw [hL]
            clear hL
            go_wp2_with fail
            refine wp_region_held_drew (S := (fun w' => w'.cell? ⟨gl, ol + k * 7, none⟩ = some (.int .i64 y.fr) ∧ w'.cell? ⟨gl, ol + k * 7 + 1, none⟩ = some (.int .i64 y.bo) ∧ w'.cell? ⟨gl, ol + k * 7 + 2, none⟩ = some (.int .i64 y.se) ∧ w'.cell? ⟨gl, ol + k * 7 + 3, none⟩ = some (.int .i64 y.od) ∧ w'.cell? ⟨gl, ol + k * 7 + 4, none⟩ = some (.int .i64 y.lv) ∧ w'.cell? ⟨gl, ol + k * 7 + 5, none⟩ = some (.int .i64 y.st) ∧ w'.cell? ⟨gl, ol + k * 7 + 6, none⟩ = some (.string y.da))) (by kernel_rfl) (by go_keep) (fun hHeld => ?_)
            refine wpAnyH_take (i := 0) (oi := _) (v := ?_) (by simp only [List.getElem?_toArray, List.getElem?_cons_succ, List.getElem?_cons_zero]; rfl) (by kernel_rfl) (by kernel_rfl) (by kernel_rfl) (by intro _ _ _ h; exact h) (Or.inl ⟨by rfl, ?_⟩) (by assumption) ?_
            rotate_left 1
            · (intro w hSw; (try dsimp only at hSw); go_simp; try with_reducible rfl)
            try simp only [Act.put, List.setIfInBounds_toArray, List.set_cons_zero, List.set_cons_succ]
            refine wpAnyH_take (i := 1) (oi := _) (v := ?_) (by simp only [List.getElem?_toArray, List.getElem?_cons_succ, List.getElem?_cons_zero]; rfl) (by kernel_rfl) (by kernel_rfl) (by kernel_rfl) (by intro _ _ _ h; exact h) (Or.inl ⟨by rfl, ?_⟩) (by assumption) ?_
            rotate_left 1
            · (intro w hSw; (try dsimp only at hSw); go_simp; try with_reducible rfl)
            try simp only [Act.put, List.setIfInBounds_toArray, List.set_cons_zero, List.set_cons_succ]
            refine wpAnyH_take (i := 2) (oi := _) (v := ?_) (by simp only [List.getElem?_toArray, List.getElem?_cons_succ, List.getElem?_cons_zero]; rfl) (by kernel_rfl) (by kernel_rfl) (by kernel_rfl) (by intro _ _ _ h; exact h) (Or.inl ⟨by rfl, ?_⟩) (by assumption) ?_
            rotate_left 1
            · (intro w hSw; (try dsimp only at hSw); go_simp; try with_reducible rfl)
            try simp only [Act.put, List.setIfInBounds_toArray, List.set_cons_zero, List.set_cons_succ]
            refine wpAnyH_take (i := 3) (oi := _) (v := ?_) (by simp only [List.getElem?_toArray, List.getElem?_cons_succ, List.getElem?_cons_zero]; rfl) (by kernel_rfl) (by kernel_rfl) (by kernel_rfl) (by intro _ _ _ h; exact h) (Or.inl ⟨by rfl, ?_⟩) (by assumption) ?_
            rotate_left 1
            · (intro w hSw; (try dsimp only at hSw); go_simp; try with_reducible rfl)
            try simp only [Act.put, List.setIfInBounds_toArray, List.set_cons_zero, List.set_cons_succ]
            refine wpAnyH_take (i := 4) (oi := _) (v := ?_) (by simp only [List.getElem?_toArray, List.getElem?_cons_succ, List.getElem?_cons_zero]; rfl) (by kernel_rfl) (by kernel_rfl) (by kernel_rfl) (by intro _ _ _ h; exact h) (Or.inl ⟨by rfl, ?_⟩) (by assumption) ?_
            rotate_left 1
            · (intro w hSw; (try dsimp only at hSw); go_simp; try with_reducible rfl)
            try simp only [Act.put, List.setIfInBounds_toArray, List.set_cons_zero, List.set_cons_succ]
            refine wpAnyH_take (i := 6) (oi := _) (v := ?_) (by simp only [List.getElem?_toArray, List.getElem?_cons_succ, List.getElem?_cons_zero]; rfl) (by kernel_rfl) (by kernel_rfl) (by kernel_rfl) (by intro _ _ _ h; exact h) (Or.inl ⟨by rfl, ?_⟩) (by assumption) ?_
            rotate_left 1
            · (intro w hSw; (try dsimp only at hSw); go_simp; try with_reducible rfl)
            try simp only [Act.put, List.setIfInBounds_toArray, List.set_cons_zero, List.set_cons_succ]
            refine wpAnyH_take (i := 7) (oi := _) (v := ?_) (by simp only [List.getElem?_toArray, List.getElem?_cons_succ, List.getElem?_cons_zero]; rfl) (by kernel_rfl) (by kernel_rfl) (by kernel_rfl) (by intro _ _ _ h; exact h) (Or.inl ⟨by rfl, ?_⟩) (by assumption) ?_
            rotate_left 1
            · (intro w hSw; (try dsimp only at hSw); go_simp; try with_reducible rfl)
            try simp only [Act.put, List.setIfInBounds_toArray, List.set_cons_zero, List.set_cons_succ]
            refine wpAnyH_take (i := 8) (oi := _) (v := ?_) (by simp only [List.getElem?_toArray, List.getElem?_cons_succ, List.getElem?_cons_zero]; rfl) (by kernel_rfl) (by kernel_rfl) (by kernel_rfl) (by intro _ _ _ h; exact h) (Or.inl ⟨by rfl, ?_⟩) (by assumption) ?_
            rotate_left 1
            · (intro w hSw; (try dsimp only at hSw); go_simp; try with_reducible rfl)
            try simp only [Act.put, List.setIfInBounds_toArray, List.set_cons_zero, List.set_cons_succ]
            refine wpAnyH_take (i := 9) (oi := _) (v := ?_) (by simp only [List.getElem?_toArray, List.getElem?_cons_succ, List.getElem?_cons_zero]; rfl) (by kernel_rfl) (by kernel_rfl) (by kernel_rfl) (by intro _ _ _ h; exact h) (Or.inl ⟨by rfl, ?_⟩) (by assumption) ?_
            rotate_left 1
            · (intro w hSw; (try dsimp only at hSw); go_simp; try with_reducible rfl)
            try simp only [Act.put, List.setIfInBounds_toArray, List.set_cons_zero, List.set_cons_succ]
            refine wpAnyH_take (i := 10) (oi := _) (v := ?_) (by simp only [List.getElem?_toArray, List.getElem?_cons_succ, List.getElem?_cons_zero]; rfl) (by kernel_rfl) (by kernel_rfl) (by kernel_rfl) (by intro _ _ _ h; exact h) (Or.inl ⟨by rfl, ?_⟩) (by assumption) ?_
            rotate_left 1
            · (intro w hSw; (try dsimp only at hSw); go_simp; try with_reducible rfl)
            try simp only [Act.put, List.setIfInBounds_toArray, List.set_cons_zero, List.set_cons_succ]
            refine wpAnyH_ready (rs := [5]) (by kernel_rfl) (by simp) ?_
            refine AllReadyH.cons (by simp only [List.getElem?_toArray, List.getElem?_cons_succ, List.getElem?_cons_zero]; rfl) (fun K hK => ?_) AllReadyH.nil
            go_simp
            (go_at_call 19; (with_reducible refine (HC1.out _ MD.out).mono ?_); rintro xe z1 ⟨rfl, m1⟩; have MD := Lib.hid (MD.out.trans m1 (by simp)); have y0 := MD.out.cell q0 (by simp); have y1 := MD.out.cell q1 (by simp); have y2 := MD.out.cell q2 (by simp); have y3 := MD.out.cell q3 (by simp); have y4 := MD.out.cell q4 (by simp); have y5 := MD.out.cell q5 (by simp); have y6 := MD.out.cell q6 (by simp); clear m1)
            refine hK.out _ _ (by go_keep) (fun hHeld => ?_)
            clear hK K
            try simp only [Act.put, List.setIfInBounds_toArray, List.set_cons_zero, List.set_cons_succ]
            refine wpAnyH_ready (rs := [11]) (by kernel_rfl) (by simp) ?_
            refine AllReadyH.cons (by simp only [List.getElem?_toArray, List.getElem?_cons_succ, List.getElem?_cons_zero]; rfl) (fun K hK => ?_) AllReadyH.nil
            go_simp
            (go_at_call 20; (with_reducible refine (HC2.out _ MD.out).mono ?_); rintro xe z1 ⟨rfl, m1⟩; have MD := Lib.hid (MD.out.trans m1 (by simp)); have y0 := MD.out.cell q0 (by simp); have y1 := MD.out.cell q1 (by simp); have y2 := MD.out.cell q2 (by simp); have y3 := MD.out.cell q3 (by simp); have y4 := MD.out.cell q4 (by simp); have y5 := MD.out.cell q5 (by simp); have y6 := MD.out.cell q6 (by simp); clear m1)
            refine hK.out _ _ (by go_keep) (fun hHeld => ?_)
            clear hK K
            try simp only [Act.put, List.setIfInBounds_toArray, List.set_cons_zero, List.set_cons_succ]
            refine wpAnyH_take (i := 12) (oi := _) (v := ?_) (by simp only [List.getElem?_toArray, List.getElem?_cons_succ, List.getElem?_cons_zero]; rfl) (by kernel_rfl) (by kernel_rfl) (by kernel_rfl) (by intro _ _ _ h; exact h) (Or.inl ⟨by rfl, ?_⟩) (by assumption) ?_
            rotate_left 1
            · (intro w hSw; (try dsimp only at hSw); go_simp; try with_reducible rfl)
            try simp only [Act.put, List.setIfInBounds_toArray, List.set_cons_zero, List.set_cons_succ]
            refine wpAnyH_done (by kernel_rfl) ?_ _
            have HK2 := Lib.hid (HK.out.trans MD.out (by simp))
            clear y0 y1 y2 y3 y4 y5 y6 hvv
            rw [← HLA.out]
            go_wp2_with fail
            go_roundg (l.length - (k + 1))
            case measure => omega
            case rel => exact ⟨k + 1, by omega, by go_num, HK2, by omega⟩
          · obtain rfl : k = l.length := by omega
            have hSK := (HS.out.mod HK.out)
            obtain ⟨A2, c2, f0, hO2, hg2⟩ := hSK.field
            have HT := Lib.hid (hSK.mod ((Mod.refl _ _).drew) |>.told (by omega))
            have HO2 := Lib.hid hO2
            have MD := Lib.hid ((Mod.refl (fun _ => False) wr).drew)
            clear hSK hO2
            go_wp2_with fail
            refine wp_region_held_drew (S := (fun w' => w'.cell? ⟨w3.heap.size, 0, none⟩ = some (.slice A2 T.length c2))) (by kernel_rfl) (by go_keep) (fun hHeld => ?_)
            refine wpAnyH_take (i := 0) (oi := _) (v := ?_) (by simp only [List.getElem?_toArray, List.getElem?_cons_succ, List.getElem?_cons_zero]; rfl) (by kernel_rfl) (by kernel_rfl) (by kernel_rfl) (by intro _ _ _ h; exact h) (Or.inl ⟨by rfl, ?_⟩) (by assumption) ?_
            rotate_left 1
            · (intro w hSw; (try dsimp only at hSw); go_simp; try with_reducible rfl)
            try simp only [Act.put, List.setIfInBounds_toArray, List.set_cons_zero, List.set_cons_succ]
            refine wpAnyH_take (i := 2) (oi := _) (v := ?_) (by simp only [List.getElem?_toArray, List.getElem?_cons_succ, List.getElem?_cons_zero]; rfl) (by kernel_rfl) (by kernel_rfl) (by kernel_rfl) (by intro _ _ _ h; exact h) (Or.inl ⟨by rfl, ?_⟩) (by assumption) ?_
            rotate_left 1
            · (intro w hSw; (try dsimp only at hSw); go_simp; try with_reducible rfl)
            try simp only [Act.put, List.setIfInBounds_toArray, List.set_cons_zero, List.set_cons_succ]
            refine wpAnyH_take (i := 3) (oi := _) (v := ?_) (by simp only [List.getElem?_toArray, List.getElem?_cons_succ, List.getElem?_cons_zero]; rfl) (by kernel_rfl) (by kernel_rfl) (by kernel_rfl) (by intro _ _ _ h; exact h) (Or.inl ⟨by rfl, ?_⟩) (by assumption) ?_
            rotate_left 1
            · (intro w hSw; (try dsimp only at hSw); go_simp; try with_reducible rfl)
            try simp only [Act.put, List.setIfInBounds_toArray, List.set_cons_zero, List.set_cons_succ]
            refine wpAnyH_take (i := 4) (oi := _) (v := ?_) (by simp only [List.getElem?_toArray, List.getElem?_cons_succ, List.getElem?_cons_zero]; rfl) (by kernel_rfl) (by kernel_rfl) (by kernel_rfl) (by intro _ _ _ h; exact h) (Or.inl ⟨by rfl, ?_⟩) (by assumption) ?_
            rotate_left 1
            · (intro w hSw; (try dsimp only at hSw); go_simp; try with_reducible rfl)
            try simp only [Act.put, List.setIfInBounds_toArray, List.set_cons_zero, List.set_cons_succ]
            refine wpAnyH_take (i := 5) (oi := _) (v := ?_) (by simp only [List.getElem?_toArray, List.getElem?_cons_succ, List.getElem?_cons_zero]; rfl) (by kernel_rfl) (by kernel_rfl) (by kernel_rfl) (by intro _ _ _ h; exact h) (Or.inl ⟨by rfl, ?_⟩) (by assumption) ?_
            rotate_left 1
            · (intro w hSw; (try dsimp only at hSw); go_simp; try with_reducible rfl)
            try simp only [Act.put, List.setIfInBounds_toArray, List.set_cons_zero, List.set_cons_succ]
            refine wpAnyH_ready (rs := [1]) (by kernel_rfl) (by simp) ?_
            refine AllReadyH.cons (by simp only [List.getElem?_toArray, List.getElem?_cons_succ, List.getElem?_cons_zero]; rfl) (fun K hK => ?_) AllReadyH.nil
            go_simp
            (go_at_call 21; (with_reducible refine HT.out.mono ?_); rintro xe z1 ⟨A5, c5, rfl, o5, m5, b5⟩; have MD := Lib.hid (MD.out.trans m5 (by simp)); have y0 := MD.out.cell f0 (by simp); have HE := Lib.hid (eqT_same A5 A2 T c5 c2 z1 (Sl.of_own o5) (Sl.of_own (HO2.out.mod MD.out (by simp)))); clear o5 m5 b5)
            refine hK.out _ _ (by go_keep) (fun hHeld => ?_)
            clear hK K
            try simp only [Act.put, List.setIfInBounds_toArray, List.set_cons_zero, List.set_cons_succ]
            refine wpAnyH_ready (rs := [6]) (by kernel_rfl) (by simp) ?_
            refine AllReadyH.cons (by simp only [List.getElem?_toArray, List.getElem?_cons_succ, List.getElem?_cons_zero]; rfl) (fun K hK => ?_) AllReadyH.nil
            go_simp
            (go_at_call 16; (with_reducible refine HE.out.mono ?_); rintro xe z3 ⟨rfl, m3⟩; have MD := Lib.hid (MD.out.trans m3 (by simp)); have y0 := MD.out.cell f0 (by simp); clear m3)
            refine hK.out _ _ (by go_keep) (fun hHeld => ?_)
            clear hK K
            try simp only [Act.put, List.setIfInBounds_toArray, List.set_cons_zero, List.set_cons_succ]
            refine wpAnyH_take (i := 7) (oi := _) (v := ?_) (by simp only [List.getElem?_toArray, List.getElem?_cons_succ, List.getElem?_cons_zero]; rfl) (by kernel_rfl) (by kernel_rfl) (by kernel_rfl) (by intro _ _ _ h; exact h) (Or.inl ⟨by rfl, ?_⟩) (by assumption) ?_
            rotate_left 1
            · (intro w hSw; (try dsimp only at hSw); go_simp; try with_reducible rfl)
            try simp only [Act.put, List.setIfInBounds_toArray, List.set_cons_zero, List.set_cons_succ]
            refine wpAnyH_done (by kernel_rfl) ?_ _
            go_wp2_with fail
            go_ret
            exact ⟨rfl, Mod.below HB.out ((HM.out.trans HK.out (by simp)).trans MD.out (by simp)) (fun k hk => Nat.le_trans HB.out.size hk)⟩
/-! ### the row's step -/
theorem own : ownKnob Try.prog.godebug = none := by kernel_rfl
theorem laidOut : laidOutB Try.prog = true := by kernel_rfl
set_option maxRecDepth 100000 in
theorem lifted (os : Os) (started : os.Started) (H : Type) (enc : TypeId × Value → H) :
    ReturnsInHanded {} Try.checked os 3 .any (Rows.readyAllSpec.pre6 enc Try.prog Try.f3 Rows.readyAllRow.domain false) (Rows.readyAllSpec.post enc Try.prog Try.f3 false true false false) := by
  refine returnsInHanded_of_change (C := Try.checked) own started (by kernel_rfl) Try.func3
    (ChangeSpec.witness6 (enc := enc) (C := Try.checked) false ⟨#[], #[.slice none 0 0, .slice none 0 0], []⟩ 8 (by kernel_rfl) (by kernel_rfl) (by kernel_rfl) (by kernel_rfl)) ?_
  intro W base args ds gs before hval0 hW hcnd _
  have hval : ∀ (j : Nat) t v, Try.f3.params[j]? = some t → args[j]? = some v → Value.okWide Try.prog W .any base t v := hval0
  have hW' := hW
  obtain ⟨p, q, hA0, hV, rfl, hfz, hnd⟩ := hW
  have hA : DataW.TrodAll enc Try.prog W 0 (fun _ => true) true Try.f3.params.toList args.toList ds p := hA0
  rw [Try.params3] at hA hval
  obtain ⟨v0, vs0, d0, ds0, p0, q0, hargs, rfl, rfl, h0, r0⟩ := trodAll_cons hA
  obtain ⟨v1, vs1, d1, ds1, p1, q1, rfl, rfl, rfl, h1, r1⟩ := trodAll_cons r0
  obtain ⟨rfl, rfl, rfl⟩ := trodAll_nil r1
  obtain rfl : args = #[v0, v1] := by cases args; simp_all
  obtain ⟨rfl, rfl⟩ := trodVars_none hV
  have k0 := h0
  have lt0 : ∀ x ∈ p0, x.block < W.heap.size := by obtain ⟨m, hm⟩ := k0; exact DataW.trod_lt m _ _ _ hm
  have k1 := h1
  have lt1 : ∀ x ∈ p1, x.block < W.heap.size := by obtain ⟨m, hm⟩ := k1; exact DataW.trod_lt m _ _ _ hm
  obtain ⟨a0, len0, cap0, rfl⟩ := okWide_slice Try.underlying22 (hval 0 22 v0 rfl rfl)
  have w0 : EntryRow W a0 len0 cap0 := EntryRow.open_ h0
  obtain ⟨a1, len1, cap1, rfl⟩ := okWide_slice Try.underlying23 (hval 1 23 v1 rfl rfl)
  have w1 : OpRow W a1 len1 cap1 := OpRow.open_ h1
  clear hA0 hval0
  refine (walk a0 len0 cap0 a1 len1 cap1 W w0 w1).mono fun e W' ⟨he, bel⟩ => ?_
  subst he
  exact ⟨_, rfl, _, _, _, [], _, [], hW', trodAll_mk1 (shut_bool Try.underlying4 _), (trodAll_cons_mk (Below.trod laidOut (by kernel_rfl) (of_decide_eq_true (by kernel_rfl)) k0 bel lt0) (trodAll_cons_mk (Below.trod laidOut (by kernel_rfl) (of_decide_eq_true (by kernel_rfl)) k1 bel lt1) trodAll_mk0)), rfl, bel.frame _, fun h => by cases h⟩

theorem over : Rows.readyAllRow.holds Try.pinned (OpenSpec.ofChange Rows.readyAllSpec) :=
  OpenClaim.holds_of_wide 3 Try.f3 rfl rfl rfl rfl rfl rfl rfl ⟨rfl, rfl, rfl, rfl, rfl⟩ rfl rfl rfl rfl rfl (by kernel_rfl) Try.func3 (by kernel_rfl)
    (of_decide_eq_true (by kernel_rfl)) (by unfold Func.isWrapper; first | (rw [if_pos (by decide +kernel)]; kernel_rfl) | (rw [if_neg (by decide +kernel)]; exact ⟨rfl, rfl⟩))
    (fun os started H enc _ => lifted os started H enc)

theorem proved : Rows.ReadyAllSaid := over
#print axioms proved
end Go.Proofs.Ytcjnmiopklkifaa.readyAll
