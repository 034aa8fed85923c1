/- Proved: curfewlaw28.JudgeCut answers true for everything that was told and every number, and leaves what came in as it was. No condition. -/
import Derived.Test.YtbladkopbkkamaaJudgeE
import Derived.Test.YtbladkopbkkamaaRows3
import Derived.IntWalk
namespace Go.Proofs.Ytbladkopbkkamaa.judgeCut
open Go.ChangeShapes Go.WideShapes Go.ChangeAt Go.RowKit
set_option linter.unusedVariables false
set_option linter.unusedSimpArgs false
attribute [local go_sem ↓] Go.wp_at_zero Go.wp_at_succ

theorem eqAll_refl : ∀ l : List En, eqAll l l = true
  | [] => rfl
  | a :: l => by rw [eqAll, eqE_self, eqAll_refl l]; rfl
theorem firm_split (l : List To) (n : Nat) : firm l = firm (l.take n) ++ firm (l.drop n) := by
  have h : ∀ a b : List To, firm (a ++ b) = firm a ++ firm b := fun a b => by simp [firm]
  rw [← h, List.take_append_drop]
theorem pre_1 (l : List To) (n : Nat) : prefixB (firm (l.take n)) (firm l) = true := by
  rw [firm_split l n]
  unfold prefixB
  rw [List.take_append_of_le_length (Nat.le_refl _), List.take_length, eqAll_refl, show decide ((firm (l.take n)).length ≤ (firm (l.take n) ++ firm (l.drop n)).length) = true by simp]
  rfl
theorem pre_2 (l : List To) (n : Nat) : prefixB (firm l) (firm (l.take n)) = true := by
  have h := pre_1 l n
  unfold prefixB at h ⊢
  rw [Bool.or_comm]
  exact h
theorem once_take {l : List To} (h : OnceP l) (n : Nat) : OnceP (l.take n) := by
  intro i hi
  have h1 : i < l.length := by rw [List.length_take] at hi; omega
  have h2 : i < n := by rw [List.length_take] at hi; omega
  have h3 := h i h1
  rw [List.take_take, show min i n = i by omega]
  rw [List.getElem_take]
  exact h3
theorem OnceR.yes {w w' : World} {l : List To} {e : Ending} (h : OnceP l) (k : OnceR w l e w') : Only w (.bool true) e w' := by
  obtain ⟨v, rfl, hv, hm⟩ := k
  exact ⟨by rw [hv.2 h], hm⟩
theorem OnceR.no {w w' : World} {l : List To} {e : Ending} (h : ¬ OnceP l) (k : OnceR w l e w') : Only w (.bool false) e w' := by
  obtain ⟨v, rfl, hv, hm⟩ := k
  cases v
  · exact ⟨rfl, hm⟩
  · exact absurd (hv.1 rfl) h
theorem Own.tcut {w : World} {A : Option Addr} {n c : Nat} {l : List To} (h : Own w 8 A l.length c (tcells l)) (hn : n ≤ l.length) : Sl w 8 (if c = n then A else A.map (·.add (n * 8))) (l.drop n).length (tcells (l.drop n)) := by
  have h1 := Sl.of_own (h.cut hn)
  rw [show (tcells l).drop (n * 8) = tcells (l.drop n) from cl_drop To.cells_len l n] at h1
  rwa [List.length_drop]

set_option maxRecDepth 100000 in
set_option maxHeartbeats 6400000 in
theorem walk (a0 : Option Addr) (len0 cap0 : Nat) (a1 : Int) (w : World) (w0 : ToldRow w a0 len0 cap0) (w1 : (Lit.int .i64 a1).wf = true) :
    Calls Try.prog 5 #[.slice a0 len0 cap0, .int .i64 a1] w fun e w' => e = .returned (.bool true) ∧ Below w.heap.size w w' := by
  clear w1
  obtain ⟨l, rfl, hl, hdl⟩ := w0
  have HL := Lib.hid hl
  clear hl
  go_enter Try.func5, Try.ntmps5
  go_wp2_with fail
  refine (begun_any _).mono ?_
  rintro e wb ⟨rfl, hb⟩
  have HB := Lib.hid hb
  clear hb
  have h15 : ((l.take 15).map To.cut).length ≤ 15 := by simp; omega
  go_wp2_with fail
  refine (told_any a0 l cap0 wb (HL.out.below HB.out) hdl).mono ?_
  rintro e w1 ⟨A, c, rfl, oA, mA, bA⟩
  generalize (l.take 15).map To.cut = x at *
  have M1 := Lib.hid mA
  have OA := Lib.hid oA
  have hcx := oA.2.1
  have hdx := oA.2.2.1
  unfold maxLen at hdx
  clear oA mA bA hdl HL
  by_cases hbad : a1 < 0 ∨ (x.length : Int) < a1
  · by_cases h1 : a1 < 0
    · go_wp2_with fail
      go_ret
      exact ⟨rfl, Mod.below HB.out M1.out (by simp)⟩
    · have h2 : (x.length : Int) < a1 := by omega
      go_wp2_with fail
      go_ret
      exact ⟨rfl, Mod.below HB.out M1.out (by simp)⟩
  · obtain ⟨n, rfl⟩ : ∃ n : Nat, a1 = n := ⟨a1.toNat, by omega⟩
    have p0 : ¬ (n : Int) < 0 := by omega
    have p1 : ¬ (x.length : Int) < (n : Int) := by omega
    have hn : n ≤ x.length := by omega
    clear hbad
    go_wp2_with fail
    refine (lfirm_any A x c w1 (Sl.of_own OA.out) (by omega)).mono ?_
    rintro e w2 ⟨F, cf, rfl, oF, mF, bF⟩
    have M2 := Lib.hid (M1.out.trans mF (by simp))
    have O2 := Lib.hid (OA.out.mod mF (by simp))
    clear oF mF bF
    have et : (x.take n).length = n := by simp; omega
    have ed : (x.drop n).length = x.length - n := by simp
    have g1 : ∀ W, Mod (fun _ => False) w2 W → Calls Try.prog 17 #[.slice A n c, .slice A x.length c] W (Only W (.bool true)) := fun W hW => by
      have h := prefix_any A (x.take n) c A x c W ((Sl.of_own (O2.out.mod hW (by simp))).takeT hn) (Sl.of_own (O2.out.mod hW (by simp))) (by omega) (by omega)
      rwa [et, pre_1] at h
    have g2 : ∀ W, Mod (fun _ => False) w2 W → Calls Try.prog 17 #[.slice A x.length c, .slice A n c] W (Only W (.bool true)) := fun W hW => by
      have h := prefix_any A x c A (x.take n) c W (Sl.of_own (O2.out.mod hW (by simp))) ((Sl.of_own (O2.out.mod hW (by simp))).takeT hn) (by omega) (by omega)
      rwa [et, pre_2] at h
    have g3 : ∀ W, Mod (fun _ => False) w2 W → Calls Try.prog 16 #[.slice A n c] W (NewE W (firm (x.take n))) := fun W hW => by
      have h := jfirm_any A (x.take n) c W ((Sl.of_own (O2.out.mod hW (by simp))).takeT hn) (by omega)
      rwa [et] at h
    have g4 : ∀ W, Mod (fun _ => False) w2 W → Calls Try.prog 16 #[.slice (if c = n then A else A.map (·.add (n * 8))) (x.length - n) (c - n)] W (NewE W (firm (x.drop n))) := fun W hW => by
      have h := jfirm_any (if c = n then A else A.map (·.add (n * 8))) (x.drop n) (c - n) W (Own.tcut (O2.out.mod hW (by simp)) hn) (by omega)
      rwa [ed] at h
    have g5 : ∀ W, Mod (fun _ => False) w2 W → Calls Try.prog 18 #[.slice A x.length c] W (OnceR W x) := fun W hW =>
      once_any A x c W (Sl.of_own (O2.out.mod hW (by simp))) O2.out.2.1 O2.out.2.2.1
    have g6 : ∀ W, Mod (fun _ => False) w2 W → Calls Try.prog 18 #[.slice A n c] W (OnceR W (x.take n)) := fun W hW => by
      have h := once_any A (x.take n) c W ((Sl.of_own (O2.out.mod hW (by simp))).takeT hn) (by rw [et]; omega) O2.out.2.2.1
      rwa [et] at h
    have hsum : (firm (x.take n)).length + (firm (x.drop n)).length = (firm x).length := by rw [firm_split x n, List.length_append]
    have hb1 := firm_le (x.take n)
    have hb2 := firm_le (x.drop n)
    have ho1 := fun h : OnceP x => once_take h n
    have HO := Lib.hid ho1
    generalize firm (x.take n) = fp at *
    generalize firm (x.drop n) = fq at *
    generalize firm x = ff at *
    have hq1 : fp.length ≤ 15 := by omega
    have hq2 : fq.length ≤ 15 := by omega
    have i0 : (0 : Int) ≤ (n : Int) := by omega
    have i1 : (n : Int) ≤ (c : Int) := by omega
    have i2 : (n : Int) ≤ (x.length : Int) := by omega
    have i3 : (x.length : Int) ≤ (c : Int) := by omega
    have G1 := Lib.hid g1
    have G2 := Lib.hid g2
    have G3 := Lib.hid g3
    have G4 := Lib.hid g4
    have G5 := Lib.hid g5
    have G6 := Lib.hid g6
    have MM := Lib.hid ((Mod.refl (fun _ => False) w2).drew)
    have HS := Lib.hid (show IntKind.i64.wrap ((fp.length : Int) + (fq.length : Int)) = (ff.length : Int) by rw [IntWalk.i64_in _ (by omega)]; omega)
    clear g1 g2 g3 g4 g5 g6 hsum hb1 hb2 ho1 et ed
    have hcase : (∃ B : Option Addr, Hid (B = (if c = n then A else A.map (·.add (n * 8)))) ∧ ((A = none ∧ n = x.length ∧ c = x.length ∧ B = none) ∨ (∃ g o, A = some ⟨g, o, none⟩ ∧ n = x.length ∧ c = x.length ∧ B = some ⟨g, o, none⟩) ∨ (∃ g o, A = some ⟨g, o, none⟩ ∧ n < c ∧ ¬ c = n ∧ B = some ⟨g, o + n * 8, none⟩))) := by
      refine ⟨_, Lib.hid rfl, ?_⟩
      rcases O2.out.2.2.2 with ⟨rfl, hc0⟩ | ⟨g, o, rfl, _⟩
      · have : c = n := by omega
        exact .inl ⟨rfl, by omega, by omega, by rw [if_pos this]⟩
      · by_cases e : c = n
        · exact .inr (.inl ⟨g, o, rfl, by omega, by omega, by rw [if_pos e]⟩)
        · exact .inr (.inr ⟨g, o, rfl, by omega, e, by rw [if_neg e]; simp [Addr.add_lit]⟩)
    obtain ⟨B, hB, hc⟩ := hcase
    rw [← hB.out] at G4
    clear hB
    rcases hc with ⟨rfl, rfl, rfl, rfl⟩ | ⟨g, o, rfl, rfl, rfl, rfl⟩ | ⟨g, o, rfl, hlt, hcn, rfl⟩
    all_goals
      (try simp only [Nat.sub_self] at G4)
      by_cases hon : OnceP x
      · have G5' := Lib.hid fun W hW => (G5.out W hW).mono fun e w' h => OnceR.yes hon h
        have G6' := Lib.hid fun W hW => (G6.out W hW).mono fun e w' h => OnceR.yes (HO.out hon) h
        clear G5 G6 HO hon
        have hsw := HS.out
        clear HS
        go_wp2_with fail
        go_region_held3 (fun _ => True) (trivial)
          (first
            | (go_at_call 17; (with_reducible refine (G1.out _ MM.out).mono ?_); rintro e z ⟨rfl, mz⟩; have MM := Lib.hid (MM.out.trans mz (by simp)); clear mz)
            | (go_at_call 17; (with_reducible refine (G2.out _ MM.out).mono ?_); rintro e z ⟨rfl, mz⟩; have MM := Lib.hid (MM.out.trans mz (by simp)); clear mz)
            | (go_at_call 16; (with_reducible refine (G3.out _ MM.out).mono ?_); rintro e z ⟨A3, c3, rfl, _, mz, _⟩; have MM := Lib.hid (MM.out.trans mz (by simp)); clear mz)
            | (go_at_call 16; (with_reducible refine (G4.out _ MM.out).mono ?_); rintro e z ⟨A4, c4, rfl, _, mz, _⟩; have MM := Lib.hid (MM.out.trans mz (by simp)); clear mz)
            | (go_at_call 18; (with_reducible refine (G5'.out _ MM.out).mono ?_); rintro e z ⟨rfl, mz⟩; have MM := Lib.hid (MM.out.trans mz (by simp)); clear mz)
            | (go_at_call 18; (with_reducible refine (G6'.out _ MM.out).mono ?_); rintro e z ⟨rfl, mz⟩; have MM := Lib.hid (MM.out.trans mz (by simp)); clear mz))
        all_goals
          clear hsw
          go_wp2_with fail
          go_ret
          exact ⟨rfl, Mod.below (Mod.below HB.out M2.out (by simp)) MM.out (by simp)⟩
      · have G5' := Lib.hid fun W hW => (G5.out W hW).mono fun e w' h => OnceR.no hon h
        clear G5 G6 HO hon
        have hsw := HS.out
        clear HS
        go_wp2_with fail
        refine wp_region_held_drew (S := (fun _ => True)) (by kernel_rfl) (by trivial) (fun hHeld => ?_)
        refine wpAnyH_take (i := 0) (oi := _) (v := ?_) (by simp only [List.getElem?_toArray, List.getElem?_cons_succ, List.getElem?_cons_zero]; rfl) (by kernel_rfl) (by kernel_rfl) (by kernel_rfl) (by intro _ _ _ h; exact h) (Or.inl ⟨by rfl, ?_⟩) (by assumption) ?_
        rotate_left 1
        · (intro w hSw; (try dsimp only at hSw); go_simp; try with_reducible rfl)
        try simp only [Act.put, List.setIfInBounds_toArray, List.set_cons_zero, List.set_cons_succ]
        refine wpAnyH_take (i := 1) (oi := _) (v := ?_) (by simp only [List.getElem?_toArray, List.getElem?_cons_succ, List.getElem?_cons_zero]; rfl) (by kernel_rfl) (by kernel_rfl) (by kernel_rfl) (by intro _ _ _ h; exact h) (Or.inl ⟨by rfl, ?_⟩) (by assumption) ?_
        rotate_left 1
        · (intro w hSw; (try dsimp only at hSw); go_simp; try with_reducible rfl)
        try simp only [Act.put, List.setIfInBounds_toArray, List.set_cons_zero, List.set_cons_succ]
        refine wpAnyH_take (i := 2) (oi := _) (v := ?_) (by simp only [List.getElem?_toArray, List.getElem?_cons_succ, List.getElem?_cons_zero]; rfl) (by kernel_rfl) (by kernel_rfl) (by kernel_rfl) (by intro _ _ _ h; exact h) (Or.inl ⟨by rfl, ?_⟩) (by assumption) ?_
        rotate_left 1
        · (intro w hSw; (try dsimp only at hSw); go_simp; try with_reducible rfl)
        try simp only [Act.put, List.setIfInBounds_toArray, List.set_cons_zero, List.set_cons_succ]
        refine wpAnyH_take (i := 3) (oi := _) (v := ?_) (by simp only [List.getElem?_toArray, List.getElem?_cons_succ, List.getElem?_cons_zero]; rfl) (by kernel_rfl) (by kernel_rfl) (by kernel_rfl) (by intro _ _ _ h; exact h) (Or.inl ⟨by rfl, ?_⟩) (by assumption) ?_
        rotate_left 1
        · (intro w hSw; (try dsimp only at hSw); go_simp; try with_reducible rfl)
        try simp only [Act.put, List.setIfInBounds_toArray, List.set_cons_zero, List.set_cons_succ]
        refine wpAnyH_ready (rs := [4]) (by kernel_rfl) (by simp) ?_
        refine AllReadyH.cons (by simp only [List.getElem?_toArray, List.getElem?_cons_succ, List.getElem?_cons_zero]; rfl) (fun K hK => ?_) AllReadyH.nil
        go_simp
        (go_at_call 17; (with_reducible refine (G1.out _ MM.out).mono ?_); rintro e z ⟨rfl, mz⟩; have MM := Lib.hid (MM.out.trans mz (by simp)); clear mz)
        refine hK.out _ _ (by trivial) (fun hHeld => ?_)
        clear hK K
        try simp only [Act.put, List.setIfInBounds_toArray, List.set_cons_zero, List.set_cons_succ]
        refine wpAnyH_take (i := 5) (oi := _) (v := ?_) (by simp only [List.getElem?_toArray, List.getElem?_cons_succ, List.getElem?_cons_zero]; rfl) (by kernel_rfl) (by kernel_rfl) (by kernel_rfl) (by intro _ _ _ h; exact h) (Or.inl ⟨by rfl, ?_⟩) (by assumption) ?_
        rotate_left 1
        · (intro w hSw; (try dsimp only at hSw); go_simp; try with_reducible rfl)
        try simp only [Act.put, List.setIfInBounds_toArray, List.set_cons_zero, List.set_cons_succ]
        refine wpAnyH_take (i := 6) (oi := _) (v := ?_) (by simp only [List.getElem?_toArray, List.getElem?_cons_succ, List.getElem?_cons_zero]; rfl) (by kernel_rfl) (by kernel_rfl) (by kernel_rfl) (by intro _ _ _ h; exact h) (Or.inl ⟨by rfl, ?_⟩) (by assumption) ?_
        rotate_left 1
        · (intro w hSw; (try dsimp only at hSw); go_simp; try with_reducible rfl)
        try simp only [Act.put, List.setIfInBounds_toArray, List.set_cons_zero, List.set_cons_succ]
        refine wpAnyH_take (i := 7) (oi := _) (v := ?_) (by simp only [List.getElem?_toArray, List.getElem?_cons_succ, List.getElem?_cons_zero]; rfl) (by kernel_rfl) (by kernel_rfl) (by kernel_rfl) (by intro _ _ _ h; exact h) (Or.inl ⟨by rfl, ?_⟩) (by assumption) ?_
        rotate_left 1
        · (intro w hSw; (try dsimp only at hSw); go_simp; try with_reducible rfl)
        try simp only [Act.put, List.setIfInBounds_toArray, List.set_cons_zero, List.set_cons_succ]
        refine wpAnyH_take (i := 8) (oi := _) (v := ?_) (by simp only [List.getElem?_toArray, List.getElem?_cons_succ, List.getElem?_cons_zero]; rfl) (by kernel_rfl) (by kernel_rfl) (by kernel_rfl) (by intro _ _ _ h; exact h) (Or.inl ⟨by rfl, ?_⟩) (by assumption) ?_
        rotate_left 1
        · (intro w hSw; (try dsimp only at hSw); go_simp; try with_reducible rfl)
        try simp only [Act.put, List.setIfInBounds_toArray, List.set_cons_zero, List.set_cons_succ]
        refine wpAnyH_take (i := 9) (oi := _) (v := ?_) (by simp only [List.getElem?_toArray, List.getElem?_cons_succ, List.getElem?_cons_zero]; rfl) (by kernel_rfl) (by kernel_rfl) (by kernel_rfl) (by intro _ _ _ h; exact h) (Or.inl ⟨by rfl, ?_⟩) (by assumption) ?_
        rotate_left 1
        · (intro w hSw; (try dsimp only at hSw); go_simp; try with_reducible rfl)
        try simp only [Act.put, List.setIfInBounds_toArray, List.set_cons_zero, List.set_cons_succ]
        refine wpAnyH_ready (rs := [10]) (by kernel_rfl) (by simp) ?_
        refine AllReadyH.cons (by simp only [List.getElem?_toArray, List.getElem?_cons_succ, List.getElem?_cons_zero]; rfl) (fun K hK => ?_) AllReadyH.nil
        go_simp
        (go_at_call 17; (with_reducible refine (G2.out _ MM.out).mono ?_); rintro e z ⟨rfl, mz⟩; have MM := Lib.hid (MM.out.trans mz (by simp)); clear mz)
        refine hK.out _ _ (by trivial) (fun hHeld => ?_)
        clear hK K
        try simp only [Act.put, List.setIfInBounds_toArray, List.set_cons_zero, List.set_cons_succ]
        refine wpAnyH_take (i := 11) (oi := _) (v := ?_) (by simp only [List.getElem?_toArray, List.getElem?_cons_succ, List.getElem?_cons_zero]; rfl) (by kernel_rfl) (by kernel_rfl) (by kernel_rfl) (by intro _ _ _ h; exact h) (Or.inl ⟨by rfl, ?_⟩) (by assumption) ?_
        rotate_left 1
        · (intro w hSw; (try dsimp only at hSw); go_simp; try with_reducible rfl)
        try simp only [Act.put, List.setIfInBounds_toArray, List.set_cons_zero, List.set_cons_succ]
        refine wpAnyH_take (i := 12) (oi := _) (v := ?_) (by simp only [List.getElem?_toArray, List.getElem?_cons_succ, List.getElem?_cons_zero]; rfl) (by kernel_rfl) (by kernel_rfl) (by kernel_rfl) (by intro _ _ _ h; exact h) (Or.inl ⟨by rfl, ?_⟩) (by assumption) ?_
        rotate_left 1
        · (intro w hSw; (try dsimp only at hSw); go_simp; try with_reducible rfl)
        try simp only [Act.put, List.setIfInBounds_toArray, List.set_cons_zero, List.set_cons_succ]
        refine wpAnyH_take (i := 13) (oi := _) (v := ?_) (by simp only [List.getElem?_toArray, List.getElem?_cons_succ, List.getElem?_cons_zero]; rfl) (by kernel_rfl) (by kernel_rfl) (by kernel_rfl) (by intro _ _ _ h; exact h) (Or.inl ⟨by rfl, ?_⟩) (by assumption) ?_
        rotate_left 1
        · (intro w hSw; (try dsimp only at hSw); go_simp; try with_reducible rfl)
        try simp only [Act.put, List.setIfInBounds_toArray, List.set_cons_zero, List.set_cons_succ]
        refine wpAnyH_take (i := 14) (oi := _) (v := ?_) (by simp only [List.getElem?_toArray, List.getElem?_cons_succ, List.getElem?_cons_zero]; rfl) (by kernel_rfl) (by kernel_rfl) (by kernel_rfl) (by intro _ _ _ h; exact h) (Or.inl ⟨by rfl, ?_⟩) (by assumption) ?_
        rotate_left 1
        · (intro w hSw; (try dsimp only at hSw); go_simp; try with_reducible rfl)
        try simp only [Act.put, List.setIfInBounds_toArray, List.set_cons_zero, List.set_cons_succ]
        refine wpAnyH_take (i := 15) (oi := _) (v := ?_) (by simp only [List.getElem?_toArray, List.getElem?_cons_succ, List.getElem?_cons_zero]; rfl) (by kernel_rfl) (by kernel_rfl) (by kernel_rfl) (by intro _ _ _ h; exact h) (Or.inl ⟨by rfl, ?_⟩) (by assumption) ?_
        rotate_left 1
        · (intro w hSw; (try dsimp only at hSw); go_simp; try with_reducible rfl)
        try simp only [Act.put, List.setIfInBounds_toArray, List.set_cons_zero, List.set_cons_succ]
        refine wpAnyH_take (i := 18) (oi := _) (v := ?_) (by simp only [List.getElem?_toArray, List.getElem?_cons_succ, List.getElem?_cons_zero]; rfl) (by kernel_rfl) (by kernel_rfl) (by kernel_rfl) (by intro _ _ _ h; exact h) (Or.inl ⟨by rfl, ?_⟩) (by assumption) ?_
        rotate_left 1
        · (intro w hSw; (try dsimp only at hSw); go_simp; try with_reducible rfl)
        try simp only [Act.put, List.setIfInBounds_toArray, List.set_cons_zero, List.set_cons_succ]
        refine wpAnyH_take (i := 19) (oi := _) (v := ?_) (by simp only [List.getElem?_toArray, List.getElem?_cons_succ, List.getElem?_cons_zero]; rfl) (by kernel_rfl) (by kernel_rfl) (by kernel_rfl) (by intro _ _ _ h; exact h) (Or.inl ⟨by rfl, ?_⟩) (by assumption) ?_
        rotate_left 1
        · (intro w hSw; (try dsimp only at hSw); go_simp; try with_reducible rfl)
        try simp only [Act.put, List.setIfInBounds_toArray, List.set_cons_zero, List.set_cons_succ]
        refine wpAnyH_take (i := 20) (oi := _) (v := ?_) (by simp only [List.getElem?_toArray, List.getElem?_cons_succ, List.getElem?_cons_zero]; rfl) (by kernel_rfl) (by kernel_rfl) (by kernel_rfl) (by intro _ _ _ h; exact h) (Or.inl ⟨by rfl, ?_⟩) (by assumption) ?_
        rotate_left 1
        · (intro w hSw; (try dsimp only at hSw); go_simp; try with_reducible rfl)
        try simp only [Act.put, List.setIfInBounds_toArray, List.set_cons_zero, List.set_cons_succ]
        refine wpAnyH_take (i := 24) (oi := _) (v := ?_) (by simp only [List.getElem?_toArray, List.getElem?_cons_succ, List.getElem?_cons_zero]; rfl) (by kernel_rfl) (by kernel_rfl) (by kernel_rfl) (by intro _ _ _ h; exact h) (Or.inl ⟨by rfl, ?_⟩) (by assumption) ?_
        rotate_left 1
        · (intro w hSw; (try dsimp only at hSw); go_simp; try with_reducible rfl)
        try simp only [Act.put, List.setIfInBounds_toArray, List.set_cons_zero, List.set_cons_succ]
        refine wpAnyH_take (i := 25) (oi := _) (v := ?_) (by simp only [List.getElem?_toArray, List.getElem?_cons_succ, List.getElem?_cons_zero]; rfl) (by kernel_rfl) (by kernel_rfl) (by kernel_rfl) (by intro _ _ _ h; exact h) (Or.inl ⟨by rfl, ?_⟩) (by assumption) ?_
        rotate_left 1
        · (intro w hSw; (try dsimp only at hSw); go_simp; try with_reducible rfl)
        try simp only [Act.put, List.setIfInBounds_toArray, List.set_cons_zero, List.set_cons_succ]
        refine wpAnyH_ready (rs := [16]) (by kernel_rfl) (by simp) ?_
        refine AllReadyH.cons (by simp only [List.getElem?_toArray, List.getElem?_cons_succ, List.getElem?_cons_zero]; rfl) (fun K hK => ?_) AllReadyH.nil
        go_simp
        (go_at_call 16; (with_reducible refine (G3.out _ MM.out).mono ?_); rintro e z ⟨A3, c3, rfl, _, mz, _⟩; have MM := Lib.hid (MM.out.trans mz (by simp)); clear mz)
        refine hK.out _ _ (by trivial) (fun hHeld => ?_)
        clear hK K
        try simp only [Act.put, List.setIfInBounds_toArray, List.set_cons_zero, List.set_cons_succ]
        refine wpAnyH_take (i := 17) (oi := _) (v := ?_) (by simp only [List.getElem?_toArray, List.getElem?_cons_succ, List.getElem?_cons_zero]; rfl) (by kernel_rfl) (by kernel_rfl) (by kernel_rfl) (by intro _ _ _ h; exact h) (Or.inl ⟨by rfl, ?_⟩) (by assumption) ?_
        rotate_left 1
        · (intro w hSw; (try dsimp only at hSw); go_simp; try with_reducible rfl)
        try simp only [Act.put, List.setIfInBounds_toArray, List.set_cons_zero, List.set_cons_succ]
        refine wpAnyH_ready (rs := [21]) (by kernel_rfl) (by simp) ?_
        refine AllReadyH.cons (by simp only [List.getElem?_toArray, List.getElem?_cons_succ, List.getElem?_cons_zero]; rfl) (fun K hK => ?_) AllReadyH.nil
        go_simp
        (go_at_call 16; (with_reducible refine (G4.out _ MM.out).mono ?_); rintro e z ⟨A4, c4, rfl, _, mz, _⟩; have MM := Lib.hid (MM.out.trans mz (by simp)); clear mz)
        refine hK.out _ _ (by trivial) (fun hHeld => ?_)
        clear hK K
        try simp only [Act.put, List.setIfInBounds_toArray, List.set_cons_zero, List.set_cons_succ]
        refine wpAnyH_take (i := 22) (oi := _) (v := ?_) (by simp only [List.getElem?_toArray, List.getElem?_cons_succ, List.getElem?_cons_zero]; rfl) (by kernel_rfl) (by kernel_rfl) (by kernel_rfl) (by intro _ _ _ h; exact h) (Or.inl ⟨by rfl, ?_⟩) (by assumption) ?_
        rotate_left 1
        · (intro w hSw; (try dsimp only at hSw); go_simp; try with_reducible rfl)
        try simp only [Act.put, List.setIfInBounds_toArray, List.set_cons_zero, List.set_cons_succ]
        refine wpAnyH_take (i := 23) (oi := _) (v := ?_) (by simp only [List.getElem?_toArray, List.getElem?_cons_succ, List.getElem?_cons_zero]; rfl) (by kernel_rfl) (by kernel_rfl) (by kernel_rfl) (by intro _ _ _ h; exact h) (Or.inl ⟨by rfl, ?_⟩) (by assumption) ?_
        rotate_left 1
        · (intro w hSw; (try dsimp only at hSw); go_simp; try with_reducible rfl)
        try simp only [Act.put, List.setIfInBounds_toArray, List.set_cons_zero, List.set_cons_succ]
        refine wpAnyH_take (i := 26) (oi := _) (v := ?_) (by simp only [List.getElem?_toArray, List.getElem?_cons_succ, List.getElem?_cons_zero]; rfl) (by kernel_rfl) (by kernel_rfl) (by kernel_rfl) (by intro _ _ _ h; exact h) (Or.inl ⟨by rfl, ?_⟩) (by assumption) ?_
        rotate_left 1
        · (intro w hSw; (try dsimp only at hSw); go_simp; try with_reducible rfl)
        try simp only [Act.put, List.setIfInBounds_toArray, List.set_cons_zero, List.set_cons_succ]
        refine wpAnyH_take (i := 27) (oi := _) (v := ?_) (by simp only [List.getElem?_toArray, List.getElem?_cons_succ, List.getElem?_cons_zero]; rfl) (by kernel_rfl) (by kernel_rfl) (by kernel_rfl) (by intro _ _ _ h; exact h) (Or.inl ⟨by rfl, ?_⟩) (by assumption) ?_
        rotate_left 1
        · (intro w hSw; (try dsimp only at hSw); go_simp; try with_reducible rfl)
        try simp only [Act.put, List.setIfInBounds_toArray, List.set_cons_zero, List.set_cons_succ]
        refine wpAnyH_take (i := 28) (oi := _) (v := ?_) (by simp only [List.getElem?_toArray, List.getElem?_cons_succ, List.getElem?_cons_zero]; rfl) (by kernel_rfl) (by kernel_rfl) (by kernel_rfl) (by intro _ _ _ h; exact h) (Or.inl ⟨by rfl, ?_⟩) (by assumption) ?_
        rotate_left 1
        · (intro w hSw; (try dsimp only at hSw); go_simp; try with_reducible rfl)
        try simp only [Act.put, List.setIfInBounds_toArray, List.set_cons_zero, List.set_cons_succ]
        refine wpAnyH_take (i := 29) (oi := _) (v := ?_) (by simp only [List.getElem?_toArray, List.getElem?_cons_succ, List.getElem?_cons_zero]; rfl) (by kernel_rfl) (by kernel_rfl) (by kernel_rfl) (by intro _ _ _ h; exact h) (Or.inl ⟨by rfl, ?_⟩) (by assumption) ?_
        rotate_left 1
        · (intro w hSw; (try dsimp only at hSw); go_simp; try with_reducible rfl)
        try simp only [Act.put, List.setIfInBounds_toArray, List.set_cons_zero, List.set_cons_succ]
        refine wpAnyH_ready (rs := [30]) (by kernel_rfl) (by simp) ?_
        refine AllReadyH.cons (by simp only [List.getElem?_toArray, List.getElem?_cons_succ, List.getElem?_cons_zero]; rfl) (fun K hK => ?_) AllReadyH.nil
        go_simp
        (go_at_call 18; (with_reducible refine (G5'.out _ MM.out).mono ?_); rintro e z ⟨rfl, mz⟩; have MM := Lib.hid (MM.out.trans mz (by simp)); clear mz)
        refine hK.out _ _ (by trivial) (fun hHeld => ?_)
        clear hK K
        try simp only [Act.put, List.setIfInBounds_toArray, List.set_cons_zero, List.set_cons_succ]
        refine wpAnyH_take (i := 31) (oi := _) (v := ?_) (by simp only [List.getElem?_toArray, List.getElem?_cons_succ, List.getElem?_cons_zero]; rfl) (by kernel_rfl) (by kernel_rfl) (by kernel_rfl) (by intro _ _ _ h; exact h) (Or.inl ⟨by rfl, ?_⟩) (by assumption) ?_
        rotate_left 1
        · (intro w hSw; (try dsimp only at hSw); go_simp; try with_reducible rfl)
        try simp only [Act.put, List.setIfInBounds_toArray, List.set_cons_zero, List.set_cons_succ]
        refine wpAnyH_take (i := 32) (oi := _) (v := ?_) (by simp only [List.getElem?_toArray, List.getElem?_cons_succ, List.getElem?_cons_zero]; rfl) (by kernel_rfl) (by kernel_rfl) (by kernel_rfl) (by intro _ _ _ h; exact h) (Or.inl ⟨by rfl, ?_⟩) (by assumption) ?_
        rotate_left 1
        · (intro w hSw; (try dsimp only at hSw); go_simp; try with_reducible rfl)
        try simp only [Act.put, List.setIfInBounds_toArray, List.set_cons_zero, List.set_cons_succ]
        refine wpAnyH_take (i := 33) (oi := _) (v := undef) (by simp only [List.getElem?_toArray, List.getElem?_cons_succ, List.getElem?_cons_zero]; rfl) (by kernel_rfl) (by kernel_rfl) (by kernel_rfl) (by intro _ _ _ h; exact h) (Or.inr ⟨by rfl, rfl⟩) (by assumption) ?_
        try simp only [Act.put, List.setIfInBounds_toArray, List.set_cons_zero, List.set_cons_succ]
        refine wpAnyH_take (i := 34) (oi := _) (v := undef) (by simp only [List.getElem?_toArray, List.getElem?_cons_succ, List.getElem?_cons_zero]; rfl) (by kernel_rfl) (by kernel_rfl) (by kernel_rfl) (by intro _ _ _ h; exact h) (Or.inr ⟨by rfl, rfl⟩) (by assumption) ?_
        try simp only [Act.put, List.setIfInBounds_toArray, List.set_cons_zero, List.set_cons_succ]
        refine wpAnyH_take (i := 35) (oi := _) (v := undef) (by simp only [List.getElem?_toArray, List.getElem?_cons_succ, List.getElem?_cons_zero]; rfl) (by kernel_rfl) (by kernel_rfl) (by kernel_rfl) (by intro _ _ _ h; exact h) (Or.inr ⟨by rfl, rfl⟩) (by assumption) ?_
        try simp only [Act.put, List.setIfInBounds_toArray, List.set_cons_zero, List.set_cons_succ]
        refine wpAnyH_take (i := 36) (oi := _) (v := undef) (by simp only [List.getElem?_toArray, List.getElem?_cons_succ, List.getElem?_cons_zero]; rfl) (by kernel_rfl) (by kernel_rfl) (by kernel_rfl) (by intro _ _ _ h; exact h) (Or.inr ⟨by rfl, rfl⟩) (by assumption) ?_
        try simp only [Act.put, List.setIfInBounds_toArray, List.set_cons_zero, List.set_cons_succ]
        refine wpAnyH_take (i := 37) (oi := _) (v := ?_) (by simp only [List.getElem?_toArray, List.getElem?_cons_succ, List.getElem?_cons_zero]; rfl) (by kernel_rfl) (by kernel_rfl) (by kernel_rfl) (by intro _ _ _ h; exact h) (Or.inl ⟨by rfl, ?_⟩) (by assumption) ?_
        rotate_left 1
        · (intro w hSw; (try dsimp only at hSw); go_simp; try with_reducible rfl)
        try simp only [Act.put, List.setIfInBounds_toArray, List.set_cons_zero, List.set_cons_succ]
        refine wpAnyH_take (i := 38) (oi := _) (v := ?_) (by simp only [List.getElem?_toArray, List.getElem?_cons_succ, List.getElem?_cons_zero]; rfl) (by kernel_rfl) (by kernel_rfl) (by kernel_rfl) (by intro _ _ _ h; exact h) (Or.inl ⟨by rfl, ?_⟩) (by assumption) ?_
        rotate_left 1
        · (intro w hSw; (try dsimp only at hSw); go_simp; try with_reducible rfl)
        try simp only [Act.put, List.setIfInBounds_toArray, List.set_cons_zero, List.set_cons_succ]
        refine wpAnyH_take (i := 39) (oi := _) (v := ?_) (by simp only [List.getElem?_toArray, List.getElem?_cons_succ, List.getElem?_cons_zero]; rfl) (by kernel_rfl) (by kernel_rfl) (by kernel_rfl) (by intro _ _ _ h; exact h) (Or.inl ⟨by rfl, ?_⟩) (by assumption) ?_
        rotate_left 1
        · (intro w hSw; (try dsimp only at hSw); go_simp; try with_reducible rfl)
        try simp only [Act.put, List.setIfInBounds_toArray, List.set_cons_zero, List.set_cons_succ]
        refine wpAnyH_done (by kernel_rfl) ?_ _
        clear hsw
        go_wp2_with fail
        go_ret
        exact ⟨rfl, Mod.below (Mod.below HB.out M2.out (by simp)) MM.out (by simp)⟩
/-! ### the row's step -/
theorem own : ownKnob Try.prog.godebug = none := by kernel_rfl
theorem laidOut : laidOutB Try.prog = true := by kernel_rfl
set_option maxRecDepth 100000 in
theorem lifted (os : Os) (started : os.Started) (H : Type) (enc : TypeId × Value → H) :
    ReturnsInHanded {} Try.checked os 5 .any (Rows.judgeCutSpec.pre6 enc Try.prog Try.f5 Rows.judgeCutRow.domain false) (Rows.judgeCutSpec.post enc Try.prog Try.f5 false true false false) := by
  refine returnsInHanded_of_change (C := Try.checked) own started (by kernel_rfl) Try.func5
    (ChangeSpec.witness6 (enc := enc) (C := Try.checked) false ⟨#[], #[.slice none 0 0, .int .i64 0], []⟩ 8 (by kernel_rfl) (by kernel_rfl) (by kernel_rfl) (by kernel_rfl)) ?_
  intro W base args ds gs before hval0 hW hcnd _
  have hval : ∀ (j : Nat) t v, Try.f5.params[j]? = some t → args[j]? = some v → Value.okWide Try.prog W .any base t v := hval0
  have hW' := hW
  obtain ⟨p, q, hA0, hV, rfl, hfz, hnd⟩ := hW
  have hA : DataW.TrodAll enc Try.prog W 0 (fun _ => true) true Try.f5.params.toList args.toList ds p := hA0
  rw [Try.params5] at hA hval
  obtain ⟨v0, vs0, d0, ds0, p0, q0, hargs, rfl, rfl, h0, r0⟩ := trodAll_cons hA
  obtain ⟨v1, vs1, d1, ds1, p1, q1, rfl, rfl, rfl, h1, r1⟩ := trodAll_cons r0
  obtain ⟨rfl, rfl, rfl⟩ := trodAll_nil r1
  obtain rfl : args = #[v0, v1] := by cases args; simp_all
  obtain ⟨rfl, rfl⟩ := trodVars_none hV
  have k0 := h0
  have lt0 : ∀ x ∈ p0, x.block < W.heap.size := by obtain ⟨m, hm⟩ := k0; exact DataW.trod_lt m _ _ _ hm
  have k1 := h1
  have lt1 : ∀ x ∈ p1, x.block < W.heap.size := by obtain ⟨m, hm⟩ := k1; exact DataW.trod_lt m _ _ _ hm
  obtain ⟨a0, len0, cap0, rfl⟩ := okWide_slice Try.underlying22 (hval 0 22 v0 rfl rfl)
  have w0 : ToldRow W a0 len0 cap0 := ToldRow.open_ h0
  obtain ⟨a1, rfl, rfl, rfl, w1⟩ := open_int Try.underlying3 (hval 1 3 v1 rfl rfl) h1
  clear hA0 hval0
  refine (walk a0 len0 cap0 a1 W w0 w1).mono fun e W' ⟨he, bel⟩ => ?_
  subst he
  exact ⟨_, rfl, _, _, _, [], _, [], hW', trodAll_mk1 (shut_bool Try.underlying4 _), (trodAll_cons_mk (Below.trod laidOut (by kernel_rfl) (of_decide_eq_true (by kernel_rfl)) k0 bel lt0) (trodAll_cons_mk (Below.trod laidOut (by kernel_rfl) (of_decide_eq_true (by kernel_rfl)) k1 bel lt1) trodAll_mk0)), rfl, bel.frame _, fun h => by cases h⟩

theorem over : Rows.judgeCutRow.holds Try.pinned (OpenSpec.ofChange Rows.judgeCutSpec) :=
  OpenClaim.holds_of_wide 5 Try.f5 rfl rfl rfl rfl rfl rfl rfl ⟨rfl, rfl, rfl, rfl, rfl⟩ rfl rfl rfl rfl rfl (by kernel_rfl) Try.func5 (by kernel_rfl)
    (of_decide_eq_true (by kernel_rfl)) (by unfold Func.isWrapper; first | (rw [if_pos (by decide +kernel)]; kernel_rfl) | (rw [if_neg (by decide +kernel)]; exact ⟨rfl, rfl⟩))
    (fun os started H enc _ => lifted os started H enc)

theorem proved : Rows.JudgeCutSaid := over
#print axioms proved
end Go.Proofs.Ytbladkopbkkamaa.judgeCut
