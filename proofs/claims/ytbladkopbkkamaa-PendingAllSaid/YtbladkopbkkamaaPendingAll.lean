/- Proved: curfewlaw23.PendingAll answers true for every number, every start, every list of operations and every list of further entries, and leaves what came in as it was. No condition. -/
import Derived.Test.YtbladkopbkkamaaPendK
namespace Go.Proofs.Ytbladkopbkkamaa.pendingAll
open Go.ChangeShapes Go.WideShapes Go.ChangeAt Go.RowKit
set_option linter.unusedVariables false
set_option linter.unusedSimpArgs false
attribute [local go_sem ↓] Go.wp_at_zero Go.wp_at_succ

set_option maxRecDepth 100000 in
set_option maxHeartbeats 51200000 in
theorem walk (a0 : Int) (a1 : Int) (a2 : Option Addr) (len2 cap2 : Nat) (a3 : Option Addr) (len3 cap3 : Nat) (w : World) (w0 : (Lit.int .i64 a0).wf = true) (w1 : (Lit.int .i64 a1).wf = true) (w2 : OpRow w a2 len2 cap2) (w3 : EntryRow w a3 len3 cap3) :
    Calls Try.prog 7 #[.int .i64 a0, .int .i64 a1, .slice a2 len2 cap2, .slice a3 len3 cap3] w fun e w' => e = .returned (.bool true) ∧ Below w.heap.size w w' := by
  have hm2 := w2.1
  unfold maxLen at hm2
  have W2 := Lib.hid w2
  have W3 := Lib.hid w3
  clear w0 w1 w2 w3
  obtain ⟨i0, hi0, hz0, hz1, hz2⟩ := info_parts info_en
  have HI := Lib.hid hi0
  have HZ0 := Lib.hid hz0
  have HZ1 := Lib.hid hz1
  have HZ2 := Lib.hid hz2
  clear hi0 hz0 hz1 hz2
  go_enter Try.func7, Try.ntmps7
  go_wp2_with fail
  refine (begunP_any _).mono ?_
  rintro e wb ⟨rfl, hb⟩
  have HB := Lib.hid hb
  clear hb
  by_cases hk : (1 ≤ a0 ∧ a0 ≤ 7) ∧ 1 ≤ a1 ∧ a1 ≤ 1099511627776
  · obtain ⟨⟨hk1, hk2⟩, hk3, hk4⟩ := hk
    go_wp2_with fail
    refine (newP_ok a0 a1 wb hk1 hk2 hk3 hk4).mono ?_
    rintro e wp ⟨g, rfl, pp, hg, mp⟩
    have PP := Lib.hid pp
    have BP := Lib.hid (Mod.below HB.out mp (by simp))
    have hgw : w.heap.size ≤ g := Nat.le_trans HB.out.size hg
    clear pp mp HB
    go_upto_region 8 with (fail)
    have HS0 := Lib.hid (show Ps w (wp.alloc (.cells #[.int .i64 a0, .int .i64 a1, .int .i64 0, .slice none 0 0] 47)) g wp.heap.size (fun k => k = g) (fun k => k = wp.heap.size) a0 a1 0 0 [] [] [] none 0 from
      ⟨PP.out.none_ ((Mod.refl _ wp).alloc _), ⟨none, 0, Cells.new wp _ _, Own.nil _ _, by simp [blk], rfl, by simp [blk], fun k hk => by subst hk; simp⟩, Own.nil _ _,
        fun q hq => by subst hq; exact ⟨hgw, fun e => by have := PP.out.lt _ rfl; omega, by simp [blk]⟩, fun q hq => by subst hq; exact ⟨BP.out.size, by simp [blk]⟩, by simp [blk], by simp, Mod.below BP.out ((Mod.refl (fun _ => False) wp).alloc _) (by simp)⟩)
    clear PP BP hg
    generalize wp.alloc (.cells #[.int .i64 a0, .int .i64 a1, .int .i64 0, .slice none 0 0] 47) = wq at *
    generalize wp.heap.size = h at *
    go_wp2_with fail
    go_loopg [12, 13, 14, 15, 16, 17, 18, 19, 20, 21] 40 (fun m v12 v13 v14 v15 v16 v17 v18 v19 v20 v21 wr => ∃ (i : Nat) (sq : Int) (l all : List En) (F G : Nat → Prop) (A : Option Addr) (cA : Nat), i ≤ 40 ∧ i ≤ len2 ∧ 0 ≤ sq ∧ sq ≤ i ∧ l.length ≤ 4 ∧ all.length ≤ i ∧ v13 = .int .i64 i ∧ v12 = .slice A all.length cA ∧ Hid (Ps w wr g h F G a0 a1 sq sq l l all A cA) ∧ m + i = 40)
    case atStart => exact ⟨0, 0, [], [], _, _, none, 0, by omega, by omega, by omega, by omega, by simp, by simp, rfl, rfl, HS0, by omega⟩
    case round => as_aux_lemma =>
      obtain ⟨i, sq, l, all, F, G, A, cA, hi, hil, hs0, hs1, hl4, hal, rfl, rfl, HS, hm⟩ := hrel
      by_cases hin : i < len2 ∧ i < 40
      · obtain ⟨h1, h2⟩ := hin
        obtain ⟨bl, o, cs, ha2, hbl, hlen, hcell, kd, od, lv, da, wa, wn, wc, z, rfl, hda, hz⟩ := W2.out.2 i h1
        have q0 := (HS.out.hb.cell (p := ⟨bl, o + i * 5 + 0, none⟩) hbl).trans (hcell 0 _ rfl)
        have q1 := (HS.out.hb.cell (p := ⟨bl, o + i * 5 + 1, none⟩) hbl).trans (hcell 1 _ rfl)
        have q2 := (HS.out.hb.cell (p := ⟨bl, o + i * 5 + 2, none⟩) hbl).trans (hcell 2 _ rfl)
        have q3 := (HS.out.hb.cell (p := ⟨bl, o + i * 5 + 3, none⟩) hbl).trans (hcell 3 _ rfl)
        have q4 := (HS.out.hb.cell (p := ⟨bl, o + i * 5 + 4, none⟩) hbl).trans (hcell 4 _ rfl)
        rw [Nat.add_zero] at q0
        have HA2 := Lib.hid ha2
        have HDA := Lib.hid hda
        have HZ := Lib.hid hz
        have j0 : (0 : Int) ≤ (i : Int) := by omega
        have j1 : (i : Int) < (len2 : Int) := by omega
        clear hcell hlen hda hz
        rw [ha2]
        clear ha2
        go_upto_if 64 with (fail)
        have HX := Lib.hid (Cells.new wr #[.int .i64 kd, .int .i64 od, .int .i64 lv, .string da, .slice wa wn wc] 50)
        have HM2 := Lib.hid ((Mod.refl (fun _ => False) wr).alloc (.cells #[.int .i64 kd, .int .i64 od, .int .i64 lv, .string da, .slice wa wn wc] 50))
        clear q0 q1 q2 q3 q4
        have hxs : wr.heap.size ≤ wr.heap.size := Nat.le_refl _
        generalize wr.alloc (.cells #[.int .i64 kd, .int .i64 od, .int .i64 lv, .string da, .slice wa wn wc] 50) = w2 at *
        have r0 : w2.cell? ⟨wr.heap.size, 0, none⟩ = some (.int .i64 kd) := HX.out.1 0 _ rfl
        have r1 : w2.cell? ⟨wr.heap.size, 1, none⟩ = some (.int .i64 od) := HX.out.1 1 _ rfl
        have r2 : w2.cell? ⟨wr.heap.size, 2, none⟩ = some (.int .i64 lv) := HX.out.1 2 _ rfl
        have r3 : w2.cell? ⟨wr.heap.size, 3, none⟩ = some (.string da) := HX.out.1 3 _ rfl
        have r4 : w2.cell? ⟨wr.heap.size, 4, none⟩ = some (.slice wa wn wc) := HX.out.1 4 _ rfl
        go_cut [12] (fun s12 wx => ∃ (sq3 : Int) (l3 all3 : List En) (F3 G3 : Nat → Prop) (A3 : Option Addr) (c3 : Nat), 0 ≤ sq3 ∧ sq3 ≤ sq + 1 ∧ l3.length ≤ 4 ∧ all3.length ≤ all.length + 1 ∧ s12 = .slice A3 all3.length c3 ∧ Hid (Ps w wx g h F3 G3 a0 a1 sq3 sq3 l3 l3 all3 A3 c3))
        case first =>
          by_cases hkd : kd = 0
          · as_aux_lemma =>
              subst hkd
              have HC1 : Hid (Calls Try.prog 23 #[.string da, .int .i64 20] w2 fun e w' => e = .returned (.string (cutB da 20)) ∧ w2 = w') := Lib.hid (cut1_any da 20 w2 HDA.out)
              have hd := cutB_size da 20
              have f3 := HX.out.2.1 3
              clear r4
              go_wp2_with fail
              with_reducible refine HC1.out.mono ?_
              rintro e w3 ⟨rfl, rfl⟩
              generalize cutB da 20 = d at *
              clear HC1
              go_upto_region 15 with (fail)
              have HX3 := Lib.hid (HX.out.set_ 3 (.string d))
              have M3 := Lib.hid (HM2.out.setCell (p := ⟨wr.heap.size, 3, none⟩) (.inr (Nat.le_refl _)) (.string d))
              clear r0 r1 r2 r3 f3 HX HM2
              generalize w2.setCell ⟨wr.heap.size, 3, none⟩ (.string d) = w3 at *
              have HS3 := Lib.hid (HS.out.none_ M3.out)
              have hFx := Lib.hid (HS.out.p.lt)
              have hGx := Lib.hid (HS.out.r.lt)
              have hAx := Lib.hid (fun (q : Nat) (e : blk A = some q) => HS.out.o.lt e)
              have r1 : w3.cell? ⟨wr.heap.size, 1, none⟩ = some (.int .i64 od) := HX3.out.1 1 _ rfl
              have r2 : w3.cell? ⟨wr.heap.size, 2, none⟩ = some (.int .i64 lv) := HX3.out.1 2 _ rfl
              have r3 : w3.cell? ⟨wr.heap.size, 3, none⟩ = some (.string d) := HX3.out.1 3 _ rfl
              obtain ⟨sq3, l3, r, er, hq0, hq1, hl3, hrd, her, hP, hR⟩ := addBoth a0 a1 sq od lv d l (by omega) ⟨hs0, by omega⟩ hl4
              have HAP := Lib.hid (hP w3 g F HS3.out.p)
              have HR := Lib.hid hR
              have HRD := Lib.hid hrd
              have HER := Lib.hid her
              have HEQ := Lib.hid (fun W => eq_ref r r W)
              have hone := Lib.hid (En.one r)
              have hrr : eqE r r = true := by simp [eqE, same]
              rw [hrr] at HEQ
              clear hP hR hrd her hrr HS
              obtain ⟨x0, x1, x2, x3, x4, x5, x6⟩ := r
              unfold En.val at HEQ
              unfold Added En.val at HAP HR
              simp only [] at HEQ HAP HR
              go_wp2_with fail
              with_reducible refine HAP.out.mono ?_
              intro e w4 h4
              obtain ⟨F3, he4, p3, m3, f3⟩ := h4
              subst he4
              have S4 := Lib.hid (HS3.out.stepP p3 m3 f3)
              have X4 := Lib.hid (HX3.out.mod m3 (fun hq => absurd (hFx.out _ hq) (Nat.lt_irrefl _)))
              clear p3 m3 f3 HAP HS3 HX3 r1 r2 r3
              go_upto_region 16 with (fail)
              have HY := Lib.hid (Cells.new w4 #[.int .i64 x0, .int .i64 x1, .int .i64 x2, .int .i64 x3, .int .i64 x4, .int .i64 x5, .string x6] 30)
              have S5 := Lib.hid (S4.out.none_ ((Mod.refl _ w4).alloc (.cells #[.int .i64 x0, .int .i64 x1, .int .i64 x2, .int .i64 x3, .int .i64 x4, .int .i64 x5, .string x6] 30)))
              have X5 := Lib.hid (X4.out.alloc (.cells #[.int .i64 x0, .int .i64 x1, .int .i64 x2, .int .i64 x3, .int .i64 x4, .int .i64 x5, .string x6] 30))
              have hG4 := Lib.hid (S4.out.r.lt)
              clear S4 X4
              generalize w4.alloc (.cells #[.int .i64 x0, .int .i64 x1, .int .i64 x2, .int .i64 x3, .int .i64 x4, .int .i64 x5, .string x6] 30) = w5 at *
              have r1 : w5.cell? ⟨wr.heap.size, 1, none⟩ = some (.int .i64 od) := X5.out.1 1 _ rfl
              have r2 : w5.cell? ⟨wr.heap.size, 2, none⟩ = some (.int .i64 lv) := X5.out.1 2 _ rfl
              have r3 : w5.cell? ⟨wr.heap.size, 3, none⟩ = some (.string d) := X5.out.1 3 _ rfl
              have HRP := Lib.hid (HR.out w5 h G S5.out.r)
              go_wp2_with fail
              with_reducible refine HRP.out.mono ?_
              intro e w6 h6
              obtain ⟨G3, he6, p6, m6, f6⟩ := h6
              subst he6
              have S6 := Lib.hid (S5.out.stepR p6 m6 f6)
              have Y6 := Lib.hid (HY.out.mod m6 (fun hq => absurd (hG4.out _ hq) (Nat.lt_irrefl _)))
              clear p6 m6 f6 HRP HR S5 X5 HY r1 r2 r3
              go_upto_region 17 with (fail)
              have S7 := Lib.hid (S6.out.none_ ((Mod.refl _ w6).alloc (.cells #[.int .i64 x0, .int .i64 x1, .int .i64 x2, .int .i64 x3, .int .i64 x4, .int .i64 x5, .string x6] 30)))
              have Y7 := Lib.hid (Y6.out.alloc (.cells #[.int .i64 x0, .int .i64 x1, .int .i64 x2, .int .i64 x3, .int .i64 x4, .int .i64 x5, .string x6] 30))
              have Z7 := Lib.hid (Cells.new w6 #[.int .i64 x0, .int .i64 x1, .int .i64 x2, .int .i64 x3, .int .i64 x4, .int .i64 x5, .string x6] 30)
              clear S6 Y6
              generalize w6.alloc (.cells #[.int .i64 x0, .int .i64 x1, .int .i64 x2, .int .i64 x3, .int .i64 x4, .int .i64 x5, .string x6] 30) = w7 at *
              have y0 := Y7.out.1 0 _ rfl
              have y1 := Y7.out.1 1 _ rfl
              have y2 := Y7.out.1 2 _ rfl
              have y3 := Y7.out.1 3 _ rfl
              have y4 := Y7.out.1 4 _ rfl
              have y5 := Y7.out.1 5 _ rfl
              have y6 := Y7.out.1 6 _ rfl
              have z0 := Z7.out.1 0 _ rfl
              have z1 := Z7.out.1 1 _ rfl
              have z2 := Z7.out.1 2 _ rfl
              have z3 := Z7.out.1 3 _ rfl
              have z4 := Z7.out.1 4 _ rfl
              have z5 := Z7.out.1 5 _ rfl
              have z6 := Z7.out.1 6 _ rfl
              have hne : ∀ X : Int, (X != X) = false := fun X => by simp
              go_wp2_with fail
              with_reducible refine (HEQ.out w7).mono ?_
              rintro e w8 ⟨rfl, m8⟩
              have S8 := Lib.hid (S7.out.none_ m8)
              have Y8 := Lib.hid (Y7.out.mod m8 (by simp))
              clear y0 y1 y2 y3 y4 y5 y6
              have y0 := Y8.out.1 0 _ rfl
              have y1 := Y8.out.1 1 _ rfl
              have y2 := Y8.out.1 2 _ rfl
              have y3 := Y8.out.1 3 _ rfl
              have y4 := Y8.out.1 4 _ rfl
              have y5 := Y8.out.1 5 _ rfl
              have y6 := Y8.out.1 6 _ rfl
              clear m8 S7 Y7 Z7 z0 z1 z2 z3 z4 z5 z6 HEQ
              rcases HER.out with rfl | rfl | rfl
              · have HO8 := Lib.hid S8.out.o
                have hn8 : all.length + 1 ≤ 1000 := by omega
                go_upto_region 20 with (fail)
                refine region_app_en (N := 171) (by rfl) (by decide) (by rfl) (by rfl) HO8.out hn8 Y8.out (fun A9 c9 w9 h9 => ?_)
                simp only [En.val, Act.put, List.setIfInBounds_toArray, List.set_cons_zero, List.set_cons_succ]
                obtain ⟨ho9, hg9, hb9⟩ := h9.out
                have S9 := Lib.hid (S8.out.app ho9 hg9 hb9 HRD.out)
                clear ho9 hg9 hb9 h9
                have hL9 : (all ++ [(⟨x0, x1, x2, x3, x4, x5, x6⟩ : En)]).length = all.length + 1 := List.length_append ..
                generalize all ++ [(⟨x0, x1, x2, x3, x4, x5, x6⟩ : En)] = all9 at *
                go_wp2_with fail
                go_meet
                exact ⟨sq3, l3, all9, F3, G3, A9, c9, hq0, hq1, hl3, Nat.le_of_eq hL9, congrArg (fun n => Value.slice A9 n c9) hL9.symm, S9⟩
              · go_wp2_with fail
                go_meet
                exact ⟨sq3, l3, all, F3, G3, A, cA, hq0, hq1, hl3, by omega, rfl, S8⟩
              · go_wp2_with fail
                go_meet
                exact ⟨sq3, l3, all, F3, G3, A, cA, hq0, hq1, hl3, by omega, rfl, S8⟩
          · as_aux_lemma =>
              obtain ⟨le, hle, hsl, hda⟩ := W3.out
              have HS2 := Lib.hid (HS.out.none_ HM2.out)
              have HE : Hid (Calls Try.prog 12 #[.slice a3 len3 cap3, .int .i64 4] w2 (NewE w2 ((le.take 4).map En.cut))) := Lib.hid (by subst hle; exact entries_any a3 le cap3 4 w2 (hsl.below HS2.out.hb) hda (by omega))
              have hms0 : ((le.take 4).map En.cut).length ≤ 4 := by rw [List.length_map, List.length_take]; omega
              have hA2s := HM2.out.size
              clear hle hsl hda HS r1 r2 r3
              generalize (le.take 4).map En.cut = ms0 at *
              go_wp2_with fail
              with_reducible refine HE.out.mono ?_
              rintro e w3 ⟨B0, d0, rfl, ho, hm, hb⟩
              have HD0 := Lib.hid (⟨hm, ho, hb⟩ : Dn w2 w3 B0 ms0 d0)
              clear ho hm hb HE
              go_wp2_with fail
              clear HM2 hA2s
              generalize wr.heap.size = ox at *
              go_loopg [19, 20, 21] 5 (fun m v19 v20 v21 wx => ∃ (k : Nat) (ms : List En) (B : Option Addr) (d : Nat), k ≤ 5 ∧ k ≤ wn ∧ ms.length ≤ 4 + k ∧ v20 = .int .i64 k ∧ v19 = .slice B ms.length d ∧ Hid (Dn w2 wx B ms d) ∧ m + k = 5)
              case atStart => exact ⟨0, ms0, B0, d0, by omega, by omega, by omega, rfl, rfl, HD0, by omega⟩
              case round => as_aux_lemma =>
                obtain ⟨k, ms, B, d, hk5, hkn, hms, rfl, rfl, HD, hmk⟩ := hrel
                have HSx := Lib.hid (HS2.out.none_ HD.out.m)
                have XX := Lib.hid (HX.out.mod HD.out.m (by simp))
                have r4 : wr.cell? ⟨ox, 4, none⟩ = some (.slice wa wn wc) := XX.out.1 4 _ rfl
                by_cases hin : (k < wn ∧ k < 5) ∧ 0 < all.length
                · as_aux_lemma =>
                    obtain ⟨⟨h1, h2⟩, h3⟩ := hin
                    obtain ⟨bz, oz, hwa, hbz, qz, -⟩ := (HZ.out.mod HSx.out.hb).at_ h1
                    obtain ⟨p, hp, e1, e2, e3, e4⟩ := pick_in (z k) all.length h3 (by omega)
                    obtain ⟨ba, oa, hA, hba, q0, q1, q2, q3, q4, q5, q6⟩ := (Sl.of_own HSx.out.o).ent hp
                    have HAA := Lib.hid hA
                    generalize all[p] = y at *
                    have n0 : (0 : Int) ≤ (k : Int) := by omega
                    have n1 : (k : Int) < (wn : Int) := by omega
                    have n2 : (k : Int) < 5 := by omega
                    have n3 : (0 : Int) < (all.length : Int) := by omega
                    have n4 : (0 : Int) ≤ (p : Int) := by omega
                    have n5 : (p : Int) < (all.length : Int) := by omega
                    rw [hwa] at r4
                    rw [hA]
                    clear hwa hA hbz hba
                    go_upto_region 26 with (fail)
                    have YN := Lib.hid (Cells.new wr #[.int .i64 y.fr, .int .i64 y.bo, .int .i64 y.se, .int .i64 y.od, .int .i64 y.lv, .int .i64 y.st, .string y.da] 30)
                    have MN := Lib.hid ((Mod.refl (fun _ => False) wr).alloc (.cells #[.int .i64 y.fr, .int .i64 y.bo, .int .i64 y.se, .int .i64 y.od, .int .i64 y.lv, .int .i64 y.st, .string y.da] 30))
                    have f5 := YN.out.2.1 5
                    clear q0 q1 q2 q3 q4 q5 q6 qz
                    generalize wr.alloc (.cells #[.int .i64 y.fr, .int .i64 y.bo, .int .i64 y.se, .int .i64 y.od, .int .i64 y.lv, .int .i64 y.st, .string y.da] 30) = w4 at *
                    have y5 : w4.cell? ⟨wr.heap.size, 5, none⟩ = some (.int .i64 y.st) := YN.out.1 5 _ rfl
                    go_upto_region 27 with (fail)
                    have Y5 := Lib.hid (YN.out.set_ 5 (.int .i64 99))
                    have M5 := Lib.hid (MN.out.setCell (p := ⟨wr.heap.size, 5, none⟩) (.inr (Nat.le_refl _)) (.int .i64 99))
                    clear f5 YN MN y5
                    generalize w4.setCell ⟨wr.heap.size, 5, none⟩ (.int .i64 99) = w5 at *
                    have HO5 := Lib.hid (HD.out.o.mod M5.out (by simp))
                    have hn5 : ms.length + 1 ≤ 1000 := by omega
                    refine region_app_en (N := 171) (by rfl) (by decide) (by rfl) (by rfl) HO5.out hn5 (x0 := y.fr) (x1 := y.bo) (x2 := y.se) (x3 := y.od) (x4 := y.lv) (x5 := 99) (x6 := y.da) Y5.out (fun B9 d9 w9 h9 => ?_)
                    simp only [En.val, Act.put, List.setIfInBounds_toArray, List.set_cons_zero, List.set_cons_succ]
                    obtain ⟨ho9, hg9, hb9⟩ := h9.out
                    have D9 := Lib.hid (HD.out.app M5.out ho9 hg9 hb9)
                    clear ho9 hg9 hb9 h9
                    have hL9 : (ms ++ [(⟨y.fr, y.bo, y.se, y.od, y.lv, 99, y.da⟩ : En)]).length = ms.length + 1 := List.length_append ..
                    generalize ms ++ [(⟨y.fr, y.bo, y.se, y.od, y.lv, 99, y.da⟩ : En)] = ms9 at *
                    rw [← HAA.out]
                    go_wp2_with fail
                    go_roundg (5 - (k + 1))
                    case measure => omega
                    case rel => exact ⟨k + 1, ms9, B9, d9, by omega, by omega, by omega, by go_num, congrArg (fun n => Value.slice B9 n d9) hL9.symm, D9, by omega⟩
                · have hend : wn ≤ k ∨ (k < wn ∧ 5 ≤ k) ∨ (k < wn ∧ k < 5 ∧ all.length ≤ 0) := by omega
                  have HP := Lib.hid (doneP_any g F a0 a1 sq l B ms d wr HSx.out.p (Sl.of_own HD.out.o) (fun _ q e hF => by have h1 := HD.out.b q e; have h2 := HS2.out.p.lt q hF; omega) (by omega))
                  have HRR := Lib.hid (fun (w3 : World) (p3 : IsP w3 h G a0 a1 sq l) (s3 : Sl w3 7 B ms.length (ecells ms)) => doneR_any h G a0 a1 sq l B ms d w3 p3 s3 (by omega))
                  have hlf : (l.filter fun x => !ms.any fun u => same u x).length ≤ 4 := Nat.le_trans (List.length_filter_le ..) hl4
                  generalize (l.filter fun x => !ms.any fun u => same u x) = lf at *
                  generalize (l.length : Int) - (lf.length : Int) = X at *
                  have hne : ∀ X : Int, (X != X) = false := fun X => by simp
                  have n0 : (0 : Int) ≤ (k : Int) := by omega
                  clear hin
                  rcases hend with c1 | ⟨c1, c2⟩ | ⟨c1, c2, c4⟩
                  all_goals
                    have d1 : True := trivial
                  case' inl => have n1 : (wn : Int) ≤ (k : Int) := by omega
                  case' inr.inl => have n1 : (k : Int) < (wn : Int) := by omega
                  case' inr.inl => have n2 : (5 : Int) ≤ (k : Int) := by omega
                  case' inr.inr => have n1 : (k : Int) < (wn : Int) := by omega
                  case' inr.inr => have n2 : (k : Int) < 5 := by omega
                  case' inr.inr => have n3 : (all.length : Int) ≤ 0 := by omega
                  all_goals as_aux_lemma =>
                    go_wp2_with fail
                    with_reducible refine HP.out.mono ?_
                    rintro e w4 ⟨rfl, p4, m4⟩
                    have S4 := Lib.hid (HSx.out.stepP p4 m4 (fun k h => .inl h))
                    have HR4 := Lib.hid (HRR.out w4 S4.out.r (Sl.of_own (HD.out.o.mod m4 (fun q e hF => by have h1 := HD.out.b q e; have h2 := HS2.out.p.lt q hF; omega))))
                    clear p4 m4 HP HRR HSx XX r4
                    go_wp2_with fail
                    with_reducible refine HR4.out.mono ?_
                    rintro e w5 ⟨rfl, G5, p5, m5, f5⟩
                    have S5 := Lib.hid (S4.out.stepR p5 m5 f5)
                    clear p5 m5 f5 HR4 S4
                    go_wp2_with fail
                    go_meet
                    exact ⟨sq, lf, all, F, G5, A, cA, by omega, by omega, hlf, by omega, rfl, S5⟩
        case rest => as_aux_lemma =>
          obtain ⟨sq3, l3, all3, F3, G3, A3, c3, hq0, hq1, hl3, hal3, rfl, S3⟩ := hcut
          obtain ⟨AR, cR, hCR, hOR, -⟩ := S3.out.r
          have k3 : wc.cell? ⟨h, 3, none⟩ = some (.slice AR l3.length cR) := hCR.1 3 _ rfl
          have HOR := Lib.hid hOR
          have g1 : Hid (∀ W, Mod (fun _ => False) wc W → Calls Try.prog 29 #[.pointer (some ⟨g, 0, none⟩)] W (NewE W l3)) := Lib.hid fun W hW => listP_any g F3 a0 a1 sq3 l3 W (S3.out.p.none_ hW) (by omega)
          have g2 : Hid (∀ (B : Option Addr) (d : Nat) (W : World), Mod (fun _ => False) wc W → Own W 7 B l3.length d (ecells l3) → Calls Try.prog 15 #[.slice B l3.length d, .slice AR l3.length cR] W (Only W (.bool true))) := Lib.hid fun B d W hW ho => by
            have h := eqall_ref B AR l3 l3 d cR W (Sl.of_own ho) (Sl.of_own (HOR.out.mod hW (by simp)))
            rwa [eqAll_self2] at h
          have g3 : Hid (∀ W, Mod (fun _ => False) wc W → Calls Try.prog 30 #[.pointer (some ⟨g, 0, none⟩)] W fun e w' => e = .returned (.int .i64 l3.length) ∧ W = w') := Lib.hid fun W hW => lenP_any g F3 a0 a1 sq3 l3 W (S3.out.p.none_ hW)
          have hD0 : Mod (fun _ => False) wc wc.drew := (Mod.refl _ wc).drew
          have hne : ∀ X : Int, (X != X) = false := fun X => by simp
          clear hCR hOR r0 r1 r2 r3 r4 HX HM2 HS
          go_wp2_with fail
          refine wp_region_held_drew (S := (fun w' => w'.cell? ⟨h, 3, none⟩ = some (.slice AR l3.length cR))) (by kernel_rfl) (by go_keep) (fun hHeld => ?_)
          refine wpAnyH_take (i := 0) (oi := _) (v := ?_) (by simp only [List.getElem?_toArray, List.getElem?_cons_succ, List.getElem?_cons_zero]; rfl) (by kernel_rfl) (by kernel_rfl) (by kernel_rfl) (by intro _ _ _ h; exact h) (Or.inl ⟨by rfl, ?_⟩) (by assumption) ?_
          rotate_left 1
          · (intro w hSw; (try dsimp only at hSw); go_simp; try with_reducible rfl)
          try simp only [Act.put, List.setIfInBounds_toArray, List.set_cons_zero, List.set_cons_succ]
          refine wpAnyH_take (i := 2) (oi := _) (v := ?_) (by simp only [List.getElem?_toArray, List.getElem?_cons_succ, List.getElem?_cons_zero]; rfl) (by kernel_rfl) (by kernel_rfl) (by kernel_rfl) (by intro _ _ _ h; exact h) (Or.inl ⟨by rfl, ?_⟩) (by assumption) ?_
          rotate_left 1
          · (intro w hSw; (try dsimp only at hSw); go_simp; try with_reducible rfl)
          try simp only [Act.put, List.setIfInBounds_toArray, List.set_cons_zero, List.set_cons_succ]
          refine wpAnyH_take (i := 3) (oi := _) (v := ?_) (by simp only [List.getElem?_toArray, List.getElem?_cons_succ, List.getElem?_cons_zero]; rfl) (by kernel_rfl) (by kernel_rfl) (by kernel_rfl) (by intro _ _ _ h; exact h) (Or.inl ⟨by rfl, ?_⟩) (by assumption) ?_
          rotate_left 1
          · (intro w hSw; (try dsimp only at hSw); go_simp; try with_reducible rfl)
          try simp only [Act.put, List.setIfInBounds_toArray, List.set_cons_zero, List.set_cons_succ]
          refine wpAnyH_take (i := 4) (oi := _) (v := ?_) (by simp only [List.getElem?_toArray, List.getElem?_cons_succ, List.getElem?_cons_zero]; rfl) (by kernel_rfl) (by kernel_rfl) (by kernel_rfl) (by intro _ _ _ h; exact h) (Or.inl ⟨by rfl, ?_⟩) (by assumption) ?_
          rotate_left 1
          · (intro w hSw; (try dsimp only at hSw); go_simp; try with_reducible rfl)
          try simp only [Act.put, List.setIfInBounds_toArray, List.set_cons_zero, List.set_cons_succ]
          refine wpAnyH_take (i := 5) (oi := _) (v := ?_) (by simp only [List.getElem?_toArray, List.getElem?_cons_succ, List.getElem?_cons_zero]; rfl) (by kernel_rfl) (by kernel_rfl) (by kernel_rfl) (by intro _ _ _ h; exact h) (Or.inl ⟨by rfl, ?_⟩) (by assumption) ?_
          rotate_left 1
          · (intro w hSw; (try dsimp only at hSw); go_simp; try with_reducible rfl)
          try simp only [Act.put, List.setIfInBounds_toArray, List.set_cons_zero, List.set_cons_succ]
          refine wpAnyH_ready (rs := [1]) (by kernel_rfl) (by simp) ?_
          refine AllReadyH.cons (by simp only [List.getElem?_toArray, List.getElem?_cons_succ, List.getElem?_cons_zero]; rfl) (fun K hK => ?_) AllReadyH.nil
          go_simp
          (go_at_call 29; (with_reducible refine (g1.out _ hD0).mono ?_); rintro e W1 ⟨B, d, rfl, ho, hm, hb⟩; have M1 := Lib.hid (undrew hm); have HO := Lib.hid ho; have k3 := M1.out.cell k3 (by simp); clear ho hm hb)
          refine hK.out _ _ (by go_keep) (fun hHeld => ?_)
          clear hK K
          try simp only [Act.put, List.setIfInBounds_toArray, List.set_cons_zero, List.set_cons_succ]
          refine wpAnyH_ready (rs := [6]) (by kernel_rfl) (by simp) ?_
          refine AllReadyH.cons (by simp only [List.getElem?_toArray, List.getElem?_cons_succ, List.getElem?_cons_zero]; rfl) (fun K hK => ?_) AllReadyH.nil
          go_simp
          (go_at_call 15; (with_reducible refine (g2.out B d _ M1.out HO.out).mono ?_); rintro e W2 ⟨rfl, m2⟩; have M2 := Lib.hid (M1.out.trans m2 (by simp)); have k3 := m2.cell k3 (by simp); clear m2)
          refine hK.out _ _ (by go_keep) (fun hHeld => ?_)
          clear hK K
          try simp only [Act.put, List.setIfInBounds_toArray, List.set_cons_zero, List.set_cons_succ]
          refine wpAnyH_take (i := 7) (oi := _) (v := ?_) (by simp only [List.getElem?_toArray, List.getElem?_cons_succ, List.getElem?_cons_zero]; rfl) (by kernel_rfl) (by kernel_rfl) (by kernel_rfl) (by intro _ _ _ h; exact h) (Or.inl ⟨by rfl, ?_⟩) (by assumption) ?_
          rotate_left 1
          · (intro w hSw; (try dsimp only at hSw); go_simp; try with_reducible rfl)
          try simp only [Act.put, List.setIfInBounds_toArray, List.set_cons_zero, List.set_cons_succ]
          refine wpAnyH_take (i := 8) (oi := _) (v := ?_) (by simp only [List.getElem?_toArray, List.getElem?_cons_succ, List.getElem?_cons_zero]; rfl) (by kernel_rfl) (by kernel_rfl) (by kernel_rfl) (by intro _ _ _ h; exact h) (Or.inl ⟨by rfl, ?_⟩) (by assumption) ?_
          rotate_left 1
          · (intro w hSw; (try dsimp only at hSw); go_simp; try with_reducible rfl)
          try simp only [Act.put, List.setIfInBounds_toArray, List.set_cons_zero, List.set_cons_succ]
          refine wpAnyH_take (i := 9) (oi := _) (v := ?_) (by simp only [List.getElem?_toArray, List.getElem?_cons_succ, List.getElem?_cons_zero]; rfl) (by kernel_rfl) (by kernel_rfl) (by kernel_rfl) (by intro _ _ _ h; exact h) (Or.inl ⟨by rfl, ?_⟩) (by assumption) ?_
          rotate_left 1
          · (intro w hSw; (try dsimp only at hSw); go_simp; try with_reducible rfl)
          try simp only [Act.put, List.setIfInBounds_toArray, List.set_cons_zero, List.set_cons_succ]
          refine wpAnyH_take (i := 11) (oi := _) (v := ?_) (by simp only [List.getElem?_toArray, List.getElem?_cons_succ, List.getElem?_cons_zero]; rfl) (by kernel_rfl) (by kernel_rfl) (by kernel_rfl) (by intro _ _ _ h; exact h) (Or.inl ⟨by rfl, ?_⟩) (by assumption) ?_
          rotate_left 1
          · (intro w hSw; (try dsimp only at hSw); go_simp; try with_reducible rfl)
          try simp only [Act.put, List.setIfInBounds_toArray, List.set_cons_zero, List.set_cons_succ]
          refine wpAnyH_take (i := 12) (oi := _) (v := ?_) (by simp only [List.getElem?_toArray, List.getElem?_cons_succ, List.getElem?_cons_zero]; rfl) (by kernel_rfl) (by kernel_rfl) (by kernel_rfl) (by intro _ _ _ h; exact h) (Or.inl ⟨by rfl, ?_⟩) (by assumption) ?_
          rotate_left 1
          · (intro w hSw; (try dsimp only at hSw); go_simp; try with_reducible rfl)
          try simp only [Act.put, List.setIfInBounds_toArray, List.set_cons_zero, List.set_cons_succ]
          refine wpAnyH_take (i := 13) (oi := _) (v := ?_) (by simp only [List.getElem?_toArray, List.getElem?_cons_succ, List.getElem?_cons_zero]; rfl) (by kernel_rfl) (by kernel_rfl) (by kernel_rfl) (by intro _ _ _ h; exact h) (Or.inl ⟨by rfl, ?_⟩) (by assumption) ?_
          rotate_left 1
          · (intro w hSw; (try dsimp only at hSw); go_simp; try with_reducible rfl)
          try simp only [Act.put, List.setIfInBounds_toArray, List.set_cons_zero, List.set_cons_succ]
          refine wpAnyH_take (i := 14) (oi := _) (v := ?_) (by simp only [List.getElem?_toArray, List.getElem?_cons_succ, List.getElem?_cons_zero]; rfl) (by kernel_rfl) (by kernel_rfl) (by kernel_rfl) (by intro _ _ _ h; exact h) (Or.inl ⟨by rfl, ?_⟩) (by assumption) ?_
          rotate_left 1
          · (intro w hSw; (try dsimp only at hSw); go_simp; try with_reducible rfl)
          try simp only [Act.put, List.setIfInBounds_toArray, List.set_cons_zero, List.set_cons_succ]
          refine wpAnyH_take (i := 15) (oi := _) (v := ?_) (by simp only [List.getElem?_toArray, List.getElem?_cons_succ, List.getElem?_cons_zero]; rfl) (by kernel_rfl) (by kernel_rfl) (by kernel_rfl) (by intro _ _ _ h; exact h) (Or.inl ⟨by rfl, ?_⟩) (by assumption) ?_
          rotate_left 1
          · (intro w hSw; (try dsimp only at hSw); go_simp; try with_reducible rfl)
          try simp only [Act.put, List.setIfInBounds_toArray, List.set_cons_zero, List.set_cons_succ]
          refine wpAnyH_ready (rs := [10]) (by kernel_rfl) (by simp) ?_
          refine AllReadyH.cons (by simp only [List.getElem?_toArray, List.getElem?_cons_succ, List.getElem?_cons_zero]; rfl) (fun K hK => ?_) AllReadyH.nil
          go_simp
          (go_at_call 30; (with_reducible refine (g3.out _ M2.out).mono ?_); rintro e W3 ⟨rfl, rfl⟩)
          refine hK.out _ _ (by go_keep) (fun hHeld => ?_)
          clear hK K
          try simp only [Act.put, List.setIfInBounds_toArray, List.set_cons_zero, List.set_cons_succ]
          refine wpAnyH_take (i := 16) (oi := _) (v := ?_) (by simp only [List.getElem?_toArray, List.getElem?_cons_succ, List.getElem?_cons_zero]; rfl) (by kernel_rfl) (by kernel_rfl) (by kernel_rfl) (by intro _ _ _ h; exact h) (Or.inl ⟨by rfl, ?_⟩) (by assumption) ?_
          rotate_left 1
          · (intro w hSw; (try dsimp only at hSw); go_simp; try with_reducible rfl)
          try simp only [Act.put, List.setIfInBounds_toArray, List.set_cons_zero, List.set_cons_succ]
          refine wpAnyH_take (i := 17) (oi := _) (v := ?_) (by simp only [List.getElem?_toArray, List.getElem?_cons_succ, List.getElem?_cons_zero]; rfl) (by kernel_rfl) (by kernel_rfl) (by kernel_rfl) (by intro _ _ _ h; exact h) (Or.inl ⟨by rfl, ?_⟩) (by assumption) ?_
          rotate_left 1
          · (intro w hSw; (try dsimp only at hSw); go_simp; try with_reducible rfl)
          try simp only [Act.put, List.setIfInBounds_toArray, List.set_cons_zero, List.set_cons_succ]
          refine wpAnyH_done (by kernel_rfl) ?_ _
          have S9 := Lib.hid (S3.out.none_ M2.out)
          clear g1 g2 g3 k3 M1 M2 HO HOR hD0
          rw [← HA2.out]
          go_wp2_with fail
          go_roundg (40 - (i + 1))
          case measure => omega
          case rel => exact ⟨i + 1, sq3, l3, all3, F3, G3, A3, c3, by omega, by omega, hq0, by omega, hl3, by omega, by go_num, rfl, S9, by omega⟩
      · have hend : len2 ≤ i ∨ (i < len2 ∧ 40 ≤ i) := by omega
        have HB5 := Lib.hid HS.out.hb
        clear hin HS
        rcases hend with hend | ⟨hend, hend2⟩
        all_goals
          go_wp2_with fail
          go_ret
          exact ⟨rfl, HB5.out⟩
  · have hkn : a0 < 1 ∨ (1 ≤ a0 ∧ 7 < a0) ∨ (1 ≤ a0 ∧ a0 ≤ 7 ∧ a1 < 1) ∨ (1 ≤ a0 ∧ a0 ≤ 7 ∧ 1 ≤ a1 ∧ 1099511627776 < a1) := by omega
    clear hk
    rcases hkn with e1 | ⟨e1, e2⟩ | ⟨e1, e2, e3⟩ | ⟨e1, e2, e3, e4⟩
    all_goals
      go_wp2_with fail
      refine (newP_bad a0 a1 wb (by omega)).mono ?_
      rintro e wp ⟨rfl, rfl⟩
      go_wp2_with fail
      go_ret
      exact ⟨rfl, HB.out⟩
/-! ### the row's step -/
theorem own : ownKnob Try.prog.godebug = none := by kernel_rfl
theorem laidOut : laidOutB Try.prog = true := by kernel_rfl
set_option maxRecDepth 100000 in
theorem lifted (os : Os) (started : os.Started) (H : Type) (enc : TypeId × Value → H) :
    ReturnsInHanded {} Try.checked os 7 .any (Rows.pendingAllSpec.pre6 enc Try.prog Try.f7 Rows.pendingAllRow.domain false) (Rows.pendingAllSpec.post enc Try.prog Try.f7 false true false false) := by
  refine returnsInHanded_of_change (C := Try.checked) own started (by kernel_rfl) Try.func7
    (ChangeSpec.witness6 (enc := enc) (C := Try.checked) false ⟨#[], #[.int .i64 0, .int .i64 0, .slice none 0 0, .slice none 0 0], []⟩ 8 (by kernel_rfl) (by kernel_rfl) (by kernel_rfl) (by kernel_rfl)) ?_
  intro W base args ds gs before hval0 hW hcnd _
  have hval : ∀ (j : Nat) t v, Try.f7.params[j]? = some t → args[j]? = some v → Value.okWide Try.prog W .any base t v := hval0
  have hW' := hW
  obtain ⟨p, q, hA0, hV, rfl, hfz, hnd⟩ := hW
  have hA : DataW.TrodAll enc Try.prog W 0 (fun _ => true) true Try.f7.params.toList args.toList ds p := hA0
  rw [Try.params7] at hA hval
  obtain ⟨v0, vs0, d0, ds0, p0, q0, hargs, rfl, rfl, h0, r0⟩ := trodAll_cons hA
  obtain ⟨v1, vs1, d1, ds1, p1, q1, rfl, rfl, rfl, h1, r1⟩ := trodAll_cons r0
  obtain ⟨v2, vs2, d2, ds2, p2, q2, rfl, rfl, rfl, h2, r2⟩ := trodAll_cons r1
  obtain ⟨v3, vs3, d3, ds3, p3, q3, rfl, rfl, rfl, h3, r3⟩ := trodAll_cons r2
  obtain ⟨rfl, rfl, rfl⟩ := trodAll_nil r3
  obtain rfl : args = #[v0, v1, v2, v3] := by cases args; simp_all
  obtain ⟨rfl, rfl⟩ := trodVars_none hV
  have k0 := h0
  have lt0 : ∀ x ∈ p0, x.block < W.heap.size := by obtain ⟨m, hm⟩ := k0; exact DataW.trod_lt m _ _ _ hm
  have k1 := h1
  have lt1 : ∀ x ∈ p1, x.block < W.heap.size := by obtain ⟨m, hm⟩ := k1; exact DataW.trod_lt m _ _ _ hm
  have k2 := h2
  have lt2 : ∀ x ∈ p2, x.block < W.heap.size := by obtain ⟨m, hm⟩ := k2; exact DataW.trod_lt m _ _ _ hm
  have k3 := h3
  have lt3 : ∀ x ∈ p3, x.block < W.heap.size := by obtain ⟨m, hm⟩ := k3; exact DataW.trod_lt m _ _ _ hm
  obtain ⟨a0, rfl, rfl, rfl, w0⟩ := open_int Try.underlying3 (hval 0 3 v0 rfl rfl) h0
  obtain ⟨a1, rfl, rfl, rfl, w1⟩ := open_int Try.underlying2 (hval 1 2 v1 rfl rfl) h1
  obtain ⟨a2, len2, cap2, rfl⟩ := okWide_slice Try.underlying42 (hval 2 42 v2 rfl rfl)
  have w2 : OpRow W a2 len2 cap2 := OpRow.open_ h2
  obtain ⟨a3, len3, cap3, rfl⟩ := okWide_slice Try.underlying23 (hval 3 23 v3 rfl rfl)
  have w3 : EntryRow W a3 len3 cap3 := EntryRow.open_ h3
  clear hA0 hval0
  refine (walk a0 a1 a2 len2 cap2 a3 len3 cap3 W w0 w1 w2 w3).mono fun e W' ⟨he, bel⟩ => ?_
  subst he
  exact ⟨_, rfl, _, _, _, [], _, [], hW', trodAll_mk1 (shut_bool Try.underlying4 _), (trodAll_cons_mk (Below.trod laidOut (by kernel_rfl) (of_decide_eq_true (by kernel_rfl)) k0 bel lt0) (trodAll_cons_mk (Below.trod laidOut (by kernel_rfl) (of_decide_eq_true (by kernel_rfl)) k1 bel lt1) (trodAll_cons_mk (Below.trod laidOut (by kernel_rfl) (of_decide_eq_true (by kernel_rfl)) k2 bel lt2) (trodAll_cons_mk (Below.trod laidOut (by kernel_rfl) (of_decide_eq_true (by kernel_rfl)) k3 bel lt3) trodAll_mk0)))), rfl, bel.frame _, fun h => by cases h⟩

theorem over : Rows.pendingAllRow.holds Try.pinned (OpenSpec.ofChange Rows.pendingAllSpec) :=
  OpenClaim.holds_of_wide 7 Try.f7 rfl rfl rfl rfl rfl rfl rfl ⟨rfl, rfl, rfl, rfl, rfl⟩ rfl rfl rfl rfl rfl (by kernel_rfl) Try.func7 (by kernel_rfl)
    (of_decide_eq_true (by kernel_rfl)) (by unfold Func.isWrapper; first | (rw [if_pos (by decide +kernel)]; kernel_rfl) | (rw [if_neg (by decide +kernel)]; exact ⟨rfl, rfl⟩))
    (fun os started H enc _ => lifted os started H enc)

theorem proved : Rows.PendingAllSaid := over
#print axioms proved
end Go.Proofs.Ytbladkopbkkamaa.pendingAll
