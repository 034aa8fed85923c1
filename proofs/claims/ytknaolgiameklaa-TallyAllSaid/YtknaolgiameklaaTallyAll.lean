/- Proved: curfewlaw5.TallyAll answers true for every slice of numbers, and leaves it as it was. No condition. -/
import Derived.Test.YtknaolgiameklaaTally
namespace Go.Proofs.Ytknaolgiameklaa.tallyAll
open Go.ChangeShapes Go.WideShapes Go.ChangeAt Go.RowKit
set_option linter.unusedVariables false

theorem sum16_bd {c : Nat → Int} {k : Nat} (h : ∀ j, j < 16 → 0 ≤ c j ∧ c j ≤ k) (hk : k ≤ 100) : 0 ≤ sumTo c 16 ∧ sumTo c 16 ≤ 1600 := by
  have := sumTo_bd (c := c) (b := 100) 16 fun j hj => ⟨(h j hj).1, by have := (h j hj).2; omega⟩
  omega

/-- what stands at the loop's head: the tally (block g) and the law's own counts (block h) read alike -/
def Rel (W : World) (g h : Nat) (len : Nat) (s i : Value) (wr : World) : Prop :=
  ∃ (k : Nat) (c : Nat → Int), k ≤ len ∧ k ≤ 100 ∧ i = .int .i64 k ∧ s = .int .i64 (sumTo c 16) ∧ Tal wr g c ∧ Tal wr h c ∧ (∀ j, j < 16 → 0 ≤ c j ∧ c j ≤ k) ∧ Below W.heap.size W wr

theorem rel_start (W wb : World) (hb : Below W.heap.size W wb) (t u : TypeId) (len : Nat) :
    Rel W wb.heap.size (wb.heap.size + 1) len (.int .i64 0) (.int .i64 0) ((wb.alloc (.cells #[.int .i64 0, .int .i64 0, .int .i64 0, .int .i64 0, .int .i64 0, .int .i64 0, .int .i64 0, .int .i64 0, .int .i64 0, .int .i64 0, .int .i64 0, .int .i64 0, .int .i64 0, .int .i64 0, .int .i64 0, .int .i64 0] t)).alloc
      (.cells #[.int .i64 0, .int .i64 0, .int .i64 0, .int .i64 0, .int .i64 0, .int .i64 0, .int .i64 0, .int .i64 0, .int .i64 0, .int .i64 0, .int .i64 0, .int .i64 0, .int .i64 0, .int .i64 0, .int .i64 0, .int .i64 0] u)) := by
  refine ⟨0, fun _ => 0, by omega, by omega, rfl, rfl, ?_, ?_, by simp, (hb.alloc hb.size _).alloc (by have := hb.size; simp; omega) _⟩
  · exact (tal_new wb t).of_block (Below.heap_alloc _ _ _ (by simp))
  · have := tal_new (wb.alloc (.cells #[.int .i64 0, .int .i64 0, .int .i64 0, .int .i64 0, .int .i64 0, .int .i64 0, .int .i64 0, .int .i64 0, .int .i64 0, .int .i64 0, .int .i64 0, .int .i64 0, .int .i64 0, .int .i64 0, .int .i64 0, .int .i64 0] t)) u
    simpa using this

theorem wiped {w : World} {h : Nat} {c : Nat → Int} (hU : Tal w h c) : Tal (((((((((((((((((w).setCell ⟨h, 0, none⟩ (.int .i64 0)).setCell ⟨h, 1, none⟩ (.int .i64 0)).setCell ⟨h, 2, none⟩ (.int .i64 0)).setCell ⟨h, 3, none⟩ (.int .i64 0)).setCell ⟨h, 4, none⟩ (.int .i64 0)).setCell ⟨h, 5, none⟩ (.int .i64 0)).setCell ⟨h, 6, none⟩ (.int .i64 0)).setCell ⟨h, 7, none⟩ (.int .i64 0)).setCell ⟨h, 8, none⟩ (.int .i64 0)).setCell ⟨h, 9, none⟩ (.int .i64 0)).setCell ⟨h, 10, none⟩ (.int .i64 0)).setCell ⟨h, 11, none⟩ (.int .i64 0)).setCell ⟨h, 12, none⟩ (.int .i64 0)).setCell ⟨h, 13, none⟩ (.int .i64 0)).setCell ⟨h, 14, none⟩ (.int .i64 0)).setCell ⟨h, 15, none⟩ (.int .i64 0)) h (fun _ => 0) := by
  refine Tal.ext (c := upd (upd (upd (upd (upd (upd (upd (upd (upd (upd (upd (upd (upd (upd (upd (upd (c) 0 0) 1 0) 2 0) 3 0) 4 0) 5 0) 6 0) 7 0) 8 0) 9 0) 10 0) 11 0) 12 0) 13 0) 14 0) 15 0) ?_ ?_
  · exact (Tal.set (Tal.set (Tal.set (Tal.set (Tal.set (Tal.set (Tal.set (Tal.set (Tal.set (Tal.set (Tal.set (Tal.set (Tal.set (Tal.set (Tal.set (Tal.set hU (k := 0) (by omega) 0) (k := 1) (by omega) 0) (k := 2) (by omega) 0) (k := 3) (by omega) 0) (k := 4) (by omega) 0) (k := 5) (by omega) 0) (k := 6) (by omega) 0) (k := 7) (by omega) 0) (k := 8) (by omega) 0) (k := 9) (by omega) 0) (k := 10) (by omega) 0) (k := 11) (by omega) 0) (k := 12) (by omega) 0) (k := 13) (by omega) 0) (k := 14) (by omega) 0) (k := 15) (by omega) 0)
  · intro j hj
    match j, hj with
    | 0, _ | 1, _ | 2, _ | 3, _ | 4, _ | 5, _ | 6, _ | 7, _ | 8, _ | 9, _ | 10, _ | 11, _ | 12, _ | 13, _ | 14, _ | 15, _ => rfl
    | n + 16, hj => exact absurd hj (by omega)
theorem wiped_other {w : World} {h g : Nat} (hne : g ≠ h) : (((((((((((((((((w).setCell ⟨h, 0, none⟩ (.int .i64 0)).setCell ⟨h, 1, none⟩ (.int .i64 0)).setCell ⟨h, 2, none⟩ (.int .i64 0)).setCell ⟨h, 3, none⟩ (.int .i64 0)).setCell ⟨h, 4, none⟩ (.int .i64 0)).setCell ⟨h, 5, none⟩ (.int .i64 0)).setCell ⟨h, 6, none⟩ (.int .i64 0)).setCell ⟨h, 7, none⟩ (.int .i64 0)).setCell ⟨h, 8, none⟩ (.int .i64 0)).setCell ⟨h, 9, none⟩ (.int .i64 0)).setCell ⟨h, 10, none⟩ (.int .i64 0)).setCell ⟨h, 11, none⟩ (.int .i64 0)).setCell ⟨h, 12, none⟩ (.int .i64 0)).setCell ⟨h, 13, none⟩ (.int .i64 0)).setCell ⟨h, 14, none⟩ (.int .i64 0)).setCell ⟨h, 15, none⟩ (.int .i64 0)).heap[g]? = w.heap[g]? := by
  repeat rw [Below.heap_setCell _ _ _ _ hne]
theorem wiped_below {W w : World} {h : Nat} (hb : Below W.heap.size W w) (hh : W.heap.size ≤ h) : Below W.heap.size W (((((((((((((((((w).setCell ⟨h, 0, none⟩ (.int .i64 0)).setCell ⟨h, 1, none⟩ (.int .i64 0)).setCell ⟨h, 2, none⟩ (.int .i64 0)).setCell ⟨h, 3, none⟩ (.int .i64 0)).setCell ⟨h, 4, none⟩ (.int .i64 0)).setCell ⟨h, 5, none⟩ (.int .i64 0)).setCell ⟨h, 6, none⟩ (.int .i64 0)).setCell ⟨h, 7, none⟩ (.int .i64 0)).setCell ⟨h, 8, none⟩ (.int .i64 0)).setCell ⟨h, 9, none⟩ (.int .i64 0)).setCell ⟨h, 10, none⟩ (.int .i64 0)).setCell ⟨h, 11, none⟩ (.int .i64 0)).setCell ⟨h, 12, none⟩ (.int .i64 0)).setCell ⟨h, 13, none⟩ (.int .i64 0)).setCell ⟨h, 14, none⟩ (.int .i64 0)).setCell ⟨h, 15, none⟩ (.int .i64 0)) := by
  repeat (refine Below.setCell ?_ hh _)
  exact hb

set_option maxHeartbeats 1600000 in
theorem walk (a0 : Option Addr) (len0 cap0 : Nat) (z0 : Nat → Int) (w : World) (w0 : IntsAt .i64 w a0 len0 z0) :
    Calls Try.prog 4 #[.slice a0 len0 cap0] w fun e w' => e = .returned (.bool true) ∧ Below w.heap.size w w' := by
  have hm0 := w0.1
  unfold maxLen at hm0
  have W0 := Lib.hid w0
  clear w0
  go_enter Try.func4, Try.ntmps4
  go_wp2_with fail
  refine (begun_any _).mono ?_
  rintro e wb ⟨rfl, hb1⟩
  have hst := Lib.hid (rel_start w wb hb1 31 32 len0)
  have hsz := hb1.size
  clear hb1
  go_wp2_with fail
  go_loopw [6, 7] (fun s i wr => Rel w wb.heap.size (wb.heap.size + 1) len0 s i wr) (fun _ i _ => len0 - (intOf i).toNat)
  case atStart => exact hst.out
  case round =>
    obtain ⟨k, c, hk, hk100, rfl, rfl, hT, hU, hc, hB⟩ := hrel
    clear hst
    by_cases hin : k < len0 ∧ k < 100
    · obtain ⟨hlt, h100⟩ := hin
      obtain ⟨b, o, rfl, hbl, hcell, hwf⟩ := (W0.out.below hB (Nat.le_refl _)).at_ hlt
      obtain ⟨s0, s1⟩ := sum16_bd hc hk100
      have zb := i64_bd hwf
      have HC := Lib.hid hc
      have HT := Lib.hid hT
      have HU := Lib.hid hU
      have HB := Lib.hid hB
      have hc1000 := Lib.hid (show ∀ j, j < 16 → 0 ≤ c j ∧ c j ≤ 1000 from fun j hj => ⟨(hc j hj).1, by have := (hc j hj).2; omega⟩)
      clear hwf hc hT hU hB
      generalize z0 k = x at *
      by_cases x9 : x = -9
      · subst x9
        go_wp2_with fail
        refine (reset_eq _ _ c (sumTo c 16) HT.out hc1000.out rfl).mono ?_
        rintro e w2 ⟨rfl, hT2, hg2⟩
        have hU2 := Lib.hid (HU.out.of_block (hg2.block _ HU.out.lt (by simp)))
        have hB2 := Lib.hid (HB.out.grown hg2 HB.out.size (by rintro q ⟨⟩; exact hsz))
        have f0 := hU2.out.1 0 (by omega)
        have zz0 := hU2.out.2 0
        have f1 := hU2.out.1 1 (by omega)
        have z1 := hU2.out.2 1
        have f2 := hU2.out.1 2 (by omega)
        have z2 := hU2.out.2 2
        have f3 := hU2.out.1 3 (by omega)
        have z3 := hU2.out.2 3
        have f4 := hU2.out.1 4 (by omega)
        have z4 := hU2.out.2 4
        have f5 := hU2.out.1 5 (by omega)
        have z5 := hU2.out.2 5
        have f6 := hU2.out.1 6 (by omega)
        have z6 := hU2.out.2 6
        have f7 := hU2.out.1 7 (by omega)
        have z7 := hU2.out.2 7
        have f8 := hU2.out.1 8 (by omega)
        have z8 := hU2.out.2 8
        have f9 := hU2.out.1 9 (by omega)
        have z9 := hU2.out.2 9
        have f10 := hU2.out.1 10 (by omega)
        have z10 := hU2.out.2 10
        have f11 := hU2.out.1 11 (by omega)
        have z11 := hU2.out.2 11
        have f12 := hU2.out.1 12 (by omega)
        have z12 := hU2.out.2 12
        have f13 := hU2.out.1 13 (by omega)
        have z13 := hU2.out.2 13
        have f14 := hU2.out.1 14 (by omega)
        have z14 := hU2.out.2 14
        have f15 := hU2.out.1 15 (by omega)
        have z15 := hU2.out.2 15
        have hT3 := Lib.hid (hT2.of_block (wiped_other (w := w2) (h := wb.heap.size + 1) (g := wb.heap.size) (by omega)))
        have hU3 := Lib.hid (wiped hU2.out)
        have hB3 := Lib.hid (wiped_below (h := wb.heap.size + 1) hB2.out (by omega))
        clear hT2 hg2
        go_wp2_with fail
        clear f0 zz0 f1 z1 f2 z2 f3 z3 f4 z4 f5 z5 f6 z6 f7 z7 f8 z8 f9 z9 f10 z10 f11 z11 f12 z12 f13 z13 f14 z14 f15 z15
        go_roundw
        case rel => exact ⟨k + 1, fun _ => 0, by omega, by omega, by go_num, rfl, hT3.out, hU3.out, fun j _ => ⟨Int.le_refl 0, by simp; omega⟩, hB3.out⟩
        case measure => simp [intOf]; omega
      · have e9 : (x == -9) = false := by simp [x9]
        clear x9
        by_cases x0 : x < 0
        · go_wp2_with fail
          refine (add_low _ _ _ x0).mono ?_
          rintro e w' ⟨rfl, rfl⟩
          go_wp2_with fail
          refine (get_low _ _ _ x0).mono ?_
          rintro e w' ⟨rfl, rfl⟩
          go_wp2_with fail
          refine (sum_eq _ _ c (sumTo c 16) HT.out hc1000.out rfl).mono ?_
          rintro e w' ⟨rfl, rfl⟩
          go_wp2_with fail
          go_roundw
          case rel => exact ⟨k + 1, c, by omega, by omega, by go_num, rfl, HT.out, HU.out, fun j hj => ⟨(HC.out j hj).1, by have := (HC.out j hj).2; omega⟩, HB.out⟩
          case measure => simp [intOf]; omega
        · by_cases x16 : x < 16
          · have hcx := HU.out.1 x.toNat (by omega)
            have hfx := HU.out.2 x.toNat
            obtain ⟨cx0, cx1⟩ := HC.out x.toNat (by omega)
            have hs := Lib.hid (sumTo_upd c x.toNat (c x.toNat + 1) 16 (by omega))
            generalize hS : sumTo c 16 = S at *
            have HS := Lib.hid hS
            generalize hy : c x.toNat = y at *
            have HY := Lib.hid hy
            clear hS hy
            have hT1 := Lib.hid (HT.out.of_block (w' := wr.setCell ⟨wb.heap.size + 1, x.toNat, none⟩ (.int .i64 (y + 1))) (Below.heap_setCell _ _ _ _ (by simp)))
            have hU1 := Lib.hid (HU.out.set (k := x.toNat) (by omega) (y + 1))
            have hB1 := Lib.hid (HB.out.setCell (p := ⟨wb.heap.size + 1, x.toNat, none⟩) (by show w.heap.size ≤ wb.heap.size + 1; omega) (.int .i64 (y + 1)))
            go_wp2_with fail
            refine (add_eq _ _ _ c (y + 1) hT1.out (by omega) x16 (by rw [HY.out]) (by rw [HY.out]; omega)).mono ?_
            rintro e w2 ⟨rfl, h2, g2⟩
            have hU2 := Lib.hid (hU1.out.of_block (g2.block _ hU1.out.lt (by simp)))
            have hB2 := Lib.hid (hB1.out.grown g2 hB1.out.size (by rintro q ⟨⟩; exact hsz))
            have H2 := Lib.hid h2
            have hb2 := Lib.hid (show ∀ j, j < 16 → 0 ≤ upd c x.toNat (y + 1) j ∧ upd c x.toNat (y + 1) j ≤ (k + 1 : Nat) from fun j hj => by
              have h1 := HC.out j hj
              unfold upd
              split <;> omega)
            have hb3 := Lib.hid (show ∀ j, j < 16 → 0 ≤ upd c x.toNat (y + 1) j ∧ upd c x.toNat (y + 1) j ≤ 1000 from fun j hj => ⟨(hb2.out j hj).1, by have := (hb2.out j hj).2; omega⟩)
            have hs2 := Lib.hid (show sumTo (upd c x.toNat (y + 1)) 16 = S + 1 by rw [hs.out]; omega)
            clear h2 g2 hs
            go_wp2_with fail
            refine (get_eq _ _ _ _ (y + 1) H2.out (by omega) x16 (upd_at _ _ _)).mono ?_
            rintro e w' ⟨rfl, rfl⟩
            go_wp2_with fail
            refine (sum_eq _ _ _ (S + 1) H2.out hb3.out hs2.out).mono ?_
            rintro e w' ⟨rfl, rfl⟩
            go_wp2_with fail
            go_roundw
            case rel => exact ⟨k + 1, _, by omega, by omega, by go_num, by rw [hs2.out], H2.out, hU2.out, hb2.out, hB2.out⟩
            case measure => simp [intOf]; omega
          · go_wp2_with fail
            refine (add_high _ _ _ (by omega)).mono ?_
            rintro e w' ⟨rfl, rfl⟩
            go_wp2_with fail
            refine (get_high _ _ _ (by omega)).mono ?_
            rintro e w' ⟨rfl, rfl⟩
            go_wp2_with fail
            refine (sum_eq _ _ c (sumTo c 16) HT.out hc1000.out rfl).mono ?_
            rintro e w' ⟨rfl, rfl⟩
            go_wp2_with fail
            go_roundw
            case rel => exact ⟨k + 1, c, by omega, by omega, by go_num, rfl, HT.out, HU.out, fun j hj => ⟨(HC.out j hj).1, by have := (HC.out j hj).2; omega⟩, HB.out⟩
            case measure => simp [intOf]; omega
    · have hout : (k < len0 ∧ 100 ≤ k) ∨ len0 ≤ k := by omega
      clear hin
      have HT := Lib.hid hT
      have HU := Lib.hid hU
      have HB := Lib.hid hB
      clear hc hT hU hB
      rcases hout with ⟨hlt, hx⟩ | hlt
      all_goals
        go_wp2_with fail
        go_loopw [10] (fun i wr => ∃ q : Nat, q ≤ 16 ∧ i = .int .i64 q ∧ Tal wr wb.heap.size c ∧ Tal wr (wb.heap.size + 1) c ∧ Below w.heap.size w wr) (fun i _ => 16 - (intOf i).toNat)
        case atStart => exact ⟨0, by omega, rfl, HT.out, HU.out, HB.out⟩
        case round =>
          obtain ⟨q, hq, rfl, hT, hU, hB⟩ := hrel
          clear HT HU HB
          by_cases hq16 : q < 16
          · have hcq := hU.1 q hq16
            have HT := Lib.hid hT
            have HU := Lib.hid hU
            have HB := Lib.hid hB
            clear hT hU hB
            have hcont : ∀ n : Nat, Calls Try.prog 11 #[.pointer (some ⟨wb.heap.size, 0, none⟩), .int .i64 (q : Int)] (wr.drewN n) fun e w' => e = .returned (.int .i64 (c q)) ∧ w' = wr.drewN n := fun n =>
              (get_eq wb.heap.size (q : Int) (wr.drewN n) c (c q) HT.out (by omega) (by omega) (by rw [Int.toNat_natCast])).mono fun _ _ ⟨h1, h2⟩ => ⟨h1, h2.symm⟩
            have HC := Lib.hid hcont
            clear hcont
            have hq0 : (0 : Int) ≤ (q : Int) := by omega
            go_wp2_with fail
            go_quiet ((go_at_call 11; exact Calls.quiet_of_same (HC.out _)))
            go_wp2_with fail
            go_roundw
            case rel => exact ⟨q + 1, by omega, by go_num, HT.out, HU.out, below_drewN HB.out _⟩
            case measure => simp [intOf]; omega
          · have HT := Lib.hid hT
            have HU := Lib.hid hU
            have HB := Lib.hid hB
            clear hT hU hB
            go_wp2_with fail
            refine (get_low _ _ _ (by omega)).mono ?_
            rintro e w' ⟨rfl, rfl⟩
            go_wp2_with fail
            refine (get_high _ _ _ (by omega)).mono ?_
            rintro e w' ⟨rfl, rfl⟩
            go_wp2_with fail
            go_ret
            exact ⟨rfl, HB.out⟩
/-! ### the row's step -/
theorem own : ownKnob Try.prog.godebug = none := by kernel_rfl
theorem laidOut : laidOutB Try.prog = true := by kernel_rfl
set_option maxRecDepth 100000 in
theorem lifted (os : Os) (started : os.Started) (H : Type) (enc : TypeId × Value → H) :
    ReturnsInHanded {} Try.checked os 4 .any (Rows.tallyAllSpec.pre6 enc Try.prog Try.f4 Rows.tallyAllRow.domain false) (Rows.tallyAllSpec.post enc Try.prog Try.f4 false true false false) := by
  refine returnsInHanded_of_change (C := Try.checked) own started (by kernel_rfl) Try.func4
    (ChangeSpec.witness6 (enc := enc) (C := Try.checked) false ⟨#[], #[.slice none 0 0], []⟩ 8 (by kernel_rfl) (by kernel_rfl) (by kernel_rfl) (by kernel_rfl)) ?_
  intro W base args ds gs before hval0 hW hcnd _
  have hval : ∀ (j : Nat) t v, Try.f4.params[j]? = some t → args[j]? = some v → Value.okWide Try.prog W .any base t v := hval0
  have hW' := hW
  obtain ⟨p, q, hA0, hV, rfl, hfz, hnd⟩ := hW
  have hA : DataW.TrodAll enc Try.prog W 0 (fun _ => true) true Try.f4.params.toList args.toList ds p := hA0
  rw [Try.params4] at hA hval
  obtain ⟨v0, vs0, d0, ds0, p0, q0, hargs, rfl, rfl, h0, r0⟩ := trodAll_cons hA
  obtain ⟨rfl, rfl, rfl⟩ := trodAll_nil r0
  obtain rfl : args = #[v0] := by cases args; simp_all
  obtain ⟨rfl, rfl⟩ := trodVars_none hV
  have k0 := h0
  have lt0 : ∀ x ∈ p0, x.block < W.heap.size := by obtain ⟨m, hm⟩ := k0; exact DataW.trod_lt m _ _ _ hm
  obtain ⟨a0, len0, cap0, rfl⟩ := okWide_slice Try.underlying22 (hval 0 22 v0 rfl rfl)
  obtain ⟨z0, w0⟩ := IntsAt.open_ Try.underlying22 Try.underlying3 (by kernel_rfl) h0
  clear hA0 hval0
  refine (walk a0 len0 cap0 z0 W w0).mono fun e W' ⟨he, bel⟩ => ?_
  subst he
  exact ⟨_, rfl, _, _, _, [], _, [], hW', trodAll_mk1 (shut_bool Try.underlying4 _), (trodAll_cons_mk (Below.trod laidOut (by kernel_rfl) (of_decide_eq_true (by kernel_rfl)) k0 bel lt0) trodAll_mk0), rfl, bel.frame _, fun h => by cases h⟩

theorem over : Rows.tallyAllRow.holds Try.pinned (OpenSpec.ofChange Rows.tallyAllSpec) :=
  OpenClaim.holds_of_wide 4 Try.f4 rfl rfl rfl rfl rfl rfl rfl ⟨rfl, rfl, rfl, rfl, rfl⟩ rfl rfl rfl rfl rfl (by kernel_rfl) Try.func4 (by kernel_rfl)
    (of_decide_eq_true (by kernel_rfl)) (by unfold Func.isWrapper; first | (rw [if_pos (by decide +kernel)]; kernel_rfl) | (rw [if_neg (by decide +kernel)]; exact ⟨rfl, rfl⟩))
    (fun os started H enc _ => lifted os started H enc)

theorem proved : Rows.TallyAllSaid := over
#print axioms proved
end Go.Proofs.Ytknaolgiameklaa.tallyAll
