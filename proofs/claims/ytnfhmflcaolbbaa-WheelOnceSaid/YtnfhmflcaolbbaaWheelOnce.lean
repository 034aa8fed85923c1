/- Proved: curfewlaw7.WheelOnce answers true for every list of times and of steps. No condition. -/
import Derived.Test.YtnfhmflcaolbbaaWheelPl
import Derived.OwnWalk
namespace Go.Proofs.Ytnfhmflcaolbbaa.wheelOnce
open Go.ChangeShapes Go.WideShapes Go.ChangeAt Go.RowKit
set_option linter.unusedVariables false
set_option linter.unusedSimpArgs false
attribute [local go_sem ↓] Go.wp_at_zero Go.wp_at_succ

theorem and_mask (c : Int) (m : Nat) (hm : m < 9223372036854775808) : ∃ t : Nat, t ≤ m ∧ bits .and .i64 c (m : Int) = (t : Int) := by
  have h2 : (BitVec.ofInt 64 (m : Int)).toNat = m := by
    rw [BitVec.ofInt_natCast, BitVec.toNat_ofNat]; exact Nat.mod_eq_of_lt (by omega)
  have hle : (BitVec.ofInt 64 c).toNat &&& m ≤ m := Nat.and_le_right
  refine ⟨(BitVec.ofInt 64 c).toNat &&& m, hle, ?_⟩
  show IntKind.i64.wrap ((BitVec.ofInt 64 c &&& BitVec.ofInt 64 (m : Int)).toNat : Int) = _
  rw [BitVec.toNat_and, h2]
  generalize (BitVec.ofInt 64 c).toNat &&& m = t at *
  have e : ((t : Int)) % 2 ^ 64 = t := by omega
  simp only [IntKind.wrap, IntKind.bits, IntKind.signed, e]
  rw [if_neg (by simp; omega)]
theorem masks (z : Nat → Int) : ∃ T : Nat → Nat, ∀ i, T i ≤ 1023 ∧ bits .and .i64 (z i) 1023 = (T i : Int) := by
  refine ⟨fun i => (bits .and .i64 (z i) 1023).toNat, fun i => ?_⟩
  obtain ⟨t, h1, h2⟩ := and_mask (z i) 1023 (by omega)
  have e : bits .and .i64 (z i) 1023 = (t : Int) := h2
  show (bits .and .i64 (z i) 1023).toNat ≤ 1023 ∧ bits .and .i64 (z i) 1023 = ((bits .and .i64 (z i) 1023).toNat : Int)
  rw [e]
  exact ⟨by omega, by omega⟩
def bc (l : List Bool) : List Value := l.map Value.bool
theorem Own.set_ {w : World} {size g o n c : Nat} {xs : List Value} (h : Own w size (some ⟨g, o, none⟩) n c xs) {j : Nat} (hj : j < n * size) (u : Value) : Own (w.setCell ⟨g, o + j, none⟩ u) size (some ⟨g, o, none⟩) n c (xs.set j u) := by
  obtain ⟨h1, h2, h3, h4⟩ := h
  rcases h4 with ⟨h5, _⟩ | ⟨g', o', e, hl, hr, hx⟩
  · cases h5
  · injection e with e
    injection e with e1 e2
    subst e1 e2
    have hle : n * size ≤ c * size := Nat.mul_le_mul_right _ h2
    refine ⟨by rw [List.length_set]; exact h1, h2, h3, .inr ⟨g, o, rfl, by simp [World.setCell]; exact hl, fun i hi => ⟨?_, by rw [World.frozen?_setCell]; exact (hr i hi).2⟩, fun i v hv => ?_⟩⟩
    · by_cases e : i = j
      · subst e
        obtain ⟨y, hy⟩ := Option.isSome_iff_exists.1 (hr i hi).1
        rw [World.cell?_setCell_same (h := hy)]; rfl
      · rw [World.cell?_setCell_other _ _ _ _ (by intro h; injection h with _ h; omega)]
        exact (hr i hi).1
    · by_cases e : i = j
      · subst e
        obtain ⟨y, hy⟩ := Option.isSome_iff_exists.1 (hr i (by omega)).1
        rw [List.getElem?_set_self (by rw [h1]; exact hj)] at hv
        injection hv with hv
        subst hv
        exact World.cell?_setCell_same (h := hy) ..
      · rw [List.getElem?_set_ne (fun h => e h.symm)] at hv
        rw [World.cell?_setCell_other _ _ _ _ (by intro h; injection h with _ h; omega)]
        exact hx i v hv
theorem made_false (n : Nat) : (madeCells (Value.bool false).cells (n * 1)).toList = bc (List.replicate n false) := by
  have e : (Value.bool false).cells = #[.bool false] := rfl
  rw [e]
  unfold madeCells bc
  apply List.ext_getElem
  · simp
  · intro i h1 h2
    simp [Nat.mod_one]
theorem info_bool : (Try.prog.info? 4).map (fun i => (i.zero, i.size, i.bytes)) = some (some (.bool false), 1, 1) := by kernel_rfl

set_option maxRecDepth 100000 in
set_option maxHeartbeats 6400000 in
theorem walk (a0 : Option Addr) (len0 cap0 : Nat) (z0 : Nat → Int) (a1 : Option Addr) (len1 cap1 : Nat) (z1 : Nat → Int) (w : World) (w0 : IntsAt .i64 w a0 len0 z0) (w1 : IntsAt .i64 w a1 len1 z1) :
    Calls Try.prog 4 #[.slice a0 len0 cap0, .slice a1 len1 cap1] w fun e w' => e = .returned (.bool true) ∧ Below w.heap.size w w' := by
  obtain ⟨i0, hi0, hz0, hz1, hz2⟩ := info_parts info_bool
  have HI := Lib.hid hi0
  have HZ0 := Lib.hid hz0
  have HZ1 := Lib.hid hz1
  have HZ2 := Lib.hid hz2
  have HA := Lib.hid w0
  have HB := Lib.hid w1
  have hb0 := w0.1
  have hb1 := w1.1
  unfold maxLen at hb0 hb1
  obtain ⟨T, hT⟩ := masks z0
  have HT := Lib.hid hT
  clear hi0 hz0 hz1 hz2 w0 w1 hT
  go_enter Try.func4, Try.ntmps4
  go_wp2_with fail
  refine (begunW_any _).mono ?_
  rintro e wb ⟨rfl, hb⟩
  have HB0 := Lib.hid hb
  clear hb
  go_wp2_with fail
  refine (newW_any 0 wb).mono ?_
  rintro e wp ⟨g, rfl, pp, hg, mp⟩
  rw [show (if timeB 0 then (0 : Int) else 0) = 0 from by decide] at pp
  have PP := Lib.hid pp
  have BP := Lib.hid (Mod.below HB0.out mp (by simp))
  have hgw : w.heap.size ≤ g := Nat.le_trans HB0.out.size hg
  clear pp mp HB0
  go_upto_region 5 with (fail)
  go_cut [7] (fun s7 wx => ∃ N : Nat, N ≤ 30 ∧ N ≤ len0 ∧ s7 = .int .i64 N ∧ wp = wx)
  case first =>
    go_wp2_with fail
    go_meet
    exact ⟨min len0 30, by omega, by omega, by first | rfl | (congr 1; omega), rfl⟩
  case rest =>
    obtain ⟨N, hN1, hN2, rfl, rfl⟩ := hcut
    go_wp2_with fail
    go_loopg [8] N (fun m v8 wr => ∃ (i : Nat) (l : List Tm) (F : Nat → Prop), i ≤ N ∧ v8 = .int .i64 i ∧ l.length = i ∧ Hid (Wh T (fun j => j < i) l) ∧
        Hid (IsW wr g F 0 l) ∧ Hid (∀ q, F q → w.heap.size ≤ q) ∧ Hid (Below w.heap.size w wr) ∧ m + i = N)
    case atStart => exact ⟨0, [], fun k => k = g, by omega, rfl, rfl, Lib.hid (Wh.nil T), PP, Lib.hid (fun q e => by subst e; exact hgw), BP, by omega⟩
    case round =>
      obtain ⟨i, l, F, hi, rfl, hll, HW, HP, HF, HBW, hm⟩ := hrel
      by_cases hin : i < N
      · obtain ⟨bb, ob, hA1, hbb, q0, hwf⟩ := HA.out.at_ (show i < len0 by omega)
        have q1 := (HBW.out.cell (p := ⟨bb, ob + i, none⟩) hbb).trans q0
        have HA1 := Lib.hid hA1
        have j0 : (0 : Int) ≤ (i : Int) := by omega
        have j1 : (i : Int) < (len0 : Int) := by omega
        have hTi := (HT.out i).1
        have hTe := (HT.out i).2
        have HS := Lib.hid (set_ok g F 0 l i (T i) wr HP.out (by omega) (by omega) (by omega) (timeB_true.2 ⟨by omega, by omega⟩))
        clear hwf q0
        rw [hA1]
        clear hA1
        go_upto_region 9 with (fail)
        go_wp2_with fail
        refine HS.out.mono ?_
        rintro e w3 ⟨F3, l3, rfl, p3, hp3, hs3, m3, f3⟩
        obtain ⟨hw3, hl3⟩ := Wh.add HW.out hp3 hs3
        have HW3 := Lib.hid hw3
        have P3 := Lib.hid p3
        have B3 := Lib.hid (Mod.below HBW.out m3 HF.out)
        have F3' := Lib.hid (show ∀ q, F3 q → w.heap.size ≤ q from fun q hq => by have := HBW.out.size; rcases f3 q hq with h | h; (exact HF.out q h); omega)
        clear m3 p3 hp3 hs3 f3 HS hw3
        rw [← HA1.out]
        go_wp2_with fail
        go_roundg (N - (i + 1))
        case measure => omega
        case rel => exact ⟨i + 1, l3, F3, by omega, by go_num, by omega, HW3, P3, F3', B3, by omega⟩
      · have hi2 : i = N := by omega
        subst hi2
        go_wp2_with (first | (refine wpList_make_full _ rfl _ _ _ rfl 0 4 i0 _ 1 Try.underlying40 HI.out HZ0.out HZ1.out .i64 .i64 _ _ i rfl rfl rfl rfl (by rw [HZ2.out]; omega) (by unfold maxLen; omega) (Nat.zero_le _) ?_; intro wM hrow hgrow))
        obtain ⟨AM, cM, eM, oM, _⟩ := Own.of_row hrow
        injection eM with eM1 _ eM3
        subst eM1 eM3
        rw [made_false] at oM
        have hbh := HBW.out.size
        have OM := Lib.hid oM
        have PM := Lib.hid (HP.out.none_ ((Mod.refl (fun _ => False) wr).grown hgrow (by simp)))
        have BM := Lib.hid (Mod.below HBW.out ((Mod.refl (fun _ => False) wr).grown hgrow (by simp)) (by simp))
        have FM := Lib.hid (show ∀ q, F q → w.heap.size ≤ q ∧ q ≠ wr.heap.size from fun q hq => ⟨HF.out q hq, fun e => by have := HP.out.lt q hq; omega⟩)
        have HW0 := Lib.hid (HW.out.congr (Q := fun j => j < i ∧ (0 < 0 → 0 < T j)) (fun j => ⟨fun h => ⟨h, fun h => absurd h (by omega)⟩, fun h => h.1⟩))
        have HS0 := Lib.hid (Seen.zero i (S := fun j => 0 < 0 ∧ T j ≤ 0) (fun j h => absurd h.1 (by omega)))
        clear oM hrow hgrow HP HBW HF HW hm
        generalize wr.heap.size = hM at *
        go_wp2_with fail
        go_loopg [9, 11, 12, 13, 14, 15] 40 (fun m v9 v11 v12 v13 v14 v15 wr => ∃ (s now : Nat) (l : List Tm) (ms : List Bool), s ≤ 40 ∧ s ≤ len1 ∧ now ≤ s * 255 ∧ v11 = .int .i64 s ∧ v9 = .int .i64 now ∧ l.length ≤ 30 ∧ Hid (Wh T (fun j => j < i ∧ (0 < s → now < T j)) l) ∧
            Hid (Seen i (fun j => 0 < s ∧ T j ≤ now) ms) ∧ Hid (Own wr 1 (some ⟨hM, 0, none⟩) i i (bc ms)) ∧ Hid (IsW wr g F now l) ∧ Hid (Below w.heap.size w wr) ∧ m + s = 40)
        case atStart => exact ⟨0, 0, l, _, by omega, by omega, by omega, rfl, rfl, by omega, HW0, HS0, OM, PM, BM, by omega⟩
        case round =>
          obtain ⟨s, now, l, ms, hs, hsl, hnow, rfl, rfl, hl30, HW, HSn, HO, HP, HBW, hm⟩ := hrel
          by_cases hin : s < len1 ∧ s < 40
          · obtain ⟨h1, h2⟩ := hin
            obtain ⟨bb, ob, hA1, hbb, q0, hwf⟩ := HB.out.at_ h1
            have q1 := (HBW.out.cell (p := ⟨bb, ob + s, none⟩) hbb).trans q0
            have HA1 := Lib.hid hA1
            have j0 : (0 : Int) ≤ (s : Int) := by omega
            have j1 : (s : Int) < (len1 : Int) := by omega
            have HN := Lib.hid (and_mask (z1 s) 255 (by omega))
            clear hwf q0
            generalize z1 s = x at *
            rw [hA1]
            clear hA1
            go_upto_region 17 with (fail)
            go_cut [9] (fun s9 wx => ∃ now2 : Nat, now ≤ now2 ∧ now2 ≤ now + 255 ∧ s9 = .int .i64 now2 ∧ wr = wx)
            case first =>
              obtain ⟨t, ht, hte⟩ := HN.out
              have HTE := Lib.hid hte
              clear hte
              go_wp2_with fail
              go_meet
              exact ⟨now + t, by omega, by omega, by (show Value.int .i64 (wrap64 (now + bits .and .i64 x ((255 : Nat) : Int))) = _; rw [HTE.out, IntWalk.wrap64_in _ ⟨by omega, by omega⟩, Int.natCast_add]) , rfl⟩
            case rest =>
              obtain ⟨now2, hnw1, hnw2, rfl, rfl⟩ := hcut
              have HG := Lib.hid (go_ok g F now now2 l wr HP.out (by omega) (timeB_true.2 ⟨by omega, by omega⟩) (by omega))
              clear HN q1
              go_wp2_with fail
              with_reducible refine HG.out.mono ?_
              intro e w4 h4
              obtain ⟨k, B, d, hk, hk1, hk2, he4, o4, p4, m4, b4⟩ := h4
              subst he4
              obtain ⟨hwg, hwt, hwc⟩ := HW.out.go hk hk1 hk2
              have HWG := Lib.hid (Wh.congr hwg (Q := fun j => j < i ∧ (0 < s + 1 → now2 < T j)) (fun j => ⟨fun h => ⟨h.1.1, fun _ => by omega⟩, fun h => ⟨⟨h.1, fun _ => by have := h.2 (by omega); omega⟩, by have := h.2 (by omega); omega⟩⟩))
              have HWT := Lib.hid hwt
              have HLAST := Lib.hid (Sq.last (T := T) (i := s) (was := now) (now := now2) (k := k) (n := i) (l := l) (by omega) hwt hk hwc)
              have O4 := Lib.hid o4
              have P4 := Lib.hid p4
              have B4 := Lib.hid (Mod.below HBW.out m4 (fun q hq => (FM.out q hq).1))
              have OB4 := Lib.hid (HO.out.mod m4 (fun q e hq => (FM.out q hq).2 (by have e2 : hM = q := Option.some.inj e; exact e2.symm)))
              have DB := Lib.hid (show ∀ q, blk B = some q → q ≠ hM ∧ ¬ F q from fun q e => ⟨fun h => by have h1 := b4 q e; have h2 := HO.out.lt (g := hM) rfl; omega, fun h => by have h1 := b4 q e; have h2 := HP.out.lt q h; omega⟩)
              have HS0' := Lib.hid (HSn.out.congr (Q := Sq T s now l 0) (fun j _ => Sq.first j))
              have hl2 : (l.drop k).length ≤ 30 := by rw [List.length_drop]; omega
              clear hk1 hk2 o4 p4 m4 b4 hwg hwt hwc HG HSn HO HP HBW
              go_wp2_with fail
              go_loopg [14, 15] k (fun m' v14 v15 wr => ∃ (q : Nat) (ms : List Bool), q ≤ k ∧ v14 = .int .i64 q ∧ Hid (Seen i (Sq T s now l q) ms) ∧ Hid (Own wr 1 (some ⟨hM, 0, none⟩) i i (bc ms)) ∧ Hid (Own wr 1 B k d (icT ((l.take k).map Tm.id))) ∧ Hid (IsW wr g F now2 (l.drop k)) ∧ Hid (Below w.heap.size w wr) ∧ m' + q = k)
              case atStart => exact ⟨0, ms, by omega, rfl, HS0', OB4, O4, P4, B4, by omega⟩
              case round =>
                obtain ⟨q, ms, hq, rfl, HSq, HOq, HBq, HPq, HBWq, hmq⟩ := hrel
                by_cases hqk : q < k
                · obtain ⟨j, hPj, hTj, hlq⟩ := HWT.out q (by omega) hqk
                  obtain ⟨hji, hjw⟩ := hPj
                  have hfr := Sq.fresh HW.out (q := q) (by omega) hlq hjw
                  have hms := HSq.out.no hji hfr
                  obtain ⟨ba, oa, hA0, hba, r0, hwf0⟩ := HA.out.at_ (show j < len0 by omega)
                  have r1 := (HBWq.out.cell (p := ⟨ba, oa + j, none⟩) hba).trans r0
                  obtain ⟨gb, ob', hB', hgb, r2⟩ := HBq.out.at_ (j := q) (u := .int .i64 j) (by unfold icT; rw [List.map_map, List.getElem?_map, List.getElem?_take, if_pos hqk, List.getElem?_eq_getElem (show q < l.length by omega), hlq]; rfl)
                  obtain ⟨gm, om, hM', hgm, r3⟩ := HOq.out.at_ (j := j) (u := .bool false) (by unfold bc; rw [List.getElem?_map, hms]; rfl)
                  injection hM' with hM'
                  injection hM' with e1 e2
                  subst e1 e2
                  have hA0' := Lib.hid hA0
                  have hTe := (HT.out j).2
                  have hTn : ¬ (now2 : Int) < (T j : Int) := by omega
                  have f3 : wr.frozen? ⟨hM, 0 + j, none⟩ = false := by
                    obtain ⟨_, _, _, h | ⟨g', o', e', _, h, _⟩⟩ := HOq.out
                    · cases h.1
                    · injection e' with e'
                      injection e' with e1 e2
                      subst e1 e2
                      exact (h j (by omega)).2
                  have j0 : (0 : Int) ≤ (j : Int) := by omega
                  have j1 : (j : Int) < (len0 : Int) := by omega
                  have j2 : (j : Int) < (i : Int) := by omega
                  have q0 : (0 : Int) ≤ (q : Int) := by omega
                  have q1 : (q : Int) < (k : Int) := by omega
                  have HS2 := Lib.hid ((HSq.out.put hji).congr (fun a _ => Sq.next (q := q) (by omega) hlq a))
                  have M2 := Lib.hid ((Mod.refl (fun z => z = hM) wr).setCell (p := ⟨hM, 0 + j, none⟩) (.inl rfl) (.bool true))
                  have O2 := Lib.hid (show Own (wr.setCell ⟨hM, 0 + j, none⟩ (.bool true)) 1 (some ⟨hM, 0, none⟩) i i (bc (ms.set j true)) from by rw [show bc (ms.set j true) = (bc ms).set j (.bool true) from List.map_set]; exact Own.set_ HOq.out (by omega) _)
                  have OB2 := Lib.hid (HBq.out.mod M2.out (fun z e h => (DB.out z e).1 h))
                  have P2 := Lib.hid (HPq.out.mod M2.out (fun z _ hz h => (FM.out z hz).2 h))
                  have B2 := Lib.hid (Mod.below HBWq.out M2.out (fun z h => by subst h; exact hbh))
                  simp only [Nat.zero_add] at f3 r3 M2 O2 OB2 P2 B2
                  have HBf := Lib.hid hB'
                  rw [hA0, hB']
                  have h3 : ((T j : Int) ≤ (now : Int) ∧ ¬ (0 : Int) < (s : Int)) ∨ ¬ (T j : Int) ≤ (now : Int) := by omega
                  clear hwf0 r0 hms hfr hlq HSq HOq HBq HPq HBWq hA0 hB'
                  rcases h3 with ⟨h3, h4⟩ | h3
                  all_goals
                    go_wp2_with fail
                    rw [← hA0'.out, ← HBf.out]
                    go_roundg (k - (q + 1))
                    case measure => omega
                    case rel => exact ⟨q + 1, ms.set j true, by omega, by go_num, HS2, O2, OB2, P2, B2, by omega⟩
                · have hqe : q = k := by omega
                  subst hqe
                  have HSE := Lib.hid (HSq.out.congr (Q := fun j => 0 < s + 1 ∧ T j ≤ now2) (fun j hj => HLAST.out j hj))
                  rw [← HA1.out]
                  go_wp2_with fail
                  go_roundg (40 - (s + 1))
                  case measure => omega
                  case rel => exact ⟨s + 1, now2, l.drop q, ms, by omega, by omega, by omega, by go_num, rfl, hl2, HWG, HSE, HOq, HPq, HBWq, by omega⟩
          · have hend : len1 ≤ s ∨ (s < len1 ∧ 40 ≤ s) := by omega
            have hs0 : 0 < len1 → 0 < s := by omega
            clear hin HW HP
            rcases hend with hend | ⟨hend, hend2⟩
            all_goals
              go_wp2_with fail
              go_loopg [16] i (fun m v16 wr => ∃ q : Nat, q ≤ i ∧ v16 = .int .i64 q ∧ Hid (Own wr 1 (some ⟨hM, 0, none⟩) i i (bc ms)) ∧ Hid (Below w.heap.size w wr) ∧ m + q = i)
              case atStart => exact ⟨0, by omega, rfl, HO, HBW, by omega⟩
              case round =>
                obtain ⟨q, hq, rfl, HOq, HBWq, hmq⟩ := hrel
                by_cases hqi : q < i ∧ 0 < len1
                · obtain ⟨hqi, hl0⟩ := hqi
                  obtain ⟨b, hms, hbS⟩ := HSn.out.2 q hqi
                  have hb : b = decide ((T q : Int) ≤ (now : Int)) := by
                    cases b
                    · symm
                      refine decide_eq_false fun h => ?_
                      have := hbS.2 ⟨hs0 hl0, by omega⟩
                      cases this
                    · symm
                      refine decide_eq_true ?_
                      have := hbS.1 rfl
                      omega
                  subst hb
                  obtain ⟨ba, oa, hA0, hba, r0, hwf0⟩ := HA.out.at_ (show q < len0 by omega)
                  have r1 := (HBWq.out.cell (p := ⟨ba, oa + q, none⟩) hba).trans r0
                  obtain ⟨gm, om, hM', hgm, r3⟩ := HOq.out.at_ (j := q) (u := .bool (decide ((T q : Int) ≤ (now : Int)))) (by unfold bc; rw [List.getElem?_map, hms]; rfl)
                  injection hM' with hM'
                  injection hM' with e1 e2
                  subst e1 e2
                  have hA0' := Lib.hid hA0
                  have hTe := (HT.out q).2
                  have q0 : (0 : Int) ≤ (q : Int) := by omega
                  have q1 : (q : Int) < (len0 : Int) := by omega
                  have q2 : (q : Int) < (i : Int) := by omega
                  simp only [Nat.zero_add] at r3
                  rw [hA0]
                  clear hwf0 r0 hA0 hms hbS
                  have hneq : ∀ X : Bool, (X != X) = false := fun X => by cases X <;> rfl
                  go_wp2_with fail
                  go_quiet (fail)
                  go_wp2_with fail
                  rw [← hA0'.out]
                  go_roundg (i - (q + 1))
                  case measure => omega
                  case rel => exact ⟨q + 1, by omega, by go_num, Lib.hid (HOq.out.drewN _), Lib.hid (Mod.below HBWq.out ((Mod.refl (fun _ => False) wr).drewN _) (by simp)), by omega⟩
                · have hend3 : i ≤ q ∨ (q < i ∧ len1 = 0) := by omega
                  rcases hend3 with h3 | ⟨h3, h4⟩
                  · go_wp2_with fail
                    go_ret
                    exact ⟨rfl, HBWq.out⟩
                  · subst h4
                    go_wp2_with fail
                    go_ret
                    exact ⟨rfl, HBWq.out⟩
/-! ### the row's step -/
theorem own : ownKnob Try.prog.godebug = none := by kernel_rfl
theorem laidOut : laidOutB Try.prog = true := by kernel_rfl
set_option maxRecDepth 100000 in
theorem lifted (os : Os) (started : os.Started) (H : Type) (enc : TypeId × Value → H) :
    ReturnsInHanded {} Try.checked os 4 .any (Rows.wheelOnceSpec.pre6 enc Try.prog Try.f4 Rows.wheelOnceRow.domain false) (Rows.wheelOnceSpec.post enc Try.prog Try.f4 false true false false) := by
  refine returnsInHanded_of_change (C := Try.checked) own started (by kernel_rfl) Try.func4
    (ChangeSpec.witness6 (enc := enc) (C := Try.checked) false ⟨#[], #[.slice none 0 0, .slice none 0 0], []⟩ 8 (by kernel_rfl) (by kernel_rfl) (by kernel_rfl) (by kernel_rfl)) ?_
  intro W base args ds gs before hval0 hW hcnd _
  have hval : ∀ (j : Nat) t v, Try.f4.params[j]? = some t → args[j]? = some v → Value.okWide Try.prog W .any base t v := hval0
  have hW' := hW
  obtain ⟨p, q, hA0, hV, rfl, hfz, hnd⟩ := hW
  have hA : DataW.TrodAll enc Try.prog W 0 (fun _ => true) true Try.f4.params.toList args.toList ds p := hA0
  rw [Try.params4] at hA hval
  obtain ⟨v0, vs0, d0, ds0, p0, q0, hargs, rfl, rfl, h0, r0⟩ := trodAll_cons hA
  obtain ⟨v1, vs1, d1, ds1, p1, q1, rfl, rfl, rfl, h1, r1⟩ := trodAll_cons r0
  obtain ⟨rfl, rfl, rfl⟩ := trodAll_nil r1
  obtain rfl : args = #[v0, v1] := by cases args; simp_all
  obtain ⟨rfl, rfl⟩ := trodVars_none hV
  have k0 := h0
  have lt0 : ∀ x ∈ p0, x.block < W.heap.size := by obtain ⟨m, hm⟩ := k0; exact DataW.trod_lt m _ _ _ hm
  have k1 := h1
  have lt1 : ∀ x ∈ p1, x.block < W.heap.size := by obtain ⟨m, hm⟩ := k1; exact DataW.trod_lt m _ _ _ hm
  obtain ⟨a0, len0, cap0, rfl⟩ := okWide_slice Try.underlying39 (hval 0 39 v0 rfl rfl)
  obtain ⟨z0, w0⟩ := IntsAt.open_ Try.underlying39 Try.underlying2 (by kernel_rfl) h0
  obtain ⟨a1, len1, cap1, rfl⟩ := okWide_slice Try.underlying39 (hval 1 39 v1 rfl rfl)
  obtain ⟨z1, w1⟩ := IntsAt.open_ Try.underlying39 Try.underlying2 (by kernel_rfl) h1
  clear hA0 hval0
  refine (walk a0 len0 cap0 z0 a1 len1 cap1 z1 W w0 w1).mono fun e W' ⟨he, bel⟩ => ?_
  subst he
  exact ⟨_, rfl, _, _, _, [], _, [], hW', trodAll_mk1 (shut_bool Try.underlying4 _), (trodAll_cons_mk (Below.trod laidOut (by kernel_rfl) (of_decide_eq_true (by kernel_rfl)) k0 bel lt0) (trodAll_cons_mk (Below.trod laidOut (by kernel_rfl) (of_decide_eq_true (by kernel_rfl)) k1 bel lt1) trodAll_mk0)), rfl, bel.frame _, fun h => by cases h⟩

theorem over : Rows.wheelOnceRow.holds Try.pinned (OpenSpec.ofChange Rows.wheelOnceSpec) :=
  OpenClaim.holds_of_wide 4 Try.f4 rfl rfl rfl rfl rfl rfl rfl ⟨rfl, rfl, rfl, rfl, rfl⟩ rfl rfl rfl rfl rfl (by kernel_rfl) Try.func4 (by kernel_rfl)
    (of_decide_eq_true (by kernel_rfl)) (by unfold Func.isWrapper; first | (rw [if_pos (by decide +kernel)]; kernel_rfl) | (rw [if_neg (by decide +kernel)]; exact ⟨rfl, rfl⟩))
    (fun os started H enc _ => lifted os started H enc)

theorem proved : Rows.WheelOnceSaid := over
#print axioms proved
end Go.Proofs.Ytnfhmflcaolbbaa.wheelOnce
