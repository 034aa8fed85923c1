/- The reference's May and Has; EqTold of two that are the same. -/
import Derived.Test.YtcjnmiopklkifaaReadyG
namespace Go.Proofs.Ytcjnmiopklkifaa
open Go.RowKit
attribute [local go_sem ↓] Go.wp_at_zero Go.wp_at_succ
set_option linter.unusedVariables false
set_option linter.unusedSimpArgs false

def okB (e : En) : Bool := decide (1 ≤ e.fr) && decide (e.fr ≤ 7) && decide (1 ≤ e.bo) && decide (e.bo ≤ 1099511627776) && decide (1 ≤ e.se) && decide (e.se ≤ 1099511627776) && decide (0 ≤ e.od) && decide (e.od ≤ 2) && decide (0 ≤ e.lv) && decide (e.lv ≤ 2) && decide (0 ≤ e.st) && decide (e.st ≤ 1099511627776) && decide (e.da.size ≤ 16)
theorem okB_ok {e : En} (h : okB e = true) : OkE e := by
  unfold okB at h
  simp only [Bool.and_eq_true, decide_eq_true_eq] at h
  unfold OkE
  omega

set_option maxHeartbeats 3200000 in
theorem mayR_any (e : En) (w : World) (hd : e.da.size ≤ maxLen) : Calls Try.prog 32 #[e.val] w (Only w (.bool (okB e))) := by
  unfold maxLen at hd
  obtain ⟨e0, e1, e2, e3, e4, e5, e6⟩ := e
  unfold En.val
  simp only [] at *
  go_enter Try.func32, Try.ntmps32
  go_wp2_with fail
  all_goals
    go_ret
    refine ⟨congrArg (fun v => Ending.returned (.bool v)) ?_, (Mod.refl _ _).alloc _⟩
    simp only [okB]
    first
      | (simp [*]; done)
      | (rw [Bool.eq_iff_iff]; simp_all; done)
      | (rw [Bool.eq_iff_iff]; simp_all; omega)

theorem hasL_any (A : Option Addr) (l : List En) (c : Nat) (e : En) (w : World) (hl : Sl w 7 A l.length (ecells l)) :
    Calls Try.prog 33 #[.slice A l.length c, e.val] w (Only w (.bool (l.any fun x => same x e))) := by
  have hb1 := hl.2.1
  unfold maxLen at hb1
  have HL := Lib.hid hl
  clear hl
  unfold En.val
  go_enter Try.func33, Try.ntmps33
  go_wp2_with fail
  go_loopg [5] l.length (fun q i wr => ∃ k : Nat, k ≤ l.length ∧ i = .int .i64 k ∧ Hid (∀ j (h1 : j < l.length), j < k → same l[j] e = false) ∧ Hid (Mod (fun _ => False) (w.alloc (.cells #[.int .i64 e.fr, .int .i64 e.bo, .int .i64 e.se, .int .i64 e.od, .int .i64 e.lv, .int .i64 e.st, .string e.da] 39)) wr) ∧ q + k = l.length)
  case atStart => exact ⟨0, by omega, rfl, Lib.hid fun j _ h => absurd h (by omega), Lib.hid (Mod.refl _ _), by omega⟩
  case round =>
    obtain ⟨k, hk, rfl, hE, hM, hq⟩ := hrel
    have MW := Lib.hid (((Mod.refl (fun _ => False) w).alloc _).trans hM.out (by simp))
    by_cases hlt : k < l.length
    · obtain ⟨b, o, rfl, hb, q0, q1, q2, q3, q4, q5, q6⟩ := (HL.out.none_ MW.out).ent hlt
      have hce : Cells wr w.heap.size e.cells := (Cells.new w _ 39).mod hM.out (by simp)
      have x0 : wr.cell? ⟨w.heap.size, 0, none⟩ = some (.int .i64 e.fr) := hce.1 0 _ rfl
      have x1 : wr.cell? ⟨w.heap.size, 1, none⟩ = some (.int .i64 e.bo) := hce.1 1 _ rfl
      have x2 : wr.cell? ⟨w.heap.size, 2, none⟩ = some (.int .i64 e.se) := hce.1 2 _ rfl
      have x3 : wr.cell? ⟨w.heap.size, 3, none⟩ = some (.int .i64 e.od) := hce.1 3 _ rfl
      have x4 : wr.cell? ⟨w.heap.size, 4, none⟩ = some (.int .i64 e.lv) := hce.1 4 _ rfl
      have x5 : wr.cell? ⟨w.heap.size, 5, none⟩ = some (.int .i64 e.st) := hce.1 5 _ rfl
      have x6 : wr.cell? ⟨w.heap.size, 6, none⟩ = some (.string e.da) := hce.1 6 _ rfl
      have i0 : (0 : Int) ≤ (k : Int) := by omega
      have i1 : (k : Int) < (l.length : Int) := by omega
      have hc := fun W => same_ref l[k] e W
      unfold En.val at hc
      clear hce
      cases hv : same l[k] e
      · rw [hv] at hc
        have HC := Lib.hid hc
        have HV := Lib.hid hv
        clear hc hv
        generalize hxx : l[k] = x at *
        have HX := Lib.hid hxx
        clear hxx
        go_wp2_with fail
        go_region_with (go_at_call 22; refine (HC.out _).mono ?_; rintro e w1 ⟨rfl, m1⟩)
        all_goals
          have M1 := Lib.hid (hM.out.trans (undrew m1) (by simp))
          clear m1
          go_wp2_with fail
          go_roundg (l.length - (k + 1))
          case measure => omega
          case rel =>
            refine ⟨k + 1, by omega, by go_num, Lib.hid fun j h1 hj => ?_, M1, by omega⟩
            by_cases e : j = k
            · subst e; rw [HX.out]; exact HV.out
            · exact hE.out j h1 (by omega)
      · have HA := Lib.hid (any_at (p := fun t => same t e) hlt hv)
        rw [hv] at hc
        have HC := Lib.hid hc
        clear hc hv
        generalize l[k] = x at *
        go_wp2_with fail
        go_region_with (go_at_call 22; refine (HC.out _).mono ?_; rintro e w1 ⟨rfl, m1⟩)
        all_goals
          go_wp2_with fail
          go_ret
          exact ⟨by rw [HA.out]; rfl, MW.out.trans (undrew m1) (by simp)⟩
    · have HA := Lib.hid (any_none (l := l) (p := fun t => same t e) fun j h1 => hE.out j h1 (by omega))
      go_wp2_with fail
      go_ret
      exact ⟨by rw [HA.out]; rfl, MW.out⟩

theorem eqE_refl (e : En) : eqE e e = true := by simp [eqE, same]
/-- EqTold of the same -/
theorem eqT_same (A B : Option Addr) (l : List To) (c d : Nat) (w : World) (hl : Sl w 8 A l.length (tcells l)) (hm : Sl w 8 B l.length (tcells l)) :
    Calls Try.prog 16 #[.slice A l.length c, .slice B l.length d] w (Only w (.bool true)) := by
  have hb1 := hl.2.1
  unfold maxLen at hb1
  have HL := Lib.hid hl
  have HM := Lib.hid hm
  clear hl hm
  have hne : ((l.length : Int) != (l.length : Int)) = false := by simp
  go_enter Try.func16, Try.ntmps16
  go_wp2_with fail
  go_loopg [5] l.length (fun q i wr => ∃ k : Nat, k ≤ l.length ∧ i = .int .i64 k ∧ Hid (Mod (fun _ => False) w wr) ∧ q + k = l.length)
  case atStart => exact ⟨0, by omega, rfl, Lib.hid (Mod.refl _ _), by omega⟩
  case round =>
    obtain ⟨k, hk, rfl, hM, hq⟩ := hrel
    by_cases hlt : k < l.length
    · obtain ⟨b, o, rfl, hb, q0, q1, q2, q3, q4, q5, q6, q7⟩ := (HL.out.none_ hM.out).to hlt
      obtain ⟨b', o', rfl, hb', p0, p1, p2, p3, p4, p5, p6, p7⟩ := (HM.out.none_ hM.out).to hlt
      have i0 : (0 : Int) ≤ (k : Int) := by omega
      have i1 : (k : Int) < (l.length : Int) := by omega
      have hc := fun W => eq_ref l[k].e l[k].e W
      rw [eqE_refl] at hc
      unfold En.val at hc
      have HC := Lib.hid hc
      clear hc
      generalize l[k] = x at *
      have hat : (x.at_ != x.at_) = false := by simp
      go_wp2_with fail
      first
        | go_region_held3 (fun w' => w'.cell? ⟨b, o + k * 8, none⟩ = some (.int .i64 x.at_) ∧ w'.cell? ⟨b, o + k * 8 + 1, none⟩ = some (.int .i64 x.e.fr) ∧ w'.cell? ⟨b, o + k * 8 + 2, none⟩ = some (.int .i64 x.e.bo) ∧ w'.cell? ⟨b, o + k * 8 + 3, none⟩ = some (.int .i64 x.e.se) ∧ w'.cell? ⟨b, o + k * 8 + 4, none⟩ = some (.int .i64 x.e.od) ∧ w'.cell? ⟨b, o + k * 8 + 5, none⟩ = some (.int .i64 x.e.lv) ∧ w'.cell? ⟨b, o + k * 8 + 6, none⟩ = some (.int .i64 x.e.st) ∧ w'.cell? ⟨b, o + k * 8 + 7, none⟩ = some (.string x.e.da) ∧
            w'.cell? ⟨b', o' + k * 8, none⟩ = some (.int .i64 x.at_) ∧ w'.cell? ⟨b', o' + k * 8 + 1, none⟩ = some (.int .i64 x.e.fr) ∧ w'.cell? ⟨b', o' + k * 8 + 2, none⟩ = some (.int .i64 x.e.bo) ∧ w'.cell? ⟨b', o' + k * 8 + 3, none⟩ = some (.int .i64 x.e.se) ∧ w'.cell? ⟨b', o' + k * 8 + 4, none⟩ = some (.int .i64 x.e.od) ∧ w'.cell? ⟨b', o' + k * 8 + 5, none⟩ = some (.int .i64 x.e.lv) ∧ w'.cell? ⟨b', o' + k * 8 + 6, none⟩ = some (.int .i64 x.e.st) ∧ w'.cell? ⟨b', o' + k * 8 + 7, none⟩ = some (.string x.e.da))
          (go_keep)
          ((go_at_call 24; refine (HC.out _).mono ?_; rintro e w1 ⟨rfl, m1⟩; have y0 := (undrew m1).cell q0 (by simp); have y1 := (undrew m1).cell q1 (by simp); have y2 := (undrew m1).cell q2 (by simp); have y3 := (undrew m1).cell q3 (by simp); have y4 := (undrew m1).cell q4 (by simp); have y5 := (undrew m1).cell q5 (by simp); have y6 := (undrew m1).cell q6 (by simp); have y7 := (undrew m1).cell q7 (by simp); have z0 := (undrew m1).cell p0 (by simp); have z1 := (undrew m1).cell p1 (by simp); have z2 := (undrew m1).cell p2 (by simp); have z3 := (undrew m1).cell p3 (by simp); have z4 := (undrew m1).cell p4 (by simp); have z5 := (undrew m1).cell p5 (by simp); have z6 := (undrew m1).cell p6 (by simp); have z7 := (undrew m1).cell p7 (by simp); have M1 := Lib.hid (hM.out.trans (undrew m1) (by simp)); clear m1))
        | fail
      all_goals
        clear y0 y1 y2 y3 y4 y5 y6 y7 z0 z1 z2 z3 z4 z5 z6 z7
        go_wp2_with fail
        go_roundg (l.length - (k + 1))
        case measure => omega
        case rel => exact ⟨k + 1, by omega, by go_num, M1, by omega⟩
    · go_wp2_with fail
      go_ret
      exact ⟨rfl, hM.out⟩
end Go.Proofs.Ytcjnmiopklkifaa
