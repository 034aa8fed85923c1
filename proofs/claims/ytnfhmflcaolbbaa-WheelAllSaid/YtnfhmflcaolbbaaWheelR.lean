/- The law's own list of timers agrees with the wheel. -/
import Derived.Test.YtnfhmflcaolbbaaWheelPl
namespace Go.Proofs.Ytnfhmflcaolbbaa
open Go.RowKit
attribute [local go_sem ↓] Go.wp_at_zero Go.wp_at_succ
set_option linter.unusedVariables false
set_option linter.unusedSimpArgs false

theorem AtR.in_ {w w' : World} {lw : List Tm} {e : Ending} {x : Tm} (h : AtR w lw x.id e w') (hx : x ∈ lw) (hn : (lw.map Tm.id).Nodup) : e = .returned (.tuple #[.int .i64 x.t, .bool true]) ∧ Mod (fun _ => False) w w' := by
  obtain ⟨a, b, rfl, h | h, hm⟩ := h
  · obtain ⟨rfl, k, hk, h1, h2⟩ := h
    obtain ⟨p, hp, rfl⟩ := List.getElem_of_mem hx
    have := nodup_at hn hk hp h1
    subst this
    exact ⟨by rw [← h2], hm⟩
  · exact absurd rfl (h.2.2 x hx)
set_option maxHeartbeats 3200000 in
theorem same_any (g : Nat) (F : Nat → Prop) (now : Int) (lw l : List Tm) (A : Option Addr) (c : Nat) (w : World) (h : IsW w g F now lw) (hs : Sl w 2 A l.length (tc l)) (hp : lw.Perm l) (hsort : SortedT lw) (hnd : (l.map Tm.id).Nodup) (hlen : l.length ≤ 100) :
    Calls Try.prog 14 #[.pointer (some ⟨g, 0, none⟩), .slice A l.length c, .int .i64 now] w fun e w' => e = .returned (.bool true) ∧ Mod (fun _ => False) w w' := by
  have hll := hp.length_eq
  have hndw : (lw.map Tm.id).Nodup := (hp.map Tm.id).nodup_iff.2 hnd
  have hneq : ∀ X : Int, (X != X) = false := fun X => by simp
  by_cases h0 : l.length = 0
  · have e1 : l = [] := List.eq_nil_of_length_eq_zero h0
    subst e1
    have e2 : lw = [] := List.eq_nil_of_length_eq_zero (by rw [hll]; rfl)
    subst e2
    have H1 := Lib.hid (nextW_none g F now w h)
    have H2 := Lib.hid (lenW_any g F now [] w h)
    have H3 := Lib.hid (nowW_any g F now [] w h)
    clear h hs hp hsort hnd hndw
    go_enter Try.func14, Try.ntmps14
    go_wp2_with fail
    refine H1.out.mono ?_
    rintro e w1 ⟨rfl, rfl⟩
    go_wp2_with fail
    refine H2.out.mono ?_
    rintro e w1 ⟨rfl, rfl⟩
    go_wp2_with fail
    refine H3.out.mono ?_
    rintro e w1 ⟨rfl, rfl⟩
    go_wp2_with fail
    go_loopg [9, 10, 11] 0 (fun m v9 v10 v11 wr => w = wr ∧ v9 = .int .i64 0)
    case atStart => exact ⟨rfl, rfl⟩
    case round =>
      obtain ⟨rfl, rfl⟩ := hrel
      go_wp2_with fail
      go_loopg [12, 13] 0 (fun m v12 v13 wr => w = wr ∧ v13 = .int .i64 0 ∧ v12 = .bool true)
      case atStart => exact ⟨rfl, rfl, rfl⟩
      case round =>
        obtain ⟨rfl, rfl, rfl⟩ := hrel
        go_wp2_with fail
        go_ret
        exact ⟨rfl, Mod.refl _ _⟩
  · have hpos : 0 < lw.length := by omega
    have H1 := Lib.hid (nextW_some g F now lw w h hpos)
    have H2 := Lib.hid (lenW_any g F now lw w h)
    have H3 := Lib.hid (nowW_any g F now lw w h)
    have hall := Lib.hid (show ∀ (q : Nat) (hq : q < l.length), lw[0].t ≤ l[q].t from fun q hq => by
      obtain ⟨p, hp2, e⟩ := List.getElem_of_mem (hp.symm.subset (List.getElem_mem hq))
      rw [← e]
      exact hsort.le hpos hp2 (Nat.zero_le _))
    have hfound := Lib.hid (show ∃ q, ∃ hq : q < l.length, l[q].t = lw[0].t from by
      obtain ⟨p, hp2, e⟩ := List.getElem_of_mem (hp.subset (List.getElem_mem hpos))
      exact ⟨p, hp2, by rw [e]⟩)
    have HP := Lib.hid h
    have HS := Lib.hid hs
    have hin := Lib.hid (show ∀ (q : Nat) (hq : q < l.length), l[q] ∈ lw from fun q hq => hp.symm.subset (List.getElem_mem hq))
    have HND := Lib.hid hndw
    clear h hs hp hsort hnd hndw
    rw [hll] at H2
    have n0 : (0 : Int) < (l.length : Int) := by omega
    have n1 : ¬ (l.length : Int) = 0 := by omega
    generalize lw[0].t = t0 at *
    go_enter Try.func14, Try.ntmps14
    go_wp2_with fail
    refine H1.out.mono ?_
    rintro e w1 ⟨rfl, rfl⟩
    go_wp2_with fail
    refine H2.out.mono ?_
    rintro e w1 ⟨rfl, rfl⟩
    go_wp2_with fail
    refine H3.out.mono ?_
    rintro e w1 ⟨rfl, rfl⟩
    go_wp2_with fail
    go_loopg [9, 10, 11] l.length (fun m v9 v10 v11 wr => ∃ i : Nat, i ≤ l.length ∧ v9 = .int .i64 i ∧ Hid (Mod (fun _ => False) w wr) ∧ m + i = l.length)
    case atStart => exact ⟨0, by omega, rfl, Lib.hid (Mod.refl _ _), by omega⟩
    case round =>
      obtain ⟨i, hi, rfl, HM, hm⟩ := hrel
      by_cases hil : i < l.length
      · obtain ⟨gA, oA, hA, hgA, q0, q1⟩ := (HS.out.none_ HM.out).tm hil
        have HAt := Lib.hid (at_any g F now lw l[i].id wr (HP.out.none_ HM.out))
        have hal := hall.out i hil
        have hil' : (i : Int) < (l.length : Int) := by omega
        have i0 : (0 : Int) ≤ (i : Int) := by omega
        have hmem := Lib.hid (hin.out i hil)
        have hnl : ¬ (l[i].t < t0) := by omega
        have HA := Lib.hid hA
        have hcell := Lib.hid q1
        generalize l[i] = x at *
        rw [hA]
        clear hA hcell
        go_wp2_with fail
        refine HAt.out.mono ?_
        intro e w2 h2
        obtain ⟨rfl, m2⟩ := AtR.in_ h2 hmem.out HND.out
        have q2 := m2.cell q1 (by simp)
        have M2 := Lib.hid (HM.out.trans m2 (by simp))
        clear h2 m2 q0 q1
        go_wp2_with fail
        rw [← HA.out]
        go_roundg (l.length - (i + 1))
        case measure => omega
        case rel => exact ⟨i + 1, by omega, by go_num, M2, by omega⟩
      · have hie : ¬ (i : Int) < (l.length : Int) := by omega
        clear hi
        go_wp2_with fail
        go_loopg [12, 13] l.length (fun m v12 v13 wr2 => ∃ (i : Nat) (f : Bool), i ≤ l.length ∧ v13 = .int .i64 i ∧ v12 = .bool f ∧ Hid (∀ (q : Nat) (hq : q < l.length), q < i → l[q].t = t0 → f = true) ∧ wr = wr2 ∧ m + i = l.length)
        case atStart => exact ⟨0, _, by omega, rfl, rfl, Lib.hid (fun q _ h => absurd h (by omega)), rfl, by omega⟩
        case round =>
          obtain ⟨i, f, hi, rfl, rfl, HF, rfl, hm2⟩ := hrel
          by_cases hil : i < l.length
          · obtain ⟨gA, oA, hA, hgA, q0, q1⟩ := (HS.out.none_ HM.out).tm hil
            have hil' : (i : Int) < (l.length : Int) := by omega
            have i0 : (0 : Int) ≤ (i : Int) := by omega
            have HA := Lib.hid hA
            have HF2 := Lib.hid (show ∀ (q : Nat) (hq : q < l.length), q < i + 1 → l[q].t = t0 → (f || (l[i].t == t0)) = true from fun q hq h1 h2 => by
              by_cases e : q = i
              · subst e; rw [h2]; simp
              · rw [HF.out q hq (by omega) h2]; rfl)
            generalize l[i] = x at *
            rw [hA]
            clear hA
            cases f
            all_goals
              go_wp2_with fail
              rw [← HA.out]
              go_roundg (l.length - (i + 1))
              case measure => omega
              case rel => exact ⟨i + 1, _, by omega, by go_num, by first | rfl | (congr 1), HF2, rfl, by omega⟩
          · have hie : ¬ (i : Int) < (l.length : Int) := by omega
            obtain ⟨q, hq, hqt⟩ := hfound.out
            have hf := HF.out q hq (by omega) hqt
            subst hf
            go_wp2_with fail
            go_ret
            exact ⟨rfl, HM.out⟩
end Go.Proofs.Ytnfhmflcaolbbaa
