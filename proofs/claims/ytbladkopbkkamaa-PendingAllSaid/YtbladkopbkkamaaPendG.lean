/- PendingAll: the operations that came in; what the reference's Has and Done answer. -/
import Derived.Test.YtbladkopbkkamaaPendF
import Derived.Test.YtbladkopbkkamaaRows2
namespace Go.Proofs.Ytbladkopbkkamaa
open Go.ChangeShapes Go.WideShapes Go.ChangeAt Go.RowKit
set_option linter.unusedVariables false
set_option linter.unusedSimpArgs false
attribute [local go_sem ↓] Go.wp_at_zero Go.wp_at_succ

/-! ### the operations that came in -/
def IsOp (w : World) (cs : List Value) : Prop := ∃ (kd od lv : Int) (da : ByteArray) (wa : Option Addr) (wn wc : Nat) (z : Nat → Int), cs = [.int .i64 kd, .int .i64 od, .int .i64 lv, .string da, .slice wa wn wc] ∧ da.size ≤ maxLen ∧ IntsAt .i64 w wa wn z
def OpRow (w : World) (a : Option Addr) (len cap : Nat) : Prop := SlAt w 5 (IsOp w) a len
theorem encS : Try.prog.cellsOf 48 = 1 := by kernel_rfl
theorem isOp_of {H : Type} {enc : TypeId × Value → H} {w : World} {base : Nat} {spare : Nat → Bool} {held : Bool} (n : Nat) (cs : List Value) (x : DataW H × List MemPlace)
    (h : DataW.trod enc Try.prog w base spare held n 50 cs = some x) : IsOp w cs := by
  obtain ⟨xs, m, _, hx, hl, hlen, hf⟩ := DataW.trod_struct Try.underlying50 h
  have hl5 : cs.length = 5 := hl.trans (by kernel_rfl)
  match cs, hl5 with
  | [v0, v1, v2, v3, v4], _ =>
    match xs, hlen with
    | [y0, y1, y2, y3, y4], _ =>
      have t0 : DataW.trod enc Try.prog w base spare held m 3 (([v0, v1, v2, v3, v4].drop 0).take (Try.prog.cellsOf 3)) = some y0 := hf 0 _ rfl
      have t1 : DataW.trod enc Try.prog w base spare held m 3 (([v0, v1, v2, v3, v4].drop 1).take (Try.prog.cellsOf 3)) = some y1 := hf 1 _ rfl
      have t2 : DataW.trod enc Try.prog w base spare held m 3 (([v0, v1, v2, v3, v4].drop 2).take (Try.prog.cellsOf 3)) = some y2 := hf 2 _ rfl
      have t3 : DataW.trod enc Try.prog w base spare held m 9 (([v0, v1, v2, v3, v4].drop 3).take (Try.prog.cellsOf 9)) = some y3 := hf 3 _ rfl
      have t4 : DataW.trod enc Try.prog w base spare held m 48 (([v0, v1, v2, v3, v4].drop 4).take (Try.prog.cellsOf 48)) = some y4 := hf 4 _ rfl
      rw [enc1] at t0 t1 t2
      rw [enc3] at t3
      rw [encS] at t4
      obtain ⟨n0, e0, -⟩ := DataW.trod_int Try.underlying3 t0
      obtain ⟨n1, e1, -⟩ := DataW.trod_int Try.underlying3 t1
      obtain ⟨n2, e2, -⟩ := DataW.trod_int Try.underlying3 t2
      obtain ⟨n3, e3, -, h3⟩ := DataW.trod_string Try.underlying9 t3
      simp at e0 e1 e2 e3
      have h4 : ∃ wa wn wc, v4 = .slice wa wn wc := by
        rcases DataW.trod_slice Try.underlying48 t4 with ⟨e4, _⟩ | ⟨a, ln, cp, _, _, _, _, e4, _⟩
        · simp at e4
          exact ⟨none, 0, 0, e4⟩
        · simp at e4
          exact ⟨some a, ln, cp, e4⟩
      obtain ⟨wa, wn, wc, rfl⟩ := h4
      obtain ⟨z, hz⟩ := IntsAt.open_ Try.underlying48 Try.underlying3 (by kernel_rfl) (⟨m, t4⟩ : DataW.Trod enc Try.prog w base spare held 48 (.slice wa wn wc) y4.1 y4.2)
      exact ⟨n0, n1, n2, n3, wa, wn, wc, z, by rw [e0, e1, e2, e3], h3, hz⟩
theorem OpRow.open_ {H : Type} {enc : TypeId × Value → H} {w : World} {base : Nat} {spare : Nat → Bool} {held : Bool} {a : Option Addr} {len cap : Nat} {d : DataW H} {p : List MemPlace}
    (h : DataW.Trod enc Try.prog w base spare held 42 (.slice a len cap) d p) : OpRow w a len cap :=
  SlAt.open_ Try.underlying42 (by kernel_rfl) (by decide) isOp_of h

/-! ### the reference's Has -/
theorem hasR_any (A : Option Addr) (l : List En) (c : Nat) (e : En) (w : World) (hl : Sl w 7 A l.length (ecells l)) :
    Calls Try.prog 45 #[.slice A l.length c, e.val] w (Only w (.bool (l.any fun x => same x e))) := by
  have hb1 := hl.2.1
  unfold maxLen at hb1
  have HL := Lib.hid hl
  clear hl
  unfold En.val
  go_enter Try.func45, Try.ntmps45
  go_wp2_with fail
  go_loopg [5] l.length (fun q i wr => ∃ k : Nat, k ≤ l.length ∧ i = .int .i64 k ∧ Hid (∀ j (h1 : j < l.length), j < k → same l[j] e = false) ∧ Hid (Mod (fun _ => False) (w.alloc (.cells #[.int .i64 e.fr, .int .i64 e.bo, .int .i64 e.se, .int .i64 e.od, .int .i64 e.lv, .int .i64 e.st, .string e.da] 30)) wr) ∧ q + k = l.length)
  case atStart => exact ⟨0, by omega, rfl, Lib.hid fun j _ h => absurd h (by omega), Lib.hid (Mod.refl _ _), by omega⟩
  case round =>
    obtain ⟨k, hk, rfl, hE, hM, hq⟩ := hrel
    have MW := Lib.hid (((Mod.refl (fun _ => False) w).alloc _).trans hM.out (by simp))
    by_cases hlt : k < l.length
    · obtain ⟨b, o, rfl, hb, q0, q1, q2, q3, q4, q5, q6⟩ := (HL.out.none_ MW.out).ent hlt
      have hce : Cells wr w.heap.size e.cells := (Cells.new w _ 30).mod hM.out (by simp)
      have x0 : wr.cell? ⟨w.heap.size, 0, none⟩ = some (.int .i64 e.fr) := hce.1 0 _ rfl
      have x1 : wr.cell? ⟨w.heap.size, 1, none⟩ = some (.int .i64 e.bo) := hce.1 1 _ rfl
      have x2 : wr.cell? ⟨w.heap.size, 2, none⟩ = some (.int .i64 e.se) := hce.1 2 _ rfl
      have x3 : wr.cell? ⟨w.heap.size, 3, none⟩ = some (.int .i64 e.od) := hce.1 3 _ rfl
      have x4 : wr.cell? ⟨w.heap.size, 4, none⟩ = some (.int .i64 e.lv) := hce.1 4 _ rfl
      have x5 : wr.cell? ⟨w.heap.size, 5, none⟩ = some (.int .i64 e.st) := hce.1 5 _ rfl
      have x6 : wr.cell? ⟨w.heap.size, 6, none⟩ = some (.string e.da) := hce.1 6 _ rfl
      have i0 : (0 : Int) ≤ (k : Int) := by omega
      have i1 : (k : Int) < (l.length : Int) := by omega
      have hc := fun W => same_ref l[k] e W
      unfold En.val at hc
      clear hce
      cases hv : same l[k] e
      · rw [hv] at hc
        have HC := Lib.hid hc
        have HV := Lib.hid hv
        clear hc hv
        generalize hxx : l[k] = x at *
        have HX := Lib.hid hxx
        clear hxx
        go_wp2_with fail
        go_region_with (go_at_call 14; refine (HC.out _).mono ?_; rintro e w1 ⟨rfl, m1⟩)
        all_goals
          have M1 := Lib.hid (hM.out.trans (undrew m1) (by simp))
          clear m1
          go_wp2_with fail
          go_roundg (l.length - (k + 1))
          case measure => omega
          case rel =>
            refine ⟨k + 1, by omega, by go_num, Lib.hid fun j h1 hj => ?_, M1, by omega⟩
            by_cases e : j = k
            · subst e; rw [HX.out]; exact HV.out
            · exact hE.out j h1 (by omega)
      · have HA := Lib.hid (any_at (p := fun t => same t e) hlt hv)
        rw [hv] at hc
        have HC := Lib.hid hc
        clear hc hv
        generalize l[k] = x at *
        go_wp2_with fail
        go_region_with (go_at_call 14; refine (HC.out _).mono ?_; rintro e w1 ⟨rfl, m1⟩)
        all_goals
          go_wp2_with fail
          go_ret
          exact ⟨by rw [HA.out]; rfl, MW.out.trans (undrew m1) (by simp)⟩
    · have HA := Lib.hid (any_none (l := l) (p := fun t => same t e) fun j h1 => hE.out j h1 (by omega))
      go_wp2_with fail
      go_ret
      exact ⟨by rw [HA.out]; rfl, MW.out⟩
end Go.Proofs.Ytbladkopbkkamaa
