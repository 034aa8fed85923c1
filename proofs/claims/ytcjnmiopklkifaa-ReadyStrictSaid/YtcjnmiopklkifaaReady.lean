/- The queues of ready and of the reference: New, Has, Told. -/
import Derived.Test.YtcjnmiopklkifaaToldD
namespace Go.Proofs.Ytcjnmiopklkifaa
open Go.RowKit
attribute [local go_sem ↓] Go.wp_at_zero Go.wp_at_succ
set_option linter.unusedVariables false
set_option linter.unusedSimpArgs false

/-- block g (and the told ones' block) hold this queue; F: its blocks -/
def IsQ (w : World) (g : Nat) (F : Nat → Prop) (T : List To) : Prop :=
  ∃ A c, Cells w g [.slice A T.length c] ∧ Own w 8 A T.length c (tcells T) ∧ blk A ≠ some g ∧ F g ∧ (∀ k, blk A = some k → F k) ∧ (∀ k, F k → k < w.heap.size)
theorem IsQ.mod {w w' : World} {g : Nat} {F G : Nat → Prop} {T : List To} (h : IsQ w g F T) (hm : Mod G w w') (hF : ∀ k, k < w.heap.size → F k → ¬ G k) : IsQ w' g F T := by
  obtain ⟨A, c, h1, h2, h3, h4, h5, h6⟩ := h
  exact ⟨A, c, h1.mod hm (hF _ h1.2.2 h4), h2.mod hm fun k e => hF _ (h2.lt e) (h5 k e), h3, h4, h5, fun k hk => Nat.lt_of_lt_of_le (h6 k hk) hm.size⟩
theorem IsQ.none_ {w w' : World} {g : Nat} {F : Nat → Prop} {T : List To} (h : IsQ w g F T) (hm : Mod (fun _ => False) w w') : IsQ w' g F T := h.mod hm (by simp)
theorem IsQ.lt {w : World} {g : Nat} {F : Nat → Prop} {T : List To} (h : IsQ w g F T) : g < w.heap.size := by obtain ⟨A, c, h1, _⟩ := h; exact h1.2.2
/-- was a same one told? -/
def hasB (T : List To) (e : En) : Bool := T.any fun t => same t.e e

set_option maxHeartbeats 1600000 in
theorem has1_any (gb : Nat) (e : En) (t : To) (w : World) (hC : Cells w gb e.cells) :
    Calls Try.prog 29 #[t.val, .pointer (some ⟨gb, 0, none⟩)] w (Only w (.bool (same t.e e))) := by
  have hs := fun W => same_ent t.e e W
  generalize same t.e e = s at *
  obtain ⟨t0, t1, t2, t3, t4, t5, t6, t7⟩ := t
  obtain ⟨u1, u2, u3, u4, u5, u6, u7⟩ := e
  unfold En.val En.cells To.val at *
  simp only [] at *
  have HS := Lib.hid hs
  have c0 : w.cell? ⟨gb, 0, none⟩ = some (.int .i64 u1) := hC.1 0 _ rfl
  have c1 : w.cell? ⟨gb, 1, none⟩ = some (.int .i64 u2) := hC.1 1 _ rfl
  have c2 : w.cell? ⟨gb, 2, none⟩ = some (.int .i64 u3) := hC.1 2 _ rfl
  have c3 : w.cell? ⟨gb, 3, none⟩ = some (.int .i64 u4) := hC.1 3 _ rfl
  have c4 : w.cell? ⟨gb, 4, none⟩ = some (.int .i64 u5) := hC.1 4 _ rfl
  have c5 : w.cell? ⟨gb, 5, none⟩ = some (.int .i64 u6) := hC.1 5 _ rfl
  have c6 : w.cell? ⟨gb, 6, none⟩ = some (.string u7) := hC.1 6 _ rfl
  have hlt := hC.2.2
  clear hs hC
  go_enter Try.func29, Try.ntmps29
  go_wp2_with fail
  refine (HS.out _).mono ?_
  rintro e w1 ⟨rfl, m1⟩
  go_wp2_with fail
  go_ret
  exact ⟨rfl, ((Mod.refl _ _).alloc _).trans m1 (by simp)⟩

set_option maxHeartbeats 1600000 in
theorem indexQ (A : Option Addr) (l : List To) (c gb : Nat) (p : To → Bool) (w : World) (hl : Sl w 8 A l.length (tcells l))
    (hp : ∀ (u : To) (W : World), Mod (fun _ => False) w W → Calls Try.prog 29 #[u.val, .pointer (some ⟨gb, 0, none⟩)] W (Only W (.bool (p u)))) :
    Calls Try.prog 35 #[.slice A l.length c, .func (.func 29) #[] #[.pointer (some ⟨gb, 0, none⟩)]] w (Found w (l.any p)) := by
  have hb1 := hl.2.1
  unfold maxLen at hb1
  have HL := Lib.hid hl
  have HP := Lib.hid hp
  clear hl hp
  go_enter Try.func35, Try.ntmps35
  go_wp2_with fail
  go_loopg [5, 8] l.length (fun q _ i wr => ∃ k : Nat, k ≤ l.length ∧ i = .int .i64 k ∧ Hid (∀ j (h1 : j < l.length), j < k → p l[j] = false) ∧ Hid (Mod (fun _ => False) w wr) ∧ q + k = l.length)
  case atStart => exact ⟨0, by omega, rfl, Lib.hid fun j _ h => absurd h (by omega), Lib.hid (Mod.refl _ _), by omega⟩
  case round =>
    obtain ⟨k, hk, rfl, hE, hM, hq⟩ := hrel
    by_cases hlt : k < l.length
    · obtain ⟨g, o, rfl, hg, q0, q1, q2, q3, q4, q5, q6, q7⟩ := (HL.out.none_ hM.out).to hlt
      have hc := HP.out l[k] _ hM.out
      unfold To.val at hc
      cases hv : p l[k]
      · rw [hv] at hc
        have HC := Lib.hid hc
        have HV := Lib.hid hv
        clear hc hv
        generalize hxx : l[k] = x at *
        have HX := Lib.hid hxx
        clear hxx
        go_wp2_with fail
        refine HC.out.mono ?_
        rintro e w1 ⟨rfl, m1⟩
        have M1 := Lib.hid (hM.out.trans m1 (by simp))
        clear m1
        go_wp2_with fail
        go_roundg (l.length - (k + 1))
        case measure => omega
        case rel =>
          refine ⟨k + 1, by omega, by go_num, Lib.hid fun j h1 hj => ?_, M1, by omega⟩
          by_cases e : j = k
          · subst e; rw [HX.out]; exact HV.out
          · exact hE.out j h1 (by omega)
      · have HA := Lib.hid (any_at hlt hv)
        rw [hv] at hc
        have HC := Lib.hid hc
        clear hc hv
        generalize l[k] = x at *
        go_wp2_with fail
        refine HC.out.mono ?_
        rintro e w1 ⟨rfl, m1⟩
        have M1 := Lib.hid (hM.out.trans m1 (by simp))
        clear m1
        go_wp2_with fail
        go_ret
        exact ⟨_, rfl, by rw [HA.out]; simp, M1.out⟩
    · have HA := Lib.hid (any_none (p := p) fun j h1 => hE.out j h1 (by omega))
      go_wp2_with fail
      go_ret
      exact ⟨_, rfl, by rw [HA.out]; rfl, hM.out⟩

theorem containsQ (A : Option Addr) (l : List To) (c gb : Nat) (p : To → Bool) (w : World) (hl : Sl w 8 A l.length (tcells l))
    (hp : ∀ (u : To) (W : World), Mod (fun _ => False) w W → Calls Try.prog 29 #[u.val, .pointer (some ⟨gb, 0, none⟩)] W (Only W (.bool (p u)))) :
    Calls Try.prog 28 #[.slice A l.length c, .func (.func 29) #[] #[.pointer (some ⟨gb, 0, none⟩)]] w (Only w (.bool (l.any p))) := by
  have HI := Lib.hid (indexQ A l c gb p w hl hp)
  clear hl hp
  go_enter Try.func28, Try.ntmps28
  go_wp2_with fail
  refine HI.out.mono ?_
  rintro e w1 ⟨r, rfl, hr, m1⟩
  have HR := Lib.hid hr
  clear hr
  go_wp2_with fail
  go_ret
  exact ⟨by rw [← HR.out]; rfl, m1⟩

/-- the program's Has -/
theorem has_any (g : Nat) (F : Nat → Prop) (T : List To) (e : En) (w : World) (hq : IsQ w g F T) :
    Calls Try.prog 19 #[.pointer (some ⟨g, 0, none⟩), e.val] w (Only w (.bool (hasB T e))) := by
  have hmf : ∀ (fn : Fn) (first cap : Array Value) (w : World), (Instr.makeFunc fn first cap).run Try.prog w = .ok (.func fn first cap) w := fun _ _ _ _ => rfl
  obtain ⟨A, c, hC, hO, -, -, -⟩ := hq
  have c0 : w.cell? ⟨g, 0, none⟩ = some (.slice A T.length c) := hC.1 0 _ rfl
  have hlt := hC.2.2
  have hco : ∀ (W : World), Mod (fun _ => False) (w.alloc (.cells #[.int .i64 e.fr, .int .i64 e.bo, .int .i64 e.se, .int .i64 e.od, .int .i64 e.lv, .int .i64 e.st, .string e.da] 39)) W → Cells W w.heap.size e.cells := fun W hm =>
    (Cells.new w _ 39).mod hm (by simp)
  have hcc := containsQ A T c w.heap.size (fun t => same t.e e) _ ((Sl.of_own hO).none_ ((Mod.refl _ _).alloc (.cells #[.int .i64 e.fr, .int .i64 e.bo, .int .i64 e.se, .int .i64 e.od, .int .i64 e.lv, .int .i64 e.st, .string e.da] 39)))
    fun u W hm => has1_any w.heap.size e u W (hco W hm)
  have HC := Lib.hid hcc
  clear hC hO hco hcc
  unfold hasB En.val
  generalize (T.any fun t => same t.e e) = v at *
  go_enter Try.func19, Try.ntmps19
  go_wp2_with fail
  refine HC.out.mono ?_
  rintro e w1 ⟨rfl, m1⟩
  go_wp2_with fail
  go_ret
  exact ⟨rfl, ((Mod.refl _ _).alloc _).trans m1 (by simp)⟩
theorem has_nil (e : En) (w : World) : Calls Try.prog 19 #[.pointer none, e.val] w (Only w (.bool false)) := by
  unfold En.val
  go_enter Try.func19, Try.ntmps19
  go_wp2_with fail
  go_ret
  exact ⟨rfl, (Mod.refl _ _).alloc _⟩

/-- the reference's Has -/
theorem hasR_any (g : Nat) (F : Nat → Prop) (T : List To) (e : En) (w : World) (hq : IsQ w g F T) :
    Calls Try.prog 20 #[.pointer (some ⟨g, 0, none⟩), e.val] w (Only w (.bool (hasB T e))) := by
  obtain ⟨A, c, hC, hO, -, -, -⟩ := hq
  have hC0 := Lib.hid hC
  have hb1 := hO.2.1
  have hb2 := hO.2.2.1
  unfold maxLen at hb2
  have HL := Lib.hid (Sl.of_own hO)
  clear hC hO
  unfold En.val
  go_enter Try.func20, Try.ntmps20
  go_wp2_with fail
  go_loopg [5] T.length (fun q i wr => ∃ k : Nat, k ≤ T.length ∧ i = .int .i64 k ∧ Hid (∀ j (h1 : j < T.length), j < k → same T[j].e e = false) ∧ Hid (Mod (fun _ => False) (w.alloc (.cells #[.int .i64 e.fr, .int .i64 e.bo, .int .i64 e.se, .int .i64 e.od, .int .i64 e.lv, .int .i64 e.st, .string e.da] 39)) wr) ∧ q + k = T.length)
  case atStart => exact ⟨0, by omega, rfl, Lib.hid fun j _ h => absurd h (by omega), Lib.hid (Mod.refl _ _), by omega⟩
  case round =>
    obtain ⟨k, hk, rfl, hE, hM, hq⟩ := hrel
    have MW := Lib.hid (((Mod.refl (fun _ => False) w).alloc _).trans hM.out (by simp))
    have c0 : wr.cell? ⟨g, 0, none⟩ = some (.slice A T.length c) := (hC0.out.mod MW.out (by simp)).1 0 _ rfl
    have hg0 : g < wr.heap.size := (hC0.out.mod MW.out (by simp)).2.2
    by_cases hlt : k < T.length
    · obtain ⟨b, o, rfl, hb, q0, q1, q2, q3, q4, q5, q6, q7⟩ := (HL.out.none_ MW.out).to hlt
      have hce : Cells wr w.heap.size e.cells := (Cells.new w _ 39).mod hM.out (by simp)
      have x0 : wr.cell? ⟨w.heap.size, 0, none⟩ = some (.int .i64 e.fr) := hce.1 0 _ rfl
      have x1 : wr.cell? ⟨w.heap.size, 1, none⟩ = some (.int .i64 e.bo) := hce.1 1 _ rfl
      have x2 : wr.cell? ⟨w.heap.size, 2, none⟩ = some (.int .i64 e.se) := hce.1 2 _ rfl
      have x3 : wr.cell? ⟨w.heap.size, 3, none⟩ = some (.int .i64 e.od) := hce.1 3 _ rfl
      have x4 : wr.cell? ⟨w.heap.size, 4, none⟩ = some (.int .i64 e.lv) := hce.1 4 _ rfl
      have x5 : wr.cell? ⟨w.heap.size, 5, none⟩ = some (.int .i64 e.st) := hce.1 5 _ rfl
      have x6 : wr.cell? ⟨w.heap.size, 6, none⟩ = some (.string e.da) := hce.1 6 _ rfl
      have i0 : (0 : Int) ≤ (k : Int) := by omega
      have i1 : (k : Int) < (T.length : Int) := by omega
      have hc := fun W => same_ref T[k].e e W
      unfold En.val at hc
      clear hce
      cases hv : same T[k].e e
      · rw [hv] at hc
        have HC := Lib.hid hc
        have HV := Lib.hid hv
        clear hc hv
        generalize hxx : T[k] = x at *
        have HX := Lib.hid hxx
        clear hxx
        go_wp2_with fail
        go_region_with (go_at_call 22; refine (HC.out _).mono ?_; rintro e w1 ⟨rfl, m1⟩)
        all_goals
          have M1 := Lib.hid (hM.out.trans (undrew m1) (by simp))
          clear m1
          go_wp2_with fail
          go_roundg (T.length - (k + 1))
          case measure => omega
          case rel =>
            refine ⟨k + 1, by omega, by go_num, Lib.hid fun j h1 hj => ?_, M1, by omega⟩
            by_cases e : j = k
            · subst e; rw [HX.out]; exact HV.out
            · exact hE.out j h1 (by omega)
      · have HA := Lib.hid (any_at (p := fun t => same t.e e) hlt hv)
        rw [hv] at hc
        have HC := Lib.hid hc
        clear hc hv
        generalize T[k] = x at *
        go_wp2_with fail
        go_region_with (go_at_call 22; refine (HC.out _).mono ?_; rintro e w1 ⟨rfl, m1⟩)
        all_goals
          go_wp2_with fail
          go_ret
          exact ⟨by unfold hasB; rw [HA.out]; rfl, MW.out.trans (undrew m1) (by simp)⟩
    · have HA := Lib.hid (any_none (l := T) (p := fun t => same t.e e) fun j h1 => hE.out j h1 (by omega))
      go_wp2_with fail
      go_ret
      exact ⟨by unfold hasB; rw [HA.out]; rfl, MW.out⟩

/-- the program's Told -/
theorem toldQ_any (g : Nat) (F : Nat → Prop) (T : List To) (w : World) (hq : IsQ w g F T) (hT : T.length ≤ 1000) :
    Calls Try.prog 21 #[.pointer (some ⟨g, 0, none⟩)] w (NewT w T) := by
  obtain ⟨A, c, hC, hO, -, -, -⟩ := hq
  have c0 : w.cell? ⟨g, 0, none⟩ = some (.slice A T.length c) := hC.1 0 _ rfl
  have hlt := hC.2.2
  have HC := Lib.hid (cloneT_any A T c w (Sl.of_own hO) (by
    rintro rfl
    rcases hO.2.2.2 with ⟨_, h⟩ | ⟨_, _, h, _⟩
    · have := hO.2.1; exact List.eq_nil_of_length_eq_zero (by omega)
    · cases h) hT)
  clear hC hO
  go_enter Try.func21, Try.ntmps21
  go_wp2_with fail
  refine HC.out.mono ?_
  rintro e w1 ⟨B, d, rfl, o1, m1, b1⟩
  have O1 := Lib.hid o1
  have M1 := Lib.hid m1
  have B1 := Lib.hid b1
  clear o1 m1 b1
  go_wp2_with fail
  go_ret
  exact ⟨B, d, rfl, O1.out, M1.out, B1.out⟩
theorem toldQ_nil (w : World) : Calls Try.prog 21 #[.pointer none] w (NewT w []) := by
  go_enter Try.func21, Try.ntmps21
  go_wp2_with fail
  go_ret
  exact ⟨none, 0, rfl, Own.nil _ _, Mod.refl _ _, by simp [blk]⟩
/-- New -/
theorem newQ_any (w : World) : Calls Try.prog 15 #[] w fun e w' => ∃ g, e = .returned (.pointer (some ⟨g, 0, none⟩)) ∧ IsQ w' g (fun k => k = g) [] ∧ Mod (fun _ => False) w w' ∧ w.heap.size ≤ g := by
  go_enter Try.func15, Try.ntmps15
  go_wp2_with fail
  go_ret
  refine ⟨_, rfl, ⟨none, 0, Cells.new w _ _, Own.nil _ _, by simp [blk], rfl, by simp [blk], by simp⟩, (Mod.refl _ _).alloc _, Nat.le_refl _⟩
end Go.Proofs.Ytcjnmiopklkifaa
