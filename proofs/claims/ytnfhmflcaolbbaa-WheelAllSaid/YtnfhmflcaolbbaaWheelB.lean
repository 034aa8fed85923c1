/- The law's first wheel. -/
import Derived.Test.YtnfhmflcaolbbaaWheelG
namespace Go.Proofs.Ytnfhmflcaolbbaa
open Go.RowKit
attribute [local go_sem ↓] Go.wp_at_zero Go.wp_at_succ
set_option linter.unusedVariables false
set_option linter.unusedSimpArgs false

theorem perm2 {a b x y : Tm} (h : [a, b].Perm [x, y]) : (a = x ∧ b = y) ∨ (a = y ∧ b = x) := by
  have h1 : a ∈ [x, y] := h.subset (by simp)
  simp at h1
  rcases h1 with rfl | rfl
  · have h2 := List.Perm.cons_inv h
    have h3 := List.perm_singleton.1 h2
    injection h3 with h4
    exact .inl ⟨rfl, h4⟩
  · have h2 := List.Perm.cons_inv (h.trans (List.Perm.swap _ _ _))
    have h3 := List.perm_singleton.1 h2
    injection h3 with h4
    exact .inr ⟨rfl, h4⟩
theorem two_sorted {l : List Tm} {x y : Tm} (h : l.Perm [x, y]) (hs : SortedT l) (hlt : ltOf cf y x = true) : l = [y, x] := by
  have hl : l.length = 2 := h.length_eq
  match l, hl with
  | [a, b], _ =>
    rcases perm2 h with ⟨rfl, rfl⟩ | ⟨rfl, rfl⟩
    · have := hs 0 1 (by simp) (by simp) (by omega)
      simp at this
      rw [this] at hlt; cases hlt
    · rfl
theorem GoR.all {w : World} {g : Nat} {F : Nat → Prop} {now' : Int} {l : List Tm} {e : Ending} {w' : World} (h : GoR w g F now' l e w') (hl : ∀ j (h : j < l.length), l[j].t ≤ now') : ∃ B d, e = .returned (.slice B l.length d) ∧ Own w' 1 B l.length d (icT (l.map Tm.id)) ∧ IsW w' g F now' [] ∧ Mod F w w' ∧ ∀ q, blk B = some q → w.heap.size ≤ q := by
  obtain ⟨k, B, d, h1, h2, h3, h4, h5, h6, h7, h8⟩ := h
  have hk : k = l.length := by
    by_cases hk : k < l.length
    · have := hl k hk; have := h3 hk; omega
    · omega
  subst hk
  rw [List.take_length] at h5
  rw [List.drop_length] at h6
  exact ⟨B, d, h4, h5, h6, h7, h8⟩
theorem GoR.none {w : World} {g : Nat} {F : Nat → Prop} {now' : Int} {l : List Tm} {e : Ending} {w' : World} (h : GoR w g F now' l e w') (hl : ∀ h : 0 < l.length, now' < l[0].t) : ∃ B d, e = .returned (.slice B 0 d) ∧ Own w' 1 B 0 d [] ∧ IsW w' g F now' l ∧ Mod F w w' ∧ ∀ q, blk B = some q → w.heap.size ≤ q := by
  obtain ⟨k, B, d, h1, h2, h3, h4, h5, h6, h7, h8⟩ := h
  have hk : k = 0 := by
    by_cases hk : 0 < k
    · have := hl (by omega); have := h2 0 (by omega) hk; omega
    · omega
  subst hk
  exact ⟨B, d, h4, h5, h6, h7, h8⟩

def t3 : Tm := ⟨3, 9⟩
def t1 : Tm := ⟨1, 9⟩
set_option maxHeartbeats 3200000 in
theorem begunW_any (w : World) : Calls Try.prog 8 #[] w fun e w' => e = .returned (.bool true) ∧ Below w.heap.size w w' := by
  go_enter Try.func8, Try.ntmps8
  go_wp2_with fail
  refine (newW_any 5 w).mono ?_
  rintro e w1 ⟨g, rfl, p1, hg, m1⟩
  rw [show (if timeB 5 then (5 : Int) else 0) = 5 from by decide] at p1
  have P1 := Lib.hid p1
  have B1 := Lib.hid (Mod.below (Below.refl w.heap.size w) m1 (by simp))
  clear p1 m1
  go_wp2_with fail
  refine (set_ok g _ 5 [] 3 9 w1 P1.out (by simp) (by omega) (by omega) (by decide)).mono ?_
  rintro e w2 ⟨F2, l2, rfl, p2, hp2, hs2, m2, f2⟩
  have e2 : l2 = [t3] := List.perm_singleton.1 hp2
  subst e2
  have P2 := Lib.hid p2
  have B2 := Lib.hid (Mod.below B1.out m2 (fun k hk => by subst hk; exact hg))
  have hF2 := Lib.hid (show ∀ k, F2 k → w.heap.size ≤ k from fun k hk => by have := B1.out.size; rcases f2 k hk with h | h; (subst h; exact hg); omega)
  clear p2 m2 f2 P1 hp2 hs2
  go_wp2_with fail
  refine (set_ok g F2 5 [t3] 1 9 w2 P2.out (by decide) (by omega) (by omega) (by decide)).mono ?_
  rintro e w3 ⟨F3, l3, rfl, p3, hp3, hs3, m3, f3⟩
  have e3 : l3 = [t1, t3] := two_sorted (x := t3) (y := t1) hp3 hs3 (by rw [lt_cf]; decide)
  subst e3
  have P3 := Lib.hid p3
  have B3 := Lib.hid (Mod.below B2.out m3 hF2.out)
  have hF3 := Lib.hid (show ∀ k, F3 k → w.heap.size ≤ k from fun k hk => by have := B2.out.size; rcases f3 k hk with h | h; (exact hF2.out k h); omega)
  clear p3 m3 f3 P2 hp3 hs3
  go_wp2_with fail
  refine (nextW_some g F3 5 [t1, t3] w3 P3.out (by decide)).mono ?_
  rintro e w4 ⟨rfl, rfl⟩
  go_wp2_with fail
  refine (go_ok g F3 5 9 [t1, t3] w3 P3.out (by decide) (by decide) (by omega)).mono ?_
  intro e w4 h4
  obtain ⟨B, d, rfl, o4, p4, m4, b4⟩ := h4.all (by intro j hj; match j, hj with | 0, _ => exact Int.le_refl 9 | 1, _ => exact Int.le_refl 9)
  obtain ⟨gb, ob, hB, hgb⟩ := o4.form (by decide)
  subst hB
  obtain ⟨g', o', e', _, q0⟩ := o4.at_ (j := 0) (u := .int .i64 1) rfl
  injection e' with e'
  injection e' with e1 e2
  subst e1 e2
  obtain ⟨g', o', e', _, q1⟩ := o4.at_ (j := 1) (u := .int .i64 3) rfl
  injection e' with e'
  injection e' with e1 e2
  subst e1 e2
  simp only [Nat.add_zero] at q0
  have P4 := Lib.hid p4
  have B4 := Lib.hid (Mod.below B3.out m4 hF3.out)
  clear h4 o4 p4 m4 b4
  rw [show ([t1, t3] : List Tm).length = 2 from rfl]
  go_wp2_with fail
  refine (nowW_any g F3 9 [] w4 P4.out).mono ?_
  rintro e w5 ⟨rfl, rfl⟩
  go_wp2_with fail
  refine (lenW_any g F3 9 [] w4 P4.out).mono ?_
  rintro e w5 ⟨rfl, rfl⟩
  go_wp2_with fail
  refine (stop_any g F3 9 [] 1 w4 P4.out).mono ?_
  rintro e w5 ⟨rfl, p5, m5⟩
  rw [show hasId [] 1 = false from rfl]
  have B5 := Lib.hid (Mod.below B4.out m5 hF3.out)
  go_wp2_with fail
  go_ret
  exact ⟨rfl, B5.out⟩
end Go.Proofs.Ytnfhmflcaolbbaa
