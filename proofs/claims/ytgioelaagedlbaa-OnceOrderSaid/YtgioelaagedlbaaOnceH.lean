/- Get's inner function, at the other functions that make; at none. -/
import Derived.Test.YtgioelaagedlbaaOnceG
namespace Go.Proofs.Ytgioelaagedlbaa
open Go.RowKit
attribute [local go_sem ↓] Go.wp_at_zero Go.wp_at_succ
set_option linter.unusedVariables false
set_option linter.unusedSimpArgs false

set_option maxHeartbeats 1600000 in
theorem get1_l (g : Nat) (pl p1 p2 : Addr) (d : Bool) (m : Int) (l0 : Value) (hpg : pl.block ≠ g) (W0 w : World) (hp : w.cell? pl = some (.pointer (some ⟨g, 0, none⟩)))
    (hC : Cells w g (cv d m (.func (.func 10) #[] #[.pointer (some p1), .pointer (some p2)]) l0 false)) (xs : List Int) (hx : xs.length ≤ 1000) (F : Nat → Prop) (hFg : ¬ F g) (hFp : ¬ F pl.block) (hM : Mod (fun q => q = g ∨ F q) W0 w) (hg : g < W0.heap.size) (J : World → Prop) (hJ : ∀ W W', J W → Mod (fun q => q = g) W W' → J W')
    (hmk : ∀ W, Mod (fun q => q = g) w W → Calls Try.prog 10 #[.pointer (some p1), .pointer (some p2)] W fun e w' => ∃ A c, e = .returned (.slice A xs.length c) ∧ Own w' 1 A xs.length c (ic xs) ∧ Mod F W w' ∧ J w') :
    Calls Try.prog 21 #[.pointer (some pl)] w fun e w' => e = .returned (.tuple #[]) ∧ ∃ l1, Cells w' g (cv d m (.func (.func 10) #[] #[.pointer (some p1), .pointer (some p2)]) l1 true) ∧ Rk W0 g xs F J l1 w' := by
  have c3 : w.cell? ⟨g, 3, none⟩ = some (.func (.func 10) #[] #[.pointer (some p1), .pointer (some p2)]) := hC.1 3 _ rfl
  have HB := Lib.hid ((bstore g 5 _ w (hC.1 5 _ rfl) (hC.2.1 5)).mono (R := fun e w' => e = .returned (.tuple #[]) ∧ w' = w.drew.setCell ⟨g, 5, none⟩ (.int .u32 1)) (R' := fun e w' => e = .returned (.tuple #[]) ∧ Cells w' g (cv d m (.func (.func 10) #[] #[.pointer (some p1), .pointer (some p2)]) l0 true) ∧ Mod (fun q => q = g) w w')
    (fun e w' h => ⟨h.1, by rw [h.2]; exact hC.drew.set_ 5 (.int .u32 1), by rw [h.2]; exact (Mod.refl (fun q => q = g) w).drew.setCell (p := ⟨g, 5, none⟩) (.inl rfl) (.int .u32 1)⟩))
  have hneq : ∀ (k : Fn) (fs cs : Array Value) (w : World), (binOp .neq 26 (.func k fs cs) .nilFunc).run Try.prog w = .ok (.bool true) w := run_neq_func Try.underlying26
  have HM := Lib.hid hM
  have HMK := Lib.hid hmk
  clear hmk hM hC
  go_enter Try.func21, Try.ntmps21
  go_wp2_with fail
  refine HB.out.mono ?_
  rintro e w1 ⟨rfl, c1, m1⟩
  have C1 := Lib.hid c1
  have M1 := Lib.hid m1
  have e1 := m1.cell hp hpg
  clear c1 m1
  have k3 : w1.cell? ⟨g, 3, none⟩ = some (.func (.func 10) #[] #[.pointer (some p1), .pointer (some p2)]) := C1.out.1 3 _ rfl
  have k4 : w1.cell? ⟨g, 4, none⟩ = some l0 := C1.out.1 4 _ rfl
  have f4 := C1.out.2.1 4
  have HK := Lib.hid (HMK.out w1.drew M1.out.drew)
  clear HMK HB hp
  go_wp2_with fail
  go_region_held3 (fun w' => w'.cell? pl = some (.pointer (some ⟨g, 0, none⟩)) ∧ w'.cell? ⟨g, 3, none⟩ = some (.func (.func 10) #[] #[.pointer (some p1), .pointer (some p2)]) ∧ w'.frozen? ⟨g, 4, none⟩ = false) (go_keep)
    (first
      | (go_at_call 10; (with_reducible refine HK.out.mono ?_); rintro e z ⟨A, cA, rfl, oz, mz, jz⟩
         have CZ := Lib.hid (C1.out.drew.mod mz hFg)
         have e2 := mz.cell (w := w1.drew) e1 hFp
         have k32 : z.cell? ⟨g, 3, none⟩ = _ := CZ.out.1 3 _ rfl
         have k42 : z.cell? ⟨g, 4, none⟩ = _ := CZ.out.1 4 _ rfl
         have f42 := CZ.out.2.1 4
         have HZ := Lib.hid (cloneI_any A xs cA z (Sl.of_own oz) (fun e => by subst e; exact List.eq_nil_of_length_eq_zero (own_none oz)) hx)
         have MZ := Lib.hid mz
         have JZ := Lib.hid jz
         clear oz mz jz)
      | (go_at_call 23; (with_reducible refine HZ.out.mono ?_); rintro e y ⟨A2, c2, rfl, o2, m2, b2⟩
         have CY := Lib.hid (CZ.out.mod m2 (by simp))
         have e3 := m2.cell e2 (by simp)
         have k33 : y.cell? ⟨g, 3, none⟩ = _ := CY.out.1 3 _ rfl
         have k43 : y.cell? ⟨g, 4, none⟩ = _ := CY.out.1 4 _ rfl
         have f43 := CY.out.2.1 4
         have e4 : (y.setCell ⟨g, 4, none⟩ (.slice A2 xs.length c2)).cell? pl = some (.pointer (some ⟨g, 0, none⟩)) := by rw [World.cell?_setCell_other _ _ _ _ (fun h => hpg (by rw [← h]))]; exact e3
         have k34 : (y.setCell ⟨g, 4, none⟩ (.slice A2 xs.length c2)).cell? ⟨g, 3, none⟩ = some (.func (.func 10) #[] #[.pointer (some p1), .pointer (some p2)]) := (CY.out.set_ 4 _).1 3 _ rfl
         have M2 := Lib.hid m2
         have O2 := Lib.hid o2
         have B2 := Lib.hid b2
         clear m2 o2 b2))
  all_goals
    have hs : W0.heap.size ≤ z.heap.size := Nat.le_trans HM.out.size (Nat.le_trans M1.out.size MZ.out.size)
    have hm3 : Mod (fun q => q = g) z (y.setCell ⟨g, 4, none⟩ (.slice A2 xs.length c2)) := Mod.setCell (F := fun q => q = g) (M2.out.mono (by simp)) (p := ⟨g, 4, none⟩) (.inl rfl) _
    have hm4 : Mod (fun q => q = g ∨ F q) W0 (y.setCell ⟨g, 4, none⟩ (.slice A2 xs.length c2)) := ((HM.out.trans M1.out fun k hk => .inl (.inl hk)).drew.trans MZ.out fun k hk => .inl (.inr hk)).trans hm3 fun k hk => .inl (.inl hk)
    have hr := Lib.hid (show Cells (y.setCell ⟨g, 4, none⟩ (.slice A2 xs.length c2)) g (cv d m (.func (.func 10) #[] #[.pointer (some p1), .pointer (some p2)]) (.slice A2 xs.length c2) true) ∧ Rk W0 g xs F J (.slice A2 xs.length c2) (y.setCell ⟨g, 4, none⟩ (.slice A2 xs.length c2)) from
      ⟨CY.out.set_ 4 _, A2, c2, rfl, O2.out.far (fun h => by have h1 := B2.out g h; omega) _, fun q e => (by have h1 := B2.out q e; omega), hJ _ _ JZ.out hm3, hm4⟩)
    clear hm3 hm4
    go_wp2_with fail
    go_end0
    exact ⟨rfl, _, hr.out.1, hr.out.2⟩
set_option maxHeartbeats 1600000 in
theorem get1_p (g : Nat) (pl p1 p2 : Addr) (d : Bool) (m : Int) (l0 : Value) (hpg : pl.block ≠ g) (W0 w : World) (hp : w.cell? pl = some (.pointer (some ⟨g, 0, none⟩)))
    (hC : Cells w g (cv d m (.func (.func 25) #[] #[.pointer (some p1), .pointer (some p2)]) l0 false)) (xs : List Int) (hx : xs.length ≤ 1000) (F : Nat → Prop) (hFg : ¬ F g) (hFp : ¬ F pl.block) (hM : Mod (fun q => q = g ∨ F q) W0 w) (hg : g < W0.heap.size) (J : World → Prop) (hJ : ∀ W W', J W → Mod (fun q => q = g) W W' → J W')
    (hmk : ∀ W, Mod (fun q => q = g) w W → Calls Try.prog 25 #[.pointer (some p1), .pointer (some p2)] W fun e w' => ∃ A c, e = .returned (.slice A xs.length c) ∧ Own w' 1 A xs.length c (ic xs) ∧ Mod F W w' ∧ J w') :
    Calls Try.prog 21 #[.pointer (some pl)] w fun e w' => e = .returned (.tuple #[]) ∧ ∃ l1, Cells w' g (cv d m (.func (.func 25) #[] #[.pointer (some p1), .pointer (some p2)]) l1 true) ∧ Rk W0 g xs F J l1 w' := by
  have c3 : w.cell? ⟨g, 3, none⟩ = some (.func (.func 25) #[] #[.pointer (some p1), .pointer (some p2)]) := hC.1 3 _ rfl
  have HB := Lib.hid ((bstore g 5 _ w (hC.1 5 _ rfl) (hC.2.1 5)).mono (R := fun e w' => e = .returned (.tuple #[]) ∧ w' = w.drew.setCell ⟨g, 5, none⟩ (.int .u32 1)) (R' := fun e w' => e = .returned (.tuple #[]) ∧ Cells w' g (cv d m (.func (.func 25) #[] #[.pointer (some p1), .pointer (some p2)]) l0 true) ∧ Mod (fun q => q = g) w w')
    (fun e w' h => ⟨h.1, by rw [h.2]; exact hC.drew.set_ 5 (.int .u32 1), by rw [h.2]; exact (Mod.refl (fun q => q = g) w).drew.setCell (p := ⟨g, 5, none⟩) (.inl rfl) (.int .u32 1)⟩))
  have hneq : ∀ (k : Fn) (fs cs : Array Value) (w : World), (binOp .neq 26 (.func k fs cs) .nilFunc).run Try.prog w = .ok (.bool true) w := run_neq_func Try.underlying26
  have HM := Lib.hid hM
  have HMK := Lib.hid hmk
  clear hmk hM hC
  go_enter Try.func21, Try.ntmps21
  go_wp2_with fail
  refine HB.out.mono ?_
  rintro e w1 ⟨rfl, c1, m1⟩
  have C1 := Lib.hid c1
  have M1 := Lib.hid m1
  have e1 := m1.cell hp hpg
  clear c1 m1
  have k3 : w1.cell? ⟨g, 3, none⟩ = some (.func (.func 25) #[] #[.pointer (some p1), .pointer (some p2)]) := C1.out.1 3 _ rfl
  have k4 : w1.cell? ⟨g, 4, none⟩ = some l0 := C1.out.1 4 _ rfl
  have f4 := C1.out.2.1 4
  have HK := Lib.hid (HMK.out w1.drew M1.out.drew)
  clear HMK HB hp
  go_wp2_with fail
  go_region_held3 (fun w' => w'.cell? pl = some (.pointer (some ⟨g, 0, none⟩)) ∧ w'.cell? ⟨g, 3, none⟩ = some (.func (.func 25) #[] #[.pointer (some p1), .pointer (some p2)]) ∧ w'.frozen? ⟨g, 4, none⟩ = false) (go_keep)
    (first
      | (go_at_call 25; (with_reducible refine HK.out.mono ?_); rintro e z ⟨A, cA, rfl, oz, mz, jz⟩
         have CZ := Lib.hid (C1.out.drew.mod mz hFg)
         have e2 := mz.cell (w := w1.drew) e1 hFp
         have k32 : z.cell? ⟨g, 3, none⟩ = _ := CZ.out.1 3 _ rfl
         have k42 : z.cell? ⟨g, 4, none⟩ = _ := CZ.out.1 4 _ rfl
         have f42 := CZ.out.2.1 4
         have HZ := Lib.hid (cloneI_any A xs cA z (Sl.of_own oz) (fun e => by subst e; exact List.eq_nil_of_length_eq_zero (own_none oz)) hx)
         have MZ := Lib.hid mz
         have JZ := Lib.hid jz
         clear oz mz jz)
      | (go_at_call 23; (with_reducible refine HZ.out.mono ?_); rintro e y ⟨A2, c2, rfl, o2, m2, b2⟩
         have CY := Lib.hid (CZ.out.mod m2 (by simp))
         have e3 := m2.cell e2 (by simp)
         have k33 : y.cell? ⟨g, 3, none⟩ = _ := CY.out.1 3 _ rfl
         have k43 : y.cell? ⟨g, 4, none⟩ = _ := CY.out.1 4 _ rfl
         have f43 := CY.out.2.1 4
         have e4 : (y.setCell ⟨g, 4, none⟩ (.slice A2 xs.length c2)).cell? pl = some (.pointer (some ⟨g, 0, none⟩)) := by rw [World.cell?_setCell_other _ _ _ _ (fun h => hpg (by rw [← h]))]; exact e3
         have k34 : (y.setCell ⟨g, 4, none⟩ (.slice A2 xs.length c2)).cell? ⟨g, 3, none⟩ = some (.func (.func 25) #[] #[.pointer (some p1), .pointer (some p2)]) := (CY.out.set_ 4 _).1 3 _ rfl
         have M2 := Lib.hid m2
         have O2 := Lib.hid o2
         have B2 := Lib.hid b2
         clear m2 o2 b2))
  all_goals
    have hs : W0.heap.size ≤ z.heap.size := Nat.le_trans HM.out.size (Nat.le_trans M1.out.size MZ.out.size)
    have hm3 : Mod (fun q => q = g) z (y.setCell ⟨g, 4, none⟩ (.slice A2 xs.length c2)) := Mod.setCell (F := fun q => q = g) (M2.out.mono (by simp)) (p := ⟨g, 4, none⟩) (.inl rfl) _
    have hm4 : Mod (fun q => q = g ∨ F q) W0 (y.setCell ⟨g, 4, none⟩ (.slice A2 xs.length c2)) := ((HM.out.trans M1.out fun k hk => .inl (.inl hk)).drew.trans MZ.out fun k hk => .inl (.inr hk)).trans hm3 fun k hk => .inl (.inl hk)
    have hr := Lib.hid (show Cells (y.setCell ⟨g, 4, none⟩ (.slice A2 xs.length c2)) g (cv d m (.func (.func 25) #[] #[.pointer (some p1), .pointer (some p2)]) (.slice A2 xs.length c2) true) ∧ Rk W0 g xs F J (.slice A2 xs.length c2) (y.setCell ⟨g, 4, none⟩ (.slice A2 xs.length c2)) from
      ⟨CY.out.set_ 4 _, A2, c2, rfl, O2.out.far (fun h => by have h1 := B2.out g h; omega) _, fun q e => (by have h1 := B2.out q e; omega), hJ _ _ JZ.out hm3, hm4⟩)
    clear hm3 hm4
    go_wp2_with fail
    go_end0
    exact ⟨rfl, _, hr.out.1, hr.out.2⟩
theorem get1_nil (g : Nat) (pl : Addr) (d : Bool) (m : Int) (l0 : Value) (hpg : pl.block ≠ g) (w : World) (hp : w.cell? pl = some (.pointer (some ⟨g, 0, none⟩)))
    (hC : Cells w g (cv d m .nilFunc l0 false)) :
    Calls Try.prog 21 #[.pointer (some pl)] w fun e w' => e = .returned (.tuple #[]) ∧ Cells w' g (cv d m .nilFunc l0 true) ∧ Mod (fun q => q = g) w w' := by
  have HB := Lib.hid ((bstore g 5 _ w (hC.1 5 _ rfl) (hC.2.1 5)).mono (R := fun e w' => e = .returned (.tuple #[]) ∧ w' = w.drew.setCell ⟨g, 5, none⟩ (.int .u32 1)) (R' := fun e w' => e = .returned (.tuple #[]) ∧ Cells w' g (cv d m .nilFunc l0 true) ∧ Mod (fun q => q = g) w w')
    (fun e w' h => ⟨h.1, by rw [h.2]; exact hC.drew.set_ 5 (.int .u32 1), by rw [h.2]; exact (Mod.refl (fun q => q = g) w).drew.setCell (p := ⟨g, 5, none⟩) (.inl rfl) (.int .u32 1)⟩))
  have hneq : ∀ w, (binOp .neq 26 .nilFunc .nilFunc).run Try.prog w = .ok (.bool false) w := run_neq_func_nil Try.underlying26
  clear hC
  go_enter Try.func21, Try.ntmps21
  go_wp2_with fail
  refine HB.out.mono ?_
  rintro e w1 ⟨rfl, c1, m1⟩
  have C1 := Lib.hid c1
  have M1 := Lib.hid m1
  have e1 := m1.cell hp hpg
  have k3 : w1.cell? ⟨g, 3, none⟩ = some .nilFunc := c1.1 3 _ rfl
  clear c1 m1 HB hp
  go_wp2_with fail
  go_end0
  exact ⟨rfl, C1.out, M1.out⟩
end Go.Proofs.Ytgioelaagedlbaa
