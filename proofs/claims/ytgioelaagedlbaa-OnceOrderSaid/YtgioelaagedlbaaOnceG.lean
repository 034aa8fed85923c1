/- Get: a cell that was not asked yet, one that was. What makes is a contract. -/
import Derived.Test.YtgioelaagedlbaaOnce
import Derived.Deep.RegionHeld3
namespace Go.Proofs.Ytgioelaagedlbaa
open Go.RowKit
attribute [local go_sem ↓] Go.wp_at_zero Go.wp_at_succ
set_option linter.unusedVariables false
set_option linter.unusedSimpArgs false

theorem run_equalIn_func {P : Program} (d : Nat) {t : TypeId} {a b : Array TypeId} {c : Bool} (h : P.underlying t = some (.func a b c)) (k : Fn) (fs cs : Array Value) (w : World) : (Op.equalIn (d + 1) t (.func k fs cs) .nilFunc).run P w = .ok false w := by
  simp [Op.equalIn, run_underlying h]
theorem run_equalIn_nil {P : Program} (d : Nat) {t : TypeId} {a b : Array TypeId} {c : Bool} (h : P.underlying t = some (.func a b c)) (w : World) : (Op.equalIn (d + 1) t .nilFunc .nilFunc).run P w = .ok true w := by
  simp [Op.equalIn, run_underlying h]
theorem run_neq_func {P : Program} {t : TypeId} {a b : Array TypeId} {c : Bool} (h : P.underlying t = some (.func a b c)) (k : Fn) (fs cs : Array Value) (w : World) : (binOp .neq t (.func k fs cs) .nilFunc).run P w = .ok (.bool true) w := by
  simp only [binOp]
  simp [Op.equal, Op.maxDepth, run_equalIn_func 9999 h]
theorem run_eql_func {P : Program} {t : TypeId} {a b : Array TypeId} {c : Bool} (h : P.underlying t = some (.func a b c)) (k : Fn) (fs cs : Array Value) (w : World) : (binOp .eql t (.func k fs cs) .nilFunc).run P w = .ok (.bool false) w := by
  simp only [binOp]
  simp [Op.equal, Op.maxDepth, run_equalIn_func 9999 h]
theorem run_neq_func_nil {P : Program} {t : TypeId} {a b : Array TypeId} {c : Bool} (h : P.underlying t = some (.func a b c)) (w : World) : (binOp .neq t .nilFunc .nilFunc).run P w = .ok (.bool false) w := by
  simp only [binOp]
  simp [Op.equal, Op.maxDepth, run_equalIn_nil 9999 h]
theorem do_first (g : Nat) (pl : Addr) (mk l0 : Value) (w : World) (hC : Cells w g (cv false 0 mk l0 false)) (R : Value → World → Prop) (hR : ∀ l W W', R l W → Mod (fun q => q = g) W W' → R l W')
    (hf : ∀ W, Cells W g (cv false 1 mk l0 false) → Mod (fun q => q = g) w W → Calls Try.prog 21 #[.pointer (some pl)] W fun e w' => e = .returned (.tuple #[]) ∧ ∃ l1, Cells w' g (cv false 1 mk l1 true) ∧ R l1 w') :
    Calls Try.prog 20 #[.pointer (some ⟨g, 0, none⟩), .func (.func 21) #[] #[.pointer (some pl)]] w fun e w' => e = .returned (.tuple #[]) ∧ ∃ l1, Cells w' g (cv true 0 mk l1 true) ∧ R l1 w' := by
  have HS := Lib.hid (slow_any g pl mk l0 w hC R hR hf)
  have HL := Lib.hid (bload g 0 false w (hC.1 0 _ rfl))
  have hnot : ∀ (x : Bool) (w : World), (Op.unary .not (.bool x)).run Try.prog w = .ok (.bool (!x)) w := fun _ _ => rfl
  clear hf hR hC
  go_enter Try.func20, Try.ntmps20
  go_wp2_with (go_at_call 19; refine HL.out.mono ?_; rintro e w' ⟨rfl, rfl⟩)
  go_wp2_with (go_at_call 27; refine HS.out.mono ?_; rintro e w' ⟨rfl, l1, C1, r1⟩)
  go_end0
  exact ⟨rfl, l1, C1, r1⟩
theorem do_done (g : Nat) (mk l0 fv : Value) (a : Bool) (w : World) (hC : Cells w g (cv true 0 mk l0 a)) :
    Calls Try.prog 20 #[.pointer (some ⟨g, 0, none⟩), fv] w fun e w' => e = .returned (.tuple #[]) ∧ w = w' := by
  have HL := Lib.hid (bload g 0 true w (hC.1 0 _ rfl))
  have hnot : ∀ (x : Bool) (w : World), (Op.unary .not (.bool x)).run Try.prog w = .ok (.bool (!x)) w := fun _ _ => rfl
  clear hC
  go_enter Try.func20, Try.ntmps20
  go_wp2_with (go_at_call 19; refine HL.out.mono ?_; rintro e w' ⟨rfl, rfl⟩)
  go_end0
  exact ⟨rfl, rfl⟩

set_option maxHeartbeats 1600000 in
theorem get_first (g : Nat) (mk l0 : Value) (w : World) (hC : Cells w g (cv false 0 mk l0 false)) (xs : List Int) (hx : xs.length ≤ 1000) (F : Nat → Prop) (hFg : ¬ F g) (hFlt : ∀ q, F q → q < w.heap.size) (J : World → Prop) (hJ : ∀ W W', J W → Mod (fun q => q = g) W W' → J W')
    (h21 : ∀ pl W, pl.block = w.heap.size → W.cell? pl = some (.pointer (some ⟨g, 0, none⟩)) → Cells W g (cv false 1 mk l0 false) → Mod (fun q => q = g) (w.alloc (.cells #[.pointer (some ⟨g, 0, none⟩)] 24)) W → Calls Try.prog 21 #[.pointer (some pl)] W fun e w' => e = .returned (.tuple #[]) ∧ ∃ l1, Cells w' g (cv false 1 mk l1 true) ∧ Rk (w.alloc (.cells #[.pointer (some ⟨g, 0, none⟩)] 24)) g xs F J l1 w') :
    Calls Try.prog 12 #[.pointer (some ⟨g, 0, none⟩)] w (Got w g mk xs F J) := by
  have hmf : ∀ (fn : Fn) (first cap : Array Value) (w : World), (Instr.makeFunc fn first cap).run Try.prog w = .ok (.func fn first cap) w := fun _ _ _ _ => rfl
  have hg : g < w.heap.size := hC.2.2
  have hng : ¬ g = w.heap.size := by omega
  have p0 : (w.alloc (.cells #[.pointer (some ⟨g, 0, none⟩)] 24)).cell? ⟨w.heap.size, 0, none⟩ = some (.pointer (some ⟨g, 0, none⟩)) := by simp
  have HD := Lib.hid (do_first g ⟨w.heap.size, 0, none⟩ mk l0 (w.alloc (.cells #[.pointer (some ⟨g, 0, none⟩)] 24)) (hC.alloc _) (fun l W => Rk (w.alloc (.cells #[.pointer (some ⟨g, 0, none⟩)] 24)) g xs F J l W) (fun l W W' h hm => h.next (by simp; omega) hJ hm)
    (fun W hW hM => h21 ⟨w.heap.size, 0, none⟩ W rfl (hM.cell p0 (fun h => by have h2 : w.heap.size = g := h; omega)) hW hM))
  clear h21
  go_enter Try.func12, Try.ntmps12
  go_wp2_with fail
  refine HD.out.mono ?_
  rintro e w2 ⟨rfl, l1, C2, L, c, rfl, o2, b2, j2, m2⟩
  have hFw : ¬ F w.heap.size := fun h => by have := hFlt _ h; omega
  have q0 := m2.cell p0 (fun h => by rcases h with h | h; exact hng h.symm; exact hFw h)
  have k4 : w2.cell? ⟨g, 4, none⟩ = some (.slice L xs.length c) := C2.1 4 _ rfl
  have HCl := Lib.hid (cloneI_any L xs c w2 (Sl.of_own o2) (fun e => by subst e; exact List.eq_nil_of_length_eq_zero (own_none o2)) hx)
  have HC2 := Lib.hid C2
  have HO2 := Lib.hid o2
  have HB2 := Lib.hid b2
  have HJ2 := Lib.hid j2
  have HM2 := Lib.hid m2
  have HJ := Lib.hid hJ
  clear C2 o2 b2 j2 m2 HD hC p0 hJ
  go_wp2_with fail
  refine HCl.out.mono ?_
  rintro e w3 ⟨A, d, rfl, o3, m3, b3⟩
  have hr := Lib.hid (show Got w g mk xs F J (.returned (.slice A xs.length d)) w3 from ⟨A, d, w2.heap.size, rfl, o3, ⟨L, c, HC2.out.mod m3 (by simp), HO2.out.mod m3 (by simp), fun q e => ⟨by have := HB2.out q e; simp at this; omega, HO2.out.lt e⟩⟩,
    HJ.out _ _ HJ2.out (m3.mono (by simp)), (((Mod.refl _ w).alloc _).trans HM2.out fun k hk => .inl hk).trans m3 (by simp), fun q e => by have h1 := b3 q e; have h2 := HM2.out.size; simp at h2; omega, by have h2 := HM2.out.size; simp at h2; omega, m3.size⟩)
  clear o3 m3 b3
  go_wp2_with fail
  go_ret
  exact hr.out
theorem get_again (g : Nat) (mk : Value) (w : World) (xs : List Int) (lo hi : Nat) (hh : Hot w g mk xs lo hi) (hx : xs.length ≤ 1000) :
    Calls Try.prog 12 #[.pointer (some ⟨g, 0, none⟩)] w (NewI w xs) := by
  have hmf : ∀ (fn : Fn) (first cap : Array Value) (w : World), (Instr.makeFunc fn first cap).run Try.prog w = .ok (.func fn first cap) w := fun _ _ _ _ => rfl
  obtain ⟨L, c, hC, hO, hb⟩ := hh
  have hg : g < w.heap.size := hC.2.2
  have HD := Lib.hid (fun fv => do_done g mk (.slice L xs.length c) fv true _ (hC.alloc (.cells #[.pointer (some ⟨g, 0, none⟩)] 24)))
  have hC2 := hC.alloc (.cells #[.pointer (some ⟨g, 0, none⟩)] 24)
  have c4 : (w.alloc (.cells #[.pointer (some ⟨g, 0, none⟩)] 24)).cell? ⟨g, 4, none⟩ = some (.slice L xs.length c) := hC2.1 4 _ rfl
  have HCl := Lib.hid (cloneI_any L xs c _ (Sl.of_own (hO.alloc (.cells #[.pointer (some ⟨g, 0, none⟩)] 24))) (fun e => by subst e; exact List.eq_nil_of_length_eq_zero (own_none hO)) hx)
  clear hC hC2 hO hb
  go_enter Try.func12, Try.ntmps12
  go_wp2_with fail
  refine (HD.out _).mono ?_
  rintro e w2 ⟨rfl, rfl⟩
  go_wp2_with fail
  refine HCl.out.mono ?_
  rintro e w2 ⟨A, d, rfl, o2, m2, b2⟩
  have hr := Lib.hid (show NewI w xs (.returned (.slice A xs.length d)) w2 from ⟨A, d, rfl, o2, ((Mod.refl _ w).alloc _).trans m2 (by simp), fun q e => by have := b2 q e; simp at this; omega⟩)
  clear o2 m2 b2
  go_wp2_with fail
  go_ret
  exact hr.out
set_option maxHeartbeats 1600000 in
theorem get1_a (g : Nat) (pl p1 : Addr) (d : Bool) (m : Int) (l0 : Value) (hpg : pl.block ≠ g) (W0 w : World) (hp : w.cell? pl = some (.pointer (some ⟨g, 0, none⟩)))
    (hC : Cells w g (cv d m (.func (.func 18) #[] #[.pointer (some p1)]) l0 false)) (xs : List Int) (hx : xs.length ≤ 1000) (F : Nat → Prop) (hFg : ¬ F g) (hFp : ¬ F pl.block) (hM : Mod (fun q => q = g ∨ F q) W0 w) (hg : g < W0.heap.size) (J : World → Prop) (hJ : ∀ W W', J W → Mod (fun q => q = g) W W' → J W')
    (hmk : ∀ W, Mod (fun q => q = g) w W → Calls Try.prog 18 #[.pointer (some p1)] W fun e w' => ∃ A c, e = .returned (.slice A xs.length c) ∧ Own w' 1 A xs.length c (ic xs) ∧ Mod F W w' ∧ J w') :
    Calls Try.prog 21 #[.pointer (some pl)] w fun e w' => e = .returned (.tuple #[]) ∧ ∃ l1, Cells w' g (cv d m (.func (.func 18) #[] #[.pointer (some p1)]) l1 true) ∧ Rk W0 g xs F J l1 w' := by
  have c3 : w.cell? ⟨g, 3, none⟩ = some (.func (.func 18) #[] #[.pointer (some p1)]) := hC.1 3 _ rfl
  have HB := Lib.hid ((bstore g 5 _ w (hC.1 5 _ rfl) (hC.2.1 5)).mono (R := fun e w' => e = .returned (.tuple #[]) ∧ w' = w.drew.setCell ⟨g, 5, none⟩ (.int .u32 1)) (R' := fun e w' => e = .returned (.tuple #[]) ∧ Cells w' g (cv d m (.func (.func 18) #[] #[.pointer (some p1)]) l0 true) ∧ Mod (fun q => q = g) w w')
    (fun e w' h => ⟨h.1, by rw [h.2]; exact hC.drew.set_ 5 (.int .u32 1), by rw [h.2]; exact (Mod.refl (fun q => q = g) w).drew.setCell (p := ⟨g, 5, none⟩) (.inl rfl) (.int .u32 1)⟩))
  have hneq : ∀ (k : Fn) (fs cs : Array Value) (w : World), (binOp .neq 26 (.func k fs cs) .nilFunc).run Try.prog w = .ok (.bool true) w := run_neq_func Try.underlying26
  have HM := Lib.hid hM
  have HMK := Lib.hid hmk
  clear hmk hM hC
  go_enter Try.func21, Try.ntmps21
  go_wp2_with fail
  refine HB.out.mono ?_
  rintro e w1 ⟨rfl, c1, m1⟩
  have C1 := Lib.hid c1
  have M1 := Lib.hid m1
  have e1 := m1.cell hp hpg
  clear c1 m1
  have k3 : w1.cell? ⟨g, 3, none⟩ = some (.func (.func 18) #[] #[.pointer (some p1)]) := C1.out.1 3 _ rfl
  have k4 : w1.cell? ⟨g, 4, none⟩ = some l0 := C1.out.1 4 _ rfl
  have f4 := C1.out.2.1 4
  have HK := Lib.hid (HMK.out w1.drew M1.out.drew)
  clear HMK HB hp
  go_wp2_with fail
  go_region_held3 (fun w' => w'.cell? pl = some (.pointer (some ⟨g, 0, none⟩)) ∧ w'.cell? ⟨g, 3, none⟩ = some (.func (.func 18) #[] #[.pointer (some p1)]) ∧ w'.frozen? ⟨g, 4, none⟩ = false) (go_keep)
    (first
      | (go_at_call 18; (with_reducible refine HK.out.mono ?_); rintro e z ⟨A, cA, rfl, oz, mz, jz⟩
         have CZ := Lib.hid (C1.out.drew.mod mz hFg)
         have e2 := mz.cell (w := w1.drew) e1 hFp
         have k32 : z.cell? ⟨g, 3, none⟩ = _ := CZ.out.1 3 _ rfl
         have k42 : z.cell? ⟨g, 4, none⟩ = _ := CZ.out.1 4 _ rfl
         have f42 := CZ.out.2.1 4
         have HZ := Lib.hid (cloneI_any A xs cA z (Sl.of_own oz) (fun e => by subst e; exact List.eq_nil_of_length_eq_zero (own_none oz)) hx)
         have MZ := Lib.hid mz
         have JZ := Lib.hid jz
         clear oz mz jz)
      | (go_at_call 23; (with_reducible refine HZ.out.mono ?_); rintro e y ⟨A2, c2, rfl, o2, m2, b2⟩
         have CY := Lib.hid (CZ.out.mod m2 (by simp))
         have e3 := m2.cell e2 (by simp)
         have k33 : y.cell? ⟨g, 3, none⟩ = _ := CY.out.1 3 _ rfl
         have k43 : y.cell? ⟨g, 4, none⟩ = _ := CY.out.1 4 _ rfl
         have f43 := CY.out.2.1 4
         have e4 : (y.setCell ⟨g, 4, none⟩ (.slice A2 xs.length c2)).cell? pl = some (.pointer (some ⟨g, 0, none⟩)) := by rw [World.cell?_setCell_other _ _ _ _ (fun h => hpg (by rw [← h]))]; exact e3
         have k34 : (y.setCell ⟨g, 4, none⟩ (.slice A2 xs.length c2)).cell? ⟨g, 3, none⟩ = some (.func (.func 18) #[] #[.pointer (some p1)]) := (CY.out.set_ 4 _).1 3 _ rfl
         have M2 := Lib.hid m2
         have O2 := Lib.hid o2
         have B2 := Lib.hid b2
         clear m2 o2 b2))
  all_goals
    have hs : W0.heap.size ≤ z.heap.size := Nat.le_trans HM.out.size (Nat.le_trans M1.out.size MZ.out.size)
    have hm3 : Mod (fun q => q = g) z (y.setCell ⟨g, 4, none⟩ (.slice A2 xs.length c2)) := Mod.setCell (F := fun q => q = g) (M2.out.mono (by simp)) (p := ⟨g, 4, none⟩) (.inl rfl) _
    have hm4 : Mod (fun q => q = g ∨ F q) W0 (y.setCell ⟨g, 4, none⟩ (.slice A2 xs.length c2)) := ((HM.out.trans M1.out fun k hk => .inl (.inl hk)).drew.trans MZ.out fun k hk => .inl (.inr hk)).trans hm3 fun k hk => .inl (.inl hk)
    have hr := Lib.hid (show Cells (y.setCell ⟨g, 4, none⟩ (.slice A2 xs.length c2)) g (cv d m (.func (.func 18) #[] #[.pointer (some p1)]) (.slice A2 xs.length c2) true) ∧ Rk W0 g xs F J (.slice A2 xs.length c2) (y.setCell ⟨g, 4, none⟩ (.slice A2 xs.length c2)) from
      ⟨CY.out.set_ 4 _, A2, c2, rfl, O2.out.far (fun h => by have h1 := B2.out g h; omega) _, fun q e => (by have h1 := B2.out q e; omega), hJ _ _ JZ.out hm3, hm4⟩)
    clear hm3 hm4
    go_wp2_with fail
    go_end0
    exact ⟨rfl, _, hr.out.1, hr.out.2⟩
end Go.Proofs.Ytgioelaagedlbaa
