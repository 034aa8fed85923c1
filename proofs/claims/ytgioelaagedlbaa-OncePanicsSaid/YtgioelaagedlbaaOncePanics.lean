/- Proved: curfewlaw6.OncePanics answers true for every number of asks. No condition. -/
import Derived.Test.YtgioelaagedlbaaOnceH
import Derived.Test.YtgioelaagedlbaaOnceB
import Derived.WalkLawsBesides
namespace Go.Proofs.Ytgioelaagedlbaa.oncePanics
open Go.ChangeShapes Go.WideShapes Go.ChangeAt Go.RowKit
set_option linter.unusedVariables false
set_option linter.unusedSimpArgs false
attribute [local go_sem ↓] Go.wp_at_zero Go.wp_at_succ

def pv : Value := .iface 9 (.string ⟨#[110, 111]⟩)
def chain : List PanicEntry := [{ v := .iface 9 (.string ⟨#[110, 111]⟩), recovered := false }]
theorem mk_panic (h : Nat) (w : World) (hc : Cells w h [.int .i64 0]) :
    Calls Try.prog 13 #[.pointer (some ⟨h, 0, none⟩)] w fun e w' => e = .panicked chain ∧ Cells w' h [.int .i64 1] ∧ Mod (fun q => q = h) w w' := by
  have c0 : w.cell? ⟨h, 0, none⟩ = some (.int .i64 0) := hc.1 0 _ rfl
  have f0 := hc.2.1 0
  have HC := Lib.hid (hc.set_ 0 (.int .i64 1))
  clear hc
  go_enter Try.func13, Try.ntmps13
  go_wp2
  exact ⟨rfl, rfl, HC.out, (Mod.refl (fun q => q = h) w).setCell (p := ⟨h, 0, none⟩) (.inl rfl) _⟩

set_option maxHeartbeats 1600000 in
theorem get1_panic (g h : Nat) (pl : Addr) (d : Bool) (m : Int) (l0 : Value) (hpg : pl.block ≠ g) (hgh : h ≠ g) (w : World) (hp : w.cell? pl = some (.pointer (some ⟨g, 0, none⟩)))
    (hC : Cells w g (cv d m (.func (.func 13) #[] #[.pointer (some ⟨h, 0, none⟩)]) l0 false)) (hH : Cells w h [.int .i64 0]) :
    Calls Try.prog 21 #[.pointer (some pl)] w fun e w' => e = .panicked chain ∧ Cells w' g (cv d m (.func (.func 13) #[] #[.pointer (some ⟨h, 0, none⟩)]) l0 true) ∧ Cells w' h [.int .i64 1] ∧ Mod (fun q => q = g ∨ q = h) w w' := by
  have HB := Lib.hid ((bstore g 5 _ w (hC.1 5 _ rfl) (hC.2.1 5)).mono (R := fun e w' => e = .returned (.tuple #[]) ∧ w' = w.drew.setCell ⟨g, 5, none⟩ (.int .u32 1)) (R' := fun e w' => e = .returned (.tuple #[]) ∧ Cells w' g (cv d m (.func (.func 13) #[] #[.pointer (some ⟨h, 0, none⟩)]) l0 true) ∧ Mod (fun q => q = g) w w')
    (fun e w' h => ⟨h.1, by rw [h.2]; exact hC.drew.set_ 5 (.int .u32 1), by rw [h.2]; exact (Mod.refl (fun q => q = g) w).drew.setCell (p := ⟨g, 5, none⟩) (.inl rfl) (.int .u32 1)⟩))
  have hneq : ∀ (k : Fn) (fs cs : Array Value) (w : World), (binOp .neq 26 (.func k fs cs) .nilFunc).run Try.prog w = .ok (.bool true) w := run_neq_func Try.underlying26
  have HH := Lib.hid hH
  clear hC hH
  go_enter Try.func21, Try.ntmps21
  go_wp2_with fail
  refine HB.out.mono ?_
  rintro e w1 ⟨rfl, c1, m1⟩
  have C1 := Lib.hid c1
  have M1 := Lib.hid m1
  have e1 := m1.cell hp hpg
  have k3 : w1.cell? ⟨g, 3, none⟩ = some (.func (.func 13) #[] #[.pointer (some ⟨h, 0, none⟩)]) := c1.1 3 _ rfl
  have HK := Lib.hid (mk_panic h w1.drew ((HH.out.mod m1 hgh).drew))
  clear c1 m1 HB hp
  go_wp2_with fail
  refine wp_region_held_drew (S := (fun w' => w'.cell? pl = some (.pointer (some ⟨g, 0, none⟩)) ∧ w'.cell? ⟨g, 3, none⟩ = some (.func (.func 13) #[] #[.pointer (some ⟨h, 0, none⟩)]))) (by kernel_rfl) (by go_keep) (fun hHeld => ?_)
  refine wpAnyH_take (i := 0) (oi := _) (v := ?_) (by simp only [List.getElem?_toArray, List.getElem?_cons_succ, List.getElem?_cons_zero]; rfl) (by kernel_rfl) (by kernel_rfl) (by kernel_rfl) (by intro _ _ _ h; exact h) (Or.inl ⟨by rfl, ?_⟩) (by assumption) ?_
  rotate_left 1
  · (intro w hSw; (try dsimp only at hSw); go_simp; try with_reducible rfl)
  try simp only [Act.put, List.setIfInBounds_toArray, List.set_cons_zero, List.set_cons_succ]
  refine wpAnyH_take (i := 1) (oi := _) (v := ?_) (by simp only [List.getElem?_toArray, List.getElem?_cons_succ, List.getElem?_cons_zero]; rfl) (by kernel_rfl) (by kernel_rfl) (by kernel_rfl) (by intro _ _ _ h; exact h) (Or.inl ⟨by rfl, ?_⟩) (by assumption) ?_
  rotate_left 1
  · (intro w hSw; (try dsimp only at hSw); go_simp; try with_reducible rfl)
  try simp only [Act.put, List.setIfInBounds_toArray, List.set_cons_zero, List.set_cons_succ]
  refine wpAnyH_take (i := 2) (oi := _) (v := ?_) (by simp only [List.getElem?_toArray, List.getElem?_cons_succ, List.getElem?_cons_zero]; rfl) (by kernel_rfl) (by kernel_rfl) (by kernel_rfl) (by intro _ _ _ h; exact h) (Or.inl ⟨by rfl, ?_⟩) (by assumption) ?_
  rotate_left 1
  · (intro w hSw; (try dsimp only at hSw); go_simp; try with_reducible rfl)
  try simp only [Act.put, List.setIfInBounds_toArray, List.set_cons_zero, List.set_cons_succ]
  refine wpAnyH_take (i := 3) (oi := _) (v := ?_) (by simp only [List.getElem?_toArray, List.getElem?_cons_succ, List.getElem?_cons_zero]; rfl) (by kernel_rfl) (by kernel_rfl) (by kernel_rfl) (by intro _ _ _ h; exact h) (Or.inl ⟨by rfl, ?_⟩) (by assumption) ?_
  rotate_left 1
  · (intro w hSw; (try dsimp only at hSw); go_simp; try with_reducible rfl)
  try simp only [Act.put, List.setIfInBounds_toArray, List.set_cons_zero, List.set_cons_succ]
  refine wpAnyH_take (i := 4) (oi := _) (v := ?_) (by simp only [List.getElem?_toArray, List.getElem?_cons_succ, List.getElem?_cons_zero]; rfl) (by kernel_rfl) (by kernel_rfl) (by kernel_rfl) (by intro _ _ _ h; exact h) (Or.inl ⟨by rfl, ?_⟩) (by assumption) ?_
  rotate_left 1
  · (intro w hSw; (try dsimp only at hSw); go_simp; try with_reducible rfl)
  try simp only [Act.put, List.setIfInBounds_toArray, List.set_cons_zero, List.set_cons_succ]
  refine wpAnyH_ready (rs := [5]) (by kernel_rfl) (by simp) ?_
  refine AllReadyH.cons (by simp only [List.getElem?_toArray, List.getElem?_cons_succ, List.getElem?_cons_zero]; rfl) (fun K hK => ?_) AllReadyH.nil
  go_simp
  (go_at_call 13; (with_reducible refine HK.out.mono ?_); rintro e z ⟨rfl, cz, mz⟩)
  exact ⟨rfl, rfl, C1.out.mod (undrew mz) (fun e => hgh e.symm), cz, (M1.out.mono fun k _ e => .inl e).trans (undrew mz) fun k hk => .inl (.inr hk)⟩

theorem slow_panic (g h : Nat) (pl : Addr) (mk l0 : Value) (hgh : h ≠ g) (w : World) (hC : Cells w g (cv false 0 mk l0 false))
    (hf : ∀ W, Cells W g (cv false 1 mk l0 false) → Mod (fun q => q = g) w W → Calls Try.prog 21 #[.pointer (some pl)] W fun e w' => e = .panicked chain ∧ Cells w' g (cv false 1 mk l0 true) ∧ Cells w' h [.int .i64 1] ∧ Mod (fun q => q = g ∨ q = h) W w') :
    Calls Try.prog 27 #[.pointer (some ⟨g, 0, none⟩), .func (.func 21) #[] #[.pointer (some pl)]] w fun e w' => e = .panicked chain ∧ Cells w' g (cv true 0 mk l0 true) ∧ Cells w' h [.int .i64 1] ∧ Mod (fun q => q = g ∨ q = h) w w' := by
  have c1 : w.cell? ⟨g, 1, none⟩ = some (.int .i32 0) := hC.1 1 _ rfl
  have f1 := hC.2.1 1
  have C1 := hC.set_ 1 (.int .i32 1)
  have M1 := (Mod.refl (fun q => q = g) w).setCell (p := ⟨g, 1, none⟩) (.inl rfl) (.int .i32 1)
  have hl := lockF g 1 w c1 f1
  have hb := bload g 0 false (w.setCell ⟨g, 1, none⟩ (.int .i32 1)) (C1.1 0 _ rfl)
  have HF := Lib.hid (hf _ C1 M1)
  have HL := Lib.hid hl
  have HBL := Lib.hid hb
  have HM1 := Lib.hid M1
  have hnot : ∀ (x : Bool) (w : World), (Op.unary .not (.bool x)).run Try.prog w = .ok (.bool (!x)) w := fun _ _ => rfl
  clear hf hl hb C1 M1 hC c1 f1
  go_enter_defers Try.func27, Try.ntmps27
  go_wp2_with (go_at_call 30; refine HL.out.mono ?_; rintro e w' ⟨rfl, rfl⟩)
  go_wp2_with (go_at_call 19; refine HBL.out.mono ?_; rintro e w' ⟨rfl, rfl⟩)
  go_wp2_with fail
  refine HF.out.mono ?_
  rintro e w2 ⟨rfl, C2, H2, M2⟩
  go_wp2_with fail
  refine leaves_cons (f := 22) (args := #[.pointer (some ⟨g, 0, none⟩), .bool true]) (by simp) (by simp [go_sem]) ?_
  refine (bstoreD g 0 (.int .u32 0) _ w2 (C2.1 0 _ rfl) (C2.2.1 0)).mono ?_
  rintro e u' w'' ⟨rfl, rfl, rfl⟩
  have C3 := C2.drew.set_ 0 (.int .u32 1)
  have H3 := H2.drew.far (p := ⟨g, 0, none⟩) (fun e => hgh e) (.int .u32 1)
  refine leaves_cons (f := 31) (args := #[.pointer (some ⟨g, 1, none⟩)]) (by simp [settle, chain]) (by simp [go_sem]) ?_
  refine (unlockD g 1 _ _ (C3.1 1 _ rfl) (C3.2.1 1)).mono ?_
  rintro e u' w'' ⟨rfl, rfl, rfl⟩
  have C4 := C3.set_ 1 (.int .i32 0)
  have H4 := H3.far (p := ⟨g, 1, none⟩) (fun e => hgh e) (.int .i32 0)
  have M4 : Mod (fun q => q = g ∨ q = h) w _ := (((HM1.out.mono fun k _ e => .inl e).trans M2 (fun k hk => .inl hk)).drew.setCell (p := ⟨g, 0, none⟩) (.inl (.inl rfl)) (.int .u32 1)).setCell (p := ⟨g, 1, none⟩) (.inl (.inl rfl)) (.int .i32 0)
  simp [Leaves, settle, chain]
  exact ⟨C4, H4, M4⟩
theorem do_panic (g h : Nat) (pl : Addr) (mk l0 : Value) (hgh : h ≠ g) (w : World) (hC : Cells w g (cv false 0 mk l0 false))
    (hf : ∀ W, Cells W g (cv false 1 mk l0 false) → Mod (fun q => q = g) w W → Calls Try.prog 21 #[.pointer (some pl)] W fun e w' => e = .panicked chain ∧ Cells w' g (cv false 1 mk l0 true) ∧ Cells w' h [.int .i64 1] ∧ Mod (fun q => q = g ∨ q = h) W w') :
    Calls Try.prog 20 #[.pointer (some ⟨g, 0, none⟩), .func (.func 21) #[] #[.pointer (some pl)]] w fun e w' => e = .panicked chain ∧ Cells w' g (cv true 0 mk l0 true) ∧ Cells w' h [.int .i64 1] ∧ Mod (fun q => q = g ∨ q = h) w w' := by
  have HS := Lib.hid (slow_panic g h pl mk l0 hgh w hC hf)
  have HL := Lib.hid (bload g 0 false w (hC.1 0 _ rfl))
  have hnot : ∀ (x : Bool) (w : World), (Op.unary .not (.bool x)).run Try.prog w = .ok (.bool (!x)) w := fun _ _ => rfl
  clear hf hC
  go_enter Try.func20, Try.ntmps20
  go_wp2_with (go_at_call 19; refine HL.out.mono ?_; rintro e w' ⟨rfl, rfl⟩)
  go_wp2_with fail
  refine HS.out.mono ?_
  rintro e w' ⟨rfl, C1, r1⟩
  exact ⟨rfl, rfl, C1, r1⟩
theorem get_panic (g h : Nat) (w : World) (hgh : h ≠ g) (hC : Cells w g (cold (.func (.func 13) #[] #[.pointer (some ⟨h, 0, none⟩)]))) (hH : Cells w h [.int .i64 0]) :
    Calls Try.prog 12 #[.pointer (some ⟨g, 0, none⟩)] w fun e w' => e = .panicked chain ∧ Cells w' g (cv true 0 (.func (.func 13) #[] #[.pointer (some ⟨h, 0, none⟩)]) (.slice none 0 0) true) ∧ Cells w' h [.int .i64 1] ∧ Mod (fun q => q = g ∨ q = h) w w' := by
  have hmf : ∀ (fn : Fn) (first cap : Array Value) (w : World), (Instr.makeFunc fn first cap).run Try.prog w = .ok (.func fn first cap) w := fun _ _ _ _ => rfl
  have hg : g < w.heap.size := hC.2.2
  have hng : ¬ g = w.heap.size := by omega
  have p0 : (w.alloc (.cells #[.pointer (some ⟨g, 0, none⟩)] 24)).cell? ⟨w.heap.size, 0, none⟩ = some (.pointer (some ⟨g, 0, none⟩)) := by simp
  have HD := Lib.hid (do_panic g h ⟨w.heap.size, 0, none⟩ (.func (.func 13) #[] #[.pointer (some ⟨h, 0, none⟩)]) (.slice none 0 0) hgh (w.alloc (.cells #[.pointer (some ⟨g, 0, none⟩)] 24)) (hC.alloc _)
    (fun W hW hM => get1_panic g h ⟨w.heap.size, 0, none⟩ false 1 _ (fun e => hng e.symm) hgh W (hM.cell p0 (fun h => by have h2 : w.heap.size = g := h; omega)) hW ((hH.alloc _).mod hM hgh)))
  clear hC hH
  go_enter Try.func12, Try.ntmps12
  go_wp2_with fail
  refine HD.out.mono ?_
  rintro e w2 ⟨rfl, C2, H2, M2⟩
  exact ⟨rfl, rfl, C2, H2, ((Mod.refl _ w).alloc _).trans M2 fun k hk => .inl hk⟩

/-! ### the law's function that recovers -/
theorem catch_panicking (p q : Addr) (x y : Value) (pv : Value) (w : World) (hpq : p.block ≠ q.block) (hc : w.cell? p = some x) (hz : w.frozen? p = false) (hc2 : w.cell? q = some y) (hz2 : w.frozen? q = false) :
    CallsD Try.prog 24 #[.pointer (some p), .pointer (some q)] (.panicking ({ v := .iface 9 pv, recovered := false } :: [])) w fun e u' w' =>
      e = .returned (.tuple #[]) ∧ u' = .panicking ({ v := .iface 9 pv, recovered := true } :: []) ∧ w' = (w.setCell p (.slice none 0 0)).setCell q (.bool false) := by
  have hc3 : (w.setCell p (.slice none 0 0)).cell? q = some y := (World.cell?_setCell_other _ p q _ (fun e => hpq (by rw [e]))).trans hc2
  have hz3 : (w.setCell p (.slice none 0 0)).frozen? q = false := by rw [World.frozen?_setCell]; exact hz2
  refine callsD_of_wpS Try.func24 rfl fun c₀ cs hu => ?_
  apply wpS_seq
  apply wpS_region
  simp [wpOpsS, go_sem, recoverD, hu, Try.ntmps24, Exit.thenS]
  refine wpS_cond (t := true) (by simp [Act.eval, Array.replicate]) ?_
  simp only [if_true]
  apply wpS_region
  simp [wpOpsS, go_sem, hc, hz, hc3, hz3, bodyPostS, results, Try.results24]
theorem catch_idle (p q : Addr) (w : World) :
    CallsD Try.prog 24 #[.pointer (some p), .pointer (some q)] .returning w fun e u' w' => e = .returned (.tuple #[]) ∧ u' = .returning ∧ w' = w := by
  refine callsD_of_wpS Try.func24 rfl fun c₀ cs hu => ?_
  apply wpS_seq
  apply wpS_region
  simp [wpOpsS, go_sem, recoverD, hu, Try.ntmps24, Exit.thenS]
  refine wpS_cond (t := false) (by simp [Act.eval, Array.replicate]) ?_
  simp only [Bool.false_eq_true, if_false]
  refine wpS_of_wp (wp_skip ?_)
  cases c₀
  simp_all [bodyPostS, results, Try.results24]
theorem gets_first (g h : Nat) (w : World) (hgh : h ≠ g) (hC : Cells w g (cold (.func (.func 13) #[] #[.pointer (some ⟨h, 0, none⟩)]))) (hH : Cells w h [.int .i64 0]) :
    Calls Try.prog 14 #[.pointer (some ⟨g, 0, none⟩)] w fun e w' => e = .returned (.tuple #[.slice none 0 0, .bool false]) ∧ Cells w' g (cv true 0 (.func (.func 13) #[] #[.pointer (some ⟨h, 0, none⟩)]) (.slice none 0 0) true) ∧ Cells w' h [.int .i64 1] ∧ Mod (fun q => q = g ∨ q = h) w w' := by
  have hmf : ∀ (fn : Fn) (first cap : Array Value) (w : World), (Instr.makeFunc fn first cap).run Try.prog w = .ok (.func fn first cap) w := fun _ _ _ _ => rfl
  have hg : g < w.heap.size := hC.2.2
  have hh : h < w.heap.size := hH.2.2
  have b1 := (Cells.new w #[.slice none 0 0] 22).alloc (.cells #[.bool false] 4)
  have b2 := Cells.new (w.alloc (.cells #[.slice none 0 0] 22)) #[.bool false] 4
  have HG := Lib.hid (get_panic g h ((w.alloc (.cells #[.slice none 0 0] 22)).alloc (.cells #[.bool false] 4)) hgh ((hC.alloc _).alloc _) ((hH.alloc _).alloc _))
  simp at b2
  have B1 := Lib.hid b1
  have B2 := Lib.hid b2
  clear hC hH b1 b2
  go_enter_defers Try.func14, Try.ntmps14
  go_wp2_with fail
  refine HG.out.mono ?_
  rintro e w2 ⟨rfl, C2, H2, M2⟩
  go_wp2_with fail
  have D1 := B1.out.mod M2 (by omega)
  have D2 := B2.out.mod M2 (by omega)
  refine leaves_cons (f := 24) (args := #[.pointer (some ⟨w.heap.size, 0, none⟩), .pointer (some ⟨w.heap.size + 1, 0, none⟩)]) (by simp) (by simp [go_sem]) ?_
  refine (catch_panicking ⟨w.heap.size, 0, none⟩ ⟨w.heap.size + 1, 0, none⟩ _ _ _ w2 (by simp) (D1.1 0 _ rfl) (D1.2.1 0) (D2.1 0 _ rfl) (D2.2.1 0)).mono ?_
  rintro e u' w'' ⟨rfl, rfl, rfl⟩
  have M3 := ((((((Mod.refl (fun q => q = g ∨ q = h) w).alloc _).alloc _).trans M2 fun k hk => .inl hk)).setCell (p := ⟨w.heap.size, 0, none⟩) (.inr (Nat.le_refl _)) (.slice none 0 0)).setCell (p := ⟨w.heap.size + 1, 0, none⟩) (.inr (by simp)) (.bool false)
  have E1 := (D1.set_ 0 (.slice none 0 0)).far (p := ⟨w.heap.size + 1, 0, none⟩) (by simp) (.bool false)
  have E2 := (D2.far (p := ⟨w.heap.size, 0, none⟩) (by simp) (.slice none 0 0)).set_ 0 (.bool false)
  have x1 := E1.1 0 _ rfl
  have x2 := E2.1 0 _ rfl
  have C3 := (C2.far (p := ⟨w.heap.size, 0, none⟩) (by simp; omega) (.slice none 0 0)).far (p := ⟨w.heap.size + 1, 0, none⟩) (by simp; omega) (.bool false)
  have H3 := (H2.far (p := ⟨w.heap.size, 0, none⟩) (by simp; omega) (.slice none 0 0)).far (p := ⟨w.heap.size + 1, 0, none⟩) (by simp; omega) (.bool false)
  have y1 := World.cell?_setCell_same w2 ⟨w.heap.size, 0, none⟩ (.slice none 0 0) (D1.1 0 _ rfl)
  have y2 := World.cell?_setCell_same (w2.setCell ⟨w.heap.size, 0, none⟩ (.slice none 0 0)) ⟨w.heap.size + 1, 0, none⟩ (.bool false) ((D2.far (p := ⟨w.heap.size, 0, none⟩) (by simp) (.slice none 0 0)).1 0 _ rfl)
  simp [Leaves, settle, results, Try.results14, go_sem, y1, y2]
  exact ⟨C3, H3, M3⟩
theorem gets_again (g : Nat) (mk : Value) (lo hi : Nat) (w : World) (hh : Hot w g mk [] lo hi) :
    Calls Try.prog 14 #[.pointer (some ⟨g, 0, none⟩)] w fun e w' => ∃ A c, e = .returned (.tuple #[.slice A 0 c, .bool true]) ∧ Mod (fun _ => False) w w' := by
  have hmf : ∀ (fn : Fn) (first cap : Array Value) (w : World), (Instr.makeFunc fn first cap).run Try.prog w = .ok (.func fn first cap) w := fun _ _ _ _ => rfl
  have hg : g < w.heap.size := by obtain ⟨_, _, h1, _⟩ := hh; exact h1.2.2
  have b1 := (Cells.new w #[.slice none 0 0] 22).alloc (.cells #[.bool false] 4)
  have b2 := Cells.new (w.alloc (.cells #[.slice none 0 0] 22)) #[.bool false] 4
  have hm := ((Mod.refl (fun _ => False) w).alloc (.cells #[.slice none 0 0] 22)).alloc (.cells #[.bool false] 4)
  have HG := Lib.hid (get_again g mk _ [] lo hi (hh.mod hm (by simp) (by simp)) (by simp))
  simp at b2
  have B1 := Lib.hid b1
  have B2 := Lib.hid b2
  have HM := Lib.hid hm
  clear b1 b2 hm hh
  go_enter_defers Try.func14, Try.ntmps14
  go_wp2_with fail
  refine HG.out.mono ?_
  rintro e w2 ⟨A, c, rfl, o2, m2, b2⟩
  have D1 := B1.out.mod m2 (by simp)
  have D2 := B2.out.mod m2 (by simp)
  have d1 : w2.cell? ⟨w.heap.size, 0, none⟩ = some (.slice none 0 0) := D1.1 0 _ rfl
  have d2 : w2.cell? ⟨w.heap.size + 1, 0, none⟩ = some (.bool false) := D2.1 0 _ rfl
  have f1 := D1.2.1 0
  have f2 := D2.2.1 0
  go_wp2_with fail
  refine leaves_cons (f := 24) (args := #[.pointer (some ⟨w.heap.size, 0, none⟩), .pointer (some ⟨w.heap.size + 1, 0, none⟩)]) (by simp) (by simp [go_sem]) ?_
  refine (catch_idle ⟨w.heap.size, 0, none⟩ ⟨w.heap.size + 1, 0, none⟩ _).mono ?_
  rintro e u' w'' ⟨rfl, rfl, rfl⟩
  have y1 := World.cell?_setCell_same w2 ⟨w.heap.size, 0, none⟩ (.slice A 0 c) d1
  have y2 := World.cell?_setCell_same (w2.setCell ⟨w.heap.size, 0, none⟩ (.slice A 0 c)) ⟨w.heap.size + 1, 0, none⟩ (.bool true) ((D2.far (p := ⟨w.heap.size, 0, none⟩) (by simp) (.slice A 0 c)).1 0 _ rfl)
  have M3 := ((HM.out.trans m2 (by simp)).setCell (p := ⟨w.heap.size, 0, none⟩) (.inr (Nat.le_refl _)) (.slice A 0 c)).setCell (p := ⟨w.heap.size + 1, 0, none⟩) (.inr (by simp)) (.bool true)
  simp [Leaves, settle, results, Try.results14, go_sem, y1, y2]
  exact M3

set_option maxHeartbeats 3200000 in
theorem walk (a0 : Int) (w : World) (w0 : (Lit.int .i64 a0).wf = true) :
    Calls Try.prog 4 #[.int .i64 a0] w fun e w' => e = .returned (.bool true) ∧ Below w.heap.size w w' := by
  have hmf : ∀ (fn : Fn) (first cap : Array Value) (w : World), (Instr.makeFunc fn first cap).run Try.prog w = .ok (.func fn first cap) w := fun _ _ _ _ => rfl
  have hnot : ∀ (x : Bool) (w : World), (Op.unary .not (.bool x)).run Try.prog w = .ok (.bool (!x)) w := fun _ _ => rfl
  clear w0
  go_enter Try.func4, Try.ntmps4
  go_wp2_with fail
  refine (begun_any _).mono ?_
  rintro e wb ⟨rfl, hb⟩
  have HB := Lib.hid hb
  clear hb
  by_cases hk : 1 ≤ a0 ∧ a0 ≤ 10
  · obtain ⟨hk1, hk2⟩ := hk
    go_wp2_with fail
    refine (new_any _ _ (.inl ⟨_, _, _, rfl⟩)).mono ?_
    rintro e w1 ⟨g, rfl, cg, hg, m1⟩
    have H1 := Lib.hid ((Cells.new wb #[.int .i64 0] 3).mod m1 (by simp))
    have M1 := Lib.hid (((Mod.refl (fun _ => False) wb).alloc (.cells #[.int .i64 0] 3)).trans m1 (by simp))
    have C1 := Lib.hid cg
    have B1 := Lib.hid (Mod.below HB.out M1.out (by simp))
    have hgw : g < w1.heap.size := cg.2.2
    have hbw := HB.out.size
    simp at hg
    clear cg m1 M1
    generalize wb.heap.size = h at *
    clear HB
    go_wp2_with fail
    go_loopg [6] a0.toNat (fun m v6 wr => ∃ i : Nat, (i : Int) ≤ a0 ∧ v6 = .int .i64 i ∧
      Hid ((i = 0 ∧ Cells wr g (cold (.func (.func 13) #[] #[.pointer (some ⟨h, 0, none⟩)])) ∧ Cells wr h [.int .i64 0]) ∨ (0 < i ∧ Cells wr g (cv true 0 (.func (.func 13) #[] #[.pointer (some ⟨h, 0, none⟩)]) (.slice none 0 0) true) ∧ Cells wr h [.int .i64 1])) ∧ Hid (Below w.heap.size w wr) ∧ m + i = a0.toNat)
    case atStart => exact ⟨0, by omega, rfl, Lib.hid (.inl ⟨rfl, C1.out, H1.out⟩), B1, by omega⟩
    case round =>
      obtain ⟨i, hi, rfl, HS, HBW, hm⟩ := hrel
      by_cases hlt : (i : Int) < a0
      · rcases HS.out with ⟨hi0, hc, hh⟩ | ⟨hi0, hc, hh⟩
        · subst hi0
          have HG := Lib.hid (gets_first g h wr (by omega) hc hh)
          clear hc hh HS
          go_wp2_with fail
          refine HG.out.mono ?_
          rintro e w2 ⟨rfl, c2, h2, m2⟩
          have C2 := Lib.hid c2
          have H2 := Lib.hid h2
          have B2 := Lib.hid (Mod.below HBW.out m2 (fun k hk => by omega))
          have n2 : w2.cell? ⟨h, 0, none⟩ = some (.int .i64 1) := h2.1 0 _ rfl
          clear c2 h2 m2 HG
          go_wp2_with fail
          go_roundg (a0.toNat - 1)
          case measure => omega
          case rel => exact ⟨1, by omega, by go_num, Lib.hid (.inr ⟨by omega, C2.out, H2.out⟩), B2, by omega⟩
        · have HG := Lib.hid (gets_again g (.func (.func 13) #[] #[.pointer (some ⟨h, 0, none⟩)]) 0 0 wr ⟨none, 0, hc, Own.nil _ _, by simp [blk]⟩)
          have HC := Lib.hid hc
          have HH := Lib.hid hh
          have hpos : (0 : Int) < (i : Int) := by omega
          clear hc hh HS
          go_wp2_with fail
          refine HG.out.mono ?_
          rintro e w2 ⟨A, c, rfl, m2⟩
          have C2 := Lib.hid (HC.out.mod m2 (by simp))
          have H2 := Lib.hid (HH.out.mod m2 (by simp))
          have B2 := Lib.hid (Mod.below HBW.out m2 (by simp))
          have n2 : w2.cell? ⟨h, 0, none⟩ = some (.int .i64 1) := H2.out.1 0 _ rfl
          clear m2 HG
          go_wp2_with fail
          go_roundg (a0.toNat - (i + 1))
          case measure => omega
          case rel => exact ⟨i + 1, by omega, by go_num, Lib.hid (.inr ⟨by omega, C2.out, H2.out⟩), B2, by omega⟩
      · rcases HS.out with ⟨hi0, hc, hh⟩ | ⟨hi0, hc, hh⟩
        · omega
        · have HD := Lib.hid (done_any g _ _ _ _ _ wr hc)
          clear hc hh HS
          go_wp2_with fail
          refine HD.out.mono ?_
          rintro e w2 ⟨rfl, rfl⟩
          go_wp2_with fail
          go_ret
          exact ⟨rfl, HBW.out⟩
  · have hend : a0 < 1 ∨ 10 < a0 := by omega
    clear hk
    rcases hend with h1 | h1
    all_goals
      go_wp2_with fail
      go_ret
      exact ⟨rfl, HB.out⟩
/-! ### the row's step -/
theorem own : ownKnob Try.prog.godebug = none := by kernel_rfl
theorem laidOut : laidOutB Try.prog = true := by kernel_rfl
set_option maxRecDepth 100000 in
theorem lifted (os : Os) (started : os.Started) (H : Type) (enc : TypeId × Value → H) :
    ReturnsInHanded {} Try.checked os 4 .any (Rows.oncePanicsSpec.pre6 enc Try.prog Try.f4 Rows.oncePanicsRow.domain false) (Rows.oncePanicsSpec.post enc Try.prog Try.f4 false true false false) := by
  refine returnsInHanded_of_change (C := Try.checked) own started (by kernel_rfl) Try.func4
    (ChangeSpec.witness6 (enc := enc) (C := Try.checked) false ⟨#[], #[.int .i64 0], []⟩ 8 (by kernel_rfl) (by kernel_rfl) (by kernel_rfl) (by kernel_rfl)) ?_
  intro W base args ds gs before hval0 hW hcnd _
  have hval : ∀ (j : Nat) t v, Try.f4.params[j]? = some t → args[j]? = some v → Value.okWide Try.prog W .any base t v := hval0
  have hW' := hW
  obtain ⟨p, q, hA0, hV, rfl, hfz, hnd⟩ := hW
  have hA : DataW.TrodAll enc Try.prog W 0 (fun _ => true) true Try.f4.params.toList args.toList ds p := hA0
  rw [Try.params4] at hA hval
  obtain ⟨v0, vs0, d0, ds0, p0, q0, hargs, rfl, rfl, h0, r0⟩ := trodAll_cons hA
  obtain ⟨rfl, rfl, rfl⟩ := trodAll_nil r0
  obtain rfl : args = #[v0] := by cases args; simp_all
  obtain ⟨rfl, rfl⟩ := trodVars_none hV
  have k0 := h0
  have lt0 : ∀ x ∈ p0, x.block < W.heap.size := by obtain ⟨m, hm⟩ := k0; exact DataW.trod_lt m _ _ _ hm
  obtain ⟨a0, rfl, rfl, rfl, w0⟩ := open_int Try.underlying3 (hval 0 3 v0 rfl rfl) h0
  clear hA0 hval0
  refine (walk a0 W w0).mono fun e W' ⟨he, bel⟩ => ?_
  subst he
  exact ⟨_, rfl, _, _, _, [], _, [], hW', trodAll_mk1 (shut_bool Try.underlying4 _), (trodAll_cons_mk (Below.trod laidOut (by kernel_rfl) (of_decide_eq_true (by kernel_rfl)) k0 bel lt0) trodAll_mk0), rfl, bel.frame _, fun h => by cases h⟩

theorem over : Rows.oncePanicsRow.holds Try.pinned (OpenSpec.ofChange Rows.oncePanicsSpec) :=
  OpenClaim.holds_of_wide 4 Try.f4 rfl rfl rfl rfl rfl rfl rfl ⟨rfl, rfl, rfl, rfl, rfl⟩ rfl rfl rfl rfl rfl (by kernel_rfl) Try.func4 (by kernel_rfl)
    (of_decide_eq_true (by kernel_rfl)) (by unfold Func.isWrapper; first | (rw [if_pos (by decide +kernel)]; kernel_rfl) | (rw [if_neg (by decide +kernel)]; exact ⟨rfl, rfl⟩))
    (fun os started H enc _ => lifted os started H enc)

theorem proved : Rows.OncePanicsSaid := over
#print axioms proved
end Go.Proofs.Ytgioelaagedlbaa.oncePanics
