/- The law's first cell. -/
import Derived.Test.YtgioelaagedlbaaOnceG
namespace Go.Proofs.Ytgioelaagedlbaa
open Go.RowKit
attribute [local go_sem ↓] Go.wp_at_zero Go.wp_at_succ
set_option linter.unusedVariables false
set_option linter.unusedSimpArgs false

theorem own_newS (w : World) (p : Addr) (u : Value) (cs : Array Value) (t : TypeId) (C n : Nat) (hn : cs.size = n * C) (hm : n ≤ maxLen) : Own ((w.setCell p u).alloc (.cells cs t)) C (some ⟨w.heap.size, 0, none⟩) n n cs.toList := by
  have h := own_new (w.setCell p u) cs t C n hn hm
  rwa [show (w.setCell p u).heap.size = w.heap.size by simp [World.setCell]] at h
theorem mk_begun (h : Nat) (w : World) (hc : Cells w h [.int .i64 0]) :
    Calls Try.prog 18 #[.pointer (some ⟨h, 0, none⟩)] w fun e w' => ∃ A c, e = .returned (.slice A 2 c) ∧ Own w' 1 A 2 c (ic [7, 8]) ∧ Mod (fun q => q = h) w w' ∧ Cells w' h [.int .i64 1] := by
  have c0 : w.cell? ⟨h, 0, none⟩ = some (.int .i64 0) := hc.1 0 _ rfl
  have f0 := hc.2.1 0
  have HC := Lib.hid (hc.set_ 0 (.int .i64 1))
  clear hc
  go_enter Try.func18, Try.ntmps18
  go_wp2_with fail
  go_ret
  refine ⟨_, _, rfl, own_newS _ _ _ _ _ 1 2 rfl (by decide), ((Mod.refl (fun q => q = h) w).setCell (p := ⟨h, 0, none⟩) (.inl rfl) _).alloc _, HC.out.alloc _⟩

theorem get_begun (g h : Nat) (w : World) (hC : Cells w g (cold (.func (.func 18) #[] #[.pointer (some ⟨h, 0, none⟩)]))) (hH : Cells w h [.int .i64 0]) (hgh : h ≠ g) :
    Calls Try.prog 12 #[.pointer (some ⟨g, 0, none⟩)] w (Got w g (.func (.func 18) #[] #[.pointer (some ⟨h, 0, none⟩)]) [7, 8] (fun q => q = h) (fun W => Cells W h [.int .i64 1])) := by
  have hg : g < w.heap.size := hC.2.2
  have hh : h < w.heap.size := hH.2.2
  refine get_first g (.func (.func 18) #[] #[.pointer (some ⟨h, 0, none⟩)]) (.slice none 0 0) w hC [7, 8] (by simp) (fun q => q = h) (fun e => hgh e.symm) (fun q e => by subst e; exact hh) (fun W => Cells W h [.int .i64 1]) (fun W W' h1 hm => h1.mod hm hgh) fun pl W hpl hp hW hM => ?_
  refine get1_a g pl ⟨h, 0, none⟩ false 1 (.slice none 0 0) (by omega) _ W hp hW [7, 8] (by simp) (fun q => q = h) (fun e => hgh e.symm) (fun e => by have e2 : pl.block = h := e; omega) (hM.mono fun k _ e => .inl e) (by simp; omega) _ (fun W W' h1 hm => h1.mod hm hgh) fun W2 hM2 => ?_
  exact mk_begun h W2 (((hH.alloc _).mod hM hgh).mod hM2 hgh)

set_option maxHeartbeats 1600000 in
theorem begun_any (w : World) : Calls Try.prog 8 #[] w fun e w' => e = .returned (.bool true) ∧ Below w.heap.size w w' := by
  have hmf : ∀ (fn : Fn) (first cap : Array Value) (w : World), (Instr.makeFunc fn first cap).run Try.prog w = .ok (.func fn first cap) w := fun _ _ _ _ => rfl
  have hnot : ∀ (x : Bool) (w : World), (Op.unary .not (.bool x)).run Try.prog w = .ok (.bool (!x)) w := fun _ _ => rfl
  go_enter Try.func8, Try.ntmps8
  go_wp2_with fail
  refine (new_any _ _ (.inl ⟨_, _, _, rfl⟩)).mono ?_
  rintro e w1 ⟨g, rfl, cg, hg, m1⟩
  have H0 := (Cells.new w #[.int .i64 0] 3).mod m1 (by simp)
  have M1 := Lib.hid (((Mod.refl (fun _ => False) w).alloc (.cells #[.int .i64 0] 3)).trans m1 (by simp))
  have n1 : w1.cell? ⟨w.heap.size, 0, none⟩ = some (.int .i64 0) := H0.1 0 _ rfl
  simp at hg
  have HD := Lib.hid (done_any g _ _ _ _ _ w1 cg)
  have HG := Lib.hid (get_begun g w.heap.size w1 cg H0 (by omega))
  have hw1 : w.heap.size < w1.heap.size := H0.2.2
  generalize hh : w.heap.size = h at *
  clear cg m1 H0
  go_wp2_with fail
  refine HD.out.mono ?_
  rintro e w2 ⟨rfl, rfl⟩
  go_wp2_with fail
  refine HG.out.mono ?_
  rintro e w2 ⟨A, c, hi, rfl, o2, h2, j2, m2, b2, s1, s2⟩
  have HA := Lib.hid (get_again g _ w2 [7, 8] _ _ h2 (by simp))
  have H2 := Lib.hid h2
  have J2 := Lib.hid j2
  have M2 := Lib.hid (M1.out.trans m2 (fun k hk => by rcases hk with e | e; right; omega; right; omega))
  clear o2 h2 j2 m2 b2 s1 s2 HG HD
  go_wp2_with fail
  refine HA.out.mono ?_
  rintro e w3 ⟨A3, c3, rfl, o3, m3, b3⟩
  have M3 := Lib.hid (M2.out.trans m3 (by simp))
  have hj3 := J2.out.mod m3 (by simp)
  have n3 : w3.cell? ⟨h, 0, none⟩ = some (.int .i64 1) := hj3.1 0 _ rfl
  obtain ⟨gb, ob, hA3, hgb, hx⟩ := o3.at_ (j := 1) (u := .int .i64 8) rfl
  obtain ⟨L, cL, hcL, _, _⟩ := H2.out
  have HD3 := Lib.hid (done_any g _ _ _ _ _ w3 (hcL.mod m3 (by simp)))
  clear hcL hj3 o3 m3 b3
  rw [hA3]
  go_wp2_with fail
  refine HD3.out.mono ?_
  rintro e w4 ⟨rfl, rfl⟩
  go_wp2_with fail
  go_ret
  exact ⟨rfl, Mod.below (Below.refl _ _) M3.out (by simp)⟩
end Go.Proofs.Ytgioelaagedlbaa
