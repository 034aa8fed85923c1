/- Done of package pending. -/
import Derived.Test.YtbladkopbkkamaaPendB
namespace Go.Proofs.Ytbladkopbkkamaa
open Go.RowKit
attribute [local go_sem ↓] Go.wp_at_zero Go.wp_at_succ
set_option linter.unusedVariables false
set_option linter.unusedSimpArgs false

theorem index_nil (v : Value) (c : Nat) (w : World) : Calls Try.prog 48 #[.slice none 0 c, v] w fun e w' => e = .returned (.int .i64 (-1)) ∧ w = w' := by
  go_enter Try.func48, Try.ntmps48
  go_wp2_with fail
  go_loopg [5, 8] 0 (fun m _ v8 wr => v8 = .int .i64 0 ∧ w = wr ∧ m = 0)
  case atStart => exact ⟨rfl, rfl, rfl⟩
  case round =>
    obtain ⟨rfl, rfl, _⟩ := hrel
    go_wp2_with fail
    go_ret
    exact ⟨rfl, rfl⟩
theorem delete_nil (v : Value) (c : Nat) (w : World) : Calls Try.prog 42 #[.slice none 0 c, v] w fun e w' => e = .returned (.slice none 0 c) ∧ w = w' := by
  go_enter Try.func42, Try.ntmps42
  go_wp2_with fail
  refine (index_nil v c w).mono ?_
  rintro e w1 ⟨rfl, rfl⟩
  go_wp2_with fail
  go_ret
  exact ⟨rfl, rfl⟩

set_option maxHeartbeats 1600000 in
theorem doneP_any (g : Nat) (F : Nat → Prop) (fr bo sq : Int) (l : List En) (B : Option Addr) (ms : List En) (d : Nat) (w : World) (h : IsP w g F fr bo sq l) (hB : Sl w 7 B ms.length (ecells ms)) (hBF : 0 < ms.length → ∀ q, blk B = some q → ¬ F q) (hl : l.length ≤ 1000) :
    Calls Try.prog 27 #[.pointer (some ⟨g, 0, none⟩), .slice B ms.length d] w fun e w' => e = .returned (.int .i64 ((l.length : Int) - ((l.filter fun x => !ms.any fun u => same u x).length : Int))) ∧
      IsP w' g F fr bo sq (l.filter fun x => !ms.any fun u => same u x) ∧ Mod F w w' := by
  have hmf : ∀ (fn : Fn) (first cap : Array Value) (w : World), (Instr.makeFunc fn first cap).run Try.prog w = .ok (.func fn first cap) w := fun _ _ _ _ => rfl
  have hfl : (l.filter fun x => !ms.any fun u => same u x).length ≤ l.length := List.length_filter_le ..
  have h0 := h.none_ ((Mod.refl _ w).alloc (.cells #[.slice B ms.length d] 23))
  have HL0 := Lib.hid (lenP_any g F fr bo sq l _ h0)
  obtain ⟨A, c, h1, h2, h3, h4, h5, h6⟩ := h0
  have hbox := Cells.new w #[.slice B ms.length d] 23
  have hsl := hB.none_ ((Mod.refl _ w).alloc (.cells #[.slice B ms.length d] 23))
  have hF := Lib.hid (h.lt)
  have c3 : (w.alloc (.cells #[.slice B ms.length d] 23)).cell? ⟨g, 3, none⟩ = some (.slice A l.length c) := h1.1 3 _ rfl
  clear hB
  cases A with
  | none =>
    have hn : l = [] := List.eq_nil_of_length_eq_zero (own_none h2)
    subst hn
    have hP := Lib.hid (show IsP (w.alloc (.cells #[.slice B ms.length d] 23)) g F fr bo sq [] from ⟨none, c, h1, h2, h3, h4, h5, h6⟩)
    have f3 := h1.2.1 3
    have hset := Lib.hid (show IsP ((w.alloc (.cells #[.slice B ms.length d] 23)).setCell ⟨g, 3, none⟩ (.slice none 0 c)) g F fr bo sq [] from ⟨none, c, h1.set_ 3 _, h2.far (by simp [blk]) _, h3, h4, h5, fun k hk => by have := h6 k hk; simpa [World.setCell] using this⟩)
    have hm := Lib.hid (((Mod.refl F w).alloc (.cells #[.slice B ms.length d] 23)).setCell (p := ⟨g, 3, none⟩) (.inl h4) (.slice none 0 c))
    have HL1 := Lib.hid (lenP_any g F fr bo sq [] _ hset.out)
    clear h1 h2 h3 h5 h6 hbox hsl hmf
    have hmf : ∀ (fn : Fn) (first cap : Array Value) (w : World), (Instr.makeFunc fn first cap).run Try.prog w = .ok (.func fn first cap) w := fun _ _ _ _ => rfl
    simp only [List.length_nil] at *
    go_enter Try.func27, Try.ntmps27
    go_wp2_with fail
    refine HL0.out.mono ?_
    rintro e w1 ⟨rfl, rfl⟩
    go_wp2_with fail
    refine (delete_nil _ c _).mono ?_
    rintro e w1 ⟨rfl, rfl⟩
    go_wp2_with fail
    refine HL1.out.mono ?_
    rintro e w1 ⟨rfl, rfl⟩
    go_wp2_with fail
    go_ret
    exact ⟨rfl, hset.out, hm.out⟩
  | some a =>
    obtain ⟨gA, oA, rfl⟩ : ∃ gA oA, a = ⟨gA, oA, none⟩ := by
      rcases h2.2.2.2 with ⟨h, _⟩ | ⟨g', o', e, _⟩
      · cases h
      · injection e with e; exact ⟨g', o', e⟩
    have hgA : F gA := h5 gA rfl
    have hgne : gA ≠ g := fun e => h3 (by rw [← e]; rfl)
    have hgl : gA < w.heap.size := h.lt gA hgA
    have HDel := Lib.hid (delete_any gA oA l c w.heap.size (fun e => ms.any fun u => same u e) _ h2 (fun u W hm => done1_any B ms d w.heap.size u W (Sl.mod0 hsl hm fun hp q e hq => hBF hp q e (by rw [show q = gA from hq]; exact hgA)) (hbox.mod hm (by omega))))
    have H1 := Lib.hid h1
    have H3 := Lib.hid h3
    have H5 := Lib.hid h5
    have M0 := Lib.hid ((Mod.refl F w).alloc (.cells #[.slice B ms.length d] 23))
    clear h1 h2 h3 h5 h6 hbox hsl hBF h
    go_enter Try.func27, Try.ntmps27
    go_wp2_with fail
    refine HL0.out.mono ?_
    rintro e w1 ⟨rfl, rfl⟩
    go_wp2_with fail
    refine HDel.out.mono ?_
    rintro e w2 ⟨rfl, o2, m2⟩
    have hC2 := H1.out.mod m2 (fun e => hgne e.symm)
    have c4 : w2.cell? ⟨g, 3, none⟩ = some (.slice (some ⟨gA, oA, none⟩) l.length c) := hC2.1 3 _ rfl
    have f4 := hC2.2.1 3
    have hP := Lib.hid (show IsP (w2.setCell ⟨g, 3, none⟩ (.slice (some ⟨gA, oA, none⟩) (l.filter fun x => !ms.any fun u => same u x).length c)) g F fr bo sq (l.filter fun x => !ms.any fun u => same u x) from
      ⟨some ⟨gA, oA, none⟩, c, hC2.set_ 3 _, o2.far (fun e => hgne (by injection e)) _, H3.out, h4, H5.out, fun k hk => by have h7 := hF.out k hk; have h8 := M0.out.size; have h9 := m2.size; simp [World.setCell]; omega⟩)
    have hM := Lib.hid ((M0.out.trans m2 (fun k hk => .inl (by rw [show k = gA from hk]; exact hgA))).setCell (p := ⟨g, 3, none⟩) (.inl h4) (.slice (some ⟨gA, oA, none⟩) (l.filter fun x => !ms.any fun u => same u x).length c))
    have HL2 := Lib.hid (lenP_any g F fr bo sq _ _ hP.out)
    generalize hl2 : (l.filter fun x => !ms.any fun u => same u x) = l2 at *
    clear o2 m2 hC2 HDel HL0
    go_wp2_with fail
    refine HL2.out.mono ?_
    rintro e w3 ⟨rfl, rfl⟩
    go_wp2_with fail
    go_ret
    refine ⟨?_, by rw [hl2]; exact hP.out, hM.out⟩
    rw [hl2]
    show Ending.returned (.int .i64 _) = Ending.returned (.int .i64 _)
    congr 2
end Go.Proofs.Ytbladkopbkkamaa
