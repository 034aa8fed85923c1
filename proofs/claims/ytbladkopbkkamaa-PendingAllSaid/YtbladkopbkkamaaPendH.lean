/- What the reference's Done answers: what was told is left out, the others stay in their order. -/
import Derived.Test.YtbladkopbkkamaaPendG
namespace Go.Proofs.Ytbladkopbkkamaa
open Go.ChangeShapes Go.WideShapes Go.ChangeAt Go.RowKit
set_option linter.unusedVariables false
set_option linter.unusedSimpArgs false
attribute [local go_sem ↓] Go.wp_at_zero Go.wp_at_succ

theorem IsP.put {w wr : World} {g n1 c : Nat} {F : Nat → Prop} {fr bo sq : Int} {l l2 : List En} {A0 A : Option Addr} {c0 : Nat}
    (hC : Cells wr g [.int .i64 fr, .int .i64 bo, .int .i64 sq, .slice A0 l.length c0]) (hF : F g) (hFw : ∀ k, F k → k < w.heap.size) (hm : Mod (fun _ => False) w wr)
    (ho : Own wr 7 A n1 c (ecells l2)) (hb : ∀ q, blk A = some q → w.heap.size ≤ q) (hn : l2.length = n1) :
    ∃ F', IsP (wr.setCell ⟨g, 3, none⟩ (.slice A n1 c)) g F' fr bo sq l2 ∧ Mod F w (wr.setCell ⟨g, 3, none⟩ (.slice A n1 c)) ∧ ∀ k, F' k → F k ∨ w.heap.size ≤ k := by
  subst hn
  have hg := hFw g hF
  have hne : blk A ≠ some g := fun e => by have := hb g e; omega
  refine ⟨fun q => F q ∨ blk A = some q, ⟨A, c, hC.set_ 3 _, ho.far hne _, hne, .inl hF, fun k e => .inr e, fun k hk => ?_⟩, ?_, fun k hk => ?_⟩
  · have h3 : (wr.setCell ⟨g, 3, none⟩ (.slice A l2.length c)).heap.size = wr.heap.size := by simp [World.setCell]
    rw [h3]
    rcases hk with hk | hk
    · exact Nat.lt_of_lt_of_le (hFw k hk) hm.size
    · exact ho.lt hk
  · exact (Mod.mono hm (fun k _ h => h.elim)).setCell (p := ⟨g, 3, none⟩) (.inl hF) _
  · rcases hk with hk | hk
    · exact .inl hk
    · exact .inr (hb k hk)

set_option maxHeartbeats 3200000 in
theorem doneR_any (g : Nat) (F : Nat → Prop) (fr bo sq : Int) (l : List En) (B : Option Addr) (ms : List En) (d : Nat) (w : World) (h : IsP w g F fr bo sq l) (hB : Sl w 7 B ms.length (ecells ms)) (hl : l.length ≤ 1000) :
    Calls Try.prog 28 #[.pointer (some ⟨g, 0, none⟩), .slice B ms.length d] w fun e w' => e = .returned (.int .i64 ((l.length : Int) - ((l.filter fun x => !ms.any fun u => same u x).length : Int))) ∧
      ∃ F', IsP w' g F' fr bo sq (l.filter fun x => !ms.any fun u => same u x) ∧ Mod F w w' ∧ ∀ k, F' k → F k ∨ w.heap.size ≤ k := by
  obtain ⟨A0, c0, hC, hO, hne, hFg, hFA, hFs⟩ := h
  have HC := Lib.hid hC
  have HO := Lib.hid hO
  have HFg := Lib.hid hFg
  have HFs := Lib.hid hFs
  have HB := Lib.hid hB
  have HNext := Lib.hid (fun (j : Nat) (h : j < l.length) => filt_next (l := l) (p := fun x => ms.any fun u => same u x) h)
  have HLen := Lib.hid (fun j : Nat => show ((l.take j).filter fun x => !ms.any fun u => same u x).length ≤ l.length from Nat.le_trans (List.length_filter_le _ _) (by rw [List.length_take]; omega))
  obtain ⟨i0, hi0, hz0, hz1, hz2⟩ := info_parts info_en
  have HI := Lib.hid hi0
  have HZ0 := Lib.hid hz0
  have HZ1 := Lib.hid hz1
  have HZ2 := Lib.hid hz2
  clear hC hO hne hFg hFA hFs hB hi0 hz0 hz1 hz2
  go_enter Try.func28, Try.ntmps28
  go_wp2_with fail
  go_loopg [5, 6] l.length (fun m v5 v6 wr => ∃ (k : Nat) (A : Option Addr) (c n1 : Nat) (l2 : List En), k ≤ l.length ∧ v6 = .int .i64 k ∧ v5 = .slice A n1 c ∧ Hid (l2 = (l.take k).filter fun x => !ms.any fun u => same u x) ∧ Hid (l2.length = n1) ∧ Hid (Own wr 7 A n1 c (ecells l2)) ∧ Hid (∀ q, blk A = some q → w.heap.size ≤ q) ∧ Hid (Mod (fun _ => False) w wr) ∧ m + k = l.length)
  case atStart => exact ⟨0, none, 0, 0, [], by omega, rfl, rfl, Lib.hid (by simp), Lib.hid rfl, Lib.hid (Own.nil _ _), Lib.hid (by simp [blk]), Lib.hid (Mod.refl _ _), by omega⟩
  case round =>
    obtain ⟨k, A, c, n1, l2, hk, rfl, rfl, HL2, HN, HA, Hb, HM, hm⟩ := hrel
    have n1l : n1 ≤ l.length := by have h1 := HLen.out k; rw [← HL2.out, HN.out] at h1; exact h1
    have HC1 := Lib.hid (HC.out.mod HM.out (by simp))
    have q3 : wr.cell? ⟨g, 3, none⟩ = some (.slice A0 l.length c0) := HC1.out.1 3 _ rfl
    by_cases hlt : k < l.length
    · obtain ⟨b, o, hA0, hb, y0, y1, y2, y3, y4, y5, y6⟩ := (Sl.of_own (HO.out.mod HM.out (by simp))).ent hlt
      have HA0 := Lib.hid hA0
      have i1 : (0 : Int) ≤ (k : Int) := by omega
      have i2 : (k : Int) < (l.length : Int) := by omega
      have HH := Lib.hid (hasR_any B ms d l[k] wr (HB.out.none_ HM.out))
      have HE := Lib.hid (HNext.out k hlt)
      have hone := Lib.hid (En.one l[k])
      generalize hx : l[k] = x at *
      clear hx
      have HF : Hid (∃ bb, (ms.any fun u => same u x) = bb) := Lib.hid ⟨_, rfl⟩
      obtain ⟨bb, hbb⟩ := HF.out
      rw [hbb] at HH HE
      clear HF hbb
      obtain ⟨x0, x1, x2, x3, x4, x5, x6⟩ := x
      unfold En.val at HH
      simp only [] at *
      rw [hA0] at q3
      clear hA0
      go_wp2_with fail
      with_reducible refine HH.out.mono ?_
      rintro e w1 ⟨rfl, m1⟩
      have q3 := m1.cell q3 (by simp)
      have y0 := m1.cell y0 (by simp)
      have y1 := m1.cell y1 (by simp)
      have y2 := m1.cell y2 (by simp)
      have y3 := m1.cell y3 (by simp)
      have y4 := m1.cell y4 (by simp)
      have y5 := m1.cell y5 (by simp)
      have y6 := m1.cell y6 (by simp)
      have O1 := Lib.hid (HA.out.mod m1 (by simp))
      have M1 := Lib.hid (HM.out.trans m1 (by simp))
      clear m1 HH HA
      cases bb
      · go_wp2_with (at_builtin; refine wpList_append_Own _ rfl _ _ _ rfl 30 i0 _ 7 64 Try.underlying23 HI.out HZ0.out HZ1.out HZ2.out rfl (by decide) A n1 c _ rfl (O1.out.alloc _) ⟨w1.heap.size, 0, none⟩ 1 1 (⟨x0, x1, x2, x3, x4, x5, x6⟩ : En).cells rfl rfl (World.news_of_block (heap_alloc_new _ _)) hone.out (by decide) (by unfold maxLen; omega) (by omega) ?_; intro A4 c4 w4 ho4 hg4 hb4; have M4 := Lib.hid ((M1.out.alloc _).grown hg4 (fun q e => .inr (Hb.out q e))); have HO4 := Lib.hid ho4; have HB4 := Lib.hid hb4; clear ho4 hg4 hb4)
        have HE4 := Lib.hid (show l2 ++ [⟨x0, x1, x2, x3, x4, x5, x6⟩] = (l.take (k + 1)).filter fun x => !ms.any fun u => same u x by rw [HE.out, ← HL2.out]; rfl)
        go_roundg (l.length - (k + 1))
        case measure => omega
        case rel =>
          refine ⟨k + 1, A4, c4, n1 + 1, l2 ++ [⟨x0, x1, x2, x3, x4, x5, x6⟩], by omega, by go_num, rfl, HE4, Lib.hid (by simp [HN.out]), Lib.hid (by rw [ecells_app]; simpa [ecells] using HO4.out), Lib.hid fun q e => ?_, M4, by omega⟩
          rcases HB4.out with h | ⟨q2, h, h2⟩
          · exact Hb.out q (by rw [← h]; exact e)
          · rw [h] at e
            have e4 : q2 = q := Option.some.inj e
            have := M1.out.size
            simp at h2
            omega
      · have HE4 := Lib.hid (show l2 = (l.take (k + 1)).filter fun x => !ms.any fun u => same u x by rw [HE.out, ← HL2.out]; simp)
        go_wp2_with fail
        go_roundg (l.length - (k + 1))
        case measure => omega
        case rel => exact ⟨k + 1, A, c, n1, l2, by omega, by go_num, rfl, HE4, HN, O1, Hb, M1, by omega⟩
    · have hke : k = l.length := by omega
      subst hke
      have f3 := HC1.out.2.1 3
      have HL3 := Lib.hid (show l2 = l.filter fun x => !ms.any fun u => same u x by rw [HL2.out, List.take_length])
      go_wp2_with fail
      go_ret
      refine ⟨?_, ?_⟩
      · rw [← HL3.out, HN.out]; rfl
      · rw [← HL3.out]
        exact IsP.put HC1.out HFg.out HFs.out HM.out HA.out Hb.out HN.out
end Go.Proofs.Ytbladkopbkkamaa
