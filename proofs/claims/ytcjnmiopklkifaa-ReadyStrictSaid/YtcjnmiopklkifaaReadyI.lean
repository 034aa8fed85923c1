/- The law's kinds; what is told of them. -/
import Derived.Test.YtcjnmiopklkifaaReadyP
import Derived.IntWalk
namespace Go.Proofs.Ytcjnmiopklkifaa
open Go.RowKit
attribute [local go_sem ↓] Go.wp_at_zero Go.wp_at_succ
set_option linter.unusedVariables false
set_option linter.unusedSimpArgs false

/-- the i-th of a list of kinds -/
def IsKind (od lv : Int) (i : Nat) (e : En) : Prop := ∃ o v : Int, e = ⟨1, 1, (i : Int) + 1, o, v, i, ⟨#[]⟩⟩ ∧ (0 ≤ o ∧ o ≤ 2) ∧ (0 ≤ v ∧ v ≤ 2) ∧ (0 ≤ od → o = od) ∧ (0 ≤ lv → v = lv)
def Kinds (od lv : Int) (es : List En) : Prop := ∀ i (h : i < es.length), IsKind od lv i es[i]
theorem Kinds.snoc {od lv : Int} {es : List En} {e : En} (h : Kinds od lv es) (he : IsKind od lv es.length e) : Kinds od lv (es ++ [e]) := by
  intro i hi
  by_cases hl : i < es.length
  · rw [List.getElem_append_left hl]; exact h i hl
  · have : i = es.length := by rw [List.length_append] at hi; simp at hi; omega
    subst this
    simpa using he
theorem Kinds.ok {od lv : Int} {es : List En} (h : Kinds od lv es) (hl : es.length ≤ 50) : ∀ e ∈ es, OkE e := by
  intro e he
  obtain ⟨i, hi, rfl⟩ := List.getElem_of_mem he
  obtain ⟨o, v, e1, h1, h2, _⟩ := h i hi
  rw [e1]
  exact ⟨h1, h2, by simp, by simp; omega⟩
theorem pick_9 (a : Int) : ∃ k : Int, 0 ≤ k ∧ k ≤ 8 ∧ (wrap64 (a.tmod 9 + 9)).tmod 9 = k := by
  have h1 := Int.tmod_lt_of_pos a (show (0 : Int) < 9 by omega)
  have h2 := Int.lt_tmod_of_pos a (show (0 : Int) < 9 by omega)
  generalize a.tmod 9 = b at *
  have e1 : wrap64 (b + 9) = b + 9 := IntWalk.wrap64_in _ ⟨by omega, by omega⟩
  rw [e1]
  clear e1
  have h3 := Int.tmod_lt_of_pos (b + 9) (show (0 : Int) < 9 by omega)
  have h4 : 0 ≤ (b + 9).tmod 9 := Int.tmod_nonneg _ (by omega)
  exact ⟨_, h4, by omega, rfl⟩

def NewK (w : World) (od lv : Int) (n : Nat) (e : Ending) (w' : World) : Prop :=
  ∃ es A c, es.length = n ∧ Kinds od lv es ∧ e = .returned (.slice A es.length c) ∧ Own w' 7 A es.length c (ecells es) ∧ Mod (fun _ => False) w w' ∧ ∀ g, blk A = some g → w.heap.size ≤ g

set_option maxHeartbeats 3200000 in
theorem kinds_a (A : Option Addr) (len cap : Nat) (z : Nat → Int) (w : World) (hl : IntsAt .i64 w A len z) :
    Calls Try.prog 23 #[.slice A len cap, .int .i64 (-1), .int .i64 (-1)] w (NewK w (-1) (-1) (min len 30)) := by
  obtain ⟨i0, hi0, hz0, hz1, hz2⟩ := info_parts info_en
  have hb1 := hl.1
  unfold maxLen at hb1
  have HL := Lib.hid hl
  have HI := Lib.hid hi0
  have HZ0 := Lib.hid hz0
  have HZ1 := Lib.hid hz1
  have HZ2 := Lib.hid hz2
  clear hl hi0 hz0 hz1 hz2
  go_enter Try.func23, Try.ntmps23
  go_wp2_with fail
  go_loopg [7, 8] 30 (fun q v7 v8 wr => ∃ (k : Nat) (es : List En) (B : Option Addr) (d : Nat), k ≤ len ∧ k ≤ 30 ∧ v8 = .int .i64 k ∧ Hid (es.length = k) ∧ v7 = .slice B k d ∧ Hid (Kinds (-1) (-1) es) ∧ Hid (Own wr 7 B k d (ecells es)) ∧ Hid (Mod (fun _ => False) w wr) ∧ Hid (∀ g, blk B = some g → w.heap.size ≤ g) ∧ q + k = 30)
  case atStart => exact ⟨0, [], none, 0, by omega, by omega, rfl, Lib.hid rfl, rfl, Lib.hid (fun i h => absurd h (by simp)), Lib.hid (Own.nil _ _), Lib.hid (Mod.refl _ _), Lib.hid (by simp [blk]), by omega⟩
  case round =>
    obtain ⟨k, es, B, d, hk, hk30, rfl, HEL, rfl, HK, HO, HM, HB, hq⟩ := hrel
    by_cases hin : k < len ∧ k < 30
    · obtain ⟨h1, h2⟩ := hin
      obtain ⟨b, o, hA, hb, q0, hwf⟩ := HL.out.at_ h1
      have HA := Lib.hid hA
      have q1 := HM.out.cell q0 (by simp)
      have j0 : (0 : Int) ≤ (k : Int) := by omega
      have j1 : (k : Int) < (len : Int) := by omega
      have HP := Lib.hid (pick_9 (z k))
      clear q0
      generalize z k = x at *
      rw [hA]
      clear hA
      go_upto_region 5 with (fail)
      go_cut [9] (fun s9 wx => ∃ y : Int, 0 ≤ y ∧ y ≤ 8 ∧ s9 = .int .i64 y ∧ wr = wx)
      case first =>
        go_wp2_with fail
        go_meet
        obtain ⟨y, hy0, hy8, hy⟩ := HP.out
        exact ⟨y, hy0, hy8, by rw [hy], rfl⟩
      case rest =>
        obtain ⟨y, hy0, hy8, rfl, rfl⟩ := hcut
        clear HP q1
        have hkind := Lib.hid (show IsKind (-1) (-1) k ⟨1, 1, (k : Int) + 1, y % 3, y / 3, k, ⟨#[]⟩⟩ from ⟨y % 3, y / 3, rfl, by omega, by omega, by omega, by omega⟩)
        have hone := Lib.hid (En.one ⟨1, 1, (k : Int) + 1, y % 3, y / 3, k, ⟨#[]⟩⟩)
        unfold En.cells at hone
        simp only [] at hone
        go_wp2_with (at_builtin; refine wpList_append_Own _ rfl _ _ _ rfl 39 i0 _ 7 64 Try.underlying22 HI.out HZ0.out HZ1.out HZ2.out rfl (by decide) B k d _ rfl ((HO.out.alloc _).alloc _) ⟨wr.heap.size + 1, 0, none⟩ 1 1 _ rfl rfl (news2 _ _ _ _) hone.out (by decide) (by unfold maxLen; omega) (by omega) ?_; intro B2 d2 w2 ho2 hg2 hb2)
        have ho3 := Lib.hid (show Own w2 7 B2 (k + 1) d2 (ecells (es ++ [⟨1, 1, (k : Int) + 1, y % 3, y / 3, k, ⟨#[]⟩⟩])) by rw [ecells_app]; simpa [ecells, En.cells] using ho2)
        have hm3 := Lib.hid (((HM.out.alloc _).alloc _).grown hg2 fun g e => .inr (HB.out g e))
        have hb3 := Lib.hid (show ∀ g, blk B2 = some g → w.heap.size ≤ g by
          intro g e
          rcases hb2 with h | ⟨q, h, hq⟩
          · exact HB.out g (h.symm.trans e)
          · have := h.symm.trans e; injection this with this; subst this; have h5 := HM.out.size; simp at hq; omega)
        have hk3 := Lib.hid (HK.out.snoc (by rw [HEL.out]; exact hkind.out))
        clear ho2 hg2 hb2
        rw [← HA.out]
        go_wp2_with fail
        go_roundg (30 - (k + 1))
        case measure => omega
        case rel => exact ⟨k + 1, _, B2, d2, by omega, by omega, by go_num, Lib.hid (by rw [List.length_append, HEL.out]; rfl), rfl, hk3, ho3, hm3, hb3, by omega⟩
    · have hend : k < len ∧ 30 ≤ k ∨ len ≤ k := by omega
      have hfin := Lib.hid (show NewK w (-1) (-1) (min len 30) (.returned (.slice B k d)) wr from ⟨es, B, d, by rw [HEL.out]; omega, HK.out, by rw [HEL.out], by rw [HEL.out]; exact HO.out, HM.out, HB.out⟩)
      clear hin
      rcases hend with ⟨h1, h2⟩ | h1
      all_goals
        go_wp2_with fail
        go_ret
        exact hfin.out
set_option maxHeartbeats 3200000 in
theorem kinds_s (A : Option Addr) (len cap : Nat) (z : Nat → Int) (w : World) (hl : IntsAt .i64 w A len z) :
    Calls Try.prog 23 #[.slice A len cap, .int .i64 1, .int .i64 2] w (NewK w 1 2 (min len 30)) := by
  obtain ⟨i0, hi0, hz0, hz1, hz2⟩ := info_parts info_en
  have hb1 := hl.1
  unfold maxLen at hb1
  have HL := Lib.hid hl
  have HI := Lib.hid hi0
  have HZ0 := Lib.hid hz0
  have HZ1 := Lib.hid hz1
  have HZ2 := Lib.hid hz2
  clear hl hi0 hz0 hz1 hz2
  go_enter Try.func23, Try.ntmps23
  go_wp2_with fail
  go_loopg [7, 8] 30 (fun q v7 v8 wr => ∃ (k : Nat) (es : List En) (B : Option Addr) (d : Nat), k ≤ len ∧ k ≤ 30 ∧ v8 = .int .i64 k ∧ Hid (es.length = k) ∧ v7 = .slice B k d ∧ Hid (Kinds 1 2 es) ∧ Hid (Own wr 7 B k d (ecells es)) ∧ Hid (Mod (fun _ => False) w wr) ∧ Hid (∀ g, blk B = some g → w.heap.size ≤ g) ∧ q + k = 30)
  case atStart => exact ⟨0, [], none, 0, by omega, by omega, rfl, Lib.hid rfl, rfl, Lib.hid (fun i h => absurd h (by simp)), Lib.hid (Own.nil _ _), Lib.hid (Mod.refl _ _), Lib.hid (by simp [blk]), by omega⟩
  case round =>
    obtain ⟨k, es, B, d, hk, hk30, rfl, HEL, rfl, HK, HO, HM, HB, hq⟩ := hrel
    by_cases hin : k < len ∧ k < 30
    · obtain ⟨h1, h2⟩ := hin
      obtain ⟨b, o, hA, hb, q0, hwf⟩ := HL.out.at_ h1
      have HA := Lib.hid hA
      have q1 := HM.out.cell q0 (by simp)
      have j0 : (0 : Int) ≤ (k : Int) := by omega
      have j1 : (k : Int) < (len : Int) := by omega
      have HP := Lib.hid (pick_9 (z k))
      clear q0
      generalize z k = x at *
      rw [hA]
      clear hA
      go_upto_region 5 with (fail)
      go_cut [9] (fun s9 wx => ∃ y : Int, 0 ≤ y ∧ y ≤ 8 ∧ s9 = .int .i64 y ∧ wr = wx)
      case first =>
        go_wp2_with fail
        go_meet
        obtain ⟨y, hy0, hy8, hy⟩ := HP.out
        exact ⟨y, hy0, hy8, by rw [hy], rfl⟩
      case rest =>
        obtain ⟨y, hy0, hy8, rfl, rfl⟩ := hcut
        clear HP q1
        have hkind := Lib.hid (show IsKind 1 2 k ⟨1, 1, (k : Int) + 1, 1, 2, k, ⟨#[]⟩⟩ from ⟨1, 2, rfl, by omega, by omega, by omega, by omega⟩)
        have hone := Lib.hid (En.one ⟨1, 1, (k : Int) + 1, 1, 2, k, ⟨#[]⟩⟩)
        unfold En.cells at hone
        simp only [] at hone
        go_wp2_with (at_builtin; refine wpList_append_Own _ rfl _ _ _ rfl 39 i0 _ 7 64 Try.underlying22 HI.out HZ0.out HZ1.out HZ2.out rfl (by decide) B k d _ rfl ((HO.out.alloc _).alloc _) ⟨wr.heap.size + 1, 0, none⟩ 1 1 _ rfl rfl (news2 _ _ _ _) hone.out (by decide) (by unfold maxLen; omega) (by omega) ?_; intro B2 d2 w2 ho2 hg2 hb2)
        have ho3 := Lib.hid (show Own w2 7 B2 (k + 1) d2 (ecells (es ++ [⟨1, 1, (k : Int) + 1, 1, 2, k, ⟨#[]⟩⟩])) by rw [ecells_app]; simpa [ecells, En.cells] using ho2)
        have hm3 := Lib.hid (((HM.out.alloc _).alloc _).grown hg2 fun g e => .inr (HB.out g e))
        have hb3 := Lib.hid (show ∀ g, blk B2 = some g → w.heap.size ≤ g by
          intro g e
          rcases hb2 with h | ⟨q, h, hq⟩
          · exact HB.out g (h.symm.trans e)
          · have := h.symm.trans e; injection this with this; subst this; have h5 := HM.out.size; simp at hq; omega)
        have hk3 := Lib.hid (HK.out.snoc (by rw [HEL.out]; exact hkind.out))
        clear ho2 hg2 hb2
        rw [← HA.out]
        go_wp2_with fail
        go_roundg (30 - (k + 1))
        case measure => omega
        case rel => exact ⟨k + 1, _, B2, d2, by omega, by omega, by go_num, Lib.hid (by rw [List.length_append, HEL.out]; rfl), rfl, hk3, ho3, hm3, hb3, by omega⟩
    · have hend : k < len ∧ 30 ≤ k ∨ len ≤ k := by omega
      have hfin := Lib.hid (show NewK w 1 2 (min len 30) (.returned (.slice B k d)) wr from ⟨es, B, d, by rw [HEL.out]; omega, HK.out, by rw [HEL.out], by rw [HEL.out]; exact HO.out, HM.out, HB.out⟩)
      clear hin
      rcases hend with ⟨h1, h2⟩ | h1
      all_goals
        go_wp2_with fail
        go_ret
        exact hfin.out
set_option maxHeartbeats 3200000 in
theorem kinds_t (A : Option Addr) (len cap : Nat) (z : Nat → Int) (w : World) (hl : IntsAt .i64 w A len z) :
    Calls Try.prog 23 #[.slice A len cap, .int .i64 2, .int .i64 1] w (NewK w 2 1 (min len 30)) := by
  obtain ⟨i0, hi0, hz0, hz1, hz2⟩ := info_parts info_en
  have hb1 := hl.1
  unfold maxLen at hb1
  have HL := Lib.hid hl
  have HI := Lib.hid hi0
  have HZ0 := Lib.hid hz0
  have HZ1 := Lib.hid hz1
  have HZ2 := Lib.hid hz2
  clear hl hi0 hz0 hz1 hz2
  go_enter Try.func23, Try.ntmps23
  go_wp2_with fail
  go_loopg [7, 8] 30 (fun q v7 v8 wr => ∃ (k : Nat) (es : List En) (B : Option Addr) (d : Nat), k ≤ len ∧ k ≤ 30 ∧ v8 = .int .i64 k ∧ Hid (es.length = k) ∧ v7 = .slice B k d ∧ Hid (Kinds 2 1 es) ∧ Hid (Own wr 7 B k d (ecells es)) ∧ Hid (Mod (fun _ => False) w wr) ∧ Hid (∀ g, blk B = some g → w.heap.size ≤ g) ∧ q + k = 30)
  case atStart => exact ⟨0, [], none, 0, by omega, by omega, rfl, Lib.hid rfl, rfl, Lib.hid (fun i h => absurd h (by simp)), Lib.hid (Own.nil _ _), Lib.hid (Mod.refl _ _), Lib.hid (by simp [blk]), by omega⟩
  case round =>
    obtain ⟨k, es, B, d, hk, hk30, rfl, HEL, rfl, HK, HO, HM, HB, hq⟩ := hrel
    by_cases hin : k < len ∧ k < 30
    · obtain ⟨h1, h2⟩ := hin
      obtain ⟨b, o, hA, hb, q0, hwf⟩ := HL.out.at_ h1
      have HA := Lib.hid hA
      have q1 := HM.out.cell q0 (by simp)
      have j0 : (0 : Int) ≤ (k : Int) := by omega
      have j1 : (k : Int) < (len : Int) := by omega
      have HP := Lib.hid (pick_9 (z k))
      clear q0
      generalize z k = x at *
      rw [hA]
      clear hA
      go_upto_region 5 with (fail)
      go_cut [9] (fun s9 wx => ∃ y : Int, 0 ≤ y ∧ y ≤ 8 ∧ s9 = .int .i64 y ∧ wr = wx)
      case first =>
        go_wp2_with fail
        go_meet
        obtain ⟨y, hy0, hy8, hy⟩ := HP.out
        exact ⟨y, hy0, hy8, by rw [hy], rfl⟩
      case rest =>
        obtain ⟨y, hy0, hy8, rfl, rfl⟩ := hcut
        clear HP q1
        have hkind := Lib.hid (show IsKind 2 1 k ⟨1, 1, (k : Int) + 1, 2, 1, k, ⟨#[]⟩⟩ from ⟨2, 1, rfl, by omega, by omega, by omega, by omega⟩)
        have hone := Lib.hid (En.one ⟨1, 1, (k : Int) + 1, 2, 1, k, ⟨#[]⟩⟩)
        unfold En.cells at hone
        simp only [] at hone
        go_wp2_with (at_builtin; refine wpList_append_Own _ rfl _ _ _ rfl 39 i0 _ 7 64 Try.underlying22 HI.out HZ0.out HZ1.out HZ2.out rfl (by decide) B k d _ rfl ((HO.out.alloc _).alloc _) ⟨wr.heap.size + 1, 0, none⟩ 1 1 _ rfl rfl (news2 _ _ _ _) hone.out (by decide) (by unfold maxLen; omega) (by omega) ?_; intro B2 d2 w2 ho2 hg2 hb2)
        have ho3 := Lib.hid (show Own w2 7 B2 (k + 1) d2 (ecells (es ++ [⟨1, 1, (k : Int) + 1, 2, 1, k, ⟨#[]⟩⟩])) by rw [ecells_app]; simpa [ecells, En.cells] using ho2)
        have hm3 := Lib.hid (((HM.out.alloc _).alloc _).grown hg2 fun g e => .inr (HB.out g e))
        have hb3 := Lib.hid (show ∀ g, blk B2 = some g → w.heap.size ≤ g by
          intro g e
          rcases hb2 with h | ⟨q, h, hq⟩
          · exact HB.out g (h.symm.trans e)
          · have := h.symm.trans e; injection this with this; subst this; have h5 := HM.out.size; simp at hq; omega)
        have hk3 := Lib.hid (HK.out.snoc (by rw [HEL.out]; exact hkind.out))
        clear ho2 hg2 hb2
        rw [← HA.out]
        go_wp2_with fail
        go_roundg (30 - (k + 1))
        case measure => omega
        case rel => exact ⟨k + 1, _, B2, d2, by omega, by omega, by go_num, Lib.hid (by rw [List.length_append, HEL.out]; rfl), rfl, hk3, ho3, hm3, hb3, by omega⟩
    · have hend : k < len ∧ 30 ≤ k ∨ len ≤ k := by omega
      have hfin := Lib.hid (show NewK w 2 1 (min len 30) (.returned (.slice B k d)) wr from ⟨es, B, d, by rw [HEL.out]; omega, HK.out, by rw [HEL.out], by rw [HEL.out]; exact HO.out, HM.out, HB.out⟩)
      clear hin
      rcases hend with ⟨h1, h2⟩ | h1
      all_goals
        go_wp2_with fail
        go_ret
        exact hfin.out
end Go.Proofs.Ytcjnmiopklkifaa
