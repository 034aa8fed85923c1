/- entry.May. -/
import Derived.Test.YtbladkopbkkamaaPendB
namespace Go.Proofs.Ytbladkopbkkamaa
open Go.RowKit
attribute [local go_sem ↓] Go.wp_at_zero Go.wp_at_succ
set_option linter.unusedVariables false
set_option linter.unusedSimpArgs false

def mayB (e : En) : Bool := ([e.fr].all fun x => decide (1 ≤ x) && decide (x ≤ 7)) && ([e.bo, e.se].all fun x => decide (1 ≤ x) && decide (x ≤ 1099511627776)) && ([e.od, e.lv].all fun x => decide (0 ≤ x) && decide (x ≤ 2)) && ([e.st].all fun x => decide (0 ≤ x) && decide (x ≤ 1099511627776)) && decide (e.da.size ≤ 16)
theorem may_ok (e : En) : mayB e = okB e := by
  unfold mayB okB
  simp only [List.all_cons, List.all_nil, Bool.and_true]
  simp only [Bool.and_assoc]
theorem sl_new (w : World) (cs : Array Value) (t : TypeId) (n a : Nat) (ha : a = w.heap.size) (hn : cs.size = n) (hm : n ≤ maxLen) : Sl (w.alloc (.cells cs t)) 1 (some ⟨a, 0, none⟩) n cs.toList := by
  subst ha
  exact Sl.of_own (own_new w cs t 1 n (by omega) hm)
set_option maxHeartbeats 3200000 in
theorem mayE_any (e : En) (w : World) (hd : e.da.size ≤ maxLen) : Calls Try.prog 40 #[e.val] w (Only w (.bool (okB e))) := by
  rw [← may_ok]
  unfold maxLen at hd
  obtain ⟨e0, e1, e2, e3, e4, e5, e6⟩ := e
  unfold En.val
  simp only [] at *
  go_enter Try.func40, Try.ntmps40
  cases h0 : ([e0].all fun x => decide (1 ≤ x) && decide (x ≤ 7))
  · go_wp2_with fail
    refine (in_any 1 7 (some ⟨w.heap.size + 1, 0, none⟩) [e0] 1 _ (sl_new _ #[.int .i64 e0] _ 1 _ (by simp) rfl (by decide))).mono ?_
    rintro e w1 ⟨rfl, rfl⟩
    rw [h0]
    go_wp2_with fail
    go_ret
    refine ⟨?_, ((Mod.refl (fun _ => False) w).alloc _).alloc _⟩
    unfold mayB
    simp only [h0, Bool.false_and, Bool.and_false]
    rfl
  · cases h1 : ([e1, e2].all fun x => decide (1 ≤ x) && decide (x ≤ 1099511627776))
    · go_wp2_with fail
      refine (in_any 1 7 (some ⟨w.heap.size + 1, 0, none⟩) [e0] 1 _ (sl_new _ #[.int .i64 e0] _ 1 _ (by simp) rfl (by decide))).mono ?_
      rintro e w1 ⟨rfl, rfl⟩
      rw [h0]
      go_wp2_with fail
      refine (in_any 1 1099511627776 (some ⟨w.heap.size + 2, 0, none⟩) [e1, e2] 2 _ (sl_new _ #[.int .i64 e1, .int .i64 e2] _ 2 _ (by simp) rfl (by decide))).mono ?_
      rintro e w2 ⟨rfl, rfl⟩
      rw [h1]
      go_wp2_with fail
      go_ret
      refine ⟨?_, (((Mod.refl (fun _ => False) w).alloc _).alloc _).alloc _⟩
      unfold mayB
      simp only [h0, h1, Bool.false_and, Bool.and_false]
      rfl
    · cases h2 : ([e3, e4].all fun x => decide (0 ≤ x) && decide (x ≤ 2))
      · go_wp2_with fail
        refine (in_any 1 7 (some ⟨w.heap.size + 1, 0, none⟩) [e0] 1 _ (sl_new _ #[.int .i64 e0] _ 1 _ (by simp) rfl (by decide))).mono ?_
        rintro e w1 ⟨rfl, rfl⟩
        rw [h0]
        go_wp2_with fail
        refine (in_any 1 1099511627776 (some ⟨w.heap.size + 2, 0, none⟩) [e1, e2] 2 _ (sl_new _ #[.int .i64 e1, .int .i64 e2] _ 2 _ (by simp) rfl (by decide))).mono ?_
        rintro e w2 ⟨rfl, rfl⟩
        rw [h1]
        go_wp2_with fail
        refine (in_any 0 2 (some ⟨w.heap.size + 3, 0, none⟩) [e3, e4] 2 _ (sl_new _ #[.int .i64 e3, .int .i64 e4] _ 2 _ (by simp) rfl (by decide))).mono ?_
        rintro e w3 ⟨rfl, rfl⟩
        rw [h2]
        go_wp2_with fail
        go_ret
        refine ⟨?_, ((((Mod.refl (fun _ => False) w).alloc _).alloc _).alloc _).alloc _⟩
        unfold mayB
        simp only [h0, h1, h2, Bool.false_and, Bool.and_false]
        rfl
      · cases h3 : ([e5].all fun x => decide (0 ≤ x) && decide (x ≤ 1099511627776))
        · go_wp2_with fail
          refine (in_any 1 7 (some ⟨w.heap.size + 1, 0, none⟩) [e0] 1 _ (sl_new _ #[.int .i64 e0] _ 1 _ (by simp) rfl (by decide))).mono ?_
          rintro e w1 ⟨rfl, rfl⟩
          rw [h0]
          go_wp2_with fail
          refine (in_any 1 1099511627776 (some ⟨w.heap.size + 2, 0, none⟩) [e1, e2] 2 _ (sl_new _ #[.int .i64 e1, .int .i64 e2] _ 2 _ (by simp) rfl (by decide))).mono ?_
          rintro e w2 ⟨rfl, rfl⟩
          rw [h1]
          go_wp2_with fail
          refine (in_any 0 2 (some ⟨w.heap.size + 3, 0, none⟩) [e3, e4] 2 _ (sl_new _ #[.int .i64 e3, .int .i64 e4] _ 2 _ (by simp) rfl (by decide))).mono ?_
          rintro e w3 ⟨rfl, rfl⟩
          rw [h2]
          go_wp2_with fail
          refine (in_any 0 1099511627776 (some ⟨w.heap.size + 4, 0, none⟩) [e5] 1 _ (sl_new _ #[.int .i64 e5] _ 1 _ (by simp) rfl (by decide))).mono ?_
          rintro e w4 ⟨rfl, rfl⟩
          rw [h3]
          go_wp2_with fail
          go_ret
          refine ⟨?_, (((((Mod.refl (fun _ => False) w).alloc _).alloc _).alloc _).alloc _).alloc _⟩
          unfold mayB
          simp only [h0, h1, h2, h3, Bool.false_and, Bool.and_false]
          rfl
        · cases h4 : decide (e6.size ≤ 16)
          · have h5' := Lib.hid (show decide ((e6.size : Int) ≤ 16) = false from by have := (by simpa using h4 : 16 < e6.size); exact decide_eq_false (by omega))
            go_wp2_with fail
            refine (in_any 1 7 (some ⟨w.heap.size + 1, 0, none⟩) [e0] 1 _ (sl_new _ #[.int .i64 e0] _ 1 _ (by simp) rfl (by decide))).mono ?_
            rintro e w1 ⟨rfl, rfl⟩
            rw [h0]
            go_wp2_with fail
            refine (in_any 1 1099511627776 (some ⟨w.heap.size + 2, 0, none⟩) [e1, e2] 2 _ (sl_new _ #[.int .i64 e1, .int .i64 e2] _ 2 _ (by simp) rfl (by decide))).mono ?_
            rintro e w2 ⟨rfl, rfl⟩
            rw [h1]
            go_wp2_with fail
            refine (in_any 0 2 (some ⟨w.heap.size + 3, 0, none⟩) [e3, e4] 2 _ (sl_new _ #[.int .i64 e3, .int .i64 e4] _ 2 _ (by simp) rfl (by decide))).mono ?_
            rintro e w3 ⟨rfl, rfl⟩
            rw [h2]
            go_wp2_with fail
            refine (in_any 0 1099511627776 (some ⟨w.heap.size + 4, 0, none⟩) [e5] 1 _ (sl_new _ #[.int .i64 e5] _ 1 _ (by simp) rfl (by decide))).mono ?_
            rintro e w4 ⟨rfl, rfl⟩
            rw [h3]
            go_wp2_with fail
            go_ret
            refine ⟨?_, (((((Mod.refl (fun _ => False) w).alloc _).alloc _).alloc _).alloc _).alloc _⟩
            unfold mayB
            simp only [h0, h1, h2, h3, h4]
            show Ending.returned (.bool (decide ((e6.size : Int) ≤ 16))) = _
            rw [h5'.out]
            rfl
          · have h5' := Lib.hid (show decide ((e6.size : Int) ≤ 16) = true from by have := (by simpa using h4 : e6.size ≤ 16); exact decide_eq_true (by omega))
            go_wp2_with fail
            refine (in_any 1 7 (some ⟨w.heap.size + 1, 0, none⟩) [e0] 1 _ (sl_new _ #[.int .i64 e0] _ 1 _ (by simp) rfl (by decide))).mono ?_
            rintro e w1 ⟨rfl, rfl⟩
            rw [h0]
            go_wp2_with fail
            refine (in_any 1 1099511627776 (some ⟨w.heap.size + 2, 0, none⟩) [e1, e2] 2 _ (sl_new _ #[.int .i64 e1, .int .i64 e2] _ 2 _ (by simp) rfl (by decide))).mono ?_
            rintro e w2 ⟨rfl, rfl⟩
            rw [h1]
            go_wp2_with fail
            refine (in_any 0 2 (some ⟨w.heap.size + 3, 0, none⟩) [e3, e4] 2 _ (sl_new _ #[.int .i64 e3, .int .i64 e4] _ 2 _ (by simp) rfl (by decide))).mono ?_
            rintro e w3 ⟨rfl, rfl⟩
            rw [h2]
            go_wp2_with fail
            refine (in_any 0 1099511627776 (some ⟨w.heap.size + 4, 0, none⟩) [e5] 1 _ (sl_new _ #[.int .i64 e5] _ 1 _ (by simp) rfl (by decide))).mono ?_
            rintro e w4 ⟨rfl, rfl⟩
            rw [h3]
            go_wp2_with fail
            go_ret
            refine ⟨?_, (((((Mod.refl (fun _ => False) w).alloc _).alloc _).alloc _).alloc _).alloc _⟩
            unfold mayB
            simp only [h0, h1, h2, h3, h4]
            show Ending.returned (.bool (decide ((e6.size : Int) ≤ 16))) = _
            rw [h5'.out]
            rfl

end Go.Proofs.Ytbladkopbkkamaa
