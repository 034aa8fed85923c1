/- The law's begun. -/
import Derived.Test.YtcjnmiopklkifaaReadyK
namespace Go.Proofs.Ytcjnmiopklkifaa
open Go.RowKit
attribute [local go_sem ↓] Go.wp_at_zero Go.wp_at_succ
set_option linter.unusedVariables false
set_option linter.unusedSimpArgs false

def q1 : En := ⟨1, 1, 1, 2, 1, 4, ⟨#[]⟩⟩
def q2 : En := ⟨1, 1, 2, 1, 2, 4, ⟨#[]⟩⟩
theorem okq : ∀ e ∈ [q1, q2], OkE e := by
  intro e he
  simp at he
  rcases he with rfl | rfl <;> simp [OkE, q1, q2]
theorem go1 : goR [] [q1, q2] 2 6 = [] := by rfl
theorem go2 : goR [] [q1, q2] 2 7 = [⟨1, q1⟩, ⟨2, q2⟩] := by rfl
theorem go3 : goR [⟨1, q1⟩, ⟨2, q2⟩] [q1, q2] 2 9 = [] := by rfl
theorem go4 : hasB [⟨1, q1⟩, ⟨2, q2⟩] q1 = true := by rfl

set_option maxRecDepth 100000 in
set_option maxHeartbeats 3200000 in
theorem begun_any (w : World) : Calls Try.prog 12 #[] w fun e w' => e = .returned (.bool true) ∧ Below w.heap.size w w' := by
  go_enter Try.func12, Try.ntmps12
  go_wp2_with fail
  refine (newQ_any _).mono ?_
  rintro e w1 ⟨g, rfl, hq1, m1, hg1⟩
  have HQ1 := Lib.hid hq1
  have M1 := Lib.hid m1
  have hgl := hq1.lt
  clear hq1 m1
  have HS := Lib.hid (show Sl _ 7 _ 2 (ecells [q1, q2]) from Sl.of_own (own_new w1 #[.int .i64 1, .int .i64 1, .int .i64 1, .int .i64 2, .int .i64 1, .int .i64 4, .string ⟨#[]⟩, .int .i64 1, .int .i64 1, .int .i64 2, .int .i64 1, .int .i64 2, .int .i64 4, .string ⟨#[]⟩] 39 7 2 rfl (by decide)))
  go_wp2_with fail
  refine (go_any g _ [] (some ⟨w1.heap.size, 0, none⟩) [q1, q2] 2 2 6 _ (HQ1.out.none_ ((Mod.refl _ _).alloc _)) (by exact HS.out) (by intro k hk; injection hk with hk; simp at hk; omega) (by decide) (by decide) (by decide) (by decide) okq (by decide) (by decide) (by decide) (by decide)).mono ?_
  rw [go1]
  rintro e w2 ⟨A2, c2, F2, rfl, -, hq2, m2, hF2, -⟩
  have HQ2 := Lib.hid hq2
  have M2 := Lib.hid (show Mod (fun k => w.heap.size ≤ k) w w2 from (((M1.out.mono (by simp)).alloc _).trans m2 fun k hk => .inr (by subst hk; exact hg1)))
  have HF2 := Lib.hid (show ∀ k, F2 k → w.heap.size ≤ k ∧ k ≠ w1.heap.size from fun k hk => by
    rcases hF2 k hk with h | h
    · subst h; exact ⟨hg1, by omega⟩
    · have := M1.out.size; simp at h; omega)
  have HS2 := Lib.hid (HS.out.mod m2 fun k hk h => by injection hk with hk; simp at hk; omega)
  clear hq2 m2 hF2
  go_wp2_with fail
  refine (go_any g F2 ([] ++ []) (some ⟨w1.heap.size, 0, none⟩) [q1, q2] 2 2 7 _ HQ2.out (by exact HS2.out) (by intro k hk h; injection hk with hk; exact (HF2.out k h).2 hk.symm) (by decide) (by decide) (by decide) (by decide) okq (by decide) (by decide) (by decide) (by decide)).mono ?_
  rw [List.append_nil, go2]
  rintro e w3 ⟨A3, c3, F3, rfl, o3, hq3, m3, hF3, hA3⟩
  have HQ3 := Lib.hid hq3
  have M3 := Lib.hid (M2.out.trans m3 fun k hk => .inr (HF2.out k hk).1)
  have HF3 := Lib.hid (show ∀ k, F3 k → w.heap.size ≤ k ∧ k ≠ w1.heap.size from fun k hk => by
    rcases hF3 k hk with h | h
    · exact HF2.out k h
    · have := M2.out.size; have := HS2.out.at_ (by decide); obtain ⟨gg, oo, e, hl, _⟩ := this; injection e with e; injection e with e1 e2; omega)
  have HS3 := Lib.hid (HS2.out.mod m3 fun k hk h => by injection hk with hk; exact (HF2.out k h).2 hk.symm)
  have O3 := Lib.hid o3
  have HA3 := Lib.hid hA3
  obtain ⟨ga, oa, rfl, hga, p0, -⟩ := (Sl.of_own o3).to (k := 0) (by decide)
  obtain ⟨gb, ob, eb, hgb, r0, -⟩ := (Sl.of_own o3).to (k := 1) (by decide)
  injection eb with eb
  injection eb with e1 e2
  subst e1 e2
  obtain ⟨gl, ol, el, hgl3, y0, y1, y2, y3, y4, y5, y6⟩ := HS3.out.ent (k := 0) (by decide)
  injection el with el
  injection el with e1 e2
  subst e1 e2
  have p0' : w3.cell? ⟨ga, oa, none⟩ = some (.int .i64 1) := by simpa using p0
  have r0' : w3.cell? ⟨ga, oa + 8, none⟩ = some (.int .i64 2) := by simpa using r0
  obtain ⟨z0, z1, z2, z3, z4, z5, z6⟩ : w3.cell? ⟨w1.heap.size, 0, none⟩ = some (.int .i64 1) ∧ w3.cell? ⟨w1.heap.size, 1, none⟩ = some (.int .i64 1) ∧ w3.cell? ⟨w1.heap.size, 2, none⟩ = some (.int .i64 1) ∧ w3.cell? ⟨w1.heap.size, 3, none⟩ = some (.int .i64 2) ∧ w3.cell? ⟨w1.heap.size, 4, none⟩ = some (.int .i64 1) ∧ w3.cell? ⟨w1.heap.size, 5, none⟩ = some (.int .i64 4) ∧ w3.cell? ⟨w1.heap.size, 6, none⟩ = some (.string ⟨#[]⟩) := by
    refine ⟨by simpa [q1] using y0, by simpa [q1] using y1, by simpa [q1] using y2, by simpa [q1] using y3, by simpa [q1] using y4, by simpa [q1] using y5, by simpa [q1] using y6⟩
  clear p0 r0 y0 y1 y2 y3 y4 y5 y6 hq3 m3 hF3 o3 hA3
  go_wp2_with fail
  refine (toldQ_any g F3 _ _ HQ3.out (by decide)).mono ?_
  rintro e w4 ⟨A4, c4, rfl, -, m4, -⟩
  have M4 := Lib.hid m4
  have HQ4 := Lib.hid (HQ3.out.none_ m4)
  have hgl4 := Nat.lt_of_lt_of_le hgl3 m4.size
  have z0 := m4.cell z0 (by simp)
  have z1 := m4.cell z1 (by simp)
  have z2 := m4.cell z2 (by simp)
  have z3 := m4.cell z3 (by simp)
  have z4 := m4.cell z4 (by simp)
  have z5 := m4.cell z5 (by simp)
  have z6 := m4.cell z6 (by simp)
  clear m4
  go_wp2_with fail
  refine (has_any g F3 _ q1 _ HQ4.out).mono ?_
  rw [show ([] ++ [⟨1, q1⟩, ⟨2, q2⟩] : List To) = [⟨1, q1⟩, ⟨2, q2⟩] from rfl, go4]
  rintro e w5 ⟨rfl, m5⟩
  have M5 := Lib.hid (M4.out.trans m5 (by simp))
  clear m5 z0 z1 z2 z3 z4 z5 z6
  go_wp2_with fail
  refine (go_any g F3 _ (some ⟨w1.heap.size, 0, none⟩) [q1, q2] 2 2 9 _ (HQ3.out.none_ M5.out) (by exact HS3.out.none_ M5.out) (by intro k hk h; injection hk with hk; exact (HF3.out k h).2 hk.symm) (by decide) (by decide) (by decide) (by decide) okq (by decide) (by decide) (by decide) (by decide)).mono ?_
  rw [show ([] ++ [⟨1, q1⟩, ⟨2, q2⟩] : List To) = [⟨1, q1⟩, ⟨2, q2⟩] from rfl, go3]
  rintro e w6 ⟨A6, c6, F6, rfl, -, -, m6, -, -⟩
  have M6 := Lib.hid (((M3.out.trans M5.out (by simp)).trans m6 fun k hk => .inr (HF3.out k hk).1))
  clear m6
  go_wp2_with fail
  go_ret
  exact ⟨rfl, Mod.below (Below.refl _ w) M6.out (by simp)⟩
end Go.Proofs.Ytcjnmiopklkifaa
