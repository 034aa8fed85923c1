/- The law's first entries that wait. -/
import Derived.Test.YtbladkopbkkamaaPendC
import Derived.Test.YtbladkopbkkamaaPendD
namespace Go.Proofs.Ytbladkopbkkamaa
open Go.RowKit
attribute [local go_sem ↓] Go.wp_at_zero Go.wp_at_succ
set_option linter.unusedVariables false
set_option linter.unusedSimpArgs false

def b1 : En := ⟨2, 3, 1, 1, 1, 0, ⟨#[120]⟩⟩
def b2 : En := ⟨2, 3, 2, 0, 0, 0, ⟨#[]⟩⟩
theorem bfilt : ([b1, b2].filter fun x => ![b1].any fun u => same u x) = [b2] := by rfl

set_option maxHeartbeats 3200000 in
theorem begunP_any (w : World) : Calls Try.prog 21 #[] w fun e w' => e = .returned (.bool true) ∧ Below w.heap.size w w' := by
  go_enter Try.func21, Try.ntmps21
  go_wp2_with fail
  refine (newP_ok 2 3 w (by omega) (by omega) (by omega) (by omega)).mono ?_
  rintro e w1 ⟨g, rfl, p1, hg, m1⟩
  have P1 := Lib.hid p1
  have B1 := Lib.hid (Mod.below (Below.refl w.heap.size w) m1 (by simp))
  clear p1 m1
  go_wp2_with fail
  refine (newP_bad 0 1 w1 (by omega)).mono ?_
  rintro e w2 ⟨rfl, rfl⟩
  go_wp2_with fail
  refine (newP_bad 1 0 w1 (by omega)).mono ?_
  rintro e w2 ⟨rfl, rfl⟩
  go_wp2_with fail
  refine (addP_ok g _ 2 3 0 1 1 ⟨#[120]⟩ [] w1 P1.out (by decide) (by omega) rfl (by simp)).mono ?_
  rintro e w2 ⟨F2, rfl, p2, m2, f2⟩
  have P2 := Lib.hid (show IsP w2 g F2 2 3 1 [b1] from p2)
  have B2 := Lib.hid (Mod.below B1.out m2 (fun k hk => by subst hk; exact hg))
  have hF2 := Lib.hid (show ∀ k, F2 k → w.heap.size ≤ k from fun k hk => by have := B1.out.size; rcases f2 k hk with h | h; (subst h; exact hg); omega)
  have hb2 := p2.lt
  clear p2 m2 f2 P1
  simp only [newE, En.val]
  have hbx := Lib.hid (Cells.new w2 #[.int .i64 2, .int .i64 3, .int .i64 1, .int .i64 1, .int .i64 1, .int .i64 0, .string ⟨#[120]⟩] 30)
  have P3 := Lib.hid (P2.out.none_ ((Mod.refl _ w2).alloc (.cells #[.int .i64 2, .int .i64 3, .int .i64 1, .int .i64 1, .int .i64 1, .int .i64 0, .string ⟨#[120]⟩] 30)))
  have B3 := Lib.hid (Mod.below B2.out ((Mod.refl (fun _ => False) w2).alloc (.cells #[.int .i64 2, .int .i64 3, .int .i64 1, .int .i64 1, .int .i64 1, .int .i64 0, .string ⟨#[120]⟩] 30)) (by simp))
  have hx3 : w2.heap.size < (w2.alloc (.cells #[.int .i64 2, .int .i64 3, .int .i64 1, .int .i64 1, .int .i64 1, .int .i64 0, .string ⟨#[120]⟩] 30)).heap.size := by simp
  have hF3 : ∀ k, F2 k → ¬ k = w2.heap.size := fun k hk => by have := hb2 k hk; omega
  have hwx : w.heap.size ≤ w2.heap.size := B2.out.size
  go_wp2_with fail
  generalize w2.alloc (.cells #[.int .i64 2, .int .i64 3, .int .i64 1, .int .i64 1, .int .i64 1, .int .i64 0, .string ⟨#[120]⟩] 30) = w3 at *
  generalize w2.heap.size = x at *
  clear P2 B2 hb2
  refine (addP_form g _ 2 3 1 9 0 ⟨#[]⟩ [b1] w3 P3.out (by decide) (by omega) rfl).mono ?_
  rintro e w4 ⟨F4, rfl, p4, m4, f4⟩
  simp only [zE, En.val]
  have X4 := Lib.hid (hbx.out.mod m4 (fun e => hF3 _ e rfl))
  have B4 := Lib.hid (Mod.below B3.out m4 (hF2.out))
  have P5 := Lib.hid (p4.none_ ((Mod.refl _ w4).alloc (.cells #[.int .i64 0, .int .i64 0, .int .i64 0, .int .i64 0, .int .i64 0, .int .i64 0, .string ⟨#[]⟩] 30)))
  have X5 := Lib.hid (X4.out.alloc (.cells #[.int .i64 0, .int .i64 0, .int .i64 0, .int .i64 0, .int .i64 0, .int .i64 0, .string ⟨#[]⟩] 30))
  have B5 := Lib.hid (Mod.below B4.out ((Mod.refl (fun _ => False) w4).alloc (.cells #[.int .i64 0, .int .i64 0, .int .i64 0, .int .i64 0, .int .i64 0, .int .i64 0, .string ⟨#[]⟩] 30)) (by simp))
  have hF4 := Lib.hid (show ∀ k, F4 k → w.heap.size ≤ k ∧ ¬ k = x from fun k hk => by have := B3.out.size; rcases f4 k hk with h | h; (exact ⟨hF2.out k h, hF3 k h⟩); omega)
  have hb4 := p4.lt
  have hs5 : w4.heap.size < (w4.alloc (.cells #[.int .i64 0, .int .i64 0, .int .i64 0, .int .i64 0, .int .i64 0, .int .i64 0, .string ⟨#[]⟩] 30)).heap.size := by simp
  have hx4 : x < w4.heap.size := X4.out.2.2
  clear p4 m4 f4 P3 B3 hF2 hF3
  go_wp2_with fail
  generalize w4.alloc (.cells #[.int .i64 0, .int .i64 0, .int .i64 0, .int .i64 0, .int .i64 0, .int .i64 0, .string ⟨#[]⟩] 30) = w5 at *
  generalize w4.heap.size = x4 at *
  refine (addP_ok g _ 2 3 1 0 0 ⟨#[]⟩ [b1] w5 P5.out (by decide) (by omega) rfl (by simp)).mono ?_
  rintro e w6 ⟨F6, rfl, p6, m6, f6⟩
  have P6 := Lib.hid (show IsP w6 g F6 2 3 2 [b1, b2] from p6)
  simp only [newE, En.val]
  have hb6 := p6.lt
  have X6 := Lib.hid (X5.out.mod m6 (fun e => (hF4.out _ e).2 rfl))
  have B6 := Lib.hid (Mod.below B5.out m6 (fun k hk => (hF4.out k hk).1))
  have hF6 := Lib.hid (show ∀ k, F6 k → w.heap.size ≤ k ∧ ¬ k = x from fun k hk => by have := B5.out.size; rcases f6 k hk with h | h; (exact hF4.out k h); omega)
  have P7 := Lib.hid (P6.out.none_ ((Mod.refl _ w6).alloc (.cells #[.int .i64 2, .int .i64 3, .int .i64 2, .int .i64 0, .int .i64 0, .int .i64 0, .string ⟨#[]⟩] 30)))
  have X7 := Lib.hid (X6.out.alloc (.cells #[.int .i64 2, .int .i64 3, .int .i64 2, .int .i64 0, .int .i64 0, .int .i64 0, .string ⟨#[]⟩] 30))
  have Y7 := Lib.hid (Cells.new w6 #[.int .i64 2, .int .i64 3, .int .i64 2, .int .i64 0, .int .i64 0, .int .i64 0, .string ⟨#[]⟩] 30)
  have B7 := Lib.hid (Mod.below B6.out ((Mod.refl (fun _ => False) w6).alloc (.cells #[.int .i64 2, .int .i64 3, .int .i64 2, .int .i64 0, .int .i64 0, .int .i64 0, .string ⟨#[]⟩] 30)) (by simp))
  have hx6 : x < w6.heap.size := X6.out.2.2
  clear p6 m6 f6 P5 B5 hF4 P6
  have x0 := X7.out.1 0 _ rfl
  have x1 := X7.out.1 1 _ rfl
  have x2 := X7.out.1 2 _ rfl
  have x3 := X7.out.1 3 _ rfl
  have x4' := X7.out.1 4 _ rfl
  have x5 := X7.out.1 5 _ rfl
  have x6 := X7.out.1 6 _ rfl
  go_upto_region 7 with (fail)
  generalize w6.alloc (.cells #[.int .i64 2, .int .i64 3, .int .i64 2, .int .i64 0, .int .i64 0, .int .i64 0, .string ⟨#[]⟩] 30) = w7 at *
  generalize hx6' : w6.heap.size = y at *
  have hD := doneP_any g F6 2 3 2 [b1, b2] (some ⟨w7.heap.size, 0, none⟩) [b1] 1 (w7.alloc (.cells b1.cells.toArray 30)) (P7.out.none_ ((Mod.refl _ w7).alloc _)) (Sl.of_own (own_new w7 b1.cells.toArray 30 7 1 rfl (by decide))) (fun _ q e hF => by have h2 : w7.heap.size = q := Option.some.inj e; have := hb6 q hF; have := Y7.out.2.2; omega) (by decide)
  rw [bfilt] at hD
  have HD := Lib.hid hD
  have M8 := Lib.hid ((Mod.refl (fun _ => False) w7).alloc (.cells b1.cells.toArray 30))
  clear hD
  go_wp2_with fail
  refine HD.out.mono ?_
  rintro e w8 ⟨rfl, p8, m8⟩
  have P8 := Lib.hid p8
  have X8 := Lib.hid ((X7.out.mod M8.out (by simp)).mod m8 (fun e => (hF6.out _ e).2 rfl))
  have Y8 := Lib.hid ((Y7.out.mod M8.out (by simp)).mod m8 (fun e => by have := hb6 _ e; omega))
  have B8 := Lib.hid (Mod.below (Mod.below B7.out M8.out (by simp)) m8 (fun k hk => (hF6.out k hk).1))
  clear p8 m8 x0 x1 x2 x3 x4' x5 x6 HD
  go_wp2_with fail
  refine (listP_any g F6 2 3 2 [b2] w8 P8.out (by decide)).mono ?_
  rintro e w9 ⟨A9, c9, rfl, o9, m9, r9⟩
  obtain ⟨ga, oa, hA9, hga, l0, l1, l2, l3, l4, l5, l6⟩ := (Sl.of_own o9).ent (l := [b2]) (k := 0) (by simp)
  have P9 := Lib.hid (P8.out.none_ m9)
  have HL := Lib.hid (lenP_any g F6 2 3 2 [b2] w9 P9.out)
  have X9 := X8.out.mod m9 (by simp)
  have Y9 := Y8.out.mod m9 (by simp)
  have x1 : w9.cell? ⟨x, 1, none⟩ = some (.int .i64 3) := X9.1 1 _ rfl
  have x2 : w9.cell? ⟨x, 2, none⟩ = some (.int .i64 1) := X9.1 2 _ rfl
  have y2 : w9.cell? ⟨y, 2, none⟩ = some (.int .i64 2) := Y9.1 2 _ rfl
  have l2' : w9.cell? ⟨ga, oa + 2, none⟩ = some (.int .i64 2) := by simpa [b2] using l2
  have B9 := Lib.hid (Mod.below B8.out m9 (by simp))
  clear X9 Y9 o9 m9 r9 l0 l1 l2 l3 l4 l5 l6
  rw [hA9]
  clear hA9
  go_wp2_with fail
  refine HL.out.mono ?_
  rintro e w10 ⟨rfl, rfl⟩
  go_wp2_with fail
  go_ret
  exact ⟨rfl, B9.out⟩
end Go.Proofs.Ytbladkopbkkamaa
