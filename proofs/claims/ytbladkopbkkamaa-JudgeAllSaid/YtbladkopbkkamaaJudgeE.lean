/- What the laws of judge begin with. -/
import Derived.Test.YtbladkopbkkamaaJudgeD
namespace Go.Proofs.Ytbladkopbkkamaa
open Go.RowKit
attribute [local go_sem ↓] Go.wp_at_zero Go.wp_at_succ
set_option linter.unusedVariables false
set_option linter.unusedSimpArgs false

def e0 : En := ⟨1, 1, 1, 1, 1, 0, ⟨#[]⟩⟩
def f0 : En := ⟨1, 1, 2, 1, 1, 0, ⟨#[]⟩⟩
def t1 : To := ⟨1, e0⟩
def t2 : To := ⟨2, f0⟩
theorem eqE_self (e : En) : eqE e e = true := by simp [eqE, same]
theorem same_self (e : En) : same e e = true := by simp [same]
theorem same_ef : same e0 f0 = false := by rfl
theorem same_fe : same f0 e0 = false := by rfl
theorem eqE_ef : eqE e0 f0 = false := by simp [eqE, same_ef]
theorem eqE_fe : eqE f0 e0 = false := by simp [eqE, same_fe]

/-- behind the two lists -/
def Beg (w : World) (s3 s4 : Value) (wx : World) : Prop :=
  ∃ A B, s3 = .slice A 1 1 ∧ s4 = .slice B 2 2 ∧ Own wx 8 A 1 1 (tcells [t1]) ∧ Own wx 8 B 2 2 (tcells [t1, t2]) ∧ Cells wx w.heap.size e0.cells ∧ Cells wx (w.heap.size + 1) f0.cells ∧ Mod (fun _ => False) w wx ∧ blk A ≠ blk B


theorem own_new (w : World) (cs : Array Value) (t : TypeId) (C n : Nat) (hn : cs.size = n * C) (hm : n ≤ maxLen) : Own (w.alloc (.cells cs t)) C (some ⟨w.heap.size, 0, none⟩) n n cs.toList := by
  refine ⟨by simpa using hn, Nat.le_refl _, hm, .inr ⟨_, 0, rfl, by simp, fun j hj => ?_, fun j u hu => ?_⟩⟩
  · rw [World.cell?_alloc_at _ _ _ _ rfl, World.frozen?_alloc_at _ _ _ _ rfl]
    simp [show j < cs.size by omega]
  · rw [World.cell?_alloc_at _ _ _ _ rfl, Nat.zero_add]
    simpa using hu
theorem own_new1 (w : World) (o : Obj) (cs : Array Value) (t : TypeId) (C n : Nat) (hn : cs.size = n * C) (hm : n ≤ maxLen) : Own ((w.alloc o).alloc (.cells cs t)) C (some ⟨w.heap.size + 1, 0, none⟩) n n cs.toList := by
  have := own_new (w.alloc o) cs t C n hn hm
  rwa [show (w.alloc o).heap.size = w.heap.size + 1 by simp] at this
theorem own_new2 (w : World) (o q : Obj) (cs : Array Value) (t : TypeId) (C n : Nat) (hn : cs.size = n * C) (hm : n ≤ maxLen) : Own (((w.alloc o).alloc q).alloc (.cells cs t)) C (some ⟨w.heap.size + 1 + 1, 0, none⟩) n n cs.toList := by
  have := own_new1 (w.alloc o) q cs t C n hn hm
  rwa [show (w.alloc o).heap.size = w.heap.size + 1 by simp] at this
theorem own_new3 (w : World) (o q r : Obj) (cs : Array Value) (t : TypeId) (C n : Nat) (hn : cs.size = n * C) (hm : n ≤ maxLen) : Own ((((w.alloc o).alloc q).alloc r).alloc (.cells cs t)) C (some ⟨w.heap.size + 1 + 1 + 1, 0, none⟩) n n cs.toList := by
  have := own_new2 (w.alloc o) q r cs t C n hn hm
  rwa [show (w.alloc o).heap.size = w.heap.size + 1 by simp] at this
theorem cells_new1 (w : World) (o : Obj) (cs : Array Value) (t : TypeId) : Cells ((w.alloc o).alloc (.cells cs t)) (w.heap.size + 1) cs.toList := by
  have := Cells.new (w.alloc o) cs t
  rwa [show (w.alloc o).heap.size = w.heap.size + 1 by simp] at this

set_option maxHeartbeats 6400000 in
theorem begun_any (w : World) : Calls Try.prog 10 #[] w fun e w' => e = .returned (.bool true) ∧ Below w.heap.size w w' := by
  go_enter Try.func10, Try.ntmps10
  go_upto_region 4 with (fail)
  go_cut [1, 2, 3, 4] (fun s1 s2 s3 s4 wx => s1 = .pointer (some ⟨w.heap.size, 0, none⟩) ∧ s2 = .pointer (some ⟨w.heap.size + 1, 0, none⟩) ∧ Beg w s3 s4 wx)
  case first =>
    go_region
    all_goals
      go_wp2_with fail
      go_meet
      refine ⟨rfl, rfl, ?_⟩
      first
        | exact ⟨_, _, rfl, rfl, (Own.alloc (own_new2 w _ _ _ _ 8 1 rfl (by decide)) _).drew, (own_new3 w _ _ _ _ _ 8 2 rfl (by decide)).drew, (((Cells.new w _ _).alloc _).alloc _).alloc _, ((cells_new1 w _ _ _).alloc _).alloc _, ((((Mod.refl _ _).alloc _).alloc _).alloc _).alloc _ |>.drew, by simp [blk]⟩
        | exact ⟨_, _, rfl, rfl, (own_new3 w _ _ _ _ _ 8 1 rfl (by decide)).drew, (Own.alloc (own_new2 w _ _ _ _ 8 2 rfl (by decide)) _).drew, (((Cells.new w _ _).alloc _).alloc _).alloc _, ((cells_new1 w _ _ _).alloc _).alloc _, ((((Mod.refl _ _).alloc _).alloc _).alloc _).alloc _ |>.drew, by simp [blk]⟩
  case rest =>
    obtain ⟨rfl, rfl, A, B, rfl, rfl, oA, oB, cE, cF, hM, hne⟩ := hcut
    have hf2 : firm [t1, t2] = [e0, f0] := rfl
    have hf1 : firm [t1] = [e0] := rfl
    have hg2 : firm [t2] = [f0] := rfl
    have q1 : ∀ W, Mod (fun _ => False) wc W → Calls Try.prog 16 #[.slice B 2 2] W (fun e w' => ∃ X x, e = .returned (.slice X 2 x) ∧ Mod (fun _ => False) W w') := fun W hW =>
      (jfirm_any B [t1, t2] 2 W (Sl.of_own (oB.mod hW (by simp))) (by decide)).mono fun e w' ⟨X, x, h1, _, h3, _⟩ => ⟨X, x, h1, h3⟩
    have q2 : ∀ W, Mod (fun _ => False) wc W → Calls Try.prog 17 #[.slice A 1 1, .slice B 2 2] W (Only W (.bool true)) := fun W hW => by
      have h := prefix_any A [t1] 1 B [t1, t2] 2 W (Sl.of_own (oA.mod hW (by simp))) (Sl.of_own (oB.mod hW (by simp))) (by decide) (by decide)
      rwa [show prefixB (firm [t1]) (firm [t1, t2]) = true by rw [hf1, hf2]; simp [prefixB, eqAll, eqE_self]] at h
    have q3 : ∀ W, Mod (fun _ => False) wc W → Calls Try.prog 17 #[.slice B 2 2, .slice A 1 1] W (Only W (.bool true)) := fun W hW => by
      have h := prefix_any B [t1, t2] 2 A [t1] 1 W (Sl.of_own (oB.mod hW (by simp))) (Sl.of_own (oA.mod hW (by simp))) (by decide) (by decide)
      rwa [show prefixB (firm [t1, t2]) (firm [t1]) = true by rw [hf1, hf2]; simp [prefixB, eqAll, eqE_self]] at h
    obtain ⟨gb, ob, rfl, hgb⟩ := oB.form (by decide)
    have oB1 : Own wc 8 (some ⟨gb, ob + 8, none⟩) 1 1 (tcells [t2]) := by
      have h := oB.cut (k := 1) (by decide)
      rw [if_neg (by decide)] at h
      simpa [Addr.add_lit, tcells, To.cells, En.cells, t1, t2, e0, f0] using h
    have q4 : ∀ W, Mod (fun _ => False) wc W → Calls Try.prog 17 #[.slice A 1 1, .slice (some ⟨gb, ob + 8, none⟩) 1 1] W (Only W (.bool false)) := fun W hW => by
      have h := prefix_any A [t1] 1 (some ⟨gb, ob + 8, none⟩) [t2] 1 W (Sl.of_own (oA.mod hW (by simp))) (Sl.of_own (oB1.mod hW (by simp))) (by decide) (by decide)
      rwa [show prefixB (firm [t1]) (firm [t2]) = false by rw [hf1, hg2]; simp [prefixB, eqAll, eqE_ef, eqE_fe]] at h
    have q5 : ∀ W, Mod (fun _ => False) wc W → Calls Try.prog 18 #[.slice (some ⟨gb, ob, none⟩) 2 2] W (Only W (.bool true)) := fun W hW => by
      refine (once_any (some ⟨gb, ob, none⟩) [t1, t2] 2 W (Sl.of_own (oB.mod hW (by simp))) (by decide) (by decide)).mono ?_
      rintro e w' ⟨v, rfl, hv, hm⟩
      have : v = true := hv.2 fun i hi => by
        match i, hi with
        | 0, _ => rfl
        | 1, _ => simp [t1, t2, same_fe]
      rw [this]; exact ⟨rfl, hm⟩
    obtain ⟨ga, oa, rfl, hga⟩ := oA.form (by decide)
    obtain ⟨i0, hi0, hz0, hz1, hz2⟩ := info_parts info_to
    have HI := Lib.hid hi0
    have HZ0 := Lib.hid hz0
    have HZ1 := Lib.hid hz1
    have HZ2 := Lib.hid hz2
    clear hi0 hz0 hz1 hz2
    have hone := Lib.hid (show ∀ u ∈ tcells [t1], u.oneCell' = true by intro u hu; simp [tcells] at hu; exact To.one t1 u hu)
    have q6 : ∀ W W' X d, Mod (fun _ => False) wc W → Own W' 8 X (1 + 1) d (tcells [t1] ++ tcells [t1]) → Calls Try.prog 18 #[.slice X 2 d] W' (Only W' (.bool false)) := fun W W' X d hW hO => by
      have hO' : Own W' 8 X [t1, t1].length d (tcells [t1, t1]) := by rw [← tcells_app] at hO; exact hO
      refine (once_any X [t1, t1] d W' (Sl.of_own hO') hO'.2.1 hO'.2.2.1).mono ?_
      rintro e w' ⟨v, rfl, hv, hm⟩
      have : v = false := by
        cases v
        · rfl
        · have := hv.1 rfl 1 (by decide); simp [same_self] at this
      rw [this]; exact ⟨rfl, hm⟩
    have Q6 := Lib.hid q6
    clear q6
    have Q1 := Lib.hid q1
    have Q2 := Lib.hid q2
    have Q3 := Lib.hid q3
    have Q4 := Lib.hid q4
    have Q5 := Lib.hid q5
    have OA := Lib.hid oA
    have OB := Lib.hid oB
    have CE := Lib.hid cE
    have CF := Lib.hid cF
    have HM := Lib.hid hM
    clear q1 q2 q3 q4 q5 oA oB cE cF hM oB1 hf2 hf1 hg2 hne
    go_wp2_with fail
    refine (Q1.out _ (Mod.refl _ _)).mono ?_
    rintro e w1 ⟨X, x, rfl, m1⟩
    have M1 := Lib.hid m1
    clear m1
    go_wp2_with fail
    refine (Q2.out _ M1.out).mono ?_
    rintro e w2 ⟨rfl, m2⟩
    have M2 := Lib.hid (M1.out.trans m2 (by simp))
    clear m2 M1
    go_wp2_with fail
    refine (Q3.out _ M2.out).mono ?_
    rintro e w3 ⟨rfl, m3⟩
    have M3 := Lib.hid (M2.out.trans m3 (by simp))
    clear m3 M2
    go_wp2_with fail
    refine (Q4.out _ M3.out).mono ?_
    rintro e w4 ⟨rfl, m4⟩
    have M4 := Lib.hid (M3.out.trans m4 (by simp))
    clear m4 M3
    go_wp2_with fail
    refine (Q5.out _ M4.out).mono ?_
    rintro e w5 ⟨rfl, m5⟩
    have M5 := Lib.hid (M4.out.trans m5 (by simp))
    clear m5 M4
    go_wp2_with (at_builtin; refine wpList_append_Grow_g _ (by rfl) _ _ _ rfl 32 i0 _ 8 72 Try.underlying22 HI.out HZ0.out HZ1.out HZ2.out rfl (by decide) _ 1 1 _ rfl (OA.out.mod M5.out (by simp)) ⟨ga, oa, none⟩ 1 1 (tcells [t1]) rfl rfl (fun j u hu => by have h := (OA.out.mod M5.out (by simp)).at_ hu; obtain ⟨g1, o1, e1, _, h1⟩ := h; injection e1 with e1; injection e1 with e2 e3; subst e2 e3; rw [Go.WideShapes.add_plain]; exact h1) hone.out (by decide) (by decide) (by unfold maxLen; omega) (by omega) ?_; intro B2 d2 w6 ho2 hg2 hb2)
    refine (Q6.out _ _ _ _ M5.out ho2).mono ?_
    rintro e w7 ⟨rfl, m7⟩
    have M7 := Lib.hid ((M5.out.grown hg2 (by simp)).trans m7 (by simp))
    clear ho2 hg2 hb2 m7 M5
    have q7 : ∀ W X d, Mod (fun _ => False) wc W → Sl W 7 X 2 (ecells [f0, e0]) → Calls Try.prog 19 #[.slice (some ⟨ga, oa, none⟩) 1 1, .slice X 2 d] W (Only W (.bool true)) := fun W X d hW hX => by
      have h := cast_any (some ⟨ga, oa, none⟩) [t1] 1 X [f0, e0] d W (Sl.of_own (OA.out.mod hW (by simp))) hX
      rwa [show castAll [t1] [f0, e0] = true by simp [castAll, castE, t1, same_self]] at h
    have q8 : ∀ W X d, Mod (fun _ => False) wc W → Sl W 7 X 1 (ecells [e0]) → Calls Try.prog 19 #[.slice (some ⟨gb, ob, none⟩) 2 2, .slice X 1 d] W (Only W (.bool false)) := fun W X d hW hX => by
      have h := cast_any (some ⟨gb, ob, none⟩) [t1, t2] 2 X [e0] d W (Sl.of_own (OB.out.mod hW (by simp))) hX
      rwa [show castAll [t1, t2] [e0] = false by simp [castAll, castE, t1, t2, same_fe]] at h
    have q9 : ∀ W X Y, Own W 7 X 1 1 (ecells [e0]) → Own W 7 Y 1 1 (ecells [f0]) → Calls Try.prog 20 #[.slice X 1 1, .int .i64 1, .slice Y 1 1, .int .i64 0] W (Only W (.bool true)) := fun W X Y hX hY =>
      agree_any X [e0] 1 1 Y [f0] 1 0 W (Sl.of_own hX) (Sl.of_own hY) (by decide) (by decide) (by decide) (by decide)
    have q10 : ∀ W X Y, Own W 7 X 1 1 (ecells [e0]) → Own W 7 Y 1 1 (ecells [f0]) → Calls Try.prog 20 #[.slice X 1 1, .int .i64 1, .slice Y 1 1, .int .i64 5] W (Only W (.bool false)) := fun W X Y hX hY => by
      have h := agree_any X [e0] 1 1 Y [f0] 1 5 W (Sl.of_own hX) (Sl.of_own hY) (by decide) (by decide) (by decide) (by decide)
      rwa [show eqAll (List.take (both 1 5 [e0].length [f0].length) [e0]) (List.take (both 1 5 [e0].length [f0].length) [f0]) = false by simp [both, eqAll, eqE_ef]] at h
    have Q7 := Lib.hid q7
    have Q8 := Lib.hid q8
    have Q9 := Lib.hid q9
    have Q10 := Lib.hid q10
    clear q7 q8 q9 q10
    have ce : ∀ W, Mod (fun _ => False) wc W → (W.cell? ⟨w.heap.size, 0, none⟩ = some (.int .i64 1) ∧ W.cell? ⟨w.heap.size, 1, none⟩ = some (.int .i64 1) ∧ W.cell? ⟨w.heap.size, 2, none⟩ = some (.int .i64 1) ∧ W.cell? ⟨w.heap.size, 3, none⟩ = some (.int .i64 1) ∧ W.cell? ⟨w.heap.size, 4, none⟩ = some (.int .i64 1) ∧ W.cell? ⟨w.heap.size, 5, none⟩ = some (.int .i64 0) ∧ W.cell? ⟨w.heap.size, 6, none⟩ = some (.string ⟨#[]⟩)) ∧
        (W.cell? ⟨w.heap.size + 1, 0, none⟩ = some (.int .i64 1) ∧ W.cell? ⟨w.heap.size + 1, 1, none⟩ = some (.int .i64 1) ∧ W.cell? ⟨w.heap.size + 1, 2, none⟩ = some (.int .i64 2) ∧ W.cell? ⟨w.heap.size + 1, 3, none⟩ = some (.int .i64 1) ∧ W.cell? ⟨w.heap.size + 1, 4, none⟩ = some (.int .i64 1) ∧ W.cell? ⟨w.heap.size + 1, 5, none⟩ = some (.int .i64 0) ∧ W.cell? ⟨w.heap.size + 1, 6, none⟩ = some (.string ⟨#[]⟩)) ∧ w.heap.size + 1 < W.heap.size := fun W hW => by
      have h1 := CE.out.mod hW (by simp)
      have h2 := CF.out.mod hW (by simp)
      exact ⟨⟨h1.1 0 _ rfl, h1.1 1 _ rfl, h1.1 2 _ rfl, h1.1 3 _ rfl, h1.1 4 _ rfl, h1.1 5 _ rfl, h1.1 6 _ rfl⟩, ⟨h2.1 0 _ rfl, h2.1 1 _ rfl, h2.1 2 _ rfl, h2.1 3 _ rfl, h2.1 4 _ rfl, h2.1 5 _ rfl, h2.1 6 _ rfl⟩, h2.2.2⟩
    have CC := Lib.hid ce
    clear ce
    obtain ⟨⟨a0, a1, a2, a3, a4, a5, a6⟩, ⟨b0, b1, b2, b3, b4, b5, b6⟩, hs7⟩ := CC.out w7 M7.out
    go_wp2_with fail
    refine (Q7.out _ _ _ (M7.out.alloc _) (by exact Sl.of_own (own_new w7 _ _ 7 2 rfl (by decide)))).mono ?_
    rintro e w8 ⟨rfl, m8⟩
    have M8 := Lib.hid ((M7.out.alloc _).trans m8 (by simp))
    clear a0 a1 a2 a3 a4 a5 a6 b0 b1 b2 b3 b4 b5 b6 hs7 m8 M7
    obtain ⟨⟨a0, a1, a2, a3, a4, a5, a6⟩, ⟨b0, b1, b2, b3, b4, b5, b6⟩, hs7⟩ := CC.out w8 M8.out
    go_wp2_with fail
    refine (Q8.out _ _ _ (M8.out.alloc _) (by exact Sl.of_own (own_new w8 _ _ 7 1 rfl (by decide)))).mono ?_
    rintro e w9 ⟨rfl, m9⟩
    have M9 := Lib.hid ((M8.out.alloc _).trans m9 (by simp))
    clear a0 a1 a2 a3 a4 a5 a6 b0 b1 b2 b3 b4 b5 b6 hs7 m9 M8
    obtain ⟨⟨a0, a1, a2, a3, a4, a5, a6⟩, ⟨b0, b1, b2, b3, b4, b5, b6⟩, hs7⟩ := CC.out w9 M9.out
    go_wp2_with fail
    refine (Q9.out _ _ _ (by exact (own_new w9 _ _ 7 1 rfl (by decide)).alloc _) (by exact own_new1 w9 _ _ _ 7 1 rfl (by decide))).mono ?_
    rintro e w10 ⟨rfl, m10⟩
    have M10 := Lib.hid (((M9.out.alloc _).alloc _).trans m10 (by simp))
    clear a0 a1 a2 a3 a4 a5 a6 b0 b1 b2 b3 b4 b5 b6 hs7 m10 M9
    obtain ⟨⟨a0, a1, a2, a3, a4, a5, a6⟩, ⟨b0, b1, b2, b3, b4, b5, b6⟩, hs7⟩ := CC.out w10 M10.out
    go_wp2_with fail
    refine (Q10.out _ _ _ (by exact (own_new w10 _ _ 7 1 rfl (by decide)).alloc _) (by exact own_new1 w10 _ _ _ 7 1 rfl (by decide))).mono ?_
    rintro e w11 ⟨rfl, m11⟩
    have M11 := Lib.hid (((M10.out.alloc _).alloc _).trans m11 (by simp))
    clear a0 a1 a2 a3 a4 a5 a6 b0 b1 b2 b3 b4 b5 b6 hs7 m11 M10
    go_wp2_with fail
    go_ret
    exact ⟨rfl, Mod.below (Below.refl _ w) (HM.out.trans M11.out (by simp)) (by simp)⟩
end Go.Proofs.Ytbladkopbkkamaa
