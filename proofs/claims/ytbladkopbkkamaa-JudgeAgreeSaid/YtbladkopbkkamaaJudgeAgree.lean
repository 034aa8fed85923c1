/- Proved: curfewlaw28.JudgeAgree answers true for every two lists of entries and every two numbers, and leaves the lists as they were. No condition. -/
import Derived.Test.YtbladkopbkkamaaJudgeE
import Derived.Test.YtbladkopbkkamaaRows2
namespace Go.Proofs.Ytbladkopbkkamaa.judgeAgree
open Go.ChangeShapes Go.WideShapes Go.ChangeAt Go.RowKit
set_option linter.unusedVariables false
set_option linter.unusedSimpArgs false
attribute [local go_sem ↓] Go.wp_at_zero Go.wp_at_succ

theorem same_comm (a b : En) : same a b = same b a := by
  unfold same; rw [Bool.beq_comm (a := a.fr), Bool.beq_comm (a := a.bo), Bool.beq_comm (a := a.se)]
theorem eqE_comm (a b : En) : eqE a b = eqE b a := by
  unfold eqE; rw [same_comm, Bool.beq_comm (a := a.od), Bool.beq_comm (a := a.lv), Bool.beq_comm (a := a.st), Bool.beq_comm (a := a.da.toList)]
theorem eqAll_comm : ∀ l m : List En, eqAll l m = eqAll m l
  | [], [] => rfl
  | [], _ :: _ => rfl
  | _ :: _, [] => rfl
  | a :: l, b :: m => by rw [eqAll, eqAll, eqE_comm, eqAll_comm l m]
theorem eqAll_self : ∀ l : List En, eqAll l l = true
  | [] => rfl
  | a :: l => by rw [eqAll, eqE_self, eqAll_self l]; rfl

set_option maxHeartbeats 3200000 in
theorem walk (a0 : Option Addr) (len0 cap0 : Nat) (a1 : Option Addr) (len1 cap1 : Nat) (a2 : Int) (a3 : Int) (w : World) (w0 : EntryRow w a0 len0 cap0) (w1 : EntryRow w a1 len1 cap1) (w2 : (Lit.int .i64 a2).wf = true) (w3 : (Lit.int .i64 a3).wf = true) :
    Calls Try.prog 4 #[.slice a0 len0 cap0, .slice a1 len1 cap1, .int .i64 a2, .int .i64 a3] w fun e w' => e = .returned (.bool true) ∧ Below w.heap.size w w' := by
  clear w2 w3
  obtain ⟨l, rfl, hl, hdl⟩ := w0
  obtain ⟨m, rfl, hm, hdm⟩ := w1
  have HL := Lib.hid hl
  have HM := Lib.hid hm
  clear hl hm
  go_enter Try.func4, Try.ntmps4
  go_wp2_with fail
  refine (begun_any _).mono ?_
  rintro e wb ⟨rfl, hb⟩
  have HB := Lib.hid hb
  clear hb
  go_wp2_with fail
  refine (entries_any a0 l cap0 12 wb (HL.out.below HB.out) hdl (by decide)).mono ?_
  rintro e w1 ⟨A, c, rfl, oA, mA, bA⟩
  generalize (l.take 12).map En.cut = x at *
  have M1 := Lib.hid mA
  have OA1 := Lib.hid oA
  clear oA mA bA hdl
  go_wp2_with fail
  refine (entries_any a1 m cap1 12 w1 ((HM.out.below HB.out).none_ M1.out) hdm (by decide)).mono ?_
  rintro e wc ⟨B, d, rfl, oB, mB, bB⟩
  generalize (m.take 12).map En.cut = y at *
  have M2 := Lib.hid (M1.out.trans mB (by simp))
  have OA := Lib.hid (OA1.out.mod mB (by simp))
  have OB := Lib.hid oB
  clear oB mB bB hdm OA1 M1
  have hcx := OA.out.2.1
  have hcy := OB.out.2.1
  have hdx := OA.out.2.2.1
  have hdy := OB.out.2.2.1
  unfold maxLen at hdx hdy
  go_upto_region 5 with (fail)
  go_cut [10] (fun s10 wx => s10 = .int .i64 ((both a2 a3 x.length y.length : Nat) : Int) ∧ wc = wx)
  case first =>
    go_wp2_with fail
    all_goals
      go_meet
      refine ⟨?_, rfl⟩
      show Value.int .i64 _ = Value.int .i64 _
      congr 1
      simp only [both]
      omega
  case rest =>
    obtain ⟨rfl, rfl⟩ := hcut
    have h1 : both a2 a3 x.length y.length ≤ x.length := by unfold both; omega
    have h2 : both a2 a3 x.length y.length ≤ y.length := by unfold both; omega
    have hsym : both a3 a2 y.length x.length = both a2 a3 x.length y.length := by unfold both; omega
    have g1 : ∀ W, Mod (fun _ => False) wc W → Calls Try.prog 20 #[.slice A x.length c, .int .i64 a2, .slice B y.length d, .int .i64 a3] W (Only W (.bool (eqAll (x.take (both a2 a3 x.length y.length)) (y.take (both a2 a3 x.length y.length))))) := fun W hW =>
      agree_any A x c a2 B y d a3 W (Sl.of_own (OA.out.mod hW (by simp))) (Sl.of_own (OB.out.mod hW (by simp))) OA.out.2.1 OA.out.2.2.1 OB.out.2.1 OB.out.2.2.1
    have g2 : ∀ W, Mod (fun _ => False) wc W → Calls Try.prog 20 #[.slice B y.length d, .int .i64 a3, .slice A x.length c, .int .i64 a2] W (Only W (.bool (eqAll (x.take (both a2 a3 x.length y.length)) (y.take (both a2 a3 x.length y.length))))) := fun W hW => by
      have h := agree_any B y d a3 A x c a2 W (Sl.of_own (OB.out.mod hW (by simp))) (Sl.of_own (OA.out.mod hW (by simp))) OB.out.2.1 OB.out.2.2.1 OA.out.2.1 OA.out.2.2.1
      rwa [hsym, eqAll_comm] at h
    have g3 : ∀ W, Mod (fun _ => False) wc W → Calls Try.prog 20 #[.slice A x.length c, .int .i64 a2, .slice A x.length c, .int .i64 a3] W (Only W (.bool true)) := fun W hW => by
      have h := agree_any A x c a2 A x c a3 W (Sl.of_own (OA.out.mod hW (by simp))) (Sl.of_own (OA.out.mod hW (by simp))) OA.out.2.1 OA.out.2.2.1 OA.out.2.1 OA.out.2.2.1
      rwa [eqAll_self] at h
    clear hsym
    generalize both a2 a3 x.length y.length = q at *
    have g4 : ∀ W, Mod (fun _ => False) wc W → Calls Try.prog 15 #[.slice A q c, .slice B q d] W (Only W (.bool (eqAll (x.take q) (y.take q)))) := fun W hW => by
      have e1 : (x.take q).length = q := by simp; omega
      have e2 : (y.take q).length = q := by simp; omega
      have h := eqall_ref A B (x.take q) (y.take q) c d W ((Sl.of_own (OA.out.mod hW (by simp))).takeE h1) ((Sl.of_own (OB.out.mod hW (by simp))).takeE h2)
      rwa [e1, e2] at h
    generalize eqAll (x.take q) (y.take q) = v at *
    have G1 := Lib.hid g1
    have G2 := Lib.hid g2
    have G3 := Lib.hid g3
    have G4 := Lib.hid g4
    have i0 : (0 : Int) ≤ (q : Int) := by omega
    have i1 : (q : Int) ≤ (c : Int) := by omega
    have i2 : (q : Int) ≤ (d : Int) := by omega
    have hvv : (v == v) = true := by simp
    clear g1 g2 g3 g4
    have MM := Lib.hid ((Mod.refl (fun _ => False) wc).drew)
    go_wp2_with fail
    go_region_held3 (fun _ => True) (trivial)
      (first
        | (go_at_call 15; refine (G4.out _ MM.out).mono ?_; rintro e z ⟨rfl, mz⟩; have MM := Lib.hid (MM.out.trans mz (by simp)); clear mz)
        | (go_at_call 20; (with_reducible refine (G1.out _ MM.out).mono ?_); rintro e z ⟨rfl, mz⟩; have MM := Lib.hid (MM.out.trans mz (by simp)); clear mz)
        | (go_at_call 20; (with_reducible refine (G2.out _ MM.out).mono ?_); rintro e z ⟨rfl, mz⟩; have MM := Lib.hid (MM.out.trans mz (by simp)); clear mz)
        | (go_at_call 20; (with_reducible refine (G3.out _ MM.out).mono ?_); rintro e z ⟨rfl, mz⟩; have MM := Lib.hid (MM.out.trans mz (by simp)); clear mz))
    all_goals
      go_wp2_with fail
      go_ret
      exact ⟨rfl, Mod.below (Mod.below HB.out M2.out (by simp)) MM.out (by simp)⟩
/-! ### the row's step -/
theorem own : ownKnob Try.prog.godebug = none := by kernel_rfl
theorem laidOut : laidOutB Try.prog = true := by kernel_rfl
set_option maxRecDepth 100000 in
theorem lifted (os : Os) (started : os.Started) (H : Type) (enc : TypeId × Value → H) :
    ReturnsInHanded {} Try.checked os 4 .any (Rows.judgeAgreeSpec.pre6 enc Try.prog Try.f4 Rows.judgeAgreeRow.domain false) (Rows.judgeAgreeSpec.post enc Try.prog Try.f4 false true false false) := by
  refine returnsInHanded_of_change (C := Try.checked) own started (by kernel_rfl) Try.func4
    (ChangeSpec.witness6 (enc := enc) (C := Try.checked) false ⟨#[], #[.slice none 0 0, .slice none 0 0, .int .i64 0, .int .i64 0], []⟩ 8 (by kernel_rfl) (by kernel_rfl) (by kernel_rfl) (by kernel_rfl)) ?_
  intro W base args ds gs before hval0 hW hcnd _
  have hval : ∀ (j : Nat) t v, Try.f4.params[j]? = some t → args[j]? = some v → Value.okWide Try.prog W .any base t v := hval0
  have hW' := hW
  obtain ⟨p, q, hA0, hV, rfl, hfz, hnd⟩ := hW
  have hA : DataW.TrodAll enc Try.prog W 0 (fun _ => true) true Try.f4.params.toList args.toList ds p := hA0
  rw [Try.params4] at hA hval
  obtain ⟨v0, vs0, d0, ds0, p0, q0, hargs, rfl, rfl, h0, r0⟩ := trodAll_cons hA
  obtain ⟨v1, vs1, d1, ds1, p1, q1, rfl, rfl, rfl, h1, r1⟩ := trodAll_cons r0
  obtain ⟨v2, vs2, d2, ds2, p2, q2, rfl, rfl, rfl, h2, r2⟩ := trodAll_cons r1
  obtain ⟨v3, vs3, d3, ds3, p3, q3, rfl, rfl, rfl, h3, r3⟩ := trodAll_cons r2
  obtain ⟨rfl, rfl, rfl⟩ := trodAll_nil r3
  obtain rfl : args = #[v0, v1, v2, v3] := by cases args; simp_all
  obtain ⟨rfl, rfl⟩ := trodVars_none hV
  have k0 := h0
  have lt0 : ∀ x ∈ p0, x.block < W.heap.size := by obtain ⟨m, hm⟩ := k0; exact DataW.trod_lt m _ _ _ hm
  have k1 := h1
  have lt1 : ∀ x ∈ p1, x.block < W.heap.size := by obtain ⟨m, hm⟩ := k1; exact DataW.trod_lt m _ _ _ hm
  have k2 := h2
  have lt2 : ∀ x ∈ p2, x.block < W.heap.size := by obtain ⟨m, hm⟩ := k2; exact DataW.trod_lt m _ _ _ hm
  have k3 := h3
  have lt3 : ∀ x ∈ p3, x.block < W.heap.size := by obtain ⟨m, hm⟩ := k3; exact DataW.trod_lt m _ _ _ hm
  obtain ⟨a0, len0, cap0, rfl⟩ := okWide_slice Try.underlying23 (hval 0 23 v0 rfl rfl)
  have w0 : EntryRow W a0 len0 cap0 := EntryRow.open_ h0
  obtain ⟨a1, len1, cap1, rfl⟩ := okWide_slice Try.underlying23 (hval 1 23 v1 rfl rfl)
  have w1 : EntryRow W a1 len1 cap1 := EntryRow.open_ h1
  obtain ⟨a2, rfl, rfl, rfl, w2⟩ := open_int Try.underlying3 (hval 2 3 v2 rfl rfl) h2
  obtain ⟨a3, rfl, rfl, rfl, w3⟩ := open_int Try.underlying3 (hval 3 3 v3 rfl rfl) h3
  clear hA0 hval0
  refine (walk a0 len0 cap0 a1 len1 cap1 a2 a3 W w0 w1 w2 w3).mono fun e W' ⟨he, bel⟩ => ?_
  subst he
  exact ⟨_, rfl, _, _, _, [], _, [], hW', trodAll_mk1 (shut_bool Try.underlying4 _), (trodAll_cons_mk (Below.trod laidOut (by kernel_rfl) (of_decide_eq_true (by kernel_rfl)) k0 bel lt0) (trodAll_cons_mk (Below.trod laidOut (by kernel_rfl) (of_decide_eq_true (by kernel_rfl)) k1 bel lt1) (trodAll_cons_mk (Below.trod laidOut (by kernel_rfl) (of_decide_eq_true (by kernel_rfl)) k2 bel lt2) (trodAll_cons_mk (Below.trod laidOut (by kernel_rfl) (of_decide_eq_true (by kernel_rfl)) k3 bel lt3) trodAll_mk0)))), rfl, bel.frame _, fun h => by cases h⟩

theorem over : Rows.judgeAgreeRow.holds Try.pinned (OpenSpec.ofChange Rows.judgeAgreeSpec) :=
  OpenClaim.holds_of_wide 4 Try.f4 rfl rfl rfl rfl rfl rfl rfl ⟨rfl, rfl, rfl, rfl, rfl⟩ rfl rfl rfl rfl rfl (by kernel_rfl) Try.func4 (by kernel_rfl)
    (of_decide_eq_true (by kernel_rfl)) (by unfold Func.isWrapper; first | (rw [if_pos (by decide +kernel)]; kernel_rfl) | (rw [if_neg (by decide +kernel)]; exact ⟨rfl, rfl⟩))
    (fun os started H enc _ => lifted os started H enc)

theorem proved : Rows.JudgeAgreeSaid := over
#print axioms proved
end Go.Proofs.Ytbladkopbkkamaa.judgeAgree
