/- Proved: curfewlaw22.ProofMany answers true for every two numbers. No condition. -/
import Derived.Test.YtlddijiljkmbmaaProof
namespace Go.Proofs.Ytlddijiljkmbmaa.proofMany
open Go.ChangeShapes Go.WideShapes Go.ChangeAt Go.RowKit
set_option linter.unusedVariables false
set_option linter.unusedSimpArgs false

/-- the questions that are kept behind k -/
def qs (k : Nat) : List (Int × Int) := ((List.range k).drop (k - 64)).map fun j : Nat => ((j : Int) + 1, (j : Int) + 1)
def st (k : Nat) : Pf := ⟨k, qs k, false, 0, 0, 0⟩
theorem qs_len (k : Nat) : (qs k).length = k - (k - 64) := by simp [qs]
theorem st_ask (k : Nat) : (st k).ask ((k : Int) + 1) = st (k + 1) := by
  have hq : (qs k ++ [((k : Int) + 1, (k : Int) + 1)]).drop ((qs k).length + 1 - 64) = qs (k + 1) := by
    rw [qs_len]
    unfold qs
    have e : ((List.range k).drop (k - 64)).map (fun j : Nat => ((j : Int) + 1, (j : Int) + 1)) ++ [((k : Int) + 1, (k : Int) + 1)] = ((List.range (k + 1)).drop (k - 64)).map fun j : Nat => ((j : Int) + 1, (j : Int) + 1) := by
      rw [List.range_succ, List.drop_append_of_le_length (by simp), List.map_append]
      rfl
    rw [e, ← List.map_drop, List.drop_drop]
    rw [show k - 64 + (k - (k - 64) + 1 - 64) = k + 1 - 64 by omega]
  unfold Pf.ask st
  simp only [hq]
  simp
theorem qs_mem (n : Nat) (x : Int × Int) : x ∈ qs n ↔ ∃ j : Nat, n - 64 ≤ j ∧ j < n ∧ x = ((j : Int) + 1, (j : Int) + 1) := by
  unfold qs
  rw [List.mem_map]
  constructor
  · rintro ⟨j, hj, rfl⟩
    obtain ⟨i, hi, rfl⟩ := List.getElem_of_mem hj
    simp at hi
    exact ⟨n - 64 + i, by omega, by omega, by simp⟩
  · rintro ⟨j, h1, h2, rfl⟩
    refine ⟨j, ?_, rfl⟩
    rw [List.mem_iff_getElem]
    exact ⟨j - (n - 64), by simp; omega, by simp; omega⟩
theorem get_in (n : Nat) (x : Int) (h1 : (n : Int) - 64 < x) (h0 : 1 ≤ x) (h2 : x ≤ n) : (st n).get x 0 = (⟨n, qs n, true, x, x, 0⟩, true) := by
  have hm : ((x - 1).toNat : Int) + 1 = x := by omega
  have hmem : (x, x) ∈ qs n := (qs_mem n _).2 ⟨(x - 1).toNat, by omega, by omega, by rw [hm]⟩
  have hf : (st n).l.find? (fun q => q.1 == x) = some (x, x) := by
    cases hc : (st n).l.find? (fun q => q.1 == x) with
    | none => rw [List.find?_eq_none] at hc; exact absurd (beq_self_eq_true x) (hc _ hmem)
    | some y =>
      have e1 := List.find?_some hc
      obtain ⟨j, _, _, rfl⟩ := (qs_mem n y).1 (List.mem_of_find?_eq_some hc)
      have : (j : Int) + 1 = x := by simpa using e1
      rw [this]
  unfold Pf.get
  rw [if_neg (by simp [st]), hf]
  rfl
theorem get_out (n : Nat) (x : Int) (h : x ≤ (n : Int) - 64 ∨ (n : Int) < x) : (st n).get x 0 = (st n, false) := by
  have hf : (st n).l.find? (fun q => q.1 == x) = none := by
    rw [List.find?_eq_none]
    intro y hy
    obtain ⟨j, _, _, rfl⟩ := (qs_mem n y).1 hy
    simp; omega
  unfold Pf.get
  rw [if_neg (by simp [st]), hf]

/-- what stands at the loop's head -/
def Rel (W : World) (g : Nat) (n : Nat) (i : Value) (wr : World) : Prop :=
  ∃ (k : Nat) (F : Nat → Prop), k ≤ n ∧ i = .int .i64 ((k : Int) + 1) ∧ IsPf wr g F (st k) ∧ (∀ q, F q → W.heap.size ≤ q) ∧ Below W.heap.size W wr

set_option maxHeartbeats 1600000 in
theorem in_range (n : Nat) (x : Int) (h0 : 1 ≤ n) (h1 : n ≤ 150) (x0 : 1 ≤ x) (x1 : x ≤ 160) (w : World) :
    Calls Try.prog 3 #[.int .i64 (n : Int), .int .i64 x] w fun e w' => e = .returned (.bool true) ∧ Below w.heap.size w w' := by
  have n1 : (1 : Int) ≤ (n : Int) := by omega
  have n2 : (n : Int) ≤ 150 := by omega
  go_enter Try.func3, Try.ntmps3
  go_wp2_with fail
  refine (begun_any _).mono ?_
  rintro e w0 ⟨rfl, b0⟩
  have B0 := Lib.hid b0
  clear b0
  go_wp2_with fail
  refine (new_any 0 _).mono ?_
  rintro e w1 ⟨rfl, p1, m1⟩
  have B1 := Lib.hid (Mod.below B0.out m1 (by simp))
  have P1 := Lib.hid (show IsPf w1 w0.heap.size (fun k => k = w0.heap.size) (st 0) from p1)
  have S0 := Lib.hid B0.out.size
  clear p1 m1 B0
  go_wp2_with fail
  go_loopw [7] (fun i wr => Rel w w0.heap.size n i wr) (fun i _ => n + 1 - (intOf i).toNat)
  case atStart => exact ⟨0, _, by omega, rfl, P1.out, by rintro q rfl; exact S0.out, B1.out⟩
  case round =>
    obtain ⟨k, F, hk, rfl, hP, hF, hB⟩ := hrel
    clear P1 B1
    have HP := Lib.hid hP
    have HB := Lib.hid hB
    have HF := Lib.hid hF
    clear hP hB hF
    by_cases hlt : k < n
    · go_wp2_with fail
      refine (ask_eq _ _ _ _ ((k : Int) + 1) _ HP.out (by rfl) (by show (0 : Int) ≤ (k : Int); omega) (by show (k : Int) ≤ _; omega)).mono ?_
      rintro e w2 ⟨rfl, F2, p2, m2, n2⟩
      rw [st_ask] at p2
      have P2 := Lib.hid p2
      have M2 := Lib.hid m2
      have N2 := Lib.hid n2
      clear p2 m2 n2
      go_wp2_with fail
      go_roundw
      case rel =>
        refine ⟨k + 1, F2, by omega, by go_num, P2.out, fun q hq => ?_, Mod.below HB.out M2.out HF.out⟩
        rcases N2.out q hq with h | h
        · exact HF.out q h
        · exact Nat.le_trans HB.out.size h
      case measure => simp [intOf]; omega
    · have hn : k = n := by omega
      subst hn
      rcases (show ((k : Int) - 64 < x ∧ x ≤ k) ∨ ((k : Int) < x) ∨ (x ≤ (k : Int) - 64 ∧ x ≤ k) by omega) with ⟨hx1, hx2⟩ | hx | ⟨hx, hx2⟩
      · go_wp2_with fail
        refine (get_eq _ _ _ _ 0 ⟨k, qs k, true, x, x, 0⟩ true _ HP.out (get_in k x hx1 x0 hx2)).mono ?_
        rintro e w2 ⟨rfl, p2, m2⟩
        have P2 := Lib.hid p2
        have M2 := Lib.hid m2
        clear p2 m2
        go_wp2_with fail
        refine (good_eq _ _ _ _ 0 true _ P2.out (by unfold Pf.left; rw [if_neg (by simp)]; simp) (by omega) (by omega) (by show 0 ≤ x; omega) (by show x ≤ _; omega)).mono ?_
        rintro e w' ⟨rfl, rfl⟩
        go_wp2_with fail
        go_ret
        exact ⟨rfl, Mod.below HB.out M2.out HF.out⟩
      · go_wp2_with fail
        refine (get_eq _ _ _ _ 0 (st k) false _ HP.out (get_out k x (by omega))).mono ?_
        rintro e w2 ⟨rfl, p2, m2⟩
        have P2 := Lib.hid p2
        have M2 := Lib.hid m2
        clear p2 m2
        go_wp2_with fail
        refine (good_eq _ _ _ _ 0 false _ P2.out (by rfl) (by omega) (by omega) (by show (0 : Int) ≤ 0; omega) (by show (0 : Int) ≤ _; omega)).mono ?_
        rintro e w' ⟨rfl, rfl⟩
        go_wp2_with fail
        go_ret
        exact ⟨rfl, Mod.below HB.out M2.out HF.out⟩
      · have hd : decide ((k : Int) - 64 < x) = false := by simp; omega
        go_wp2_with fail
        refine (get_eq _ _ _ _ 0 (st k) false _ HP.out (get_out k x (by omega))).mono ?_
        rintro e w2 ⟨rfl, p2, m2⟩
        have P2 := Lib.hid p2
        have M2 := Lib.hid m2
        clear p2 m2
        go_wp2_with fail
        refine (good_eq _ _ _ _ 0 false _ P2.out (by rfl) (by omega) (by omega) (by show (0 : Int) ≤ 0; omega) (by show (0 : Int) ≤ _; omega)).mono ?_
        rintro e w' ⟨rfl, rfl⟩
        go_wp2_with fail
        go_ret
        exact ⟨rfl, Mod.below HB.out M2.out HF.out⟩

set_option maxHeartbeats 1600000 in
theorem walk (a0 : Int) (a1 : Int) (w : World) (w0 : (Lit.int .i64 a0).wf = true) (w1 : (Lit.int .i64 a1).wf = true) :
    Calls Try.prog 3 #[.int .i64 a0, .int .i64 a1] w fun e w' => e = .returned (.bool true) ∧ Below w.heap.size w w' := by
  clear w0 w1
  rcases (show (1 ≤ a0 ∧ a0 ≤ 150 ∧ 1 ≤ a1 ∧ a1 ≤ 160) ∨ a0 < 1 ∨ (1 ≤ a0 ∧ 150 < a0) ∨ (1 ≤ a0 ∧ a0 ≤ 150 ∧ a1 < 1) ∨ (1 ≤ a0 ∧ a0 ≤ 150 ∧ 1 ≤ a1 ∧ 160 < a1) by omega) with ⟨h1, h2, h3, h4⟩ | h | ⟨h1, h2⟩ | ⟨h1, h2, h3⟩ | ⟨h1, h2, h3, h4⟩
  · obtain ⟨n, rfl⟩ := Int.eq_ofNat_of_zero_le (show 0 ≤ a0 by omega)
    exact in_range n a1 (by omega) (by omega) h3 h4 w
  all_goals
    go_enter Try.func3, Try.ntmps3
    go_wp2_with (go_at_call 9; refine (begun_any _).mono ?_; rintro e wb ⟨rfl, hb1⟩)
    go_ret
    exact ⟨rfl, hb1⟩
/-! ### the row's step -/
theorem own : ownKnob Try.prog.godebug = none := by kernel_rfl
theorem laidOut : laidOutB Try.prog = true := by kernel_rfl
set_option maxRecDepth 100000 in
theorem lifted (os : Os) (started : os.Started) (H : Type) (enc : TypeId × Value → H) :
    ReturnsInHanded {} Try.checked os 3 .any (Rows.proofManySpec.pre6 enc Try.prog Try.f3 Rows.proofManyRow.domain false) (Rows.proofManySpec.post enc Try.prog Try.f3 false true false false) := by
  refine returnsInHanded_of_change (C := Try.checked) own started (by kernel_rfl) Try.func3
    (ChangeSpec.witness6 (enc := enc) (C := Try.checked) false ⟨#[], #[.int .i64 0, .int .i64 0], []⟩ 8 (by kernel_rfl) (by kernel_rfl) (by kernel_rfl) (by kernel_rfl)) ?_
  intro W base args ds gs before hval0 hW hcnd _
  have hval : ∀ (j : Nat) t v, Try.f3.params[j]? = some t → args[j]? = some v → Value.okWide Try.prog W .any base t v := hval0
  have hW' := hW
  obtain ⟨p, q, hA0, hV, rfl, hfz, hnd⟩ := hW
  have hA : DataW.TrodAll enc Try.prog W 0 (fun _ => true) true Try.f3.params.toList args.toList ds p := hA0
  rw [Try.params3] at hA hval
  obtain ⟨v0, vs0, d0, ds0, p0, q0, hargs, rfl, rfl, h0, r0⟩ := trodAll_cons hA
  obtain ⟨v1, vs1, d1, ds1, p1, q1, rfl, rfl, rfl, h1, r1⟩ := trodAll_cons r0
  obtain ⟨rfl, rfl, rfl⟩ := trodAll_nil r1
  obtain rfl : args = #[v0, v1] := by cases args; simp_all
  obtain ⟨rfl, rfl⟩ := trodVars_none hV
  have k0 := h0
  have lt0 : ∀ x ∈ p0, x.block < W.heap.size := by obtain ⟨m, hm⟩ := k0; exact DataW.trod_lt m _ _ _ hm
  have k1 := h1
  have lt1 : ∀ x ∈ p1, x.block < W.heap.size := by obtain ⟨m, hm⟩ := k1; exact DataW.trod_lt m _ _ _ hm
  obtain ⟨a0, rfl, rfl, rfl, w0⟩ := open_int Try.underlying3 (hval 0 3 v0 rfl rfl) h0
  obtain ⟨a1, rfl, rfl, rfl, w1⟩ := open_int Try.underlying2 (hval 1 2 v1 rfl rfl) h1
  clear hA0 hval0
  refine (walk a0 a1 W w0 w1).mono fun e W' ⟨he, bel⟩ => ?_
  subst he
  exact ⟨_, rfl, _, _, _, [], _, [], hW', trodAll_mk1 (shut_bool Try.underlying4 _), (trodAll_cons_mk (Below.trod laidOut (by kernel_rfl) (of_decide_eq_true (by kernel_rfl)) k0 bel lt0) (trodAll_cons_mk (Below.trod laidOut (by kernel_rfl) (of_decide_eq_true (by kernel_rfl)) k1 bel lt1) trodAll_mk0)), rfl, bel.frame _, fun h => by cases h⟩

theorem over : Rows.proofManyRow.holds Try.pinned (OpenSpec.ofChange Rows.proofManySpec) :=
  OpenClaim.holds_of_wide 3 Try.f3 rfl rfl rfl rfl rfl rfl rfl ⟨rfl, rfl, rfl, rfl, rfl⟩ rfl rfl rfl rfl rfl (by kernel_rfl) Try.func3 (by kernel_rfl)
    (of_decide_eq_true (by kernel_rfl)) (by unfold Func.isWrapper; first | (rw [if_pos (by decide +kernel)]; kernel_rfl) | (rw [if_neg (by decide +kernel)]; exact ⟨rfl, rfl⟩))
    (fun os started H enc _ => lifted os started H enc)

theorem proved : Rows.ProofManySaid := over
#print axioms proved
end Go.Proofs.Ytlddijiljkmbmaa.proofMany
