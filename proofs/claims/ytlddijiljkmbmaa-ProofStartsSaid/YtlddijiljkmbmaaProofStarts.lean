/- Proved: curfewlaw22.ProofStarts answers true for every four numbers. No condition. -/
import Derived.Test.YtlddijiljkmbmaaProof
namespace Go.Proofs.Ytlddijiljkmbmaa.proofStarts
open Go.ChangeShapes Go.WideShapes Go.ChangeAt Go.RowKit
set_option linter.unusedVariables false
set_option linter.unusedSimpArgs false

/-- of one start: so many questions, all numbered behind the start -/
def Started (s : Pf) (A : Int) (k : Int) : Prop := s.num = A + k ∧ s.has = false ∧ s.bc = 0 ∧ ∀ q ∈ s.l, A < q.1 ∧ q.1 ≤ A + k
theorem Started.ask {s : Pf} {A k : Int} (h : Started s A k) (hk : 0 ≤ k) (c : Int) : Started (s.ask c) A (k + 1) := by
  obtain ⟨h1, h2, h3, h4⟩ := h
  refine ⟨by show s.num + 1 = _; omega, h2, h3, fun q hq => ?_⟩
  have hq' : q ∈ s.l ++ [(s.num + 1, c)] := List.mem_of_mem_drop hq
  rcases List.mem_append.1 hq' with h | h
  · have := h4 q h; omega
  · simp at h; subst h; simp; omega
theorem Started.get {s : Pf} {A k : Int} (h : Started s A k) {x c : Int} (hx : x ≤ A ∨ A + k < x) : s.get x c = (s, false) := by
  obtain ⟨h1, h2, h3, h4⟩ := h
  have hf : s.l.find? (fun q => q.1 == x) = none := by
    rw [List.find?_eq_none]
    intro q hq
    have := h4 q hq
    simp; omega
  unfold Pf.get
  rw [if_neg (by simp [h2]), hf]

/-- two proofs that lie apart -/
def Two (W : World) (g h : Nat) (A B : Int) (a b : Int) (wr : World) : Prop :=
  ∃ F s G t, IsPf wr g F s ∧ Started s A a ∧ IsPf wr h G t ∧ Started t B b ∧ (∀ q, F q → ¬ G q) ∧ (∀ q, F q → W.heap.size ≤ q ∧ q < wr.heap.size) ∧ (∀ q, G q → W.heap.size ≤ q ∧ q < wr.heap.size) ∧ Below W.heap.size W wr

theorem trim {w : World} {g : Nat} {F : Nat → Prop} {s : Pf} (h : IsPf w g F s) : IsPf w g (fun k => F k ∧ k < w.heap.size) s := by
  obtain ⟨A, c, h1, h2, h3, h4, h5, h6⟩ := h
  exact ⟨A, c, h1, h2, h3, h4, ⟨h5, h1.2.2⟩, fun k e => ⟨h6 k e, h2.lt e⟩⟩

theorem two_p {W wr w2 : World} {g h : Nat} {A B a b : Int} {F G F' : Nat → Prop} {s' t : Pf} (hQ : IsPf wr h G t) (hT : Started t B b) (hd : ∀ q, F q → ¬ G q) (hF : ∀ q, F q → W.heap.size ≤ q ∧ q < wr.heap.size) (hG : ∀ q, G q → W.heap.size ≤ q ∧ q < wr.heap.size) (hB : Below W.heap.size W wr)
    (hP' : IsPf w2 g F' s') (hS' : Started s' A a) (hM : Mod F wr w2) (hN : ∀ k, F' k → F k ∨ wr.heap.size ≤ k) : Two W g h A B a b w2 := by
  refine ⟨_, s', G, t, trim hP', hS', hQ.mod hM fun q hg hf => hd q hf hg, hT, fun q hf hg => ?_, fun q hf => ⟨?_, hf.2⟩, fun q hg => ⟨(hG q hg).1, Nat.lt_of_lt_of_le (hG q hg).2 hM.size⟩, Mod.below hB hM fun q hf => (hF q hf).1⟩
  · rcases hN q hf.1 with h1 | h1
    · exact hd q h1 hg
    · have := (hG q hg).2; omega
  · rcases hN q hf.1 with h1 | h1
    · exact (hF q h1).1
    · exact Nat.le_trans hB.size h1
theorem Two.swap {W wr : World} {g h : Nat} {A B a b : Int} (t : Two W g h A B a b wr) : Two W h g B A b a wr := by
  obtain ⟨F, s, G, t, h1, h2, h3, h4, h5, h6, h7, h8⟩ := t
  exact ⟨G, t, F, s, h3, h4, h1, h2, fun q hg hf => h5 q hf hg, h7, h6, h8⟩
theorem two_start {W w0 w1 w2 : World} {A B : Int} (hB : Below W.heap.size W w0) (p1 : IsPf w1 w0.heap.size (fun k => k = w0.heap.size) ⟨A, [], false, 0, 0, 0⟩) (m1 : Mod (fun _ => False) w0 w1)
    (p2 : IsPf w2 w1.heap.size (fun k => k = w1.heap.size) ⟨B, [], false, 0, 0, 0⟩) (m2 : Mod (fun _ => False) w1 w2) : Two W w0.heap.size w1.heap.size A B 0 0 w2 := by
  have h1 : w0.heap.size < w1.heap.size := by obtain ⟨_, _, h, _⟩ := p1; exact h.2.2
  have h2 : w1.heap.size < w2.heap.size := by obtain ⟨_, _, h, _⟩ := p2; exact h.2.2
  refine ⟨_, _, _, _, p1.mod m2 (by simp), ⟨by simp, rfl, rfl, by simp⟩, p2, ⟨by simp, rfl, rfl, by simp⟩, ?_, ?_, ?_, Mod.below (Mod.below hB m1 (by simp)) m2 (by simp)⟩
  · rintro q rfl; omega
  · rintro q rfl; exact ⟨hB.size, by omega⟩
  · rintro q rfl; exact ⟨Nat.le_trans hB.size (Nat.le_of_lt h1), h2⟩

/-- what stands at the first loop's head -/
def Rel (W : World) (g h : Nat) (A B : Int) (n m : Nat) (i : Value) (wr : World) : Prop :=
  ∃ k : Nat, k ≤ max n m ∧ i = .int .i64 k ∧ Two W g h A B ((min k n : Nat) : Int) ((min k m : Nat) : Int) wr

set_option maxHeartbeats 3200000 in
theorem in_range (a b : Int) (n m : Nat) (a1 : 1 ≤ a) (a2 : a ≤ 1000) (b1 : 1 ≤ b) (b2 : b ≤ 1000) (hab : (a == b) = false) (hn : n ≤ 60) (hm : m ≤ 60) (w : World) :
    Calls Try.prog 4 #[.int .i64 a, .int .i64 b, .int .i64 (n : Int), .int .i64 (m : Int)] w fun e w' => e = .returned (.bool true) ∧ Below w.heap.size w w' := by
  have hne : a ≠ b := by simpa using hab
  have HNE := Lib.hid hne
  clear hne
  have n1 : (0 : Int) ≤ (n : Int) := by omega
  have n2 : (n : Int) ≤ 60 := by omega
  have m1 : (0 : Int) ≤ (m : Int) := by omega
  have m2 : (m : Int) ≤ 60 := by omega
  go_enter Try.func4, Try.ntmps4
  go_wp2_with fail
  refine (begun_any _).mono ?_
  rintro e w0 ⟨rfl, b0⟩
  have B0 := Lib.hid b0
  clear b0
  go_wp2_with fail
  refine (new_any _ _).mono ?_
  rintro e w1 ⟨rfl, p1, m1⟩
  have P1 := Lib.hid p1
  have M1 := Lib.hid m1
  clear p1 m1
  go_wp2_with fail
  refine (new_any _ _).mono ?_
  rintro e w2 ⟨rfl, p2, m2⟩
  have T2 := Lib.hid (two_start B0.out P1.out M1.out p2 m2)
  clear p2 m2 P1 M1 B0
  go_wp2_with fail
  go_loopw [12] (fun i wr => Rel w w0.heap.size w1.heap.size (a * 1048576) (b * 1048576) n m i wr) (fun i _ => max n m - (intOf i).toNat)
  case atStart => exact ⟨0, by omega, rfl, by simpa using T2.out⟩
  case round =>
    obtain ⟨k, hk, rfl, hT⟩ := hrel
    clear T2
    obtain ⟨F, s, G, t, hP, hS, hQ, hT, hd, hF, hG, hB⟩ := hT
    have HP := Lib.hid hP
    have HS := Lib.hid hS
    have HQ := Lib.hid hQ
    have HT := Lib.hid hT
    have HD := Lib.hid hd
    have HF := Lib.hid hF
    have HG := Lib.hid hG
    have HB := Lib.hid hB
    have s0 : 0 ≤ s.num ∧ s.num ≤ 4398046511104 := by have := hS.1; omega
    have t0 : 0 ≤ t.num ∧ t.num ≤ 4398046511104 := by have := hT.1; omega
    have S0 := Lib.hid s0
    have T0 := Lib.hid t0
    clear hP hS hQ hT hd hF hG hB s0 t0
    by_cases hkn : k < n
    · have e1 := Lib.hid (show ((min k n : Nat) : Int) + 1 = ((min (k + 1) n : Nat) : Int) by omega)
      go_wp2_with fail
      refine (ask_any _ _ _ 1 _ HP.out S0.out.1 S0.out.2).mono ?_
      rintro e w3 ⟨rfl, F3, p3, m3, n3⟩
      have T3 := Lib.hid (two_p HQ.out HT.out HD.out HF.out HG.out HB.out p3 (HS.out.ask (by omega) 1) m3 n3)
      clear p3 m3 n3
      by_cases hkm : k < m
      · have e2 := Lib.hid (show ((min k m : Nat) : Int) + 1 = ((min (k + 1) m : Nat) : Int) by omega)
        obtain ⟨F, s, G, t, hP, hS, hQ, hT, hd, hF, hG, hB⟩ := T3.out
        have HP := Lib.hid hP
        have HS := Lib.hid hS
        have HQ := Lib.hid hQ
        have HT := Lib.hid hT
        have HD := Lib.hid hd
        have HF := Lib.hid hF
        have HG := Lib.hid hG
        have HB := Lib.hid hB
        have t0 : 0 ≤ t.num ∧ t.num ≤ 4398046511104 := by have := hT.1; omega
        have T0 := Lib.hid t0
        clear hP hS hQ hT hd hF hG hB t0
        go_wp2_with fail
        refine (ask_any _ _ _ 1 _ HQ.out T0.out.1 T0.out.2).mono ?_
        rintro e w4 ⟨rfl, F4, p4, m4, n4⟩
        have T4 := Lib.hid (two_p HP.out HS.out (fun q hg hf => HD.out q hf hg) HG.out HF.out HB.out p4 (HT.out.ask (by omega) 1) m4 n4).swap
        clear p4 m4 n4
        go_wp2_with fail
        go_roundw
        case rel => exact ⟨k + 1, by omega, by go_num, by have := T4.out; rw [e1.out, e2.out] at this; exact this⟩
        case measure => simp [intOf]; omega
      · have e2 := Lib.hid (show (min k m : Nat) = min (k + 1) m by omega)
        go_wp2_with fail
        go_roundw
        case rel => exact ⟨k + 1, by omega, by go_num, by have := T3.out; rw [e1.out, e2.out] at this; exact this⟩
        case measure => simp [intOf]; omega
    · have e1 := Lib.hid (show (min k n : Nat) = min (k + 1) n by omega)
      by_cases hkm : k < m
      · have e2 := Lib.hid (show ((min k m : Nat) : Int) + 1 = ((min (k + 1) m : Nat) : Int) by omega)
        go_wp2_with fail
        refine (ask_any _ _ _ 1 _ HQ.out T0.out.1 T0.out.2).mono ?_
        rintro e w4 ⟨rfl, F4, p4, m4, n4⟩
        have T4 := Lib.hid (two_p HP.out HS.out (fun q hg hf => HD.out q hf hg) HG.out HF.out HB.out p4 (HT.out.ask (by omega) 1) m4 n4).swap
        clear p4 m4 n4
        go_wp2_with fail
        go_roundw
        case rel => exact ⟨k + 1, by omega, by go_num, by have := T4.out; rw [e1.out, e2.out] at this; exact this⟩
        case measure => simp [intOf]; omega
      · clear e1
        go_wp2_with fail
        go_loopw [13] (fun i wr => ∃ j : Nat, j ≤ m ∧ i = .int .i64 ((j : Int) + 1) ∧ IsPf wr w0.heap.size F s ∧ Below w.heap.size w wr) (fun i _ => m + 1 - (intOf i).toNat)
        case atStart => exact ⟨0, by omega, rfl, HP.out, HB.out⟩
        case round =>
          obtain ⟨j, hj, rfl, hP, hB⟩ := hrel
          clear HP HB HQ HT HD HG T0
          have HP := Lib.hid hP
          have HB := Lib.hid hB
          clear hP hB
          by_cases hjm : j < m
          · have hg := Lib.hid (show s.get (b * 1048576 + ((j : Int) + 1)) 0 = (s, false) from HS.out.get (by have := HNE.out; omega))
            go_wp2_with fail
            refine (get_eq _ _ _ _ 0 s false _ HP.out hg.out).mono ?_
            rintro e w5 ⟨rfl, p5, m5⟩
            have P5 := Lib.hid p5
            have B5 := Lib.hid (Mod.below HB.out m5 fun q hq => (HF.out q hq).1)
            clear p5 m5
            go_wp2_with fail
            go_roundw
            case rel => exact ⟨j + 1, by omega, by go_num, P5.out, B5.out⟩
            case measure => simp [intOf]; omega
          · have hg := Lib.hid (show decide (0 < s.left 1 0) = false by unfold Pf.left; rw [if_pos (.inl HS.out.2.1)]; rfl)
            have hbc := Lib.hid (show 0 ≤ s.bc ∧ s.bc ≤ 4398046511104 by rw [HS.out.2.2.1]; omega)
            go_wp2_with fail
            refine (good_eq _ _ _ 1 0 false _ HP.out hg.out (by omega) (by omega) hbc.out.1 hbc.out.2).mono ?_
            rintro e w' ⟨rfl, rfl⟩
            go_wp2_with fail
            go_ret
            exact ⟨rfl, HB.out⟩

set_option maxHeartbeats 3200000 in
theorem walk (a0 : Int) (a1 : Int) (a2 : Int) (a3 : Int) (w : World) (w0 : (Lit.int .i64 a0).wf = true) (w1 : (Lit.int .i64 a1).wf = true) (w2 : (Lit.int .i64 a2).wf = true) (w3 : (Lit.int .i64 a3).wf = true) :
    Calls Try.prog 4 #[.int .i64 a0, .int .i64 a1, .int .i64 a2, .int .i64 a3] w fun e w' => e = .returned (.bool true) ∧ Below w.heap.size w w' := by
  clear w0 w1 w2 w3
  rcases (show (1 ≤ a0 ∧ a0 ≤ 1000 ∧ 1 ≤ a1 ∧ a1 ≤ 1000) ∨ a0 < 1 ∨ (1 ≤ a0 ∧ 1000 < a0) ∨ (1 ≤ a0 ∧ a0 ≤ 1000 ∧ a1 < 1) ∨ (1 ≤ a0 ∧ a0 ≤ 1000 ∧ 1 ≤ a1 ∧ 1000 < a1) by omega) with ⟨h1, h2, h3, h4⟩ | h | ⟨h1, h2⟩ | ⟨h1, h2, h3⟩ | ⟨h1, h2, h3, h4⟩
  · by_cases hab : a0 = a1
    · subst hab
      go_enter Try.func4, Try.ntmps4
      go_wp2_with (go_at_call 9; refine (begun_any _).mono ?_; rintro e wb ⟨rfl, hb1⟩)
      go_ret
      exact ⟨rfl, hb1⟩
    · have hab' : (a0 == a1) = false := by simpa using hab
      rcases (show (0 ≤ a2 ∧ a2 ≤ 60 ∧ 0 ≤ a3 ∧ a3 ≤ 60) ∨ a2 < 0 ∨ (0 ≤ a2 ∧ 60 < a2) ∨ (0 ≤ a2 ∧ a2 ≤ 60 ∧ a3 < 0) ∨ (0 ≤ a2 ∧ a2 ≤ 60 ∧ 0 ≤ a3 ∧ 60 < a3) by omega) with ⟨g1, g2, g3, g4⟩ | g | ⟨g1, g2⟩ | ⟨g1, g2, g3⟩ | ⟨g1, g2, g3, g4⟩
      · obtain ⟨n, rfl⟩ := Int.eq_ofNat_of_zero_le g1
        obtain ⟨m, rfl⟩ := Int.eq_ofNat_of_zero_le g3
        exact in_range a0 a1 n m h1 h2 h3 h4 hab' (by omega) (by omega) w
      all_goals
        clear hab
        go_enter Try.func4, Try.ntmps4
        go_wp2_with (go_at_call 9; refine (begun_any _).mono ?_; rintro e wb ⟨rfl, hb1⟩)
        go_ret
        exact ⟨rfl, hb1⟩
  all_goals
    go_enter Try.func4, Try.ntmps4
    go_wp2_with (go_at_call 9; refine (begun_any _).mono ?_; rintro e wb ⟨rfl, hb1⟩)
    go_ret
    exact ⟨rfl, hb1⟩
/-! ### the row's step -/
theorem own : ownKnob Try.prog.godebug = none := by kernel_rfl
theorem laidOut : laidOutB Try.prog = true := by kernel_rfl
set_option maxRecDepth 100000 in
theorem lifted (os : Os) (started : os.Started) (H : Type) (enc : TypeId × Value → H) :
    ReturnsInHanded {} Try.checked os 4 .any (Rows.proofStartsSpec.pre6 enc Try.prog Try.f4 Rows.proofStartsRow.domain false) (Rows.proofStartsSpec.post enc Try.prog Try.f4 false true false false) := by
  refine returnsInHanded_of_change (C := Try.checked) own started (by kernel_rfl) Try.func4
    (ChangeSpec.witness6 (enc := enc) (C := Try.checked) false ⟨#[], #[.int .i64 0, .int .i64 0, .int .i64 0, .int .i64 0], []⟩ 8 (by kernel_rfl) (by kernel_rfl) (by kernel_rfl) (by kernel_rfl)) ?_
  intro W base args ds gs before hval0 hW hcnd _
  have hval : ∀ (j : Nat) t v, Try.f4.params[j]? = some t → args[j]? = some v → Value.okWide Try.prog W .any base t v := hval0
  have hW' := hW
  obtain ⟨p, q, hA0, hV, rfl, hfz, hnd⟩ := hW
  have hA : DataW.TrodAll enc Try.prog W 0 (fun _ => true) true Try.f4.params.toList args.toList ds p := hA0
  rw [Try.params4] at hA hval
  obtain ⟨v0, vs0, d0, ds0, p0, q0, hargs, rfl, rfl, h0, r0⟩ := trodAll_cons hA
  obtain ⟨v1, vs1, d1, ds1, p1, q1, rfl, rfl, rfl, h1, r1⟩ := trodAll_cons r0
  obtain ⟨v2, vs2, d2, ds2, p2, q2, rfl, rfl, rfl, h2, r2⟩ := trodAll_cons r1
  obtain ⟨v3, vs3, d3, ds3, p3, q3, rfl, rfl, rfl, h3, r3⟩ := trodAll_cons r2
  obtain ⟨rfl, rfl, rfl⟩ := trodAll_nil r3
  obtain rfl : args = #[v0, v1, v2, v3] := by cases args; simp_all
  obtain ⟨rfl, rfl⟩ := trodVars_none hV
  have k0 := h0
  have lt0 : ∀ x ∈ p0, x.block < W.heap.size := by obtain ⟨m, hm⟩ := k0; exact DataW.trod_lt m _ _ _ hm
  have k1 := h1
  have lt1 : ∀ x ∈ p1, x.block < W.heap.size := by obtain ⟨m, hm⟩ := k1; exact DataW.trod_lt m _ _ _ hm
  have k2 := h2
  have lt2 : ∀ x ∈ p2, x.block < W.heap.size := by obtain ⟨m, hm⟩ := k2; exact DataW.trod_lt m _ _ _ hm
  have k3 := h3
  have lt3 : ∀ x ∈ p3, x.block < W.heap.size := by obtain ⟨m, hm⟩ := k3; exact DataW.trod_lt m _ _ _ hm
  obtain ⟨a0, rfl, rfl, rfl, w0⟩ := open_int Try.underlying2 (hval 0 2 v0 rfl rfl) h0
  obtain ⟨a1, rfl, rfl, rfl, w1⟩ := open_int Try.underlying2 (hval 1 2 v1 rfl rfl) h1
  obtain ⟨a2, rfl, rfl, rfl, w2⟩ := open_int Try.underlying3 (hval 2 3 v2 rfl rfl) h2
  obtain ⟨a3, rfl, rfl, rfl, w3⟩ := open_int Try.underlying3 (hval 3 3 v3 rfl rfl) h3
  clear hA0 hval0
  refine (walk a0 a1 a2 a3 W w0 w1 w2 w3).mono fun e W' ⟨he, bel⟩ => ?_
  subst he
  exact ⟨_, rfl, _, _, _, [], _, [], hW', trodAll_mk1 (shut_bool Try.underlying4 _), (trodAll_cons_mk (Below.trod laidOut (by kernel_rfl) (of_decide_eq_true (by kernel_rfl)) k0 bel lt0) (trodAll_cons_mk (Below.trod laidOut (by kernel_rfl) (of_decide_eq_true (by kernel_rfl)) k1 bel lt1) (trodAll_cons_mk (Below.trod laidOut (by kernel_rfl) (of_decide_eq_true (by kernel_rfl)) k2 bel lt2) (trodAll_cons_mk (Below.trod laidOut (by kernel_rfl) (of_decide_eq_true (by kernel_rfl)) k3 bel lt3) trodAll_mk0)))), rfl, bel.frame _, fun h => by cases h⟩

theorem over : Rows.proofStartsRow.holds Try.pinned (OpenSpec.ofChange Rows.proofStartsSpec) :=
  OpenClaim.holds_of_wide 4 Try.f4 rfl rfl rfl rfl rfl rfl rfl ⟨rfl, rfl, rfl, rfl, rfl⟩ rfl rfl rfl rfl rfl (by kernel_rfl) Try.func4 (by kernel_rfl)
    (of_decide_eq_true (by kernel_rfl)) (by unfold Func.isWrapper; first | (rw [if_pos (by decide +kernel)]; kernel_rfl) | (rw [if_neg (by decide +kernel)]; exact ⟨rfl, rfl⟩))
    (fun os started H enc _ => lifted os started H enc)

theorem proved : Rows.ProofStartsSaid := over
#print axioms proved
end Go.Proofs.Ytlddijiljkmbmaa.proofStarts
