/- What the pool's law asks: a cell of the pool, not asked yet or asked. -/
import Derived.Test.YtgioelaagedlbaaOncePl
import Derived.IntWalk
namespace Go.Proofs.Ytgioelaagedlbaa
open Go.RowKit
attribute [local go_sem ↓] Go.wp_at_zero Go.wp_at_succ
set_option linter.unusedVariables false
set_option linter.unusedSimpArgs false

theorem wrap_in (x : Int) (h0 : 0 ≤ x) (h1 : x < 9223372036854775808) : IntKind.i64.wrap x = x := by
  have e : x % 2 ^ 64 = x := by omega
  simp only [IntKind.wrap, IntKind.bits, IntKind.signed, e]
  rw [if_neg (by simp; omega)]
theorem and_63 (i : Nat) (h : i < 64) : bits .and .i64 (i : Int) 63 = (i : Int) := by
  have h1 : (BitVec.ofInt 64 (i : Int)).toNat = i := by
    rw [BitVec.ofInt_natCast, BitVec.toNat_ofNat]; exact Nat.mod_eq_of_lt (by omega)
  have h2 : (BitVec.ofInt 64 (63 : Int)).toNat = 63 := by decide
  have h3 : i &&& 63 = i := by
    have := Nat.and_two_pow_sub_one_eq_mod i 6
    simp at this
    rw [this]; omega
  show IntKind.i64.wrap ((BitVec.ofInt 64 (i : Int) &&& BitVec.ofInt 64 63).toNat : Int) = _
  rw [BitVec.toNat_and, h1, h2, h3]
  exact wrap_in _ (by omega) (by omega)

def FP (hm : Nat) : Value := .func (.func 16) #[] #[.pointer (some ⟨hm, 0, none⟩)]
set_option maxHeartbeats 1600000 in
theorem mk_pool (hm i : Nat) (ms : List Int) (hi : i < 64) (h0 : ms[i]? = some 0) (w : World) (hc : Cells w hm (ic ms)) :
    Calls Try.prog 16 #[.int .i64 i, .pointer (some ⟨hm, 0, none⟩)] w fun e w' => ∃ A c, e = .returned (.slice A 2 c) ∧ Own w' 1 A 2 c (ic [(i : Int), (i : Int) * i]) ∧ Mod (fun q => q = hm) w w' ∧ Cells w' hm (ic (ms.set i 1)) := by
  have c0 : w.cell? ⟨hm, i, none⟩ = some (.int .i64 0) := hc.1 i _ (by simp [ic, h0])
  have f0 := hc.2.1 i
  have HC := Lib.hid (show Cells (w.setCell ⟨hm, i, none⟩ (.int .i64 1)) hm (ic (ms.set i 1)) by rw [show ic (ms.set i 1) = (ic ms).set i (.int .i64 1) from List.map_set]; exact hc.set_ i _)
  have hand := and_63 i hi
  have hsq : (0 : Int) ≤ (i : Int) * i ∧ (i : Int) * i < 9223372036854775808 := by
    have h1 : (i : Int) * i ≤ 63 * 63 := Int.mul_le_mul (by omega) (by omega) (by omega) (by omega)
    have h2 : (0 : Int) ≤ (i : Int) * i := Int.mul_nonneg (by omega) (by omega)
    omega
  have hw1 : wrap64 ((i : Int) * i) = (i : Int) * i := IntWalk.wrap64_in _ ⟨by omega, by omega⟩
  have hw2 : IntKind.i64.wrap ((i : Int) * i) = (i : Int) * i := wrap_in _ (by omega) (by omega)
  have j0 : (0 : Int) ≤ (i : Int) := by omega
  have j1 : (i : Int) < 64 := by omega
  clear hc
  go_enter Try.func16, Try.ntmps16
  go_wp2_with fail
  go_ret
  exact ⟨_, _, rfl, own_newS _ _ _ _ _ 1 2 rfl (by decide), ((Mod.refl (fun q => q = hm) w).setCell (p := ⟨hm, i, none⟩) (.inl rfl) _).alloc _, HC.out.alloc _⟩
theorem mk_p1 (hm b0 b i : Nat) (ms : List Int) (hi : i < 64) (h0 : ms[i]? = some 0) (w : World) (hc : Cells w hm (ic ms)) (hb0 : Cells w b0 [FP hm]) (hb : Cells w b [.int .i64 i]) :
    Calls Try.prog 25 #[.pointer (some ⟨b0, 0, none⟩), .pointer (some ⟨b, 0, none⟩)] w fun e w' => ∃ A c, e = .returned (.slice A 2 c) ∧ Own w' 1 A 2 c (ic [(i : Int), (i : Int) * i]) ∧ Mod (fun q => q = hm) w w' ∧ Cells w' hm (ic (ms.set i 1)) := by
  have c0 : w.cell? ⟨b0, 0, none⟩ = some (.func (.func 16) #[] #[.pointer (some ⟨hm, 0, none⟩)]) := hb0.1 0 _ rfl
  have c1 : w.cell? ⟨b, 0, none⟩ = some (.int .i64 i) := hb.1 0 _ rfl
  have heq : ∀ (k : Fn) (fs cs : Array Value) (w : World), (binOp .eql 35 (.func k fs cs) .nilFunc).run Try.prog w = .ok (.bool false) w := run_eql_func Try.underlying35
  have HK := Lib.hid (mk_pool hm i ms hi h0 w hc)
  clear hc hb0 hb
  go_enter Try.func25, Try.ntmps25
  go_wp2_with fail
  refine HK.out.mono ?_
  rintro e w2 ⟨A, c, rfl, o2, m2, c2⟩
  have hr := Lib.hid (show ∃ A' c', Ending.returned (.slice A 2 c) = .returned (.slice A' 2 c') ∧ Own w2 1 A' 2 c' (ic [(i : Int), (i : Int) * i]) ∧ Mod (fun q => q = hm) w w2 ∧ Cells w2 hm (ic (ms.set i 1)) from ⟨A, c, rfl, o2, m2, c2⟩)
  clear o2 m2 c2
  go_wp2_with fail
  go_ret
  exact hr.out
theorem get_pool (hm b0 b g i : Nat) (ms : List Int) (hi : i < 64) (h0 : ms[i]? = some 0) (w : World) (hc : Cells w hm (ic ms)) (hb0 : Cells w b0 [FP hm]) (hb : Cells w b [.int .i64 i]) (hg : Cells w g (cold (PK b0 b))) (n1 : hm ≠ g) (n2 : b0 ≠ g) (n3 : b ≠ g) :
    Calls Try.prog 12 #[.pointer (some ⟨g, 0, none⟩)] w (Got w g (PK b0 b) [(i : Int), (i : Int) * i] (fun q => q = hm) (fun W => Cells W hm (ic (ms.set i 1)))) := by
  have lg : g < w.heap.size := hg.2.2
  have lh : hm < w.heap.size := hc.2.2
  refine get_first g (PK b0 b) (.slice none 0 0) w hg [(i : Int), (i : Int) * i] (by simp) (fun q => q = hm) (fun e => n1 e.symm) (fun q e => by subst e; exact lh) (fun W => Cells W hm (ic (ms.set i 1))) (fun W W' h1 hm => h1.mod hm n1) fun pl W hpl hp hW hM => ?_
  refine get1_p g pl ⟨b0, 0, none⟩ ⟨b, 0, none⟩ false 1 (.slice none 0 0) (by omega) _ W hp hW [(i : Int), (i : Int) * i] (by simp) (fun q => q = hm) (fun e => n1 e.symm) (fun e => by have e2 : pl.block = hm := e; omega) (hM.mono fun k _ e => .inl e) (by simp; omega) _ (fun W W' h1 hm => h1.mod hm n1) fun W2 hM2 => ?_
  exact mk_p1 hm b0 b i ms hi h0 W2 (((hc.alloc _).mod hM n1).mod hM2 n1) (((hb0.alloc _).mod hM n2).mod hM2 n2) (((hb.alloc _).mod hM n3).mod hM2 n3)

/-! ### the state of the law -/
def bc (l : List Bool) : List Value := l.map Value.bool
def am (l : List Bool) : List Int := l.map fun b => if b then 1 else 0
def CellS (w : World) (lo b0 : Nat) (b g : Nat → Nat) (j : Nat) (a : Bool) : Prop :=
  (a = true ∧ ∃ hi, Hot w (g j) (PK b0 (b j)) [(j : Int), (j : Int) * j] lo hi ∧ hi ≤ w.heap.size) ∨ (a = false ∧ Cells w (g j) (cold (PK b0 (b j))))
theorem CellS.mod {w w' : World} {lo b0 j : Nat} {b g : Nat → Nat} {a : Bool} {F : Nat → Prop} (h : CellS w lo b0 b g j a) (hm : Mod F w w') (hg : ¬ F (g j)) (hF : ∀ q, F q → q < lo) : CellS w' lo b0 b g j a := by
  rcases h with ⟨h1, hi, h2, h3⟩ | ⟨h1, h2⟩
  · exact .inl ⟨h1, hi, h2.mod hm hg fun q e => .inl (hF q e), Nat.le_trans h3 hm.size⟩
  · exact .inr ⟨h1, h2.mod hm hg⟩
structure Fix (hm b0 ha lo N : Nat) (A : Option Addr) (b g : Nat → Nat) : Prop where
  h1 : hm < b0
  h2 : ∀ j, j < N → b0 < b j ∧ b j < g j ∧ g j < ha
  h3 : ∀ j k, j < k → k < N → g j < b k
  h4 : ha < lo
  h5 : ∀ q, blk A = some q → b0 < q ∧ q < ha ∧ ∀ j, j < N → q ≠ b j ∧ q ≠ g j
  h6 : b0 < ha
def PS (hm b0 ha lo N : Nat) (A : Option Addr) (c : Nat) (b g : Nat → Nat) (al : List Bool) (w : World) : Prop :=
  Cells w ha (bc al) ∧ Cells w hm (ic (am al)) ∧ Own w 1 A N c (pcells g N) ∧ Cells w b0 [FP hm] ∧ (∀ j, j < N → Cells w (b j) [.int .i64 j]) ∧ ∀ j (h : j < N) (a : Bool), al[j]? = some a → CellS w lo b0 b g j a
theorem PS.get {hm b0 ha lo N : Nat} {A : Option Addr} {c : Nat} {b g : Nat → Nat} {al : List Bool} {w w1 : World} (hf : Fix hm b0 ha lo N A b g) (h : PS hm b0 ha lo N A c b g al w) (hm1 : Mod (fun q => q = ha) w w1) (hlo : lo ≤ w.heap.size) {k : Nat} (hk : k < N) (hN : N ≤ 64) (hl : al.length = 64)
    (hc1 : Cells w1 ha (bc (al.set k true))) :
    Calls Try.prog 12 #[.pointer (some ⟨g k, 0, none⟩)] w1 fun e w' => ∃ A2 c2, e = .returned (.slice A2 2 c2) ∧ Own w' 1 A2 2 c2 (ic [(k : Int), (k : Int) * k]) ∧ PS hm b0 ha lo N A c b g (al.set k true) w' ∧ Mod (fun q => q = g k ∨ q = hm) w1 w' := by
  obtain ⟨p1, p2, p3, p4, p5, p6⟩ := h
  have hk2 := hf.h2 k hk
  have hh1 := hf.h1
  have hh4 := hf.h4
  have hh6 := hf.h6
  have q2 := p2.mod hm1 (by omega)
  have q3 := p3.mod hm1 (fun q e h => by have := (hf.h5 q e).2.1; omega)
  have q4 := p4.mod hm1 (by omega)
  have q5 : ∀ j, j < N → Cells w1 (b j) [.int .i64 j] := fun j hj => (p5 j hj).mod hm1 (by have := hf.h2 j hj; omega)
  have q6 : ∀ j (h : j < N) (a : Bool), al[j]? = some a → CellS w1 lo b0 b g j a := fun j hj a ha' => (p6 j hj a ha').mod hm1 (by have := hf.h2 j hj; omega) (fun q e => by omega)
  have hs1 := hm1.size
  have hkl : k < al.length := by omega
  have fin : ∀ w', Mod (fun q => q = g k ∨ q = hm) w1 w' → Cells w' hm (ic (am (al.set k true))) → (∃ hi, Hot w' (g k) (PK b0 (b k)) [(k : Int), (k : Int) * k] lo hi ∧ hi ≤ w'.heap.size) → PS hm b0 ha lo N A c b g (al.set k true) w' := fun w' m2 cm hot => by
    refine ⟨hc1.mod m2 (by omega), cm, q3.mod m2 (fun q e h => by have h5 := hf.h5 q e; rcases h with h | h; exact (h5.2.2 k hk).2 h; omega), q4.mod m2 (by omega), fun j hj => (q5 j hj).mod m2 (fun e => by
      have h2 := hf.h2 j hj
      rcases e with e | e
      · rcases Nat.lt_trichotomy j k with hl | hl | hl
        · have := hf.h3 j k hl hk; omega
        · subst hl; omega
        · have := hf.h3 k j hl hj; omega
      · omega), fun j hj a ha' => ?_⟩
    by_cases e : j = k
    · subst e
      rw [List.getElem?_set_self hkl] at ha'
      injection ha' with ha'
      subst ha'
      exact .inl ⟨rfl, hot⟩
    · rw [List.getElem?_set_ne (fun h => e h.symm)] at ha'
      refine (q6 j hj a ha').mod m2 (fun e2 => ?_) (fun q e2 => by omega)
      have h2 := hf.h2 j hj
      rcases e2 with e2 | e2
      · rcases Nat.lt_trichotomy j k with hl | hl | hl
        · have := hf.h3 j k hl hk; omega
        · exact e hl
        · have := hf.h3 k j hl hj; omega
      · omega
  have hak := q6 k hk al[k] (List.getElem?_eq_getElem hkl)
  rcases hak with ⟨ht, hi, hot, hhi⟩ | ⟨ht, hcold⟩
  · have hset : al.set k true = al := by
      rw [← ht]; exact List.set_getElem_self hkl
    refine (get_again (g k) _ w1 _ lo hi hot (by simp)).mono ?_
    rintro e w' ⟨A2, c2, rfl, o2, m2, b2⟩
    refine ⟨A2, c2, rfl, o2, fin w' (m2.mono (by simp)) (by rw [hset]; exact q2.mod m2 (by simp)) ⟨hi, hot.mod m2 (by simp) (by simp), Nat.le_trans hhi m2.size⟩, m2.mono (by simp)⟩
  · have hms : (am al)[k]? = some 0 := by simp [am, hkl, ht]
    have hset : am (al.set k true) = (am al).set k 1 := by unfold am; rw [List.map_set]; rfl
    refine (get_pool hm b0 (b k) (g k) k (am al) (by omega) hms w1 q2 q4 (q5 k hk) hcold (by omega) (by omega) (by omega)).mono ?_
    rintro e w' ⟨A2, c2, hi, rfl, o2, ⟨L, cL, x1, x2, x3⟩, j2, m2, b2, s1, s2⟩
    exact ⟨A2, c2, rfl, o2, fin w' m2 (by rw [hset]; exact j2) ⟨hi, ⟨L, cL, x1, x2, fun q e => ⟨by have := x3 q e; omega, (x3 q e).2⟩⟩, s2⟩, m2⟩
end Go.Proofs.Ytgioelaagedlbaa
