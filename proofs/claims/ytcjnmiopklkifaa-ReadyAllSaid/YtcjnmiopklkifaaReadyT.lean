/- Two queues side by side: the program's and the reference's. -/
import Derived.Test.YtcjnmiopklkifaaReadyP
namespace Go.Proofs.Ytcjnmiopklkifaa
open Go.RowKit
set_option linter.unusedVariables false
set_option linter.unusedSimpArgs false

/-- queue g1 (the program's) holds T1, queue g2 (the reference's) T2; they lie behind n0, apart, and apart from the blocks of P -/
def St2 (n0 : Nat) (P : Nat → Prop) (g1 g2 : Nat) (T1 T2 : List To) (wr : World) : Prop :=
  ∃ F1 F2, IsQ wr g1 F1 T1 ∧ IsQ wr g2 F2 T2 ∧ (∀ k, F1 k → ¬ F2 k) ∧ (∀ k, F1 k → n0 ≤ k ∧ ¬ P k) ∧ (∀ k, F2 k → n0 ≤ k ∧ ¬ P k) ∧ (∀ k, P k → k < wr.heap.size)
section
variable {n0 g1 g2 : Nat} {P : Nat → Prop} {T1 T2 : List To} {wr w' : World}
theorem St2.mod (h : St2 n0 P g1 g2 T1 T2 wr) (hm : Mod (fun _ => False) wr w') : St2 n0 P g1 g2 T1 T2 w' := by
  obtain ⟨F1, F2, h1, h2, h3, h4, h5, h6⟩ := h
  exact ⟨F1, F2, h1.none_ hm, h2.none_ hm, h3, h4, h5, fun k hk => Nat.lt_of_lt_of_le (h6 k hk) hm.size⟩
theorem St2.less {Q : Nat → Prop} (h : St2 n0 P g1 g2 T1 T2 wr) (hq : ∀ k, Q k → P k) : St2 n0 Q g1 g2 T1 T2 wr := by
  obtain ⟨F1, F2, h1, h2, h3, h4, h5, h6⟩ := h
  exact ⟨F1, F2, h1, h2, h3, fun k hk => ⟨(h4 k hk).1, fun hQ => (h4 k hk).2 (hq k hQ)⟩, fun k hk => ⟨(h5 k hk).1, fun hQ => (h5 k hk).2 (hq k hQ)⟩, fun k hk => h6 k (hq k hk)⟩
/-- what was made since is apart too -/
theorem St2.add (h : St2 n0 P g1 g2 T1 T2 wr) (hm : Mod (fun _ => False) wr w') (Q : Nat → Prop) (hQ : ∀ k, Q k → wr.heap.size ≤ k ∧ k < w'.heap.size) : St2 n0 (fun k => P k ∨ Q k) g1 g2 T1 T2 w' := by
  obtain ⟨F1, F2, h1, h2, h3, h4, h5, h6⟩ := h
  have b1 : ∀ k, F1 k → k < wr.heap.size := by obtain ⟨_, _, _, _, _, _, _, h⟩ := h1; exact h
  have b2 : ∀ k, F2 k → k < wr.heap.size := by obtain ⟨_, _, _, _, _, _, _, h⟩ := h2; exact h
  refine ⟨F1, F2, h1.none_ hm, h2.none_ hm, h3, fun k hk => ⟨(h4 k hk).1, fun h => ?_⟩, fun k hk => ⟨(h5 k hk).1, fun h => ?_⟩, fun k hk => ?_⟩
  · rcases h with h | h
    · exact (h4 k hk).2 h
    · have := hQ k h; have := b1 k hk; omega
  · rcases h with h | h
    · exact (h5 k hk).2 h
    · have := hQ k h; have := b2 k hk; omega
  · rcases hk with h | h
    · exact Nat.lt_of_lt_of_le (h6 k h) hm.size
    · exact (hQ k h).2
def St2Go (n0 : Nat) (P : Nat → Prop) (g1 g2 : Nat) (T1 T2 out : List To) (wr : World) (e : Ending) (w' : World) : Prop :=
  ∃ A d, e = .returned (.slice A out.length d) ∧ Own w' 8 A out.length d (tcells out) ∧ St2 n0 (fun k => P k ∨ blk A = some k) g1 g2 T1 T2 w' ∧ Mod (fun k => n0 ≤ k ∧ ¬ P k) wr w'
theorem St2.go1 (h : St2 n0 P g1 g2 T1 T2 wr) (L : Option Addr) (l : List En) (cl : Nat) (c now : Int) (hl : Sl wr 7 L l.length (ecells l)) (hP : ∀ k, blk L = some k → P k) (hn : l.length ≤ 60) (hcl : l.length ≤ cl) (hcm : cl ≤ maxLen) (hT : T1.length ≤ 4000) (hok : ∀ e ∈ l, OkE e)
    (hc0 : -9223372036854775808 ≤ c) (hc1 : c ≤ 9223372036854775807) (hn0 : -9223372036854775808 ≤ now) (hn1 : now ≤ 9223372036854775807) :
    Calls Try.prog 17 #[.pointer (some ⟨g1, 0, none⟩), .slice L l.length cl, .int .i64 c, .int .i64 now] wr (St2Go n0 P g1 g2 (T1 ++ goR T1 l c now) T2 (goR T1 l c now) wr) := by
  obtain ⟨F1, F2, h1, h2, h3, h4, h5, h6⟩ := h
  have b2 : ∀ k, F2 k → k < wr.heap.size := by obtain ⟨_, _, _, _, _, _, _, h⟩ := h2; exact h
  refine (go_any g1 F1 T1 L l cl c now wr h1 hl (fun k hk hF => (h4 k hF).2 (hP k hk)) hn hcl hcm hT hok hc0 hc1 hn0 hn1).mono ?_
  rintro e w' ⟨A, d, F', rfl, a2, a3, a4, a5, a6⟩
  refine ⟨A, d, rfl, a2, ⟨F', F2, a3, h2.mod a4 fun k _ hk hF => h3 k hF hk, fun k hk hF => ?_, fun k hk => ⟨?_, fun h => ?_⟩, fun k hk => ⟨(h5 k hk).1, fun h => ?_⟩, fun k hk => ?_⟩, a4.mono fun k _ hk => h4 k hk⟩
  · rcases a5 k hk with h | h
    · exact h3 k h hF
    · have := b2 k hF; omega
  · rcases a5 k hk with h | h
    · exact (h4 k h).1
    · obtain ⟨_, _, hh, _, _, hF1, _⟩ := h1
      have h7 := (h4 g1 hF1).1
      have h8 := hh.2.2
      omega
  · rcases h with h | h
    · rcases a5 k hk with h7 | h7
      · exact (h4 k h7).2 h
      · have := h6 k h; omega
    · exact (a6 k h).2 hk
  · rcases h with h | h
    · exact (h5 k hk).2 h
    · have := (a6 k h).1; have := b2 k hk; omega
  · rcases hk with h | h
    · exact Nat.lt_of_lt_of_le (h6 k h) a4.size
    · exact a2.lt h
theorem St2.go2 (h : St2 n0 P g1 g2 T1 T2 wr) (L : Option Addr) (l : List En) (cl : Nat) (c now : Int) (hl : Sl wr 7 L l.length (ecells l)) (hP : ∀ k, blk L = some k → P k) (hn : l.length ≤ 60) (hcl : l.length ≤ cl) (hcm : cl ≤ maxLen) (hT : T2.length ≤ 4000) (hok : ∀ e ∈ l, OkE e)
    (hc0 : -9223372036854775808 ≤ c) (hc1 : c ≤ 9223372036854775807) (hn0 : -9223372036854775808 ≤ now) (hn1 : now ≤ 9223372036854775807) :
    Calls Try.prog 18 #[.pointer (some ⟨g2, 0, none⟩), .slice L l.length cl, .int .i64 c, .int .i64 now] wr (St2Go n0 P g1 g2 T1 (T2 ++ goR T2 l c now) (goR T2 l c now) wr) := by
  obtain ⟨F1, F2, h1, h2, h3, h4, h5, h6⟩ := h
  have b1 : ∀ k, F1 k → k < wr.heap.size := by obtain ⟨_, _, _, _, _, _, _, h⟩ := h1; exact h
  refine (goR_any g2 F2 T2 L l cl c now wr h2 hl (fun k hk hF => (h5 k hF).2 (hP k hk)) hn hcl hcm hT hok hc0 hc1 hn0 hn1).mono ?_
  rintro e w' ⟨A, d, F', rfl, a2, a3, a4, a5, a6⟩
  refine ⟨A, d, rfl, a2, ⟨F1, F', h1.mod a4 fun k _ hk hF => h3 k hk hF, a3, fun k hk hF => ?_, fun k hk => ⟨(h4 k hk).1, fun h => ?_⟩, fun k hk => ⟨?_, fun h => ?_⟩, fun k hk => ?_⟩, a4.mono fun k _ hk => h5 k hk⟩
  · rcases a5 k hF with h | h
    · exact h3 k hk h
    · have := b1 k hk; omega
  · rcases h with h | h
    · exact (h4 k hk).2 h
    · have := (a6 k h).1; have := b1 k hk; omega
  · rcases a5 k hk with h | h
    · exact (h5 k h).1
    · obtain ⟨_, _, hh, _, _, hF1, _⟩ := h2
      have h7 := (h5 g2 hF1).1
      have h8 := hh.2.2
      omega
  · rcases h with h | h
    · rcases a5 k hk with h7 | h7
      · exact (h5 k h7).2 h
      · have := h6 k h; omega
    · exact (a6 k h).2 hk
  · rcases hk with h | h
    · exact Nat.lt_of_lt_of_le (h6 k h) a4.size
    · exact a2.lt h
theorem St2.has1 (h : St2 n0 P g1 g2 T1 T2 wr) (e : En) : Calls Try.prog 19 #[.pointer (some ⟨g1, 0, none⟩), e.val] wr (Only wr (.bool (hasB T1 e))) := by
  obtain ⟨F1, F2, h1, h2, _⟩ := h
  exact has_any g1 F1 T1 e wr h1
theorem St2.has2 (h : St2 n0 P g1 g2 T1 T2 wr) (e : En) : Calls Try.prog 20 #[.pointer (some ⟨g2, 0, none⟩), e.val] wr (Only wr (.bool (hasB T2 e))) := by
  obtain ⟨F1, F2, h1, h2, _⟩ := h
  exact hasR_any g2 F2 T2 e wr h2
theorem St2.told (h : St2 n0 P g1 g2 T1 T2 wr) (hT : T1.length ≤ 1000) : Calls Try.prog 21 #[.pointer (some ⟨g1, 0, none⟩)] wr (NewT wr T1) := by
  obtain ⟨F1, F2, h1, h2, _⟩ := h
  exact toldQ_any g1 F1 T1 wr h1 hT
/-- the reference's field, read -/
theorem St2.field (h : St2 n0 P g1 g2 T1 T2 wr) : ∃ A c, wr.cell? ⟨g2, 0, none⟩ = some (.slice A T2.length c) ∧ Own wr 8 A T2.length c (tcells T2) ∧ g2 < wr.heap.size := by
  obtain ⟨F1, F2, h1, ⟨A, c, hC, hO, _⟩, _⟩ := h
  exact ⟨A, c, hC.1 0 _ rfl, hO, hC.2.2⟩
/-- the two, new -/
theorem St2.start {g1 g2 : Nat} {w1 w2 : World} {P : Nat → Prop} (h1 : IsQ w1 g1 (fun k => k = g1) []) (hm : Mod (fun _ => False) w1 w2) (hC : Cells w2 g2 [.slice none 0 0]) (hg1 : n0 ≤ g1) (hg : w1.heap.size ≤ g2) (hP1 : ¬ P g1) (hP2 : ¬ P g2) (hP : ∀ k, P k → k < w2.heap.size) : St2 n0 P g1 g2 [] [] w2 := by
  have hl := h1.lt
  refine ⟨fun k => k = g1, fun k => k = g2, h1.none_ hm, ⟨none, 0, hC, Own.nil _ _, by simp [blk], rfl, by simp [blk], fun k hk => by subst hk; exact hC.2.2⟩, fun k h h' => by omega, fun k h => ?_, fun k h => ?_, hP⟩
  · subst h; exact ⟨hg1, hP1⟩
  · subst h; exact ⟨by omega, hP2⟩
end
end Go.Proofs.Ytcjnmiopklkifaa
