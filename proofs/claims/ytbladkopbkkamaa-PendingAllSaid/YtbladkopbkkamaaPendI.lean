/- PendingAll: the state of both, side by side. -/
import Derived.Test.YtbladkopbkkamaaPendH
import Derived.Test.YtbladkopbkkamaaPendE
namespace Go.Proofs.Ytbladkopbkkamaa
open Go.ChangeShapes Go.WideShapes Go.ChangeAt Go.RowKit
set_option linter.unusedVariables false
set_option linter.unusedSimpArgs false

/-- the program's Pending at g, the reference's at h, and what was added -/
structure Ps (W wr : World) (g h : Nat) (F G : Nat → Prop) (fr bo sq sq' : Int) (l l' all : List En) (A : Option Addr) (cA : Nat) : Prop where
  p : IsP wr g F fr bo sq l
  r : IsP wr h G fr bo sq' l'
  o : Own wr 7 A all.length cA (ecells all)
  fF : ∀ q, F q → W.heap.size ≤ q ∧ ¬ G q ∧ blk A ≠ some q
  fG : ∀ q, G q → W.heap.size ≤ q ∧ blk A ≠ some q
  fA : ∀ q, blk A = some q → W.heap.size ≤ q
  d : ∀ e ∈ all, e.da.size ≤ maxLen
  hb : Below W.heap.size W wr
section
variable {W wr w3 : World} {g h : Nat} {F G F3 : Nat → Prop} {fr bo sq sq' sq3 : Int} {l l' l3 all : List En} {A : Option Addr} {cA : Nat}
theorem Ps.none_ (s : Ps W wr g h F G fr bo sq sq' l l' all A cA) (hm : Mod (fun _ => False) wr w3) : Ps W w3 g h F G fr bo sq sq' l l' all A cA :=
  ⟨s.p.none_ hm, s.r.none_ hm, s.o.mod hm (by simp), s.fF, s.fG, s.fA, s.d, Mod.below s.hb hm (by simp)⟩
theorem Ps.stepP (s : Ps W wr g h F G fr bo sq sq' l l' all A cA) (p3 : IsP w3 g F3 fr bo sq3 l3) (m3 : Mod F wr w3) (f3 : ∀ k, F3 k → F k ∨ wr.heap.size ≤ k) : Ps W w3 g h F3 G fr bo sq3 sq' l3 l' all A cA := by
  have hs := s.hb.size
  refine ⟨p3, s.r.mod m3 (fun k _ hG hF => (s.fF k hF).2.1 hG), s.o.mod m3 (fun q e hF => (s.fF q hF).2.2 e), fun q hq => ?_, s.fG, s.fA, s.d, Mod.below s.hb m3 (fun k hk => (s.fF k hk).1)⟩
  rcases f3 q hq with h1 | h1
  · exact s.fF q h1
  · exact ⟨by omega, fun hG => by have := s.r.lt q hG; omega, fun e => by have := s.o.lt e; omega⟩
theorem Ps.stepR (s : Ps W wr g h F G fr bo sq sq' l l' all A cA) (p3 : IsP w3 h F3 fr bo sq3 l3) (m3 : Mod G wr w3) (f3 : ∀ k, F3 k → G k ∨ wr.heap.size ≤ k) : Ps W w3 g h F F3 fr bo sq sq3 l l3 all A cA := by
  have hs := s.hb.size
  refine ⟨s.p.mod m3 (fun k _ hF hG => (s.fF k hF).2.1 hG), p3, s.o.mod m3 (fun q e hG => (s.fG q hG).2 e), fun q hq => ⟨(s.fF q hq).1, fun h3 => ?_, (s.fF q hq).2.2⟩, fun q hq => ?_, s.fA, s.d, Mod.below s.hb m3 (fun k hk => (s.fG k hk).1)⟩
  · rcases f3 q h3 with h1 | h1
    · exact (s.fF q hq).2.1 h1
    · have := s.p.lt q hq; omega
  · rcases f3 q hq with h1 | h1
    · exact s.fG q h1
    · exact ⟨by omega, fun e => by have := s.o.lt e; omega⟩
theorem Ps.app (s : Ps W wr g h F G fr bo sq sq' l l' all A cA) {w4 : World} {o : Obj} {A4 : Option Addr} {c4 : Nat} {e : En} (ho4 : Own w4 7 A4 (all.length + 1) c4 (ecells all ++ e.cells)) (hg4 : (wr.alloc o).grownBy w4 (blk A)) (hb4 : blk A4 = blk A ∨ ∃ q, blk A4 = some q ∧ (wr.alloc o).heap.size ≤ q) (he : e.da.size ≤ maxLen) :
    Ps W w4 g h F G fr bo sq sq' l l' (all ++ [e]) A4 c4 := by
  have hs := s.hb.size
  have hm : Mod (fun q => blk A = some q) wr w4 := ((Mod.refl _ wr).alloc o).grown hg4 (fun q e => .inl e)
  have hA4 : ∀ q, blk A4 = some q → blk A = some q ∨ wr.heap.size ≤ q := fun q e => by
    rcases hb4 with h1 | ⟨q2, h1, h2⟩
    · exact .inl (by rw [← h1]; exact e)
    · rw [h1] at e
      have e4 : q2 = q := Option.some.inj e
      simp at h2
      right; omega
  refine ⟨s.p.mod hm (fun k _ hF e => (s.fF k hF).2.2 e), s.r.mod hm (fun k _ hG e => (s.fG k hG).2 e), by rw [ecells_app, List.length_append]; simpa [ecells] using ho4, fun q hq => ⟨(s.fF q hq).1, (s.fF q hq).2.1, fun e => ?_⟩, fun q hq => ⟨(s.fG q hq).1, fun e => ?_⟩, fun q e => ?_, fun x hx => ?_, Mod.below s.hb hm (fun k hk => s.fA k hk)⟩
  · rcases hA4 q e with h1 | h1
    · exact (s.fF q hq).2.2 h1
    · have := s.p.lt q hq; omega
  · rcases hA4 q e with h1 | h1
    · exact (s.fG q hq).2 h1
    · have := s.r.lt q hq; omega
  · rcases hA4 q e with h1 | h1
    · exact s.fA q h1
    · omega
  · rcases List.mem_append.1 hx with h1 | h1
    · exact s.d x h1
    · simp at h1; subst h1; exact he
end
/-! ### Add answers alike -/
theorem addBoth (fr bo sq o lv : Int) (d : ByteArray) (l : List En) (hd : d.size ≤ 1000) (hsq : 0 ≤ sq ∧ sq < 1000000) (hl : l.length ≤ 4) :
    ∃ (sq3 : Int) (l3 : List En) (r : En) (er : Int), 0 ≤ sq3 ∧ sq3 ≤ sq + 1 ∧ l3.length ≤ 4 ∧ r.da.size ≤ maxLen ∧ (er = 0 ∨ er = 1 ∨ er = 9) ∧
      (∀ (w : World) (g : Nat) (F : Nat → Prop), IsP w g F fr bo sq l → Calls Try.prog 24 #[.pointer (some ⟨g, 0, none⟩), .int .i64 o, .int .i64 lv, .string d] w (Added w g F fr bo sq3 l3 r er)) ∧
      (∀ (w : World) (g : Nat) (F : Nat → Prop), IsP w g F fr bo sq l → Calls Try.prog 25 #[.pointer (some ⟨g, 0, none⟩), .int .i64 o, .int .i64 lv, .string d] w (Added w g F fr bo sq3 l3 r er)) := by
  have hm : d.size ≤ maxLen := by unfold maxLen; omega
  have hz : zE.da.size ≤ maxLen := by unfold maxLen; decide
  cases hok : okB (newE fr bo sq o lv d)
  · exact ⟨sq, l, zE, 1, hsq.1, by omega, hl, hz, .inr (.inl rfl), fun w g F h => addP_form g F fr bo sq o lv d l w h hm hsq hok, fun w g F h => addR_form g F fr bo sq o lv d l w h hm hsq hok⟩
  · by_cases h4 : l.length < 4
    · exact ⟨sq + 1, l ++ [newE fr bo sq o lv d], newE fr bo sq o lv d, 0, by omega, by omega, by rw [List.length_append]; simp; omega, hm, .inl rfl, fun w g F h => addP_ok g F fr bo sq o lv d l w h hm hsq hok h4, fun w g F h => addR_ok g F fr bo sq o lv d l w h hm hsq hok h4⟩
    · exact ⟨sq, l, zE, 9, hsq.1, by omega, hl, hz, .inr (.inr rfl), fun w g F h => addP_busy g F fr bo sq o lv d l w h hm hsq hok (by omega), fun w g F h => addR_busy g F fr bo sq o lv d l w h hm hsq hok (by omega)⟩
/-! ### the choice of one of them -/
theorem pick_in (z : Int) (n : Nat) (h0 : 0 < n) (hn : n ≤ 1000) : ∃ p : Nat, p < n ∧ IntKind.i64.wrap (z.tmod (n : Int)) = z.tmod (n : Int) ∧ IntKind.i64.wrap (z.tmod (n : Int) + (n : Int)) = z.tmod (n : Int) + (n : Int) ∧ (z.tmod (n : Int) + (n : Int)).tmod (n : Int) = (p : Int) ∧ IntKind.i64.wrap (p : Int) = (p : Int) := by
  have h1 : z.tmod (n : Int) < (n : Int) := Int.tmod_lt_of_pos _ (by omega)
  have h2 : -(n : Int) < z.tmod (n : Int) := by
    have h1 : (z.tmod (n : Int)).natAbs < n := by
      rw [Int.natAbs_tmod]
      simpa using Nat.mod_lt _ h0
    omega
  have h3 : 0 ≤ (z.tmod (n : Int) + (n : Int)).tmod (n : Int) := Int.tmod_nonneg _ (by omega)
  have h4 : (z.tmod (n : Int) + (n : Int)).tmod (n : Int) < (n : Int) := Int.tmod_lt_of_pos _ (by omega)
  refine ⟨((z.tmod (n : Int) + (n : Int)).tmod (n : Int)).toNat, by omega, IntWalk.i64_in _ ⟨by omega, by omega⟩, IntWalk.i64_in _ ⟨by omega, by omega⟩, by omega, IntWalk.i64_in _ ⟨by omega, by omega⟩⟩
theorem eqAll_self2 (l : List En) : eqAll l l = true := by
  induction l with
  | nil => rfl
  | cons a l ih => simp [eqAll, ih, eqE, same]
theorem cutB_size (s : ByteArray) (n : Nat) : (cutB s n).size ≤ n := by
  unfold cutB
  split
  · rw [ByteArray.size_extract]; omega
  · omega
end Go.Proofs.Ytbladkopbkkamaa
