/- Entries as plain data; slices that are only read; Same, Eq and Cut. -/
import Derived.Test.YtbladkopbkkamaaOwn
import Derived.BigRegion
import Derived.ChangeAlike
import Derived.RegionTactic
import Derived.Deep.CutBlock
namespace Go.Proofs.Ytbladkopbkkamaa
open Go.RowKit
attribute [local go_sem ↓] Go.wp_at_zero Go.wp_at_succ
set_option linter.unusedVariables false
set_option linter.unusedSimpArgs false

/-! ### lists of elements of C cells -/
section
variable {α : Type} {f : α → List Value} {C : Nat}
theorem cl_len (hf : ∀ x, (f x).length = C) (l : List α) : (l.flatMap f).length = l.length * C := by
  induction l with
  | nil => simp
  | cons a l ih => simp [hf, ih, Nat.add_mul]; omega
theorem cl_at (hf : ∀ x, (f x).length = C) (l : List α) {i j : Nat} (hi : i < l.length) (hj : j < C) : (l.flatMap f)[i * C + j]? = (f l[i])[j]? := by
  induction l generalizing i with
  | nil => simp at hi
  | cons a l ih =>
    rw [List.flatMap_cons]
    cases i with
    | zero => rw [List.getElem?_append_left (by rw [hf]; omega)]; simp
    | succ i =>
      rw [List.getElem?_append_right (by rw [hf, Nat.add_mul]; omega), hf]
      rw [show (i + 1) * C + j - C = i * C + j by rw [Nat.add_mul]; omega]
      exact ih (by simpa using hi)
theorem cl_take (hf : ∀ x, (f x).length = C) (l : List α) (k : Nat) : (l.flatMap f).take (k * C) = (l.take k).flatMap f := by
  induction l generalizing k with
  | nil => simp
  | cons a l ih =>
    cases k with
    | zero => simp
    | succ k =>
      rw [List.flatMap_cons, List.take_succ_cons, List.flatMap_cons, ← ih, List.take_append, hf]
      rw [show (k + 1) * C - C = k * C by rw [Nat.add_mul]; omega, List.take_of_length_le (by rw [hf, Nat.add_mul]; omega)]
theorem cl_drop (hf : ∀ x, (f x).length = C) (l : List α) (k : Nat) : (l.flatMap f).drop (k * C) = (l.drop k).flatMap f := by
  induction l generalizing k with
  | nil => simp
  | cons a l ih =>
    cases k with
    | zero => simp
    | succ k =>
      rw [List.flatMap_cons, List.drop_succ_cons, ← ih, List.drop_append, hf]
      rw [show (k + 1) * C - C = k * C by rw [Nat.add_mul]; omega, List.drop_of_length_le (by rw [hf, Nat.add_mul]; omega), List.nil_append]
end

/-- a slice that is read: n elements of C cells -/
def Sl (w : World) (C : Nat) (A : Option Addr) (n : Nat) (xs : List Value) : Prop :=
  xs.length = n * C ∧ n ≤ maxLen ∧ (n = 0 ∨ ∃ g o, A = some ⟨g, o, none⟩ ∧ g < w.heap.size ∧ ∀ j u, xs[j]? = some u → w.cell? ⟨g, o + j, none⟩ = some u)
section
variable {w w' : World} {C n : Nat} {A : Option Addr} {xs : List Value}
theorem Sl.of_own {c : Nat} (h : Own w C A n c xs) : Sl w C A n xs := by
  refine ⟨h.1, Nat.le_trans h.2.1 h.2.2.1, ?_⟩
  rcases Nat.eq_zero_or_pos n with h0 | h0
  · exact .inl h0
  · obtain ⟨g, o, rfl, hl⟩ := h.form h0
    refine .inr ⟨g, o, rfl, hl, fun j u hu => ?_⟩
    obtain ⟨g', o', e, _, hc⟩ := h.at_ hu
    injection e with e
    injection e with e1 e2
    subst e1 e2
    exact hc
theorem Sl.keep (h : Sl w C A n xs) (hs : w.heap.size ≤ w'.heap.size) (hb : ∀ g, blk A = some g → g < w.heap.size → w'.heap[g]? = w.heap[g]?) : Sl w' C A n xs := by
  refine ⟨h.1, h.2.1, ?_⟩
  rcases h.2.2 with h0 | ⟨g, o, rfl, hl, hx⟩
  · exact .inl h0
  · have e := hb g rfl hl
    exact .inr ⟨g, o, rfl, Nat.lt_of_lt_of_le hl hs, fun j u hu => (World.cell?_of_block (w := w) (a := ⟨g, o + j, none⟩) e).trans (hx j u hu)⟩
theorem Sl.mod {F : Nat → Prop} (h : Sl w C A n xs) (hm : Mod F w w') (hF : ∀ g, blk A = some g → ¬ F g) : Sl w' C A n xs := h.keep hm.size fun g e hl => hm.block g hl (hF g e)
theorem Sl.none_ (h : Sl w C A n xs) (hm : Mod (fun _ => False) w w') : Sl w' C A n xs := h.mod hm (by simp)
theorem Sl.below {W : World} (h : Sl W C A n xs) (hb : Below W.heap.size W w') : Sl w' C A n xs := h.keep hb.size fun g _ hl => hb.block g hl
theorem Sl.at_ (h : Sl w C A n xs) (hn : 0 < n) : ∃ g o, A = some ⟨g, o, none⟩ ∧ g < w.heap.size ∧ ∀ j u, xs[j]? = some u → w.cell? ⟨g, o + j, none⟩ = some u := by
  rcases h.2.2 with h0 | h1
  · omega
  · exact h1
theorem Sl.take (h : Sl w C A n xs) {k : Nat} (hk : k ≤ n) : Sl w C A k (xs.take (k * C)) := by
  have hle : k * C ≤ n * C := Nat.mul_le_mul_right _ hk
  refine ⟨by rw [List.length_take, h.1]; omega, by have := h.2.1; omega, ?_⟩
  rcases Nat.eq_zero_or_pos k with h0 | h0
  · exact .inl h0
  · obtain ⟨g, o, rfl, hl, hx⟩ := h.at_ (by omega)
    refine .inr ⟨g, o, rfl, hl, fun j u hu => hx j u ?_⟩
    rw [List.getElem?_take] at hu
    split at hu
    · exact hu
    · cases hu
end

/-! ### entries -/
structure En where
  fr : Int
  bo : Int
  se : Int
  od : Int
  lv : Int
  st : Int
  da : ByteArray
def En.cells (e : En) : List Value := [.int .i64 e.fr, .int .i64 e.bo, .int .i64 e.se, .int .i64 e.od, .int .i64 e.lv, .int .i64 e.st, .string e.da]
def En.val (e : En) : Value := .agg #[.int .i64 e.fr, .int .i64 e.bo, .int .i64 e.se, .int .i64 e.od, .int .i64 e.lv, .int .i64 e.st, .string e.da]
theorem En.cells_len (e : En) : e.cells.length = 7 := rfl
def ecells (l : List En) : List Value := l.flatMap En.cells
theorem ecells_at (l : List En) {i j : Nat} (hi : i < l.length) (hj : j < 7) : (ecells l)[i * 7 + j]? = l[i].cells[j]? := cl_at En.cells_len l hi hj
theorem ecells_len (l : List En) : (ecells l).length = l.length * 7 := cl_len En.cells_len l
theorem ecells_app (l m : List En) : ecells (l ++ m) = ecells l ++ ecells m := by simp [ecells]

def same (a b : En) : Bool := a.fr == b.fr && a.bo == b.bo && a.se == b.se
def eqE (a b : En) : Bool := same a b && a.od == b.od && a.lv == b.lv && a.st == b.st && (a.da.toList == b.da.toList)

/-- a call that only makes new blocks -/
def Only (w : World) (v : Value) (e : Ending) (w' : World) : Prop := e = .returned v ∧ Mod (fun _ => False) w w'

theorem same_ref (a b : En) (w : World) : Calls Try.prog 14 #[a.val, b.val] w (Only w (.bool (same a b))) := by
  obtain ⟨a0, a1, a2, a3, a4, a5, a6⟩ := a
  obtain ⟨b0, b1, b2, b3, b4, b5, b6⟩ := b
  unfold En.val same
  simp only []
  cases h0 : (a0 == b0)
  · go_enter Try.func14, Try.ntmps14
    go_wp2
    go_ret
    exact ⟨rfl, ((Mod.refl _ _).alloc _).alloc _⟩
  · cases h1 : (a1 == b1)
    · go_enter Try.func14, Try.ntmps14
      go_wp2
      go_ret
      exact ⟨rfl, ((Mod.refl _ _).alloc _).alloc _⟩
    · go_enter Try.func14, Try.ntmps14
      go_wp2
      go_ret
      exact ⟨rfl, ((Mod.refl _ _).alloc _).alloc _⟩
theorem same_ent (a b : En) (w : World) : Calls Try.prog 35 #[a.val, b.val] w (Only w (.bool (same a b))) := by
  obtain ⟨a0, a1, a2, a3, a4, a5, a6⟩ := a
  obtain ⟨b0, b1, b2, b3, b4, b5, b6⟩ := b
  unfold En.val same
  simp only []
  cases h0 : (a0 == b0)
  · go_enter Try.func35, Try.ntmps35
    go_wp2
    go_ret
    exact ⟨rfl, ((Mod.refl _ _).alloc _).alloc _⟩
  · cases h1 : (a1 == b1)
    · go_enter Try.func35, Try.ntmps35
      go_wp2
      go_ret
      exact ⟨rfl, ((Mod.refl _ _).alloc _).alloc _⟩
    · go_enter Try.func35, Try.ntmps35
      go_wp2
      go_ret
      exact ⟨rfl, ((Mod.refl _ _).alloc _).alloc _⟩

theorem Only.trans {w w1 w2 : World} {v v' : Value} {e e' : Ending} (h : Only w v e w1) (k : Only w1 v' e' w2) : Only w v' e' w2 := ⟨k.1, h.2.trans k.2 (by simp)⟩

theorem boxed (w w1 : World) (xs ys : Array Value) (t : TypeId) (m : Mod (fun _ => False) ((w.alloc (.cells xs t)).alloc (.cells ys t)) w1) : Cells w1 w.heap.size xs.toList ∧ Cells w1 (w.heap.size + 1) ys.toList := by
  refine ⟨((Cells.new w xs t).alloc _).mod m (by simp), ?_⟩
  have := Cells.new (w.alloc (.cells xs t)) ys t
  rw [show (w.alloc (.cells xs t)).heap.size = w.heap.size + 1 by simp] at this
  exact this.mod m (by simp)

set_option maxHeartbeats 1600000 in
theorem eq_ent (a b : En) (w : World) : Calls Try.prog 39 #[a.val, b.val] w (Only w (.bool (eqE a b))) := by
  have hs := fun W => same_ent a b W
  unfold eqE
  generalize same a b = s0 at *
  have HS := Lib.hid hs
  clear hs
  obtain ⟨a0, a1, a2, a3, a4, a5, a6⟩ := a
  obtain ⟨b0, b1, b2, b3, b4, b5, b6⟩ := b
  unfold En.val at *
  simp only [] at *
  have hcases : s0 = false ∨ (s0 = true ∧ (a3 == b3) = false) ∨ (s0 = true ∧ (a3 == b3) = true ∧ (a4 == b4) = false) ∨ (s0 = true ∧ (a3 == b3) = true ∧ (a4 == b4) = true ∧ (a5 == b5) = false) ∨ (s0 = true ∧ (a3 == b3) = true ∧ (a4 == b4) = true ∧ (a5 == b5) = true) := by
    cases s0 <;> cases (a3 == b3) <;> cases (a4 == b4) <;> cases (a5 == b5) <;> simp
  rcases hcases with rfl | ⟨rfl, h3⟩ | ⟨rfl, h3, h4⟩ | ⟨rfl, h3, h4, h5⟩ | ⟨rfl, h3, h4, h5⟩
  all_goals
    go_enter Try.func39, Try.ntmps39
    go_wp2_with fail
    refine (HS.out _).mono ?_
    rintro e w1 ⟨rfl, m1⟩
    obtain ⟨ca, cb⟩ := boxed w w1 _ _ _ m1
    have x3 : w1.cell? ⟨w.heap.size, 3, none⟩ = some (.int .i64 a3) := ca.1 3 _ rfl
    have x4 : w1.cell? ⟨w.heap.size, 4, none⟩ = some (.int .i64 a4) := ca.1 4 _ rfl
    have x5 : w1.cell? ⟨w.heap.size, 5, none⟩ = some (.int .i64 a5) := ca.1 5 _ rfl
    have x6 : w1.cell? ⟨w.heap.size, 6, none⟩ = some (.string a6) := ca.1 6 _ rfl
    have y3 : w1.cell? ⟨w.heap.size + 1, 3, none⟩ = some (.int .i64 b3) := cb.1 3 _ rfl
    have y4 : w1.cell? ⟨w.heap.size + 1, 4, none⟩ = some (.int .i64 b4) := cb.1 4 _ rfl
    have y5 : w1.cell? ⟨w.heap.size + 1, 5, none⟩ = some (.int .i64 b5) := cb.1 5 _ rfl
    have y6 : w1.cell? ⟨w.heap.size + 1, 6, none⟩ = some (.string b6) := cb.1 6 _ rfl
    have M1 := Lib.hid m1
    clear ca cb m1
    go_wp2
    go_ret
    refine ⟨?_, (((Mod.refl (fun _ => False) _).alloc _).alloc _).trans M1.out (by simp)⟩
    first | rfl | simp [*]
set_option maxHeartbeats 1600000 in
theorem eq_ref (a b : En) (w : World) : Calls Try.prog 26 #[a.val, b.val] w (Only w (.bool (eqE a b))) := by
  have hs := fun W => same_ref a b W
  unfold eqE
  generalize same a b = s0 at *
  have HS := Lib.hid hs
  clear hs
  obtain ⟨a0, a1, a2, a3, a4, a5, a6⟩ := a
  obtain ⟨b0, b1, b2, b3, b4, b5, b6⟩ := b
  unfold En.val at *
  simp only [] at *
  have hcases : s0 = false ∨ (s0 = true ∧ (a3 == b3) = false) ∨ (s0 = true ∧ (a3 == b3) = true ∧ (a4 == b4) = false) ∨ (s0 = true ∧ (a3 == b3) = true ∧ (a4 == b4) = true ∧ (a5 == b5) = false) ∨ (s0 = true ∧ (a3 == b3) = true ∧ (a4 == b4) = true ∧ (a5 == b5) = true) := by
    cases s0 <;> cases (a3 == b3) <;> cases (a4 == b4) <;> cases (a5 == b5) <;> simp
  rcases hcases with rfl | ⟨rfl, h3⟩ | ⟨rfl, h3, h4⟩ | ⟨rfl, h3, h4, h5⟩ | ⟨rfl, h3, h4, h5⟩
  all_goals
    go_enter Try.func26, Try.ntmps26
    go_wp2_with fail
    refine (HS.out _).mono ?_
    rintro e w1 ⟨rfl, m1⟩
    obtain ⟨ca, cb⟩ := boxed w w1 _ _ _ m1
    have x3 : w1.cell? ⟨w.heap.size, 3, none⟩ = some (.int .i64 a3) := ca.1 3 _ rfl
    have x4 : w1.cell? ⟨w.heap.size, 4, none⟩ = some (.int .i64 a4) := ca.1 4 _ rfl
    have x5 : w1.cell? ⟨w.heap.size, 5, none⟩ = some (.int .i64 a5) := ca.1 5 _ rfl
    have x6 : w1.cell? ⟨w.heap.size, 6, none⟩ = some (.string a6) := ca.1 6 _ rfl
    have y3 : w1.cell? ⟨w.heap.size + 1, 3, none⟩ = some (.int .i64 b3) := cb.1 3 _ rfl
    have y4 : w1.cell? ⟨w.heap.size + 1, 4, none⟩ = some (.int .i64 b4) := cb.1 4 _ rfl
    have y5 : w1.cell? ⟨w.heap.size + 1, 5, none⟩ = some (.int .i64 b5) := cb.1 5 _ rfl
    have y6 : w1.cell? ⟨w.heap.size + 1, 6, none⟩ = some (.string b6) := cb.1 6 _ rfl
    have M1 := Lib.hid m1
    clear ca cb m1
    go_wp2
    go_ret
    refine ⟨?_, (((Mod.refl (fun _ => False) _).alloc _).alloc _).trans M1.out (by simp)⟩
    first | rfl | simp [*]

/-! ### Cut -/
def cutB (s : ByteArray) (n : Nat) : ByteArray := if n < s.size then s.extract 0 n else s
def En.cut (e : En) : En := { e with da := cutB e.da 20 }

theorem cut1_any (s : ByteArray) (n : Nat) (w : World) (hs : s.size ≤ maxLen) : Calls Try.prog 23 #[.string s, .int .i64 (n : Int)] w fun e w' => e = .returned (.string (cutB s n)) ∧ w = w' := by
  unfold maxLen at hs
  have n0 : (0 : Int) ≤ (n : Int) := by omega
  unfold cutB
  by_cases h : n < s.size
  · rw [if_pos h]
    go_enter Try.func23, Try.ntmps23
    go_wp2
    go_ret
    exact ⟨rfl, rfl⟩
  · rw [if_neg h]
    go_enter Try.func23, Try.ntmps23
    go_wp2
    go_ret
    exact ⟨rfl, rfl⟩

theorem cutE_any (a : En) (w : World) (hs : a.da.size ≤ maxLen) : Calls Try.prog 31 #[a.val] w (Only w a.cut.val) := by
  obtain ⟨a0, a1, a2, a3, a4, a5, a6⟩ := a
  unfold En.val En.cut
  simp only [] at *
  have hc := fun W => cut1_any a6 20 W hs
  have HC := Lib.hid hc
  clear hc hs
  go_enter Try.func31, Try.ntmps31
  go_wp2_with fail
  refine (HC.out _).mono ?_
  rintro e w1 ⟨rfl, rfl⟩
  generalize cutB a6 20 = s at *
  go_wp2
  exact bodyPost_ret (v := .agg #[.int .i64 a0, .int .i64 a1, .int .i64 a2, .int .i64 a3, .int .i64 a4, .int .i64 a5, .string s]) (by simp [results, Try.results31, go_sem]) rfl ⟨rfl, ((Mod.refl _ _).alloc _).alloc _⟩

/-- the element number k of a slice of entries -/
theorem Sl.ent {w : World} {A : Option Addr} {n : Nat} {l : List En} (h : Sl w 7 A n (ecells l)) {k : Nat} (hk : k < l.length) : ∃ g o, A = some ⟨g, o, none⟩ ∧ g < w.heap.size ∧
    w.cell? ⟨g, o + k * 7, none⟩ = some (.int .i64 l[k].fr) ∧ w.cell? ⟨g, o + k * 7 + 1, none⟩ = some (.int .i64 l[k].bo) ∧ w.cell? ⟨g, o + k * 7 + 2, none⟩ = some (.int .i64 l[k].se) ∧ w.cell? ⟨g, o + k * 7 + 3, none⟩ = some (.int .i64 l[k].od) ∧
    w.cell? ⟨g, o + k * 7 + 4, none⟩ = some (.int .i64 l[k].lv) ∧ w.cell? ⟨g, o + k * 7 + 5, none⟩ = some (.int .i64 l[k].st) ∧ w.cell? ⟨g, o + k * 7 + 6, none⟩ = some (.string l[k].da) := by
  have hn : 0 < n := by have h1 := h.1; rw [ecells_len] at h1; omega
  obtain ⟨g, o, rfl, hl, hx⟩ := h.at_ hn
  refine ⟨g, o, rfl, hl, ?_, ?_, ?_, ?_, ?_, ?_, ?_⟩
  · exact hx (k * 7 + 0) _ ((ecells_at l hk (by omega)).trans rfl)
  all_goals rw [Nat.add_assoc]; exact hx _ _ ((ecells_at l hk (by omega)).trans rfl)

theorem info_en : (Try.prog.info? 30).map (fun i => (i.zero, i.size, i.bytes)) = some (some (.agg #[.int .i64 0, .int .i64 0, .int .i64 0, .int .i64 0, .int .i64 0, .int .i64 0, .string ByteArray.empty]), 7, 64) := by kernel_rfl
theorem En.one (e : En) : ∀ u ∈ e.cells, u.oneCell' = true := by intro u hu; simp [En.cells] at hu; rcases hu with rfl | rfl | rfl | rfl | rfl | rfl | rfl <;> rfl

/-- a new slice of entries -/
def NewE (w : World) (l : List En) (e : Ending) (w' : World) : Prop :=
  ∃ A c, e = .returned (.slice A l.length c) ∧ Own w' 7 A l.length c (ecells l) ∧ Mod (fun _ => False) w w' ∧ ∀ g, blk A = some g → w.heap.size ≤ g

set_option maxHeartbeats 1600000 in
theorem entries_any (A : Option Addr) (l : List En) (c n : Nat) (w : World) (hl : Sl w 7 A l.length (ecells l)) (hd : ∀ e ∈ l, e.da.size ≤ maxLen) (hn : n ≤ 99) :
    Calls Try.prog 12 #[.slice A l.length c, .int .i64 (n : Int)] w (NewE w ((l.take n).map En.cut)) := by
  obtain ⟨i0, hi0, hz0, hz1, hz2⟩ := info_parts info_en
  have hmx := hl.2.1
  unfold maxLen at hmx
  have n0 : (0 : Int) ≤ (n : Int) := by omega
  have HL := Lib.hid hl
  have HD := Lib.hid hd
  have HI := Lib.hid hi0
  have HZ0 := Lib.hid hz0
  have HZ1 := Lib.hid hz1
  have HZ2 := Lib.hid hz2
  clear hl hd hi0 hz0 hz1 hz2
  go_enter Try.func12, Try.ntmps12
  go_wp2_with fail
  go_loopw [5, 6] (fun v i wr => ∃ (k : Nat) (B : Option Addr) (d : Nat), k ≤ l.length ∧ k ≤ n ∧ i = .int .i64 k ∧ v = .slice B k d ∧ Own wr 7 B k d (ecells ((l.take k).map En.cut)) ∧ Mod (fun _ => False) w wr ∧ ∀ g, blk B = some g → w.heap.size ≤ g) (fun _ i _ => n - (intOf i).toNat)
  case atStart => exact ⟨0, none, 0, by omega, by omega, rfl, rfl, Own.nil _ _, Mod.refl _ _, by simp [blk]⟩
  case round =>
    obtain ⟨k, B, d, hk, hkn, rfl, rfl, hO, hM, hB⟩ := hrel
    have HO := Lib.hid hO
    have HM := Lib.hid hM
    have HB := Lib.hid hB
    clear hO hM hB
    by_cases hin : k < l.length ∧ k < n
    · obtain ⟨h1, h2⟩ := hin
      obtain ⟨g, o, rfl, hg, q0, q1, q2, q3, q4, q5, q6⟩ := (HL.out.none_ HM.out).ent h1
      have hsz := HD.out l[k] (List.getElem_mem h1)
      have hct := fun W => cutE_any l[k] W hsz
      have hst := Lib.hid (show ecells ((l.take k).map En.cut) ++ l[k].cut.cells = ecells ((l.take (k + 1)).map En.cut) by
        rw [List.take_succ_eq_append_getElem h1, List.map_append, ecells_app]; simp [ecells])
      have hone := Lib.hid (En.one l[k].cut)
      unfold En.val at hct
      unfold En.cells at hst hone
      clear hsz
      generalize l[k].cut = x at *
      generalize l[k] = y at *
      have HCT := Lib.hid hct
      clear hct
      go_wp2_with (first
        | (go_at_call 31; refine (HCT.out _).mono ?_; rintro e w1 ⟨rfl, m1⟩; have HM1 := Lib.hid (HM.out.trans m1 (by simp)); have HO1 := Lib.hid (HO.out.mod m1 (by simp)); clear m1)
        | (at_builtin; refine wpList_append_Own _ rfl _ _ _ rfl 30 i0 _ 7 64 Try.underlying23 HI.out HZ0.out HZ1.out HZ2.out rfl (by decide) B k d _ rfl (HO1.out.alloc _) ⟨w1.heap.size, 0, none⟩ 1 1 _ rfl rfl (World.news_of_block (heap_alloc_new _ _)) hone.out (by decide) (by unfold maxLen; omega) (by omega) ?_; intro B2 d2 w2 ho2 hg2 hb2))
      have ho3 := Lib.hid (show Own w2 7 B2 (k + 1) d2 _ by have h := ho2; rw [hst.out] at h; exact h)
      have hm3 := Lib.hid ((HM1.out.alloc _).grown hg2 fun g e => .inr (HB.out g e))
      have hb3 := Lib.hid (show ∀ g, blk B2 = some g → w.heap.size ≤ g by
        intro g e
        rcases hb2 with h | ⟨q, h, hq⟩
        · exact HB.out g (h.symm.trans e)
        · have := h.symm.trans e; injection this with this; subst this; have h5 := HM1.out.size; simp at hq; omega)
      clear ho2 hg2 hb2
      go_roundw
      case rel => exact ⟨k + 1, B2, d2, by omega, by omega, by go_num, rfl, ho3.out, hm3.out, hb3.out⟩
      case measure => simp [intOf]; omega
    · have hout : (k < l.length ∧ n ≤ k) ∨ l.length ≤ k := by omega
      clear hin
      have hlen := Lib.hid (show l.take n = l.take k ∧ ((l.take n).map En.cut).length = k by
        rcases hout with ⟨h1, h2⟩ | h1
        · obtain rfl : k = n := by omega
          exact ⟨rfl, by simp; omega⟩
        · rw [List.take_of_length_le (l := l) (i := k) (by omega), List.take_of_length_le (l := l) (i := n) (by omega)]; exact ⟨rfl, by simp; omega⟩)
      rcases hout with ⟨h1, h2⟩ | h1
      all_goals
        go_wp2_with fail
        go_ret
        refine ⟨B, d, ?_, ?_, HM.out, HB.out⟩
        · rw [hlen.out.2]; rfl
        · rw [hlen.out.2, hlen.out.1]; exact HO.out
end Go.Proofs.Ytbladkopbkkamaa
