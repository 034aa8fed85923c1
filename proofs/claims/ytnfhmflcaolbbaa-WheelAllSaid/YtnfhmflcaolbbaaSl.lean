/- Slices that are only read; append of a whole slice; new blocks. -/
import Derived.Test.YtnfhmflcaolbbaaOwn
import Derived.BigRegion
import Derived.ChangeAlike
import Derived.RegionTactic
import Derived.Deep.CutBlock
import Derived.Deep.Upon
namespace Go.Proofs.Ytnfhmflcaolbbaa
open Go.RowKit
attribute [local go_sem ↓] Go.wp_at_zero Go.wp_at_succ
set_option linter.unusedVariables false
set_option linter.unusedSimpArgs false

/-! ### lists of elements of C cells -/
section
variable {α : Type} {f : α → List Value} {C : Nat}
theorem cl_len (hf : ∀ x, (f x).length = C) (l : List α) : (l.flatMap f).length = l.length * C := by
  induction l with
  | nil => simp
  | cons a l ih => simp [hf, ih, Nat.add_mul]; omega
theorem cl_at (hf : ∀ x, (f x).length = C) (l : List α) {i j : Nat} (hi : i < l.length) (hj : j < C) : (l.flatMap f)[i * C + j]? = (f l[i])[j]? := by
  induction l generalizing i with
  | nil => simp at hi
  | cons a l ih =>
    rw [List.flatMap_cons]
    cases i with
    | zero => rw [List.getElem?_append_left (by rw [hf]; omega)]; simp
    | succ i =>
      rw [List.getElem?_append_right (by rw [hf, Nat.add_mul]; omega), hf]
      rw [show (i + 1) * C + j - C = i * C + j by rw [Nat.add_mul]; omega]
      exact ih (by simpa using hi)
theorem cl_take (hf : ∀ x, (f x).length = C) (l : List α) (k : Nat) : (l.flatMap f).take (k * C) = (l.take k).flatMap f := by
  induction l generalizing k with
  | nil => simp
  | cons a l ih =>
    cases k with
    | zero => simp
    | succ k =>
      rw [List.flatMap_cons, List.take_succ_cons, List.flatMap_cons, ← ih, List.take_append, hf]
      rw [show (k + 1) * C - C = k * C by rw [Nat.add_mul]; omega, List.take_of_length_le (by rw [hf, Nat.add_mul]; omega)]
theorem cl_drop (hf : ∀ x, (f x).length = C) (l : List α) (k : Nat) : (l.flatMap f).drop (k * C) = (l.drop k).flatMap f := by
  induction l generalizing k with
  | nil => simp
  | cons a l ih =>
    cases k with
    | zero => simp
    | succ k =>
      rw [List.flatMap_cons, List.drop_succ_cons, ← ih, List.drop_append, hf]
      rw [show (k + 1) * C - C = k * C by rw [Nat.add_mul]; omega, List.drop_of_length_le (by rw [hf, Nat.add_mul]; omega), List.nil_append]
end

/-- a slice that is read: n elements of C cells -/
def Sl (w : World) (C : Nat) (A : Option Addr) (n : Nat) (xs : List Value) : Prop :=
  xs.length = n * C ∧ n ≤ maxLen ∧ (n = 0 ∨ ∃ g o, A = some ⟨g, o, none⟩ ∧ g < w.heap.size ∧ ∀ j u, xs[j]? = some u → w.cell? ⟨g, o + j, none⟩ = some u)
section
variable {w w' : World} {C n : Nat} {A : Option Addr} {xs : List Value}
theorem Sl.of_own {c : Nat} (h : Own w C A n c xs) : Sl w C A n xs := by
  refine ⟨h.1, Nat.le_trans h.2.1 h.2.2.1, ?_⟩
  rcases Nat.eq_zero_or_pos n with h0 | h0
  · exact .inl h0
  · obtain ⟨g, o, rfl, hl⟩ := h.form h0
    refine .inr ⟨g, o, rfl, hl, fun j u hu => ?_⟩
    obtain ⟨g', o', e, _, hc⟩ := h.at_ hu
    injection e with e
    injection e with e1 e2
    subst e1 e2
    exact hc
theorem Sl.keep (h : Sl w C A n xs) (hs : w.heap.size ≤ w'.heap.size) (hb : ∀ g, blk A = some g → g < w.heap.size → w'.heap[g]? = w.heap[g]?) : Sl w' C A n xs := by
  refine ⟨h.1, h.2.1, ?_⟩
  rcases h.2.2 with h0 | ⟨g, o, rfl, hl, hx⟩
  · exact .inl h0
  · have e := hb g rfl hl
    exact .inr ⟨g, o, rfl, Nat.lt_of_lt_of_le hl hs, fun j u hu => (World.cell?_of_block (w := w) (a := ⟨g, o + j, none⟩) e).trans (hx j u hu)⟩
theorem Sl.mod {F : Nat → Prop} (h : Sl w C A n xs) (hm : Mod F w w') (hF : ∀ g, blk A = some g → ¬ F g) : Sl w' C A n xs := h.keep hm.size fun g e hl => hm.block g hl (hF g e)
theorem Sl.none_ (h : Sl w C A n xs) (hm : Mod (fun _ => False) w w') : Sl w' C A n xs := h.mod hm (by simp)
theorem Sl.below {W : World} (h : Sl W C A n xs) (hb : Below W.heap.size W w') : Sl w' C A n xs := h.keep hb.size fun g _ hl => hb.block g hl
theorem Sl.at_ (h : Sl w C A n xs) (hn : 0 < n) : ∃ g o, A = some ⟨g, o, none⟩ ∧ g < w.heap.size ∧ ∀ j u, xs[j]? = some u → w.cell? ⟨g, o + j, none⟩ = some u := by
  rcases h.2.2 with h0 | h1
  · omega
  · exact h1
theorem Sl.take (h : Sl w C A n xs) {k : Nat} (hk : k ≤ n) : Sl w C A k (xs.take (k * C)) := by
  have hle : k * C ≤ n * C := Nat.mul_le_mul_right _ hk
  refine ⟨by rw [List.length_take, h.1]; omega, by have := h.2.1; omega, ?_⟩
  rcases Nat.eq_zero_or_pos k with h0 | h0
  · exact .inl h0
  · obtain ⟨g, o, rfl, hl, hx⟩ := h.at_ (by omega)
    refine .inr ⟨g, o, rfl, hl, fun j u hu => hx j u ?_⟩
    rw [List.getElem?_take] at hu
    split at hu
    · exact hu
    · cases hu
end

section
variable {P : Program} (w : World)
/-- append of a whole slice, be it empty -/
theorem run_append_Sl (t ty e : TypeId) (i : TypeInfo) (z : Value) (size bytes : Nat) (ht : P.underlying t = some (.slice e)) (hi : P.info? e = some i) (hz : i.zero = some z)
    (hsize : i.size = size) (hby : i.bytes = bytes) (hzs : z.cells.size = size) (hsz : 0 < size)
    (A : Option Addr) (n c : Nat) (xs : List Value) (hown : Own w size A n c xs)
    (B : Option Addr) (m d : Nat) (news : List Value) (hs : Sl w size B m news) (h1 : ∀ u ∈ news, u.oneCell' = true)
    (h63 : n + m ≤ maxLen) (hbytes : (n + m) * bytes ≤ 140737488355328) :
    ∃ A' c' w', (Builtin.append_ #[t, t] ty #[.slice A n c, .slice B m d]).run P w = .ok (.slice A' (n + m) c') w' ∧ Own w' size A' (n + m) c' (xs ++ news) ∧ w.grownBy w' (blk A) ∧ (blk A' = blk A ∨ ∃ g, blk A' = some g ∧ w.heap.size ≤ g) := by
  rcases Nat.eq_zero_or_pos m with rfl | hm
  · have hn : news = [] := List.eq_nil_of_length_eq_zero (by simpa using hs.1)
    subst hn
    refine ⟨A, c, w, ?_, by simpa using hown, ⟨rfl, rfl, rfl, Nat.le_refl _, fun _ _ _ => rfl⟩, .inl rfl⟩
    refine run_append_nothing w t t ty e i ht hi A n c hown.2.1 _ ?_
    cases B with
    | none => exact Src.ofNil w ht d
    | some a => exact Src.ofSlice w ht a 0 d [] (by simp) (by simp) (by simp)
  · obtain ⟨g, o, rfl, hl, hx⟩ := hs.at_ hm
    exact run_append_Own w t ty e i z size bytes ht hi hz hsize hby hzs hsz A n c xs hown ⟨g, o, none⟩ m d news hs.1 (fun j u hu => by rw [Addr.add_lit]; exact hx j u hu) h1 hm h63 hbytes
theorem wpList_append_Sl {ops : Array Oper} {rest : List Oper} {o : Oper} {a : Act} {Q : Exit → Act → World → Prop} (hgd : o.guard = none) (s x : Operand) (t : TypeId)
    (ho : o.op = .call { callee := .builtin .append, args := #[s, x], argTypes := #[t, t] })
    (e : TypeId) (i : TypeInfo) (z : Value) (size bytes : Nat) (ht : P.underlying t = some (.slice e)) (hi : P.info? e = some i) (hz : i.zero = some z)
    (hsize : i.size = size) (hby : i.bytes = bytes) (hzs : z.cells.size = size) (hsz : 0 < size)
    (A : Option Addr) (n c : Nat) (xs : List Value) (hs : a.eval s = .slice A n c) (hown : Own w size A n c xs)
    (B : Option Addr) (m d : Nat) (news : List Value) (hx : a.eval x = .slice B m d) (hsl : Sl w size B m news) (h1 : ∀ u ∈ news, u.oneCell' = true)
    (h63 : n + m ≤ maxLen) (hbytes : (n + m) * bytes ≤ 140737488355328)
    (h : ∀ A' c' w', Own w' size A' (n + m) c' (xs ++ news) → w.grownBy w' (blk A) → (blk A' = blk A ∨ ∃ g, blk A' = some g ∧ w.heap.size ≤ g) → wpList P ops Q rest (a.put o.dst (.slice A' (n + m) c')) w') : wpList P ops Q (o :: rest) a w :=
  wpList_plain hgd fun _ hK => by
    obtain ⟨A', c', w', hrun, h2, h3, h4⟩ := run_append_Sl (P := P) w t o.type e i z size bytes ht hi hz hsize hby hzs hsz A n c xs hown B m d news hsl h1 h63 hbytes
    unfold Oper.wp execOp
    simp only [ho, resolve, invoke, builtin, Sem.run_bind, Sem.run_pure, Result.andThen_ok, List.map_toArray, List.map_cons, List.map_nil, hs, hx, hrun]
    exact hK _ _ (h A' c' w' h2 h3 h4)
end

theorem own_new (w : World) (cs : Array Value) (t : TypeId) (C n : Nat) (hn : cs.size = n * C) (hm : n ≤ maxLen) : Own (w.alloc (.cells cs t)) C (some ⟨w.heap.size, 0, none⟩) n n cs.toList := by
  refine ⟨by simpa using hn, Nat.le_refl _, hm, .inr ⟨_, 0, rfl, by simp, fun j hj => ?_, fun j u hu => ?_⟩⟩
  · rw [World.cell?_alloc_at _ _ _ _ rfl, World.frozen?_alloc_at _ _ _ _ rfl]
    simp [show j < cs.size by omega]
  · rw [World.cell?_alloc_at _ _ _ _ rfl, Nat.zero_add]
    simpa using hu
theorem news2 (w : World) (o : Obj) (cs : Array Value) (t : TypeId) : ∀ j u, cs.toList[j]? = some u → ((w.alloc o).alloc (.cells cs t)).cell? ((⟨w.heap.size + 1, 0, none⟩ : Addr).add j) = some u := by
  have h := World.news_of_block (heap_alloc_new (w.alloc o) (.cells cs t))
  rwa [show (w.alloc o).heap.size = w.heap.size + 1 by simp] at h

/-- returned v; nothing has turned -/
def Only (w : World) (v : Value) (e : Ending) (w' : World) : Prop := e = .returned v ∧ Mod (fun _ => False) w w'
theorem Only.trans {w w1 w2 : World} {v v' : Value} {e e' : Ending} (h : Only w v e w1) (k : Only w1 v' e' w2) : Only w v' e' w2 := ⟨k.1, h.2.trans k.2 (by simp)⟩
end Go.Proofs.Ytnfhmflcaolbbaa
