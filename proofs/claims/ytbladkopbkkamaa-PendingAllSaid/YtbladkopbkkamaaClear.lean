/- clear of a slice's tail; a store of a whole element into a slice that the program keeps. -/
import Derived.Test.YtbladkopbkkamaaOwn
import Derived.Lib.SliceRun
import Derived.Laws.IdiomCopy
namespace Go.Proofs.Ytbladkopbkkamaa
open Go.RowKit
set_option linter.unusedVariables false
set_option linter.unusedSimpArgs false

theorem heap_setCells (g : Nat) : ∀ (vs : List Value) (o : Nat) (w : World), (w.setCells g o vs).heap.size = w.heap.size ∧ (w.setCells g o vs).os = w.os ∧ (w.setCells g o vs).tape = w.tape ∧ (w.setCells g o vs).output = w.output ∧ ∀ k, k ≠ g → (w.setCells g o vs).heap[k]? = w.heap[k]?
  | [], _, _ => ⟨rfl, rfl, rfl, rfl, fun _ _ => rfl⟩
  | v :: r, o, w => by
    obtain ⟨h1, h2, h3, h4, h5⟩ := heap_setCells g r (o + 1) (w.setCell ⟨g, o, none⟩ v)
    rw [World.setCells]
    refine ⟨h1.trans (by simp [World.setCell]), h2, h3, h4, fun k hk => (h5 k hk).trans (Below.heap_setCell _ _ _ _ hk)⟩
theorem grown_setCells (w : World) (g o : Nat) (vs : List Value) : w.grownBy (w.setCells g o vs) (some g) := by
  obtain ⟨h1, h2, h3, h4, h5⟩ := heap_setCells g vs o w
  exact ⟨h2, h3, h4, by rw [h1]; exact Nat.le_refl _, fun k hk hne => h5 k (fun e => hne (by rw [e]))⟩

section
variable {w : World} {size g o n c : Nat} {xs : List Value}
/-- a run of cells is written inside the slice's room -/
theorem Own.puts (h : Own w size (some ⟨g, o, none⟩) n c xs) {k : Nat} (vs : List Value) (hk : k + vs.length ≤ c * size) : ∃ ys, Own (w.setCells g (o + k) vs) size (some ⟨g, o, none⟩) n c ys ∧ (∀ j, j < n * size → ys[j]? = if k ≤ j ∧ j < k + vs.length then vs[j - k]? else xs[j]?) := by
  obtain ⟨h1, h2, h3, h4⟩ := h
  have hle : n * size ≤ c * size := Nat.mul_le_mul_right _ h2
  rcases h4 with ⟨h5, _⟩ | ⟨g', o', e, hl, hr, hx⟩
  · cases h5
  · injection e with e
    injection e with e1 e2
    subst e1 e2
    have hsome : ∀ q, q < vs.length → (w.cell? ⟨g, o + k + q, none⟩).isSome = true := fun q hq => by rw [Nat.add_assoc]; exact (hr (k + q) (by omega)).1
    let f := fun j => if k ≤ j ∧ j < k + vs.length then vs[j - k]? else xs[j]?
    have hf : ∀ j, j < n * size → ∃ v, f j = some v := fun j hj => by
      show ∃ v, (if k ≤ j ∧ j < k + vs.length then vs[j - k]? else xs[j]?) = some v
      split
      · exact ⟨_, List.getElem?_eq_getElem (by omega)⟩
      · exact ⟨_, List.getElem?_eq_getElem (by omega)⟩
    refine ⟨(List.range (n * size)).map fun j => (f j).getD undef, ⟨by simp, h2, h3, .inr ⟨g, o, rfl, by rw [(heap_setCells g vs _ w).1]; exact hl, fun j hj => ⟨?_, by rw [World.frozen?_setCells]; exact (hr j hj).2⟩, fun j u hu => ?_⟩⟩, fun j hj => ?_⟩
    · by_cases e : k ≤ j ∧ j < k + vs.length
      · have := World.cell?_setCells_in g vs (o + k) w hsome (j - k) (by omega)
        rw [show o + k + (j - k) = o + j by omega] at this
        rw [this]; rfl
      · rw [World.cell?_setCells_out g vs _ w _ (fun _ _ => by show o + j < _ ∨ _ ≤ o + j; omega)]; exact (hr j hj).1
    · have hj : j < n * size := by
        have := (List.getElem?_eq_some_iff.1 hu).1
        simpa using this
      obtain ⟨v, hv⟩ := hf j hj
      have hu2 : u = v := by
        simp [hj, hv] at hu
        exact hu.symm
      subst hu2
      have hv2 : (if k ≤ j ∧ j < k + vs.length then vs[j - k]? else xs[j]?) = some u := hv
      by_cases e : k ≤ j ∧ j < k + vs.length
      · have := World.cell?_setCells_in g vs (o + k) w hsome (j - k) (by omega)
        rw [show o + k + (j - k) = o + j by omega] at this
        rw [this]
        rw [if_pos e, List.getElem?_eq_getElem (by omega)] at hv2
        exact hv2
      · rw [World.cell?_setCells_out g vs _ w _ (fun _ _ => by show o + j < _ ∨ _ ≤ o + j; omega)]
        rw [if_neg e] at hv2
        exact hx j u hv2
    · obtain ⟨v, hv⟩ := hf j hj
      have hv2 : (if k ≤ j ∧ j < k + vs.length then vs[j - k]? else xs[j]?) = some v := hv
      rw [hv2]
      simp [hj, hv]

variable {P : Program}
theorem run_clear_Own (t e ty : TypeId) (z : Value) (ht : P.underlying t = some (.slice e)) (hv : ∀ w, (zeroValue e).run P w = .ok z w) (hzs : z.cells.size = size) (hz1 : ∀ v ∈ z.cells, v.oneCell' = true) (hsz : 0 < size)
    (h : Own w size (some ⟨g, o, none⟩) n c xs) {k : Nat} (hk : k < n) (d : Nat) :
    ∃ w', (Builtin.clear_ #[t] ty #[.slice (some ⟨g, o + k * size, none⟩) (n - k) d]).run P w = .ok (.tuple #[]) w' ∧ Own w' size (some ⟨g, o, none⟩) k c (xs.take (k * size)) ∧ w.grownBy w' (some g) := by
  have hle : n * size ≤ c * size := Nat.mul_le_mul_right _ h.2.1
  have hkn : k * size + (n - k) * size = n * size := by rw [← Nat.add_mul]; congr 1; omega
  have hlen : (Builtin.zeroCells z.cells (n - k)).toList.length = (n - k) * size := by simp [Builtin.zeroCells, hzs]
  have hone : ∀ v ∈ (Builtin.zeroCells z.cells (n - k)).toList, v.oneCell' = true := fun v hv' => by
    simp [Builtin.zeroCells] at hv'
    obtain ⟨j, hj, rfl⟩ := hv'
    have hlt : j % z.cells.size < z.cells.size := Nat.mod_lt _ (by omega)
    rw [show z.cells[j % z.cells.size]! = z.cells[j % z.cells.size]'hlt from getElem!_pos z.cells _ hlt]
    exact hz1 _ (Array.getElem_mem hlt)
  generalize hvs : (Builtin.zeroCells z.cells (n - k)).toList = vs at *
  have hroom : ∀ j, j < c * size → (w.cell? ⟨g, o + j, none⟩).isSome = true ∧ w.frozen? ⟨g, o + j, none⟩ = false := by
    rcases h.2.2.2 with ⟨h5, _⟩ | ⟨g', o', e, hl, hr, hx⟩
    · cases h5
    · injection e with e
      injection e with e1 e2
      subst e1 e2
      exact hr
  have hst := run_storeCells_cells (P := P) g (o + k * size) vs 0 w (fun j hj => by rw [Nat.add_zero, Nat.add_assoc]; exact (hroom _ (by omega)).1) (fun j hj => by rw [Nat.add_zero, Nat.add_assoc]; exact (hroom _ (by omega)).2) hone
  simp only [Nat.add_zero] at hst
  obtain ⟨ys, hy1, hy2⟩ := h.puts (k := k * size) vs (by omega)
  refine ⟨w.setCells g (o + k * size) vs, ?_, ?_, grown_setCells w g _ vs⟩
  · obtain ⟨m, hm⟩ : ∃ m, n - k = m + 1 := ⟨n - k - 1, by omega⟩
    rw [hm] at hvs ⊢
    simp [Builtin.clear_, run_underlying ht, hv, hvs, hst]
  · have := hy1.take (Nat.le_of_lt hk)
    have e : ys.take (k * size) = xs.take (k * size) := by
      apply List.ext_getElem?
      intro j
      rw [List.getElem?_take, List.getElem?_take]
      split
      · rw [hy2 j (by omega), if_neg (by omega)]
      · rfl
    rwa [e] at this
theorem wpList_clear_Own {ops : Array Oper} {rest : List Oper} {oo : Oper} {a : Act} {Q : Exit → Act → World → Prop} (hgd : oo.guard = none) (s : Operand) (t e : TypeId)
    (ho : oo.op = .call { callee := .builtin .clear, args := #[s], argTypes := #[t] }) (z : Value) (ht : P.underlying t = some (.slice e)) (hv : ∀ w, (zeroValue e).run P w = .ok z w) (hzs : z.cells.size = size) (hz1 : ∀ v ∈ z.cells, v.oneCell' = true) (hsz : 0 < size)
    (h : Own w size (some ⟨g, o, none⟩) n c xs) (k : Nat) (hk : k < n) (d : Nat) (hs : a.eval s = .slice (some ⟨g, o + k * size, none⟩) (n - k) d)
    (hK : ∀ w', Own w' size (some ⟨g, o, none⟩) k c (xs.take (k * size)) → w.grownBy w' (some g) → wpList P ops Q rest (a.put oo.dst (.tuple #[])) w') : wpList P ops Q (oo :: rest) a w :=
  wpList_plain hgd fun _ hK' => by
    obtain ⟨w', hrun, h2, h3⟩ := run_clear_Own (P := P) t e oo.type z ht hv hzs hz1 hsz h hk d
    unfold Oper.wp execOp
    simp only [ho, resolve, invoke, builtin, Sem.run_bind, Sem.run_pure, Result.andThen_ok, List.map_toArray, List.map_cons, List.map_nil, hs, hrun]
    exact hK' _ _ (hK w' h2 h3)
end
end Go.Proofs.Ytbladkopbkkamaa
