/- Words for a slice that the program itself keeps, at whatever place of its block (it may have been cut at its head), and append onto it. -/
import Derived.Test.YtbladkopbkkamaaBase
import Derived.ArgAppend
import Derived.Deep.RegionLaw
import Derived.Deep.AppendLies
import Derived.Deep.RegionHeld3
import Derived.Deep.DrawnRows
import Derived.Laws.NewBlocks
namespace Go.Proofs.Ytbladkopbkkamaa
open Go.RowKit
set_option linter.unusedVariables false
set_option linter.unusedSimpArgs false

/-- the slice (A, n, c) of elements of 'size' cells holds the cells xs; its room may be written -/
def Own (w : World) (size : Nat) (A : Option Addr) (n c : Nat) (xs : List Value) : Prop :=
  xs.length = n * size ∧ n ≤ c ∧ c ≤ maxLen ∧
  ((A = none ∧ c = 0) ∨ ∃ g o, A = some ⟨g, o, none⟩ ∧ g < w.heap.size ∧
    (∀ j, j < c * size → (w.cell? ⟨g, o + j, none⟩).isSome = true ∧ w.frozen? ⟨g, o + j, none⟩ = false) ∧ ∀ j u, xs[j]? = some u → w.cell? ⟨g, o + j, none⟩ = some u)

def blk (A : Option Addr) : Option Nat := A.map (·.block)

section
variable {w w' : World} {size n c : Nat} {A : Option Addr} {xs : List Value}

theorem Own.nil (w : World) (size : Nat) : Own w size none 0 0 [] := ⟨by simp, Nat.le_refl _, Nat.zero_le _, .inl ⟨rfl, rfl⟩⟩
theorem Own.len (h : Own w size A n c xs) : xs.length = n * size := h.1
theorem Own.lt (h : Own w size A n c xs) {g : Nat} (hg : blk A = some g) : g < w.heap.size := by
  rcases h.2.2.2 with ⟨rfl, _⟩ | ⟨g', o, rfl, hl, _⟩
  · cases hg
  · injection hg with hg; subst hg; exact hl
theorem Own.keep (h : Own w size A n c xs) (hs : w.heap.size ≤ w'.heap.size) (hb : ∀ g, blk A = some g → w'.heap[g]? = w.heap[g]?) : Own w' size A n c xs := by
  refine ⟨h.1, h.2.1, h.2.2.1, ?_⟩
  rcases h.2.2.2 with h0 | ⟨g, o, rfl, hl, hr, hx⟩
  · exact .inl h0
  · have e := hb g rfl
    exact .inr ⟨g, o, rfl, Nat.lt_of_lt_of_le hl hs, fun j hj => ⟨by rw [World.cell?_of_block (w := w) (a := ⟨g, o + j, none⟩) e]; exact (hr j hj).1, by rw [World.frozen?_of_block (w := w) (a := ⟨g, o + j, none⟩) e]; exact (hr j hj).2⟩,
      fun j u hu => by rw [World.cell?_of_block (w := w) (a := ⟨g, o + j, none⟩) e]; exact hx j u hu⟩
theorem Own.grown (h : Own w size A n c xs) {row : Option Nat} (hg : w.grownBy w' row) (hne : ∀ g, blk A = some g → row ≠ some g) : Own w' size A n c xs :=
  h.keep hg.size fun g e => hg.block g (h.lt e) (fun e' => hne g e e'.symm)
theorem Own.below (h : Own w size A n c xs) {B : Nat} (hb : Below B w w') (hlt : ∀ g, blk A = some g → g < B) : Own w' size A n c xs :=
  h.keep hb.size fun g e => hb.block g (hlt g e)
theorem Own.drewN (h : Own w size A n c xs) (k : Nat) : Own (w.drewN k) size A n c xs := h
theorem Own.drew (h : Own w size A n c xs) : Own w.drew size A n c xs := h
theorem Own.alloc (h : Own w size A n c xs) (o : Obj) : Own (w.alloc o) size A n c xs := h.keep (by simp) fun g e => Below.heap_alloc _ _ _ (h.lt e)
theorem Own.far (h : Own w size A n c xs) {p : Addr} (hp : blk A ≠ some p.block) (u : Value) : Own (w.setCell p u) size A n c xs :=
  h.keep (by simp [World.setCell]) fun g e => Below.heap_setCell _ _ _ _ (fun e' => hp (by rw [e, e']))
/-- the cell number j -/
theorem Own.at_ (h : Own w size A n c xs) {j : Nat} {u : Value} (hu : xs[j]? = some u) : ∃ g o, A = some ⟨g, o, none⟩ ∧ g < w.heap.size ∧ w.cell? ⟨g, o + j, none⟩ = some u := by
  rcases h.2.2.2 with ⟨rfl, rfl⟩ | ⟨g, o, rfl, hl, _, hx⟩
  · have : xs.length = 0 := by have h1 := h.1; have h2 := h.2.1; simp [show n = 0 by omega] at h1; simp [h1]
    have := (List.getElem?_eq_some_iff.1 hu).1
    omega
  · exact ⟨g, o, rfl, hl, hx j u hu⟩
theorem Own.form (h : Own w size A n c xs) (hn : 0 < n) : ∃ g o, A = some ⟨g, o, none⟩ ∧ g < w.heap.size := by
  rcases h.2.2.2 with ⟨rfl, rfl⟩ | ⟨g, o, rfl, hl, _⟩
  · have := h.2.1; omega
  · exact ⟨g, o, rfl, hl⟩
/-- a cut at the head -/
theorem Own.cut (h : Own w size A n c xs) {k : Nat} (hk : k ≤ n) : Own w size (if c = k then A else A.map (·.add (k * size))) (n - k) (c - k) (xs.drop (k * size)) := by
  obtain ⟨h1, h2, h3, h4⟩ := h
  refine ⟨by rw [List.length_drop, h1, Nat.sub_mul], by omega, by omega, ?_⟩
  rcases h4 with ⟨rfl, rfl⟩ | ⟨g, o, rfl, hl, hr, hx⟩
  · exact .inl ⟨by split <;> rfl, by omega⟩
  · by_cases e : c = k
    · subst e
      rw [if_pos rfl]
      obtain rfl : n = c := by omega
      refine .inr ⟨g, o, rfl, hl, fun j hj => absurd hj (by simp), fun j u hu => ?_⟩
      have hlt := (List.getElem?_eq_some_iff.1 hu).1
      rw [List.length_drop, h1] at hlt
      omega
    · rw [if_neg e]
      refine .inr ⟨g, o + k * size, by simp [Addr.add_lit], hl, fun j hj => ?_, fun j u hu => ?_⟩
      · have hj' : k * size + j < c * size := by
          have : (c - k) * size = c * size - k * size := Nat.sub_mul ..
          omega
        have := hr (k * size + j) hj'
        rwa [← Nat.add_assoc] at this
      · have := hx (k * size + j) u (by rw [← hu, List.getElem?_drop])
        rwa [← Nat.add_assoc] at this
theorem blk_cut (A : Option Addr) (c k s : Nat) : blk (if c = k then A else A.map (·.add (k * s))) = blk A := by
  split
  · rfl
  · cases A with
    | none => rfl
    | some a => simp [blk, Addr.add]; split <;> rfl
/-- a cut at the end -/
theorem Own.take (h : Own w size A n c xs) {k : Nat} (hk : k ≤ n) : Own w size A k c (xs.take (k * size)) := by
  obtain ⟨h1, h2, h3, h4⟩ := h
  have hle : k * size ≤ n * size := Nat.mul_le_mul_right _ hk
  refine ⟨by rw [List.length_take, h1]; omega, by omega, h3, ?_⟩
  rcases h4 with h0 | ⟨g, o, rfl, hl, hr, hx⟩
  · exact .inl h0
  · refine .inr ⟨g, o, rfl, hl, hr, fun j u hu => hx j u ?_⟩
    rw [List.getElem?_take] at hu
    split at hu
    · exact hu
    · cases hu
theorem Own.of_row {base e : Nat} {v : Value} (h : w.ownsRow base e size v n xs) : ∃ A c, v = .slice A n c ∧ Own w size A n c xs ∧ (∀ g, blk A = some g → base ≤ g) := by
  obtain ⟨h1, h2⟩ := h
  rcases h2 with ⟨rfl, rfl⟩ | ⟨g, cap, cur, rfl, hg, hh, hn, hm, hs, ht⟩
  · refine ⟨none, 0, rfl, ?_, fun g e => by cases e⟩
    have : xs = [] := List.eq_nil_of_length_eq_zero (by simpa using h1)
    subst this
    exact Own.nil w size
  · refine ⟨_, _, rfl, ⟨h1, hn, hm, .inr ⟨g, 0, rfl, ?_, fun j hj => ?_, fun j u hu => ?_⟩⟩, fun g' e => by injection e with e; subst e; exact hg⟩
    · rcases Nat.lt_or_ge g w.heap.size with hlt | hge
      · exact hlt
      · rw [Array.getElem?_eq_none hge] at hh; cases hh
    · have e1 : w.cell? ⟨g, 0 + j, none⟩ = cur[0 + j]? := cell_of_row w g (0 + j) cur e (0, 0) hh
      rw [e1]
      refine ⟨by simp [show j < cur.size by omega], by simp [World.frozen?, hh]⟩
    · have e1 : w.cell? ⟨g, 0 + j, none⟩ = cur[0 + j]? := cell_of_row w g (0 + j) cur e (0, 0) hh
      rw [e1]
      rw [← ht] at hu
      rw [List.getElem?_take] at hu
      split at hu
      · simpa using hu
      · cases hu
end

section
variable {P : Program} (w : World)
/-- append: in place where there is room, else into a new block -/
theorem run_append_Own (t ty e : TypeId) (i : TypeInfo) (z : Value) (size bytes : Nat) (ht : P.underlying t = some (.slice e)) (hi : P.info? e = some i) (hz : i.zero = some z)
    (hsize : i.size = size) (hby : i.bytes = bytes) (hzs : z.cells.size = size) (hsz : 0 < size)
    (A : Option Addr) (n c : Nat) (xs : List Value) (hown : Own w size A n c xs)
    (ad : Addr) (m d : Nat) (news : List Value) (hl : news.length = m * size) (hnews : ∀ j u, news[j]? = some u → w.cell? (ad.add j) = some u) (h1 : ∀ u ∈ news, u.oneCell' = true)
    (hm : 0 < m) (h63 : n + m ≤ maxLen) (hbytes : (n + m) * bytes ≤ 140737488355328) :
    ∃ A' c' w', (Builtin.append_ #[t, t] ty #[.slice A n c, .slice (some ad) m d]).run P w = .ok (.slice A' (n + m) c') w' ∧ Own w' size A' (n + m) c' (xs ++ news) ∧ w.grownBy w' (blk A) ∧ (blk A' = blk A ∨ ∃ g, blk A' = some g ∧ w.heap.size ≤ g) := by
  obtain ⟨hlo, hnc, hcm, hA⟩ := hown
  by_cases hr : n + m ≤ c
  · rcases hA with ⟨rfl, rfl⟩ | ⟨g, o, rfl, hg, hroom, hx⟩
    · exact absurd hr (by omega)
    · subst hsize
      have hbd : ∀ j, j < news.length → n * i.size + j < c * i.size := fun j hj => by
        have : (n + m) * i.size ≤ c * i.size := Nat.mul_le_mul_right _ hr
        rw [Nat.add_mul] at this; omega
      have hrun := run_append_room_cells (P := P) w t ty e i ht hi g o n c ad m d news hl hnews h1 hr
        (fun j hj => by have := (hroom (n * i.size + j) (hbd j hj)).1; rwa [← Nat.add_assoc] at this)
        (fun j hj => by have := (hroom (n * i.size + j) (hbd j hj)).2; rwa [← Nat.add_assoc] at this)
      have hsome : ∀ j, j < news.length → (w.cell? ⟨g, o + n * i.size + j, none⟩).isSome = true := fun j hj => by have := (hroom (n * i.size + j) (hbd j hj)).1; rwa [← Nat.add_assoc] at this
      have hheap : ∀ (vs : List Value) (o : Nat) (w : World) (k : Nat), k ≠ g → (w.setCells g o vs).heap[k]? = w.heap[k]? ∧ (w.setCells g o vs).heap.size = w.heap.size ∧ (w.setCells g o vs).os = w.os ∧ (w.setCells g o vs).tape = w.tape ∧ (w.setCells g o vs).output = w.output := by
        intro vs
        induction vs with
        | nil => intro o w k _; exact ⟨rfl, rfl, rfl, rfl, rfl⟩
        | cons v vs ih =>
          intro o w k hk
          obtain ⟨a1, a2, a3, a4, a5⟩ := ih (o + 1) (w.setCell ⟨g, o, none⟩ v) k hk
          exact ⟨a1.trans (Below.heap_setCell _ _ _ _ hk), a2.trans (by simp [World.setCell]), a3, a4, a5⟩
      refine ⟨_, _, _, hrun, ⟨by rw [List.length_append, hlo, hl, Nat.add_mul], hr, hcm, .inr ⟨g, o, rfl, ?_, fun j hj => ⟨?_, ?_⟩, fun j u hu => ?_⟩⟩, ?_, .inl rfl⟩
      · rw [(hheap news (o + n * i.size) w (g + 1) (by omega)).2.1]; exact hg
      · by_cases hin : n * i.size ≤ j ∧ j < n * i.size + news.length
        · obtain ⟨q, rfl⟩ : ∃ q, j = n * i.size + q := ⟨j - n * i.size, by omega⟩
          rw [← Nat.add_assoc, World.cell?_setCells_in g news _ w hsome q (by omega)]; rfl
        · rw [World.cell?_setCells_out g news _ w _ (fun _ _ => by show o + j < _ ∨ _ ≤ o + j; omega)]; exact (hroom j hj).1
      · rw [World.frozen?_setCells]; exact (hroom j hj).2
      · rw [List.getElem?_append] at hu
        split at hu
        · rename_i hlt
          rw [World.cell?_setCells_out g news _ w _ (fun _ _ => by show o + j < _ ∨ _ ≤ o + j; omega)]; exact hx j u hu
        · rename_i hge
          have hj := (List.getElem?_eq_some_iff.1 hu).1
          have hj2 := (List.getElem?_eq_some_iff.1 hu).2
          have := World.cell?_setCells_in g news (o + n * i.size) w hsome (j - xs.length) hj
          rw [show o + n * i.size + (j - xs.length) = o + j by omega] at this
          rw [this, hj2]
      · obtain ⟨-, b2, b3, b4, b5⟩ := hheap news (o + n * i.size) w (g + 1) (by omega)
        exact ⟨b3, b4, b5, by rw [b2]; exact Nat.le_refl _, fun k _ hne => (hheap news (o + n * i.size) w k (fun e => hne (by rw [e]; rfl))).1⟩
  · rcases hA with ⟨rfl, rfl⟩ | ⟨g, o, rfl, hg, hroom, hx⟩
    · obtain rfl : n = 0 := by omega
      have hxs : xs = [] := List.eq_nil_of_length_eq_zero (by simpa using hlo)
      subst hxs
      obtain ⟨v', w', hrun, r1, r2, _⟩ := run_append_own (P := P) w w.heap.size t ty e i z size bytes ht hi hz hsize hby hzs hsz (.slice none 0 0) 0 [] (World.ownsRow_nil w _ e size) ad m d news hl hnews h1 h63 hbytes (Nat.le_refl _)
      obtain ⟨A', c', rfl, ho, hb⟩ := Own.of_row r1
      obtain ⟨g, o, rfl, hl⟩ := ho.form (by omega)
      exact ⟨_, c', w', hrun, ho, r2, .inr ⟨g, rfl, hb g rfl⟩⟩
    · obtain ⟨v', w', hrun, r1, r2⟩ := run_append_arg_grows (P := P) w t ty e i z size bytes ht hi hz hsize hby hzs hsz ⟨g, o, none⟩ n c xs hlo (fun j u hj => by rw [Addr.add_lit]; exact hx j u hj) ad m d news hl hnews (by omega) h63 hbytes
      obtain ⟨A', c', rfl, ho, hb⟩ := Own.of_row r1
      obtain ⟨g', o', rfl, hl'⟩ := ho.form (by omega)
      exact ⟨_, c', w', hrun, ho, ⟨r2.os, r2.tape, r2.output, r2.size, fun k hk _ => r2.block k hk (by simp)⟩, .inr ⟨g', rfl, hb g' rfl⟩⟩

/-- append where there is no room: the old block is as it was -/
theorem run_append_Grow (t ty e : TypeId) (i : TypeInfo) (z : Value) (size bytes : Nat) (ht : P.underlying t = some (.slice e)) (hi : P.info? e = some i) (hz : i.zero = some z)
    (hsize : i.size = size) (hby : i.bytes = bytes) (hzs : z.cells.size = size) (hsz : 0 < size)
    (A : Option Addr) (n c : Nat) (xs : List Value) (hown : Own w size A n c xs)
    (ad : Addr) (m d : Nat) (news : List Value) (hl : news.length = m * size) (hnews : ∀ j u, news[j]? = some u → w.cell? (ad.add j) = some u) (h1 : ∀ u ∈ news, u.oneCell' = true)
    (hm : 0 < m) (hfull : c < n + m) (h63 : n + m ≤ maxLen) (hbytes : (n + m) * bytes ≤ 140737488355328) :
    ∃ A' c' w', (Builtin.append_ #[t, t] ty #[.slice A n c, .slice (some ad) m d]).run P w = .ok (.slice A' (n + m) c') w' ∧ Own w' size A' (n + m) c' (xs ++ news) ∧ w.grownBy w' none ∧ (∃ g, blk A' = some g ∧ w.heap.size ≤ g) := by
  obtain ⟨hlo, hnc, hcm, hA⟩ := hown
  rcases hA with ⟨rfl, rfl⟩ | ⟨g, o, rfl, hg, hroom, hx⟩
  · obtain rfl : n = 0 := by omega
    have hxs : xs = [] := List.eq_nil_of_length_eq_zero (by simpa using hlo)
    subst hxs
    obtain ⟨v', w', hrun, r1, r2, _⟩ := run_append_own (P := P) w w.heap.size t ty e i z size bytes ht hi hz hsize hby hzs hsz (.slice none 0 0) 0 [] (World.ownsRow_nil w _ e size) ad m d news hl hnews h1 h63 hbytes (Nat.le_refl _)
    obtain ⟨A', c', rfl, ho, hb⟩ := Own.of_row r1
    obtain ⟨g, o, rfl, hl⟩ := ho.form (by omega)
    exact ⟨_, c', w', hrun, ho, r2, g, rfl, hb g rfl⟩
  · obtain ⟨v', w', hrun, r1, r2⟩ := run_append_arg_grows (P := P) w t ty e i z size bytes ht hi hz hsize hby hzs hsz ⟨g, o, none⟩ n c xs hlo (fun j u hj => by rw [Addr.add_lit]; exact hx j u hj) ad m d news hl hnews (by omega) h63 hbytes
    obtain ⟨A', c', rfl, ho, hb⟩ := Own.of_row r1
    obtain ⟨g', o', rfl, hl'⟩ := ho.form (by omega)
    exact ⟨_, c', w', hrun, ho, r2, g', rfl, hb g' rfl⟩

theorem wpList_append_Grow_g {ops : Array Oper} {rest : List Oper} {o : Oper} {a : Act} {Q : Exit → Act → World → Prop} (hgd : Region.wanted o (yielded ops a.tmps) = true) (s x : Operand) (t : TypeId)
    (ho : o.op = .call { callee := .builtin .append, args := #[s, x], argTypes := #[t, t] })
    (e : TypeId) (i : TypeInfo) (z : Value) (size bytes : Nat) (ht : P.underlying t = some (.slice e)) (hi : P.info? e = some i) (hz : i.zero = some z)
    (hsize : i.size = size) (hby : i.bytes = bytes) (hzs : z.cells.size = size) (hsz : 0 < size)
    (A : Option Addr) (n c : Nat) (xs : List Value) (hs : a.eval s = .slice A n c) (hown : Own w size A n c xs)
    (ad : Addr) (m d : Nat) (news : List Value) (hx : a.eval x = .slice (some ad) m d) (hl : news.length = m * size) (hnews : ∀ j u, news[j]? = some u → w.cell? (ad.add j) = some u) (h1 : ∀ u ∈ news, u.oneCell' = true)
    (hm : 0 < m) (hfull : c < n + m) (h63 : n + m ≤ maxLen) (hbytes : (n + m) * bytes ≤ 140737488355328)
    (h : ∀ A' c' w', Own w' size A' (n + m) c' (xs ++ news) → w.grownBy w' none → (∃ g, blk A' = some g ∧ w.heap.size ≤ g) → wpList P ops Q rest (a.put o.dst (.slice A' (n + m) c')) w') : wpList P ops Q (o :: rest) a w :=
  BigFrame.wpList_want hgd fun _ hK => by
    obtain ⟨A', c', w', hrun, h2, h3, h4⟩ := run_append_Grow (P := P) w t o.type e i z size bytes ht hi hz hsize hby hzs hsz A n c xs hown ad m d news hl hnews h1 hm hfull h63 hbytes
    unfold Oper.wp execOp
    simp only [ho, resolve, invoke, builtin, Sem.run_bind, Sem.run_pure, Result.andThen_ok, List.map_toArray, List.map_cons, List.map_nil, hs, hx, hrun]
    exact hK _ _ (h A' c' w' h2 h3 h4)

theorem wp_append_Own {o : Oper} {a : Act} {K : Act → World → Prop} {Q : Exit → Act → World → Prop} (s x : Operand) (t : TypeId)
    (ho : o.op = .call { callee := .builtin .append, args := #[s, x], argTypes := #[t, t] })
    (e : TypeId) (i : TypeInfo) (z : Value) (size bytes : Nat) (ht : P.underlying t = some (.slice e)) (hi : P.info? e = some i) (hz : i.zero = some z)
    (hsize : i.size = size) (hby : i.bytes = bytes) (hzs : z.cells.size = size) (hsz : 0 < size)
    (A : Option Addr) (n c : Nat) (xs : List Value) (hs : a.eval s = .slice A n c) (hown : Own w size A n c xs)
    (ad : Addr) (m d : Nat) (news : List Value) (hx : a.eval x = .slice (some ad) m d) (hl : news.length = m * size) (hnews : ∀ j u, news[j]? = some u → w.cell? (ad.add j) = some u) (h1 : ∀ u ∈ news, u.oneCell' = true)
    (hm : 0 < m) (h63 : n + m ≤ maxLen) (hbytes : (n + m) * bytes ≤ 140737488355328)
    (h : ∀ A' c' w', Own w' size A' (n + m) c' (xs ++ news) → w.grownBy w' (blk A) → (blk A' = blk A ∨ ∃ g, blk A' = some g ∧ w.heap.size ≤ g) → K (a.put o.dst (.slice A' (n + m) c')) w') : o.wp P a w K Q := by
  obtain ⟨A', c', w', hrun, h2, h3, h4⟩ := run_append_Own (P := P) w t o.type e i z size bytes ht hi hz hsize hby hzs hsz A n c xs hown ad m d news hl hnews h1 hm h63 hbytes
  unfold Oper.wp execOp
  simp only [ho, resolve, invoke, builtin, Sem.run_bind, Sem.run_pure, Result.andThen_ok, List.map_toArray, List.map_cons, List.map_nil, hs, hx, hrun]
  exact h A' c' w' h2 h3 h4

theorem wpList_append_Own {ops : Array Oper} {rest : List Oper} {o : Oper} {a : Act} {Q : Exit → Act → World → Prop} (hgd : o.guard = none) (s x : Operand) (t : TypeId)
    (ho : o.op = .call { callee := .builtin .append, args := #[s, x], argTypes := #[t, t] })
    (e : TypeId) (i : TypeInfo) (z : Value) (size bytes : Nat) (ht : P.underlying t = some (.slice e)) (hi : P.info? e = some i) (hz : i.zero = some z)
    (hsize : i.size = size) (hby : i.bytes = bytes) (hzs : z.cells.size = size) (hsz : 0 < size)
    (A : Option Addr) (n c : Nat) (xs : List Value) (hs : a.eval s = .slice A n c) (hown : Own w size A n c xs)
    (ad : Addr) (m d : Nat) (news : List Value) (hx : a.eval x = .slice (some ad) m d) (hl : news.length = m * size) (hnews : ∀ j u, news[j]? = some u → w.cell? (ad.add j) = some u) (h1 : ∀ u ∈ news, u.oneCell' = true)
    (hm : 0 < m) (h63 : n + m ≤ maxLen) (hbytes : (n + m) * bytes ≤ 140737488355328)
    (h : ∀ A' c' w', Own w' size A' (n + m) c' (xs ++ news) → w.grownBy w' (blk A) → (blk A' = blk A ∨ ∃ g, blk A' = some g ∧ w.heap.size ≤ g) → wpList P ops Q rest (a.put o.dst (.slice A' (n + m) c')) w') : wpList P ops Q (o :: rest) a w :=
  wpList_plain hgd fun _ hK => wp_append_Own w s x t ho e i z size bytes ht hi hz hsize hby hzs hsz A n c xs hs hown ad m d news hx hl hnews h1 hm h63 hbytes fun A' c' w' h2 h3 h4 => hK _ _ (h A' c' w' h2 h3 h4)

/-- the same for an operation behind '&&' or '||' -/
theorem wpList_append_Own_g {ops : Array Oper} {rest : List Oper} {o : Oper} {a : Act} {Q : Exit → Act → World → Prop} (hgd : Region.wanted o (yielded ops a.tmps) = true) (s x : Operand) (t : TypeId)
    (ho : o.op = .call { callee := .builtin .append, args := #[s, x], argTypes := #[t, t] })
    (e : TypeId) (i : TypeInfo) (z : Value) (size bytes : Nat) (ht : P.underlying t = some (.slice e)) (hi : P.info? e = some i) (hz : i.zero = some z)
    (hsize : i.size = size) (hby : i.bytes = bytes) (hzs : z.cells.size = size) (hsz : 0 < size)
    (A : Option Addr) (n c : Nat) (xs : List Value) (hs : a.eval s = .slice A n c) (hown : Own w size A n c xs)
    (ad : Addr) (m d : Nat) (news : List Value) (hx : a.eval x = .slice (some ad) m d) (hl : news.length = m * size) (hnews : ∀ j u, news[j]? = some u → w.cell? (ad.add j) = some u) (h1 : ∀ u ∈ news, u.oneCell' = true)
    (hm : 0 < m) (h63 : n + m ≤ maxLen) (hbytes : (n + m) * bytes ≤ 140737488355328)
    (h : ∀ A' c' w', Own w' size A' (n + m) c' (xs ++ news) → w.grownBy w' (blk A) → (blk A' = blk A ∨ ∃ g, blk A' = some g ∧ w.heap.size ≤ g) → wpList P ops Q rest (a.put o.dst (.slice A' (n + m) c')) w') : wpList P ops Q (o :: rest) a w :=
  BigFrame.wpList_want hgd fun _ hK => wp_append_Own w s x t ho e i z size bytes ht hi hz hsize hby hzs hsz A n c xs hs hown ad m d news hx hl hnews h1 hm h63 hbytes fun A' c' w' h2 h3 h4 => hK _ _ (h A' c' w' h2 h3 h4)

theorem step_append_Own {ops : Array Oper} {o : Oper} {a : Act} {K : Act → World → Prop} {Q : Exit → Act → World → Prop} {E : Prop} (hgd : o.guard = none) (s x : Operand) (t : TypeId)
    (ho : o.op = .call { callee := .builtin .append, args := #[s, x], argTypes := #[t, t] })
    (e : TypeId) (i : TypeInfo) (z : Value) (size bytes : Nat) (ht : P.underlying t = some (.slice e)) (hi : P.info? e = some i) (hz : i.zero = some z)
    (hsize : i.size = size) (hby : i.bytes = bytes) (hzs : z.cells.size = size) (hsz : 0 < size)
    (A : Option Addr) (n c : Nat) (xs : List Value) (hs : a.eval s = .slice A n c) (hown : Own w size A n c xs)
    (ad : Addr) (m d : Nat) (news : List Value) (hx : a.eval x = .slice (some ad) m d) (hl : news.length = m * size) (hnews : ∀ j u, news[j]? = some u → w.cell? (ad.add j) = some u) (h1 : ∀ u ∈ news, u.oneCell' = true)
    (hm : 0 < m) (h63 : n + m ≤ maxLen) (hbytes : (n + m) * bytes ≤ 140737488355328)
    (h : ∀ A' c' w', Own w' size A' (n + m) c' (xs ++ news) → w.grownBy w' (blk A) → (blk A' = blk A ∨ ∃ g, blk A' = some g ∧ w.heap.size ≤ g) → K (a.put o.dst (.slice A' (n + m) c')) w') :
    if Region.wanted o (yielded ops a.tmps) = true then Oper.wp P o a w K Q else E := by
  have hw : Region.wanted o (yielded ops a.tmps) = true := by simp [Region.wanted, hgd]
  rw [if_pos hw]
  exact wp_append_Own w s x t ho e i z size bytes ht hi hz hsize hby hzs hsz A n c xs hs hown ad m d news hx hl hnews h1 hm h63 hbytes h
end

/-! ### what a call may have changed: the blocks of F and new ones -/
structure Mod (F : Nat → Prop) (w w' : World) : Prop where
  os : w'.os = w.os
  tape : w'.tape = w.tape
  output : w'.output = w.output
  size : w.heap.size ≤ w'.heap.size
  block : ∀ k, k < w.heap.size → ¬ F k → w'.heap[k]? = w.heap[k]?

section
variable {F G : Nat → Prop} {w w' w'' : World}
theorem Mod.refl (F : Nat → Prop) (w : World) : Mod F w w := ⟨rfl, rfl, rfl, Nat.le_refl _, fun _ _ _ => rfl⟩
theorem Mod.trans (h : Mod F w w') (k : Mod G w' w'') (hG : ∀ k, G k → F k ∨ w.heap.size ≤ k) : Mod F w w'' :=
  ⟨k.os.trans h.os, k.tape.trans h.tape, k.output.trans h.output, Nat.le_trans h.size k.size, fun i hi hF =>
    (k.block i (Nat.lt_of_lt_of_le hi h.size) fun hg => by rcases hG i hg with h1 | h1; exact hF h1; omega).trans (h.block i hi hF)⟩
theorem undrew (h : Mod F w.drew w') : Mod F w w' := ⟨h.os, h.tape, h.output, h.size, h.block⟩
theorem Mod.mono (h : Mod F w w') (hG : ∀ k, k < w.heap.size → F k → G k) : Mod G w w' := ⟨h.os, h.tape, h.output, h.size, fun k hk hn => h.block k hk fun hf => hn (hG k hk hf)⟩
theorem Mod.drewN (h : Mod F w w') (n : Nat) : Mod F w (w'.drewN n) := ⟨h.os, h.tape, h.output, h.size, h.block⟩
theorem Mod.drew (h : Mod F w w') : Mod F w w'.drew := ⟨h.os, h.tape, h.output, h.size, h.block⟩
theorem Mod.alloc (h : Mod F w w') (o : Obj) : Mod F w (w'.alloc o) :=
  ⟨h.os, h.tape, h.output, Nat.le_trans h.size (by simp), fun k hk hn => (Below.heap_alloc _ _ _ (Nat.lt_of_lt_of_le hk h.size)).trans (h.block k hk hn)⟩
theorem Mod.setCell (h : Mod F w w') {p : Addr} (hp : F p.block ∨ w.heap.size ≤ p.block) (u : Value) : Mod F w (w'.setCell p u) :=
  ⟨h.os, h.tape, h.output, Nat.le_trans h.size (by simp [World.setCell]), fun k hk hn => (Below.heap_setCell _ _ _ _ (by rintro rfl; rcases hp with hp | hp; exact hn hp; omega)).trans (h.block k hk hn)⟩
theorem Mod.grown (h : Mod F w w') {row : Option Nat} (hg : w'.grownBy w'' row) (hr : ∀ g, row = some g → F g ∨ w.heap.size ≤ g) : Mod F w w'' :=
  ⟨hg.os.trans h.os, hg.tape.trans h.tape, hg.output.trans h.output, Nat.le_trans h.size hg.size, fun k hk hn =>
    (hg.block k (Nat.lt_of_lt_of_le hk h.size) fun e => by rcases hr k e.symm with h1 | h1; exact hn h1; omega).trans (h.block k hk hn)⟩
theorem Mod.of_below {B : Nat} (h : Below B w w') : Mod (fun k => B ≤ k) w w' := ⟨h.os, h.tape, h.output, h.size, fun k _ hn => h.block k (by omega)⟩
theorem Mod.below {W : World} (hb : Below W.heap.size W w) (h : Mod F w w') (hF : ∀ k, F k → W.heap.size ≤ k) : Below W.heap.size W w' :=
  hb.trans ⟨h.os, h.tape, h.output, h.size, fun k hk => h.block k (Nat.lt_of_lt_of_le hk hb.size) fun hf => by have := hF k hf; omega⟩
theorem Mod.cell (h : Mod F w w') {p : Addr} {v : Value} (hc : w.cell? p = some v) (hp : ¬ F p.block) : w'.cell? p = some v :=
  (World.cell?_of_block (w := w) (h.block p.block (cell_lt hc) hp)).trans hc
theorem Mod.heap (h : Mod F w w') {k : Nat} (hk : k < w.heap.size) (hp : ¬ F k) : w'.heap[k]? = w.heap[k]? := h.block k hk hp
theorem Own.mod {size n c : Nat} {A : Option Addr} {xs : List Value} (h : Own w size A n c xs) (hm : Mod F w w') (hF : ∀ g, blk A = some g → ¬ F g) : Own w' size A n c xs :=
  h.keep hm.size fun g e => hm.block g (h.lt e) (hF g e)
theorem IntsAt.mod {k : IntKind} {a : Option Addr} {len : Nat} {z : Nat → Int} {W : World} (h : IntsAt k W a len z) (hb : Below W.heap.size W w) : IntsAt k w a len z := h.below hb (Nat.le_refl _)
end

/-- cells of a struct behind a pointer: block g, from its head on -/
def Cells (w : World) (g : Nat) (vs : List Value) : Prop := (∀ j u, vs[j]? = some u → w.cell? ⟨g, j, none⟩ = some u) ∧ (∀ j, w.frozen? ⟨g, j, none⟩ = false) ∧ g < w.heap.size
section
variable {w w' : World} {g : Nat} {vs : List Value}
theorem Cells.keep (h : Cells w g vs) (hs : w.heap.size ≤ w'.heap.size) (hb : w'.heap[g]? = w.heap[g]?) : Cells w' g vs :=
  ⟨fun j u hu => (World.cell?_of_block (w := w) (a := ⟨g, j, none⟩) hb).trans (h.1 j u hu), fun j => (World.frozen?_of_block (w := w) (a := ⟨g, j, none⟩) hb).trans (h.2.1 j), Nat.lt_of_lt_of_le h.2.2 hs⟩
theorem Cells.grown (h : Cells w g vs) {row : Option Nat} (hg : w.grownBy w' row) (hr : row ≠ some g) : Cells w' g vs := h.keep hg.size (hg.block g h.2.2 fun e => hr e.symm)
theorem Cells.mod {F : Nat → Prop} (h : Cells w g vs) (hm : Mod F w w') (hF : ¬ F g) : Cells w' g vs := h.keep hm.size (hm.block g h.2.2 hF)
theorem Cells.set_ (h : Cells w g vs) (i : Nat) (u : Value) : Cells (w.setCell ⟨g, i, none⟩ u) g (vs.set i u) := by
  refine ⟨fun j x hx => ?_, fun j => by rw [World.frozen?_setCell]; exact h.2.1 j, by simp [World.setCell]; exact h.2.2⟩
  by_cases e : i = j
  · subst e
    have hl : i < vs.length := by have := (List.getElem?_eq_some_iff.1 hx).1; simpa using this
    rw [List.getElem?_set_self hl] at hx
    injection hx with hx
    subst hx
    exact World.cell?_setCell_same (h := h.1 i _ (List.getElem?_eq_getElem hl)) ..
  · rw [List.getElem?_set_ne e] at hx
    rw [World.cell?_setCell_other _ _ _ _ (by intro h; injection h with _ h; exact e h)]
    exact h.1 j x hx
theorem Cells.far (h : Cells w g vs) {p : Addr} (hp : g ≠ p.block) (u : Value) : Cells (w.setCell p u) g vs := h.keep (by simp [World.setCell]) (Below.heap_setCell _ _ _ _ hp)
theorem Cells.alloc (h : Cells w g vs) (o : Obj) : Cells (w.alloc o) g vs := h.keep (by simp) (Below.heap_alloc _ _ _ h.2.2)
theorem Cells.drewN (h : Cells w g vs) (n : Nat) : Cells (w.drewN n) g vs := h
theorem Cells.drew (h : Cells w g vs) : Cells w.drew g vs := h
theorem Cells.new (w : World) (cs : Array Value) (t : TypeId) : Cells (w.alloc (.cells cs t)) w.heap.size cs.toList :=
  ⟨fun j u hu => by rw [World.cell?_alloc_at _ _ _ _ rfl]; simpa using hu, fun j => World.frozen?_alloc_at _ _ _ _ rfl, by simp⟩
end
end Go.Proofs.Ytbladkopbkkamaa
