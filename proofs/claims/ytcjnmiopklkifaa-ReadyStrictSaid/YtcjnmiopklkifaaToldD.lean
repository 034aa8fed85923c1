/- What was told, as plain data; append of a whole slice; a copy of a slice. -/
import Derived.Test.YtcjnmiopklkifaaEntryD
import Derived.Deep.Upon
namespace Go.Proofs.Ytcjnmiopklkifaa
open Go.RowKit
attribute [local go_sem ↓] Go.wp_at_zero Go.wp_at_succ
set_option linter.unusedVariables false
set_option linter.unusedSimpArgs false

section
variable {P : Program} (w : World)
/-- append of a whole slice, be it empty -/
theorem run_append_Sl (t ty e : TypeId) (i : TypeInfo) (z : Value) (size bytes : Nat) (ht : P.underlying t = some (.slice e)) (hi : P.info? e = some i) (hz : i.zero = some z)
    (hsize : i.size = size) (hby : i.bytes = bytes) (hzs : z.cells.size = size) (hsz : 0 < size)
    (A : Option Addr) (n c : Nat) (xs : List Value) (hown : Own w size A n c xs)
    (B : Option Addr) (m d : Nat) (news : List Value) (hs : Sl w size B m news) (h1 : ∀ u ∈ news, u.oneCell' = true)
    (h63 : n + m ≤ maxLen) (hbytes : (n + m) * bytes ≤ 140737488355328) :
    ∃ A' c' w', (Builtin.append_ #[t, t] ty #[.slice A n c, .slice B m d]).run P w = .ok (.slice A' (n + m) c') w' ∧ Own w' size A' (n + m) c' (xs ++ news) ∧ w.grownBy w' (blk A) ∧ (blk A' = blk A ∨ ∃ g, blk A' = some g ∧ w.heap.size ≤ g) := by
  rcases Nat.eq_zero_or_pos m with rfl | hm
  · have hn : news = [] := List.eq_nil_of_length_eq_zero (by simpa using hs.1)
    subst hn
    refine ⟨A, c, w, ?_, by simpa using hown, ⟨rfl, rfl, rfl, Nat.le_refl _, fun _ _ _ => rfl⟩, .inl rfl⟩
    refine run_append_nothing w t t ty e i ht hi A n c hown.2.1 _ ?_
    cases B with
    | none => exact Src.ofNil w ht d
    | some a => exact Src.ofSlice w ht a 0 d [] (by simp) (by simp) (by simp)
  · obtain ⟨g, o, rfl, hl, hx⟩ := hs.at_ hm
    exact run_append_Own w t ty e i z size bytes ht hi hz hsize hby hzs hsz A n c xs hown ⟨g, o, none⟩ m d news hs.1 (fun j u hu => by rw [Addr.add_lit]; exact hx j u hu) h1 hm h63 hbytes
theorem wpList_append_Sl {ops : Array Oper} {rest : List Oper} {o : Oper} {a : Act} {Q : Exit → Act → World → Prop} (hgd : o.guard = none) (s x : Operand) (t : TypeId)
    (ho : o.op = .call { callee := .builtin .append, args := #[s, x], argTypes := #[t, t] })
    (e : TypeId) (i : TypeInfo) (z : Value) (size bytes : Nat) (ht : P.underlying t = some (.slice e)) (hi : P.info? e = some i) (hz : i.zero = some z)
    (hsize : i.size = size) (hby : i.bytes = bytes) (hzs : z.cells.size = size) (hsz : 0 < size)
    (A : Option Addr) (n c : Nat) (xs : List Value) (hs : a.eval s = .slice A n c) (hown : Own w size A n c xs)
    (B : Option Addr) (m d : Nat) (news : List Value) (hx : a.eval x = .slice B m d) (hsl : Sl w size B m news) (h1 : ∀ u ∈ news, u.oneCell' = true)
    (h63 : n + m ≤ maxLen) (hbytes : (n + m) * bytes ≤ 140737488355328)
    (h : ∀ A' c' w', Own w' size A' (n + m) c' (xs ++ news) → w.grownBy w' (blk A) → (blk A' = blk A ∨ ∃ g, blk A' = some g ∧ w.heap.size ≤ g) → wpList P ops Q rest (a.put o.dst (.slice A' (n + m) c')) w') : wpList P ops Q (o :: rest) a w :=
  wpList_plain hgd fun _ hK => by
    obtain ⟨A', c', w', hrun, h2, h3, h4⟩ := run_append_Sl (P := P) w t o.type e i z size bytes ht hi hz hsize hby hzs hsz A n c xs hown B m d news hsl h1 h63 hbytes
    unfold Oper.wp execOp
    simp only [ho, resolve, invoke, builtin, Sem.run_bind, Sem.run_pure, Result.andThen_ok, List.map_toArray, List.map_cons, List.map_nil, hs, hx, hrun]
    exact hK _ _ (h A' c' w' h2 h3 h4)
end

/-! ### what was told -/
structure To where
  at_ : Int
  e : En
def To.cells (t : To) : List Value := .int .i64 t.at_ :: t.e.cells
def To.val (t : To) : Value := .agg #[.int .i64 t.at_, .int .i64 t.e.fr, .int .i64 t.e.bo, .int .i64 t.e.se, .int .i64 t.e.od, .int .i64 t.e.lv, .int .i64 t.e.st, .string t.e.da]
theorem To.cells_len (t : To) : t.cells.length = 8 := rfl
def tcells (l : List To) : List Value := l.flatMap To.cells
theorem tcells_at (l : List To) {i j : Nat} (hi : i < l.length) (hj : j < 8) : (tcells l)[i * 8 + j]? = l[i].cells[j]? := cl_at To.cells_len l hi hj
theorem tcells_len (l : List To) : (tcells l).length = l.length * 8 := cl_len To.cells_len l
theorem tcells_app (l m : List To) : tcells (l ++ m) = tcells l ++ tcells m := by simp [tcells]
theorem To.one (t : To) : ∀ u ∈ t.cells, u.oneCell' = true := by
  intro u hu
  rcases List.mem_cons.1 hu with rfl | h
  · rfl
  · exact En.one _ u h
theorem info_to : (Try.prog.info? 44).map (fun i => (i.zero, i.size, i.bytes)) = some (some (.agg #[.int .i64 0, .int .i64 0, .int .i64 0, .int .i64 0, .int .i64 0, .int .i64 0, .int .i64 0, .string ByteArray.empty]), 8, 72) := by kernel_rfl

theorem Sl.to {w : World} {A : Option Addr} {n : Nat} {l : List To} (h : Sl w 8 A n (tcells l)) {k : Nat} (hk : k < l.length) : ∃ g o, A = some ⟨g, o, none⟩ ∧ g < w.heap.size ∧
    w.cell? ⟨g, o + k * 8, none⟩ = some (.int .i64 l[k].at_) ∧ w.cell? ⟨g, o + k * 8 + 1, none⟩ = some (.int .i64 l[k].e.fr) ∧ w.cell? ⟨g, o + k * 8 + 2, none⟩ = some (.int .i64 l[k].e.bo) ∧ w.cell? ⟨g, o + k * 8 + 3, none⟩ = some (.int .i64 l[k].e.se) ∧
    w.cell? ⟨g, o + k * 8 + 4, none⟩ = some (.int .i64 l[k].e.od) ∧ w.cell? ⟨g, o + k * 8 + 5, none⟩ = some (.int .i64 l[k].e.lv) ∧ w.cell? ⟨g, o + k * 8 + 6, none⟩ = some (.int .i64 l[k].e.st) ∧ w.cell? ⟨g, o + k * 8 + 7, none⟩ = some (.string l[k].e.da) := by
  have hn : 0 < n := by have h1 := h.1; rw [tcells_len] at h1; omega
  obtain ⟨g, o, rfl, hl, hx⟩ := h.at_ hn
  refine ⟨g, o, rfl, hl, ?_, ?_, ?_, ?_, ?_, ?_, ?_, ?_⟩
  · exact hx (k * 8 + 0) _ ((tcells_at l hk (by omega)).trans rfl)
  all_goals rw [Nat.add_assoc]; exact hx _ _ ((tcells_at l hk (by omega)).trans rfl)

/-- a new slice of what was told -/
def NewT (w : World) (l : List To) (e : Ending) (w' : World) : Prop :=
  ∃ A c, e = .returned (.slice A l.length c) ∧ Own w' 8 A l.length c (tcells l) ∧ Mod (fun _ => False) w w' ∧ ∀ g, blk A = some g → w.heap.size ≤ g

theorem Sl.takeT {w : World} {A : Option Addr} {l : List To} (h : Sl w 8 A l.length (tcells l)) {k : Nat} (hk : k ≤ l.length) : Sl w 8 A (l.take k).length (tcells (l.take k)) := by
  have := h.take hk
  rw [show (tcells l).take (k * 8) = tcells (l.take k) from cl_take To.cells_len l k] at this
  rwa [show (l.take k).length = k by simp; omega]

/-- an answer that is not below 0 just where something was found -/
def Found (w : World) (b : Bool) (e : Ending) (w' : World) : Prop := ∃ r : Int, e = .returned (.int .i64 r) ∧ decide (0 ≤ r) = b ∧ Mod (fun _ => False) w w'

theorem any_at {α : Type} {p : α → Bool} {l : List α} {k : Nat} (hk : k < l.length) (h : p l[k] = true) : l.any p = true := List.any_eq_true.2 ⟨_, List.getElem_mem hk, h⟩
theorem any_none {α : Type} {p : α → Bool} {l : List α} (h : ∀ j (hj : j < l.length), p l[j] = false) : l.any p = false := by
  rw [List.any_eq_false]
  intro x hx
  obtain ⟨j, hj, rfl⟩ := List.getElem_of_mem hx
  simp [h j hj]

theorem own_new (w : World) (cs : Array Value) (t : TypeId) (C n : Nat) (hn : cs.size = n * C) (hm : n ≤ maxLen) : Own (w.alloc (.cells cs t)) C (some ⟨w.heap.size, 0, none⟩) n n cs.toList := by
  refine ⟨by simpa using hn, Nat.le_refl _, hm, .inr ⟨_, 0, rfl, by simp, fun j hj => ?_, fun j u hu => ?_⟩⟩
  · rw [World.cell?_alloc_at _ _ _ _ rfl, World.frozen?_alloc_at _ _ _ _ rfl]
    simp [show j < cs.size by omega]
  · rw [World.cell?_alloc_at _ _ _ _ rfl, Nat.zero_add]
    simpa using hu
theorem news2 (w : World) (o : Obj) (cs : Array Value) (t : TypeId) : ∀ j u, cs.toList[j]? = some u → ((w.alloc o).alloc (.cells cs t)).cell? ((⟨w.heap.size + 1, 0, none⟩ : Addr).add j) = some u := by
  have h := World.news_of_block (heap_alloc_new (w.alloc o) (.cells cs t))
  rwa [show (w.alloc o).heap.size = w.heap.size + 1 by simp] at h

theorem tcells_one (l : List To) : ∀ u ∈ tcells l, u.oneCell' = true := by
  intro u hu
  obtain ⟨t, _, h⟩ := List.mem_flatMap.1 hu
  exact To.one t u h

/-- slices.Clone -/
theorem cloneT_any (A : Option Addr) (l : List To) (c : Nat) (w : World) (hl : Sl w 8 A l.length (tcells l)) (h0 : A = none → l = []) (hb : l.length ≤ 1000) :
    Calls Try.prog 31 #[.slice A l.length c] w (NewT w l) := by
  obtain ⟨i0, hi0, hz0, hz1, hz2⟩ := info_parts info_to
  have HL := Lib.hid hl
  have HI := Lib.hid hi0
  have HZ0 := Lib.hid hz0
  have HZ1 := Lib.hid hz1
  have HZ2 := Lib.hid hz2
  have one := Lib.hid (tcells_one l)
  clear hl hi0 hz0 hz1 hz2
  cases A with
  | none =>
    have : l = [] := h0 rfl
    subst this
    have hq := fun (w : World) (n c : Nat) => Lib.run_eql_slice_nil (P := Try.prog) w 30 44 none n c 0 0 Try.underlying30
    go_enter Try.func31, Try.ntmps31
    go_wp2_with fail
    go_ret
    exact ⟨none, 0, rfl, Own.nil _ _, Mod.refl _ _, by simp [blk]⟩
  | some a =>
    clear h0
    have hq := fun (w : World) (n c : Nat) => Lib.run_eql_slice_nil (P := Try.prog) w 30 44 (some a) n c 0 0 Try.underlying30
    go_enter Try.func31, Try.ntmps31
    go_wp2_with (at_builtin; refine wpList_append_Sl _ rfl _ _ _ rfl 44 i0 _ 8 72 Try.underlying30 HI.out HZ0.out HZ1.out HZ2.out rfl (by decide) (some ⟨w.heap.size, 0, none⟩) 0 0 [] rfl (by exact own_new w #[] _ 8 0 rfl (by decide)) (some a) l.length c _ rfl (by exact HL.out.none_ ((Mod.refl _ _).alloc _)) one.out (by unfold maxLen; omega) (by omega) ?_; intro A2 c2 w2 ho2 hg2 hb2)
    have hr := Lib.hid (show NewT w l (.returned (.slice A2 l.length c2)) w2 by
      rw [Nat.zero_add, List.nil_append] at ho2
      refine ⟨A2, c2, rfl, ho2, ((Mod.refl _ _).alloc _).grown hg2 fun g e => .inr ?_, fun g e => ?_⟩
      · injection e with e; simp at e; omega
      · rcases hb2 with h | ⟨q, h, hq⟩
        · have := h.symm.trans e; injection this with this; simp at this; omega
        · have := h.symm.trans e; injection this with this; simp at hq; omega)
    clear ho2 hg2 hb2
    go_wp2_with fail
    go_ret
    simpa using hr.out
end Go.Proofs.Ytcjnmiopklkifaa
