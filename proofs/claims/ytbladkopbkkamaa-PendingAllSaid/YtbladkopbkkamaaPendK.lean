/- PendingAll: the region that appends an entry, over any frame. -/
import Derived.Test.YtbladkopbkkamaaPendJ
import Derived.Great.Walk
import Derived.Great.Frames
namespace Go.Proofs.Ytbladkopbkkamaa
open Go.ChangeShapes Go.WideShapes Go.ChangeAt Go.RowKit Go.Great
set_option linter.unusedVariables false
set_option linter.unusedSimpArgs false

/-- a load of an entry, over any frame -/
theorem run_load_en (ρ : Operand → Value) (w : World) (g : Nat) (x : Operand) (dst : Option Tmp) (ps : String) (f : Array Edge) (x0 x1 x2 x3 x4 x5 : Int) (x6 : ByteArray)
    (hx : ρ x = .pointer (some ⟨g, 0, none⟩)) (hc : Cells w g (En.mk x0 x1 x2 x3 x4 x5 x6).cells) :
    (execOp ρ { dst := dst, op := .load 30 x, type := 30, pos := ps, after := f, guard := none }).run Try.prog w = .ok (.value (En.mk x0 x1 x2 x3 x4 x5 x6).val) w := by
  have y0 : w.cell? ⟨g, 0, none⟩ = some (.int .i64 x0) := hc.1 0 _ rfl
  have y1 : w.cell? ⟨g, 1, none⟩ = some (.int .i64 x1) := hc.1 1 _ rfl
  have y2 : w.cell? ⟨g, 2, none⟩ = some (.int .i64 x2) := hc.1 2 _ rfl
  have y3 : w.cell? ⟨g, 3, none⟩ = some (.int .i64 x3) := hc.1 3 _ rfl
  have y4 : w.cell? ⟨g, 4, none⟩ = some (.int .i64 x4) := hc.1 4 _ rfl
  have y5 : w.cell? ⟨g, 5, none⟩ = some (.int .i64 x5) := hc.1 5 _ rfl
  have y6 : w.cell? ⟨g, 6, none⟩ = some (.string x6) := hc.1 6 _ rfl
  clear hc
  unfold En.val
  go_simp
theorem built_en (x0 x1 x2 x3 x4 x5 : Int) (x6 : ByteArray) : Try.prog.builtSlice 30 1 [(0, (En.mk x0 x1 x2 x3 x4 x5 x6).val)] = some #[.int .i64 x0, .int .i64 x1, .int .i64 x2, .int .i64 x3, .int .i64 x4, .int .i64 x5, .string x6] := by
  kernel_rfl

theorem region_app_en {id s p d1 d2 d3 d4 N : Nat} {t1 t2 t3 t4 t5 : String} {f1 f2 f3 f4 f5 : Array Edge} {a : Act} {w : World} {Q : Exit → Act → World → Prop} {A : Option Addr} {n c g : Nat} {xs : List Value} {x0 x1 x2 x3 x4 x5 : Int} {x6 : ByteArray}
    (hN : a.tmps.size = N) (hd : (d1 < N ∧ d2 < N ∧ d3 < N ∧ d4 < N) ∧ d1 ≠ p ∧ d2 ≠ d1 ∧ d3 ≠ d1) (hs : a.eval (.tmp s) = .slice A n c) (hp : a.eval (.tmp p) = .pointer (some ⟨g, 0, none⟩))
    (hown : Own w 7 A n c xs) (hn : n + 1 ≤ 1000) (hc : Cells w g (En.mk x0 x1 x2 x3 x4 x5 x6).cells)
    (h : ∀ A' c' w', Hid (Own w' 7 A' (n + 1) c' (xs ++ (En.mk x0 x1 x2 x3 x4 x5 x6).cells) ∧ (w.alloc (.cells #[.int .i64 x0, .int .i64 x1, .int .i64 x2, .int .i64 x3, .int .i64 x4, .int .i64 x5, .string x6] 30)).grownBy w' (blk A) ∧ (blk A' = blk A ∨ ∃ g, blk A' = some g ∧ (w.alloc (.cells #[.int .i64 x0, .int .i64 x1, .int .i64 x2, .int .i64 x3, .int .i64 x4, .int .i64 x5, .string x6] 30)).heap.size ≤ g)) →
      Q .normal (((((a.put (some d1) (.slice A n c)).put (some d2) (En.mk x0 x1 x2 x3 x4 x5 x6).val).put (some d3) (.slice (some ⟨w.heap.size, 0, none⟩) 1 1)).put (some d4) (.slice A' (n + 1) c')).put (some s) (.slice A' (n + 1) c')) w') :
    Code.wp Try.prog (Code.region id #[{ dst := some d1, op := .move (.tmp s), type := 23, pos := t1, after := f1, guard := none }, { dst := some d2, op := .load 30 (.tmp p), type := 30, pos := t2, after := f2, guard := none },
      { dst := some d3, op := .buildSlice 23 1 #[(0, .tmp d2)], type := 23, pos := t3, after := f3, guard := none }, { dst := some d4, op := .call { callee := .builtin .append, args := #[.tmp d1, .tmp d3], argTypes := #[23, 23] }, type := 23, pos := t4, after := f4, guard := none },
      { dst := some s, op := .assign (.tmp d4), type := 23, pos := t5, after := f5, guard := none }] false) Q a w := by
  obtain ⟨⟨h1, h2, h3, h4⟩, n1, n2, n3⟩ := hd
  subst hN
  have hsz : ∀ (b : Act) (t : Option Tmp) (v : Value), (b.put t v).tmps.size = b.tmps.size := fun b t v => by cases t <;> simp [Act.put]
  refine wp_region_lit ?_
  refine wpList_readTo rfl _ rfl (.slice A n c) (by unfold execOp; simp only [hs]; rfl) ?_
  refine wpList_readTo rfl _ rfl (En.mk x0 x1 x2 x3 x4 x5 x6).val (run_load_en _ w g _ _ _ _ x0 x1 x2 x3 x4 x5 x6 (by rw [Act.eval_put_ne _ _ _ _ n1]; exact hp) hc) ?_
  refine wpList_buildSliceTo rfl 23 30 1 _ rfl w.heap.size rfl _ rfl Try.underlying23 #[.int .i64 x0, .int .i64 x1, .int .i64 x2, .int .i64 x3, .int .i64 x4, .int .i64 x5, .string x6] ?_ ?_
  · have he := Act.eval_put_same (a.put (some d1) (.slice A n c)) d2 (En.mk x0 x1 x2 x3 x4 x5 x6).val (by rw [hsz]; exact h2)
    simp only [List.map_toArray, List.map_cons, List.map_nil, he]
    exact built_en ..
  refine wpList_app_en rfl (.tmp d1) (.tmp d3) rfl hown hn ?_ ?_ ?_
  · rw [Act.eval_put_ne _ _ _ _ n3, Act.eval_put_ne _ _ _ _ n2]
    exact Act.eval_put_same _ _ _ h1
  · exact Act.eval_put_same _ _ _ (by rw [hsz, hsz]; exact h3)
  · intro A' c' w' hh
    refine wpList_readTo rfl _ rfl (.slice A' (n + 1) c') ?_ (wpList_nil (h A' c' w' hh))
    have he := Act.eval_put_same ((((a.put (some d1) (.slice A n c)).put (some d2) (En.mk x0 x1 x2 x3 x4 x5 x6).val).put (some d3) (.slice (some ⟨w.heap.size, 0, none⟩) 1 1))) d4 (.slice A' (n + 1) c') (by rw [hsz, hsz, hsz]; exact h4)
    unfold execOp
    simp only [he]
    rfl
end Go.Proofs.Ytbladkopbkkamaa
