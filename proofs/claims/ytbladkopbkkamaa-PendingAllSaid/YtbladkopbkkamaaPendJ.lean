/- PendingAll: an entry is appended. -/
import Derived.Test.YtbladkopbkkamaaPendI
namespace Go.Proofs.Ytbladkopbkkamaa
open Go.ChangeShapes Go.WideShapes Go.ChangeAt Go.RowKit
set_option linter.unusedVariables false
set_option linter.unusedSimpArgs false

theorem wpList_app_en {ops : Array Oper} {rest : List Oper} {o : Oper} {a : Act} {Q : Exit → Act → World → Prop} {w : World} (hgd : o.guard = none) (s x : Operand)
    (ho : o.op = .call { callee := .builtin .append, args := #[s, x], argTypes := #[23, 23] })
    {A : Option Addr} {n c : Nat} {xs : List Value} {x0 x1 x2 x3 x4 x5 : Int} {x6 : ByteArray} (hown : Own w 7 A n c xs) (hn : n + 1 ≤ 1000)
    (hs : a.eval s = .slice A n c) (hx : a.eval x = .slice (some ⟨w.heap.size, 0, none⟩) 1 1)
    (h : ∀ A' c' w', Hid (Own w' 7 A' (n + 1) c' (xs ++ (En.mk x0 x1 x2 x3 x4 x5 x6).cells) ∧ (w.alloc (.cells #[.int .i64 x0, .int .i64 x1, .int .i64 x2, .int .i64 x3, .int .i64 x4, .int .i64 x5, .string x6] 30)).grownBy w' (blk A) ∧ (blk A' = blk A ∨ ∃ g, blk A' = some g ∧ (w.alloc (.cells #[.int .i64 x0, .int .i64 x1, .int .i64 x2, .int .i64 x3, .int .i64 x4, .int .i64 x5, .string x6] 30)).heap.size ≤ g)) → wpList Try.prog ops Q rest (a.put o.dst (.slice A' (n + 1) c')) w') :
    wpList Try.prog ops Q (o :: rest) a (w.alloc (.cells #[.int .i64 x0, .int .i64 x1, .int .i64 x2, .int .i64 x3, .int .i64 x4, .int .i64 x5, .string x6] 30)) := by
  obtain ⟨i0, hi0, hz0, hz1, hz2⟩ := info_parts info_en
  exact wpList_append_Own _ hgd s x _ ho 30 i0 _ 7 64 Try.underlying23 hi0 hz0 hz1 hz2 rfl (by decide) A n c xs hs (hown.alloc _) ⟨w.heap.size, 0, none⟩ 1 1 (En.mk x0 x1 x2 x3 x4 x5 x6).cells hx rfl (World.news_of_block (heap_alloc_new _ _)) (En.one _) (by decide) (by unfold maxLen; omega) (by omega) fun A' c' w' h2 h3 h4 => h A' c' w' (Lib.hid ⟨h2, h3, h4⟩)

/-- the list that Done is given: new since w2 -/
structure Dn (w2 wx : World) (B : Option Addr) (ms : List En) (d : Nat) : Prop where
  m : Mod (fun _ => False) w2 wx
  o : Own wx 7 B ms.length d (ecells ms)
  b : ∀ q, blk B = some q → w2.heap.size ≤ q
theorem Dn.app {w2 wx w4 w6 : World} {B B' : Option Addr} {ms : List En} {d d' : Nat} {e : En} {o : Obj} (s : Dn w2 wx B ms d) (hm : Mod (fun _ => False) wx w4) (ho : Own w6 7 B' (ms.length + 1) d' (ecells ms ++ e.cells))
    (hg : (w4.alloc o).grownBy w6 (blk B)) (hb : blk B' = blk B ∨ ∃ q, blk B' = some q ∧ (w4.alloc o).heap.size ≤ q) : Dn w2 w6 B' (ms ++ [e]) d' := by
  have h1 := s.m.size
  have h2 := hm.size
  refine ⟨((s.m.trans hm (by simp)).alloc o).grown hg (fun q e => .inr (s.b q e)), by rw [ecells_app, List.length_append]; simpa [ecells] using ho, fun q e => ?_⟩
  rcases hb with h | ⟨q2, h, h3⟩
  · exact s.b q (by rw [← h]; exact e)
  · rw [h] at e
    have e4 := Option.some.inj e
    simp at h3
    omega
end Go.Proofs.Ytbladkopbkkamaa
