/- The two lists that a step of the law's time makes. -/
import Derived.Test.YtnfhmflcaolbbaaWheelQ
namespace Go.Proofs.Ytnfhmflcaolbbaa
open Go.RowKit
set_option linter.unusedVariables false
set_option linter.unusedSimpArgs false

/-- what stays and what goes off, as far as the list has been gone through -/
structure Gs (w3 wr : World) (tm : Int) (l : List Tm) (k : Nat) (A1 : Option Addr) (c1 : Nat) (A2 : Option Addr) (c2 : Nat) (off : List Tm) : Prop where
  o1 : Own wr 2 A1 (stay tm (l.take k)).length c1 (tc (stay tm (l.take k)))
  o2 : Own wr 2 A2 off.length c2 (tc off)
  b1 : ∀ q, blk A1 = some q → w3.heap.size ≤ q ∧ blk A2 ≠ some q
  b2 : ∀ q, blk A2 = some q → w3.heap.size ≤ q
  m : Mod (fun _ => False) w3 wr
  p : off.Perm (gone tm (l.take k))
  s : SortedT off
theorem Gs.start (w3 : World) (tm : Int) (l : List Tm) : Gs w3 w3 tm l 0 none 0 none 0 [] :=
  ⟨Own.nil _ _, Own.nil _ _, by simp [blk], by simp [blk], Mod.refl _ _, by simp [gone], fun i j hi => absurd hi (by simp)⟩
theorem Gs.none_ {w3 wr w' : World} {tm : Int} {l : List Tm} {k : Nat} {A1 A2 : Option Addr} {c1 c2 : Nat} {off : List Tm} (h : Gs w3 wr tm l k A1 c1 A2 c2 off) (hm : Mod (fun _ => False) wr w') : Gs w3 w' tm l k A1 c1 A2 c2 off :=
  ⟨h.o1.mod hm (by simp), h.o2.mod hm (by simp), h.b1, h.b2, h.m.trans hm (by simp), h.p, h.s⟩
theorem Gs.stay_ {w3 wr w4 : World} {tm : Int} {l : List Tm} {k : Nat} {A1 A2 : Option Addr} {c1 c2 : Nat} {off : List Tm} (h : Gs w3 wr tm l k A1 c1 A2 c2 off) (hk : k < l.length) (ht : tm < l[k].t)
    {o : Obj} {A4 : Option Addr} {c4 : Nat} (ho4 : Own w4 2 A4 ((stay tm (l.take k)).length + 1) c4 (tc (stay tm (l.take k)) ++ l[k].cells)) (hg : (wr.alloc o).grownBy w4 (blk A1)) (hb4 : blk A4 = blk A1 ∨ ∃ g, blk A4 = some g ∧ (wr.alloc o).heap.size ≤ g) :
    Gs w3 w4 tm l (k + 1) A4 c4 A2 c2 off ∧ (stay tm (l.take (k + 1))).length = (stay tm (l.take k)).length + 1 := by
  have e1 := stay_next (now := tm) hk
  have e2 := gone_next (now := tm) hk
  rw [if_pos ht] at e1 e2
  rw [List.append_nil] at e2
  have e3 : (stay tm (l.take (k + 1))).length = (stay tm (l.take k)).length + 1 := by rw [e1]; simp
  refine ⟨⟨by rw [e3, e1, tc_app]; simpa [tc] using ho4, (h.o2.alloc o).grown hg (fun q e h2 => (h.b1 q h2).2 e), fun q e => ?_, h.b2, ((h.m.alloc o).grown hg (fun q e => .inr (h.b1 q e).1)), by rw [e2]; exact h.p, h.s⟩, e3⟩
  rcases hb4 with h2 | ⟨q2, h2, h3⟩
  · exact h.b1 q (by rw [← h2]; exact e)
  · rw [h2] at e
    have e4 : q2 = q := Option.some.inj e
    have h4 := h.m.size
    simp at h3
    exact ⟨by omega, fun h5 => by have := h.o2.lt h5; omega⟩
theorem Gs.gone_ {w3 wr w5 w6 : World} {tm : Int} {l : List Tm} {k j : Nat} {A1 A2 A6 : Option Addr} {c1 c2 c6 : Nat} {off : List Tm} {x : Tm} (h : Gs w3 wr tm l k A1 c1 A2 c2 off) (hk : k < l.length) (hx : l[k] = x) (ht : ¬ tm < x.t) (hj : j ≤ off.length)
    (h1 : ∀ q (h : q < off.length), q < j → ltOf cf off[q] x = true) (h2 : ∀ h : j < off.length, ltOf cf off[j] x = false)
    {o : Obj} (hg5 : (wr.alloc o).grownBy w5 (some wr.heap.size)) (hg6 : w5.grownBy w6 (blk A2)) (ho6 : Own w6 2 A6 (j + (1 + (off.length - j))) c6 (tc (off.take j) ++ (x.cells ++ tc (off.drop j)))) (hb6 : blk A6 = blk A2 ∨ ∃ g, blk A6 = some g ∧ w5.heap.size ≤ g) :
    Gs w3 w6 tm l (k + 1) A1 c1 A6 c6 (off.take j ++ ([x] ++ off.drop j)) ∧ (off.take j ++ ([x] ++ off.drop j)).length = j + (1 + (off.length - j)) ∧ (stay tm (l.take (k + 1))).length = (stay tm (l.take k)).length := by
  have e1 := stay_next (now := tm) hk
  have e2 := gone_next (now := tm) hk
  rw [if_neg (by rw [hx]; exact ht)] at e1 e2
  rw [List.append_nil] at e1
  rw [hx] at e2
  have hm5 : Mod (fun _ => False) w3 w5 := (h.m.alloc o).grown hg5 (fun q e => .inr (by have e4 : wr.heap.size = q := Option.some.inj e; have := h.m.size; omega))
  have hs5 := hg5.size
  simp at hs5
  have hlen : (off.take j ++ ([x] ++ off.drop j)).length = j + (1 + (off.length - j)) := by simp; omega
  obtain ⟨hs, hp⟩ := ins_law h.s h.p hj h1 h2
  refine ⟨⟨by rw [e1]; exact ((h.o1.alloc o).grown hg5 (fun q e h3 => by have e4 : wr.heap.size = q := Option.some.inj h3; have := h.o1.lt e; omega)).grown hg6 (fun q e h3 => (h.b1 q e).2 h3), ?_, fun q e => ⟨(h.b1 q e).1, ?_⟩, fun q e => ?_, hm5.grown hg6 (fun q e => .inr (h.b2 q e)), by rw [e2]; exact hp, hs⟩, hlen, by rw [e1]⟩
  · rw [hlen, tc_app, tc_app, show tc [x] = x.cells by simp [tc]]
    exact ho6
  · rcases hb6 with h3 | ⟨q2, h3, h4⟩
    · rw [h3]; exact (h.b1 q e).2
    · rw [h3]
      intro h5
      have e4 : q2 = q := Option.some.inj h5
      have := h.o1.lt e
      omega
  · rcases hb6 with h3 | ⟨q2, h3, h4⟩
    · exact h.b2 q (by rw [← h3]; exact e)
    · rw [h3] at e
      have e4 : q2 = q := Option.some.inj e
      have := h.m.size
      omega
theorem lt_of1 {a b : Tm} (h : a.t < b.t) : ltOf cf a b = true := by rw [lt_cf, decide_eq_true_eq]; omega
theorem lt_of2 {a b : Tm} (h : a.t = b.t) (h2 : a.id < b.id) : ltOf cf a b = true := by rw [lt_cf, decide_eq_true_eq]; omega
theorem lt_of3 {a b : Tm} (h : b.t < a.t) : ltOf cf a b = false := by rw [lt_cf, decide_eq_false_iff_not]; omega
theorem lt_of4 {a b : Tm} (h : a.t = b.t) (h2 : b.id ≤ a.id) : ltOf cf a b = false := by rw [lt_cf, decide_eq_false_iff_not]; omega
theorem stay_len (now : Int) (l : List Tm) (k : Nat) : (stay now (l.take k)).length ≤ l.length := by
  unfold stay
  exact Nat.le_trans (List.length_filter_le _ _) (by rw [List.length_take]; omega)
theorem gone_len {off : List Tm} {now : Int} {l : List Tm} {k : Nat} (h : off.Perm (gone now (l.take k))) : off.length ≤ l.length := by
  rw [h.length_eq]
  unfold gone
  exact Nat.le_trans (List.length_filter_le _ _) (by rw [List.length_take]; omega)
theorem lt_next {off : List Tm} {x : Tm} {j : Nat} (h : ∀ q (hq : q < off.length), q < j → ltOf cf off[q] x = true) (hj : j < off.length) (h2 : ltOf cf off[j] x = true) : ∀ q (hq : q < off.length), q < j + 1 → ltOf cf off[q] x = true := fun q hq hqj => by
  by_cases e : q = j
  · subst e; exact h2
  · exact h q hq (by omega)
theorem next_num {p n : Nat} (h : p < n) (hn : n ≤ 60) : ∃ p1 : Nat, p1 = p + 1 ∧ IntKind.i64.wrap ((p : Int) + 1) = (p1 : Int) ∧ (0 : Int) ≤ (p1 : Int) ∧ (p1 : Int) ≤ (n : Int) ∧ p1 ≤ n :=
  ⟨p + 1, rfl, IntWalk.i64_in ((p : Int) + 1) ⟨by omega, by omega⟩, by omega, by omega, by omega⟩
theorem Own.cut1 {w : World} {A : Option Addr} {n c k : Nat} {l : List Tm} (h : Own w 2 A n c (tc l)) (hk : k ≤ n) : Own w 2 A k k (tc (l.take k)) := by rw [← tc_take]; exact h.take3 hk
theorem Own.cut2 {w : World} {g o n c k : Nat} {l : List Tm} (h : Own w 2 (some ⟨g, o, none⟩) n c (tc l)) (hk : k ≤ n) : Own w 2 (if c = k then some ⟨g, o, none⟩ else some ⟨g, o + k * 2, none⟩) (n - k) (c - k) (tc (l.drop k)) := by
  have h2 := h.cut hk
  rw [tc_drop, Option.map_some, Addr.add_lit] at h2
  exact h2
theorem Own.cut3 {w : World} {A : Option Addr} {n c k : Nat} {l : List Tm} (h : Own w 2 A n c (tc l)) (hk : k ≤ n) : Own w 2 (if c = k then A else A.map (·.add (k * 2))) (n - k) (c - k) (tc (l.drop k)) := by rw [← tc_drop]; exact h.cut hk
theorem cut_len {p p1 : Nat} {l : List Tm} (h : p < l.length) (h1 : p1 = p + 1) : (l.take p ++ l.drop (p + 1)).length = p + (l.length - p1) ∧ (l.take p ++ l.drop (p + 1)).length ≤ l.length := by
  subst h1
  simp
  omega
theorem info_tlT : (Try.prog.info? 31).map (fun i => (i.zero, i.size, i.bytes)) = some (some (.agg #[.int .i64 0, .int .i64 0]), 2, 16) := by kernel_rfl
theorem step_app {ops : Array Oper} {o : Oper} {a : Act} {K : Act → World → Prop} {Q : Exit → Act → World → Prop} {E : Prop} (w : World) (hgd : o.guard = none) (s x : Operand)
    (ho : o.op = .call { callee := .builtin .append, args := #[s, x], argTypes := #[27, 27] })
    {A : Option Addr} {n c : Nat} {l : List Tm} (hs : a.eval s = .slice A n c) (hown : Own w 2 A n c (tc l))
    {B : Option Addr} {m d : Nat} {l2 : List Tm} (hx : a.eval x = .slice B m d) (hsl : Sl w 2 B m (tc l2)) (hb : n + m ≤ 1000)
    (h : ∀ A' c' w', Own w' 2 A' (n + m) c' (tc l ++ tc l2) → w.grownBy w' (blk A) → (blk A' = blk A ∨ ∃ g, blk A' = some g ∧ w.heap.size ≤ g) → K (a.put o.dst (.slice A' (n + m) c')) w') :
    if Region.wanted o (yielded ops a.tmps) = true then Oper.wp Try.prog o a w K Q else E := by
  obtain ⟨i0, hi0, hz0, hz1, hz2⟩ := info_parts info_tlT
  exact step_append_Sl w hgd s x 27 ho 31 i0 _ 2 16 Try.underlying27 hi0 hz0 hz1 hz2 (by rfl) (by decide) A n c (tc l) hs hown B m d (tc l2) hx hsl (tc_one l2) (by unfold maxLen; omega) (by omega) h
theorem own_app {w : World} {A : Option Addr} {n c : Nat} {l l2 : List Tm} (h : Own w 2 A n c (tc l ++ tc l2)) : Own w 2 A n c (tc (l ++ l2)) := by rw [tc_app]; exact h
theorem own_tm (w : World) (yi yt : Int) (t : TypeId) : Own (w.alloc (.cells #[.int .i64 yi, .int .i64 yt] t)) 2 (some ⟨w.heap.size, 0, none⟩) 1 1 (tc [⟨yi, yt⟩]) := own_new w #[.int .i64 yi, .int .i64 yt] t 2 1 (by rfl) (by decide)
theorem ot5 {wr W w5 : World} {A2 : Option Addr} {n c : Nat} {xs : List Value} {o : Obj} (h : Own wr 2 A2 n c xs) (hW : Mod (fun _ => False) wr W) (hg5 : (W.alloc o).grownBy w5 (blk (some (⟨wr.heap.size, 0, none⟩ : Addr)))) : Own w5 2 A2 n c xs :=
  ((h.mod hW (by simp)).alloc o).grown hg5 (fun q e h3 => by have e4 : wr.heap.size = q := Option.some.inj h3; have := h.lt e; omega)
theorem Gs.gone2 {w3 wr W w5 w6 : World} {tm : Int} {l : List Tm} {k j : Nat} {A1 A2 A6 : Option Addr} {c1 c2 c6 : Nat} {off : List Tm} {x : Tm} (h : Gs w3 wr tm l k A1 c1 A2 c2 off) (hk : k < l.length) (hx : l[k] = x) (ht : ¬ tm < x.t) (hj : j ≤ off.length)
    (h1 : ∀ q (h : q < off.length), q < j → ltOf cf off[q] x = true) (h2 : ∀ h : j < off.length, ltOf cf off[j] x = false)
    {o : Obj} (hW : Mod (fun _ => False) wr W) (hsz : W.heap.size = wr.heap.size) (hg5 : (W.alloc o).grownBy w5 (blk (some (⟨wr.heap.size, 0, none⟩ : Addr)))) (hg6 : w5.grownBy w6 (blk A2)) (ho6 : Own w6 2 A6 (j + (1 + (off.length - j))) c6 (tc (off.take j) ++ tc ([x] ++ off.drop j))) (hb6 : blk A6 = blk A2 ∨ ∃ g, blk A6 = some g ∧ w5.heap.size ≤ g) :
    Gs w3 w6 tm l (k + 1) A1 c1 A6 c6 (off.take j ++ ([x] ++ off.drop j)) ∧ (off.take j ++ ([x] ++ off.drop j)).length = j + (1 + (off.length - j)) ∧ (stay tm (l.take (k + 1))).length = (stay tm (l.take k)).length :=
  (h.none_ hW).gone_ hk hx ht hj h1 h2 (by rw [hsz]; exact hg5) hg6 (by rw [tc_app] at ho6; simpa [tc] using ho6) hb6
theorem got_at {w : World} {B : Option Addr} {d : Nat} {off : List Tm} (h : Own w 1 B off.length d (icT (off.map Tm.id))) {q : Nat} (hq : q < off.length) : ∃ g o, B = some ⟨g, o, none⟩ ∧ g < w.heap.size ∧ w.cell? ⟨g, o + q, none⟩ = some (.int .i64 off[q].id) :=
  h.at_ (j := q) (u := .int .i64 off[q].id) (by unfold icT; rw [List.map_map, List.getElem?_map, List.getElem?_eq_getElem hq]; rfl)
end Go.Proofs.Ytnfhmflcaolbbaa
