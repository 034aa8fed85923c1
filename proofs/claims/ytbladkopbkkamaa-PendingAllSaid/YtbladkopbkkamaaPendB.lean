/- Package pending: Add, Done, List, Len, New; entry.May. -/
import Derived.Test.YtbladkopbkkamaaPend
import Derived.Deep.Upon
namespace Go.Proofs.Ytbladkopbkkamaa
open Go.RowKit
attribute [local go_sem ↓] Go.wp_at_zero Go.wp_at_succ
set_option linter.unusedVariables false
set_option linter.unusedSimpArgs false

section
variable {P : Program} (w : World)
/-- append of a whole slice, be it empty -/
theorem run_append_Sl (t ty e : TypeId) (i : TypeInfo) (z : Value) (size bytes : Nat) (ht : P.underlying t = some (.slice e)) (hi : P.info? e = some i) (hz : i.zero = some z)
    (hsize : i.size = size) (hby : i.bytes = bytes) (hzs : z.cells.size = size) (hsz : 0 < size)
    (A : Option Addr) (n c : Nat) (xs : List Value) (hown : Own w size A n c xs)
    (B : Option Addr) (m d : Nat) (news : List Value) (hs : Sl w size B m news) (h1 : ∀ u ∈ news, u.oneCell' = true)
    (h63 : n + m ≤ maxLen) (hbytes : (n + m) * bytes ≤ 140737488355328) :
    ∃ A' c' w', (Builtin.append_ #[t, t] ty #[.slice A n c, .slice B m d]).run P w = .ok (.slice A' (n + m) c') w' ∧ Own w' size A' (n + m) c' (xs ++ news) ∧ w.grownBy w' (blk A) ∧ (blk A' = blk A ∨ ∃ g, blk A' = some g ∧ w.heap.size ≤ g) := by
  rcases Nat.eq_zero_or_pos m with rfl | hm
  · have hn : news = [] := List.eq_nil_of_length_eq_zero (by simpa using hs.1)
    subst hn
    refine ⟨A, c, w, ?_, by simpa using hown, ⟨rfl, rfl, rfl, Nat.le_refl _, fun _ _ _ => rfl⟩, .inl rfl⟩
    refine run_append_nothing w t t ty e i ht hi A n c hown.2.1 _ ?_
    cases B with
    | none => exact Src.ofNil w ht d
    | some a => exact Src.ofSlice w ht a 0 d [] (by simp) (by simp) (by simp)
  · obtain ⟨g, o, rfl, hl, hx⟩ := hs.at_ hm
    exact run_append_Own w t ty e i z size bytes ht hi hz hsize hby hzs hsz A n c xs hown ⟨g, o, none⟩ m d news hs.1 (fun j u hu => by rw [Addr.add_lit]; exact hx j u hu) h1 hm h63 hbytes
theorem wpList_append_Sl {ops : Array Oper} {rest : List Oper} {o : Oper} {a : Act} {Q : Exit → Act → World → Prop} (hgd : o.guard = none) (s x : Operand) (t : TypeId)
    (ho : o.op = .call { callee := .builtin .append, args := #[s, x], argTypes := #[t, t] })
    (e : TypeId) (i : TypeInfo) (z : Value) (size bytes : Nat) (ht : P.underlying t = some (.slice e)) (hi : P.info? e = some i) (hz : i.zero = some z)
    (hsize : i.size = size) (hby : i.bytes = bytes) (hzs : z.cells.size = size) (hsz : 0 < size)
    (A : Option Addr) (n c : Nat) (xs : List Value) (hs : a.eval s = .slice A n c) (hown : Own w size A n c xs)
    (B : Option Addr) (m d : Nat) (news : List Value) (hx : a.eval x = .slice B m d) (hsl : Sl w size B m news) (h1 : ∀ u ∈ news, u.oneCell' = true)
    (h63 : n + m ≤ maxLen) (hbytes : (n + m) * bytes ≤ 140737488355328)
    (h : ∀ A' c' w', Own w' size A' (n + m) c' (xs ++ news) → w.grownBy w' (blk A) → (blk A' = blk A ∨ ∃ g, blk A' = some g ∧ w.heap.size ≤ g) → wpList P ops Q rest (a.put o.dst (.slice A' (n + m) c')) w') : wpList P ops Q (o :: rest) a w :=
  wpList_plain hgd fun _ hK => by
    obtain ⟨A', c', w', hrun, h2, h3, h4⟩ := run_append_Sl (P := P) w t o.type e i z size bytes ht hi hz hsize hby hzs hsz A n c xs hown B m d news hsl h1 h63 hbytes
    unfold Oper.wp execOp
    simp only [ho, resolve, invoke, builtin, Sem.run_bind, Sem.run_pure, Result.andThen_ok, List.map_toArray, List.map_cons, List.map_nil, hs, hx, hrun]
    exact hK _ _ (h A' c' w' h2 h3 h4)
end

theorem own_new (w : World) (cs : Array Value) (t : TypeId) (C n : Nat) (hn : cs.size = n * C) (hm : n ≤ maxLen) : Own (w.alloc (.cells cs t)) C (some ⟨w.heap.size, 0, none⟩) n n cs.toList := by
  refine ⟨by simpa using hn, Nat.le_refl _, hm, .inr ⟨_, 0, rfl, by simp, fun j hj => ?_, fun j u hu => ?_⟩⟩
  · rw [World.cell?_alloc_at _ _ _ _ rfl, World.frozen?_alloc_at _ _ _ _ rfl]
    simp [show j < cs.size by omega]
  · rw [World.cell?_alloc_at _ _ _ _ rfl, Nat.zero_add]
    simpa using hu
theorem ecells_one (l : List En) : ∀ u ∈ ecells l, u.oneCell' = true := by
  intro u hu
  obtain ⟨t, _, h⟩ := List.mem_flatMap.1 hu
  exact En.one t u h
theorem Sl.mod0 {w w' : World} {C n : Nat} {A : Option Addr} {xs : List Value} {F : Nat → Prop} (h : Sl w C A n xs) (hm : Mod F w w') (hF : 0 < n → ∀ g, blk A = some g → ¬ F g) : Sl w' C A n xs := by
  rcases Nat.eq_zero_or_pos n with h0 | h0
  · exact ⟨h.1, h.2.1, .inl h0⟩
  · exact h.mod hm (hF h0)
theorem own_none {w : World} {C n c : Nat} {xs : List Value} (h : Own w C none n c xs) : n = 0 := by
  rcases h.2.2.2 with ⟨_, h0⟩ | ⟨g, o, e, _⟩
  · have := h.2.1; omega
  · cases e

/-- slices.Clone -/
theorem cloneE_any (A : Option Addr) (l : List En) (c : Nat) (w : World) (hl : Sl w 7 A l.length (ecells l)) (h0 : A = none → l = []) (hb : l.length ≤ 1000) :
    Calls Try.prog 46 #[.slice A l.length c] w (NewE w l) := by
  obtain ⟨i0, hi0, hz0, hz1, hz2⟩ := info_parts info_en
  have HL := Lib.hid hl
  have HI := Lib.hid hi0
  have HZ0 := Lib.hid hz0
  have HZ1 := Lib.hid hz1
  have HZ2 := Lib.hid hz2
  have one := Lib.hid (ecells_one l)
  clear hl hi0 hz0 hz1 hz2
  cases A with
  | none =>
    have : l = [] := h0 rfl
    subst this
    have hq := fun (w : World) (n c : Nat) => Lib.run_eql_slice_nil (P := Try.prog) w 23 30 none n c 0 0 Try.underlying23
    go_enter Try.func46, Try.ntmps46
    go_wp2_with fail
    go_ret
    exact ⟨none, 0, rfl, Own.nil _ _, Mod.refl _ _, by simp [blk]⟩
  | some a =>
    clear h0
    have hq := fun (w : World) (n c : Nat) => Lib.run_eql_slice_nil (P := Try.prog) w 23 30 (some a) n c 0 0 Try.underlying23
    go_enter Try.func46, Try.ntmps46
    go_wp2_with (at_builtin; refine wpList_append_Sl _ rfl _ _ _ rfl 30 i0 _ 7 64 Try.underlying23 HI.out HZ0.out HZ1.out HZ2.out rfl (by decide) (some ⟨w.heap.size, 0, none⟩) 0 0 [] rfl (by exact own_new w #[] _ 7 0 rfl (by decide)) (some a) l.length c _ rfl (by exact HL.out.none_ ((Mod.refl _ _).alloc _)) one.out (by unfold maxLen; omega) (by omega) ?_; intro A2 c2 w2 ho2 hg2 hb2)
    have hr := Lib.hid (show NewE w l (.returned (.slice A2 l.length c2)) w2 by
      rw [Nat.zero_add, List.nil_append] at ho2
      refine ⟨A2, c2, rfl, ho2, ((Mod.refl _ _).alloc _).grown hg2 fun g e => .inr ?_, fun g e => ?_⟩
      · injection e with e; simp at e; omega
      · rcases hb2 with h | ⟨q, h, hq⟩
        · have := h.symm.trans e; injection this with this; simp at this; omega
        · have := h.symm.trans e; injection this with this; simp at hq; omega)
    clear ho2 hg2 hb2
    go_wp2_with fail
    go_ret
    simpa using hr.out
def okB (e : En) : Bool := decide (1 ≤ e.fr) && decide (e.fr ≤ 7) && decide (1 ≤ e.bo) && decide (e.bo ≤ 1099511627776) && decide (1 ≤ e.se) && decide (e.se ≤ 1099511627776) && decide (0 ≤ e.od) && decide (e.od ≤ 2) && decide (0 ≤ e.lv) && decide (e.lv ≤ 2) && decide (0 ≤ e.st) && decide (e.st ≤ 1099511627776) && decide (e.da.size ≤ 16)
set_option maxHeartbeats 3200000 in
theorem mayR_any (e : En) (w : World) (hd : e.da.size ≤ maxLen) : Calls Try.prog 41 #[e.val] w (Only w (.bool (okB e))) := by
  unfold maxLen at hd
  obtain ⟨e0, e1, e2, e3, e4, e5, e6⟩ := e
  unfold En.val
  simp only [] at *
  go_enter Try.func41, Try.ntmps41
  go_wp2_with fail
  all_goals
    go_ret
    refine ⟨congrArg (fun v => Ending.returned (.bool v)) ?_, (Mod.refl _ _).alloc _⟩
    simp only [okB]
    first
      | (simp [*]; done)
      | (rw [Bool.eq_iff_iff]; simp_all; done)
      | (rw [Bool.eq_iff_iff]; simp_all; omega)


/-! ### what waits -/
def IsP (w : World) (g : Nat) (F : Nat → Prop) (fr bo sq : Int) (l : List En) : Prop :=
  ∃ A c, Cells w g [.int .i64 fr, .int .i64 bo, .int .i64 sq, .slice A l.length c] ∧ Own w 7 A l.length c (ecells l) ∧ blk A ≠ some g ∧ F g ∧ (∀ k, blk A = some k → F k) ∧ ∀ k, F k → k < w.heap.size
theorem IsP.mod {w w' : World} {g : Nat} {F G : Nat → Prop} {fr bo sq : Int} {l : List En} (h : IsP w g F fr bo sq l) (hm : Mod G w w') (hF : ∀ k, k < w.heap.size → F k → ¬ G k) : IsP w' g F fr bo sq l := by
  obtain ⟨A, c, h1, h2, h3, h4, h5, h6⟩ := h
  exact ⟨A, c, h1.mod hm (hF g h1.2.2 h4), h2.mod hm fun q e => hF q (h2.lt e) (h5 q e), h3, h4, h5, fun k hk => Nat.lt_of_lt_of_le (h6 k hk) hm.size⟩
theorem IsP.none_ {w w' : World} {g : Nat} {F : Nat → Prop} {fr bo sq : Int} {l : List En} (h : IsP w g F fr bo sq l) (hm : Mod (fun _ => False) w w') : IsP w' g F fr bo sq l := h.mod hm (by simp)
theorem IsP.lt {w : World} {g : Nat} {F : Nat → Prop} {fr bo sq : Int} {l : List En} (h : IsP w g F fr bo sq l) : ∀ k, F k → k < w.heap.size := by obtain ⟨A, c, h1, h2, h3, h4, h5, h6⟩ := h; exact h6
theorem IsP.self {w : World} {g : Nat} {F : Nat → Prop} {fr bo sq : Int} {l : List En} (h : IsP w g F fr bo sq l) : F g := by obtain ⟨A, c, h1, h2, h3, h4, h5, h6⟩ := h; exact h4

theorem newP_ok (fr bo : Int) (w : World) (h1 : 1 ≤ fr) (h2 : fr ≤ 7) (h3 : 1 ≤ bo) (h4 : bo ≤ 1099511627776) : Calls Try.prog 22 #[.int .i64 fr, .int .i64 bo] w fun e w' =>
    ∃ g, e = .returned (.pointer (some ⟨g, 0, none⟩)) ∧ IsP w' g (fun k => k = g) fr bo 0 [] ∧ w.heap.size ≤ g ∧ Mod (fun _ => False) w w' := by
  go_enter Try.func22, Try.ntmps22
  go_wp2_with fail
  go_ret
  exact ⟨w.heap.size, rfl, ⟨none, 0, Cells.new w _ _, Own.nil _ _, by simp [blk], rfl, by simp [blk], fun k e => by subst e; simp⟩, Nat.le_refl _, (Mod.refl _ _).alloc _⟩
theorem newP_bad (fr bo : Int) (w : World) (h : fr < 1 ∨ 7 < fr ∨ bo < 1 ∨ 1099511627776 < bo) : Calls Try.prog 22 #[.int .i64 fr, .int .i64 bo] w fun e w' => e = .returned (.pointer none) ∧ w = w' := by
  have hc : fr < 1 ∨ (1 ≤ fr ∧ 7 < fr) ∨ (1 ≤ fr ∧ fr ≤ 7 ∧ bo < 1) ∨ (1 ≤ fr ∧ fr ≤ 7 ∧ 1 ≤ bo ∧ 1099511627776 < bo) := by omega
  clear h
  rcases hc with h | ⟨h1, h⟩ | ⟨h1, h2, h⟩ | ⟨h1, h2, h3, h⟩
  all_goals
    go_enter Try.func22, Try.ntmps22
    go_wp2_with fail
    go_ret
    exact ⟨rfl, rfl⟩
theorem lenP_any (g : Nat) (F : Nat → Prop) (fr bo sq : Int) (l : List En) (w : World) (h : IsP w g F fr bo sq l) : Calls Try.prog 30 #[.pointer (some ⟨g, 0, none⟩)] w fun e w' => e = .returned (.int .i64 l.length) ∧ w = w' := by
  obtain ⟨A, c, h1, _⟩ := h
  have c3 : w.cell? ⟨g, 3, none⟩ = some (.slice A l.length c) := h1.1 3 _ rfl
  clear h1
  go_enter Try.func30, Try.ntmps30
  go_wp2_with fail
  go_ret
  exact ⟨rfl, rfl⟩
theorem lenP_nil (w : World) : Calls Try.prog 30 #[.pointer none] w fun e w' => e = .returned (.int .i64 0) ∧ w = w' := by
  go_enter Try.func30, Try.ntmps30
  go_wp2_with fail
  go_ret
  exact ⟨rfl, rfl⟩
theorem listP_any (g : Nat) (F : Nat → Prop) (fr bo sq : Int) (l : List En) (w : World) (h : IsP w g F fr bo sq l) (hl : l.length ≤ 1000) : Calls Try.prog 29 #[.pointer (some ⟨g, 0, none⟩)] w (NewE w l) := by
  obtain ⟨A, c, h1, h2, _⟩ := h
  have c3 : w.cell? ⟨g, 3, none⟩ = some (.slice A l.length c) := h1.1 3 _ rfl
  have HC := Lib.hid (cloneE_any A l c w (Sl.of_own h2) (fun e => by subst e; exact List.eq_nil_of_length_eq_zero (own_none h2)) hl)
  clear h1 h2
  go_enter Try.func29, Try.ntmps29
  go_wp2_with fail
  refine HC.out.mono ?_
  rintro e w1 ⟨B, d, rfl, o1, m1, b1⟩
  have hr := Lib.hid (show NewE w l (.returned (.slice B l.length d)) w1 from ⟨B, d, rfl, o1, m1, b1⟩)
  clear o1 m1 b1
  go_wp2_with fail
  go_ret
  exact hr.out
theorem listP_nil (w : World) : Calls Try.prog 29 #[.pointer none] w fun e w' => e = .returned (.slice none 0 0) ∧ w = w' := by
  go_enter Try.func29, Try.ntmps29
  go_wp2_with fail
  go_ret
  exact ⟨rfl, rfl⟩
theorem doneP_nil (B : Option Addr) (n d : Nat) (w : World) : Calls Try.prog 27 #[.pointer none, .slice B n d] w fun e w' => e = .returned (.int .i64 0) ∧ Mod (fun _ => False) w w' := by
  go_enter Try.func27, Try.ntmps27
  go_wp2_with fail
  refine (lenP_nil _).mono ?_
  rintro e w1 ⟨rfl, rfl⟩
  go_wp2_with fail
  refine (lenP_nil _).mono ?_
  rintro e w1 ⟨rfl, rfl⟩
  go_wp2_with fail
  go_ret
  exact ⟨rfl, (Mod.refl _ _).alloc _⟩

/-! ### entry.May -/
def ic (l : List Int) : List Value := l.map (Value.int .i64)
theorem ic_at (l : List Int) {i : Nat} (hi : i < l.length) : (ic l)[i]? = some (.int .i64 l[i]) := by simp [ic, hi]
theorem in_any (lo hi : Int) (A : Option Addr) (l : List Int) (c : Nat) (w : World) (hl : Sl w 1 A l.length (ic l)) :
    Calls Try.prog 49 #[.int .i64 lo, .int .i64 hi, .slice A l.length c] w fun e w' => e = .returned (.bool (l.all fun x => decide (lo ≤ x) && decide (x ≤ hi))) ∧ w = w' := by
  have hb1 := hl.2.1
  unfold maxLen at hb1
  have HL := Lib.hid hl
  clear hl
  go_enter Try.func49, Try.ntmps49
  go_wp2_with fail
  go_loopg [8, 11] l.length (fun m v8 v11 wr => ∃ k : Nat, k ≤ l.length ∧ v11 = .int .i64 k ∧ Hid (∀ j (h : j < l.length), j < k → lo ≤ l[j] ∧ l[j] ≤ hi) ∧ w = wr ∧ m + k = l.length)
  case atStart => exact ⟨0, by omega, rfl, Lib.hid fun j _ h => absurd h (by omega), rfl, by omega⟩
  case round =>
    obtain ⟨k, hk, rfl, HK, rfl, hm⟩ := hrel
    by_cases hlt : k < l.length
    · obtain ⟨g, o, hA, hg, hx⟩ := HL.out.at_ (by omega)
      have x0 := hx k _ (ic_at l hlt)
      have j0 : (0 : Int) ≤ (k : Int) := by omega
      have j1 : (k : Int) < (l.length : Int) := by omega
      have HA := Lib.hid hA
      clear hx
      have hall := Lib.hid (show ¬ (lo ≤ l[k] ∧ l[k] ≤ hi) → (l.all fun x => decide (lo ≤ x) && decide (x ≤ hi)) = false from fun h => by
        rw [Bool.eq_false_iff]
        intro h2
        have := List.all_eq_true.1 h2 l[k] (List.getElem_mem hlt)
        simp at this
        exact h this)
      have hnx := Lib.hid (show (lo ≤ l[k] ∧ l[k] ≤ hi) → ∀ j (h : j < l.length), j < k + 1 → lo ≤ l[j] ∧ l[j] ≤ hi from fun h j hj hjk => by
        by_cases e : j = k
        · subst e; exact h
        · exact HK.out j hj (by omega))
      generalize l[k] = x at *
      rw [hA]
      clear hA
      by_cases h1 : x < lo
      · have HR := Lib.hid (hall.out (by omega))
        go_wp2_with fail
        go_ret
        refine ⟨?_, rfl⟩
        rw [HR.out]
        rfl
      · by_cases h2 : hi < x
        · have HR := Lib.hid (hall.out (by omega))
          go_wp2_with fail
          go_ret
          refine ⟨?_, rfl⟩
          rw [HR.out]
          rfl
        · have HN := Lib.hid (hnx.out (by omega))
          go_wp2_with fail
          rw [← HA.out]
          go_roundg (l.length - (k + 1))
          case measure => omega
          case rel => exact ⟨k + 1, by omega, by go_num, HN, rfl, by omega⟩
    · have HR := Lib.hid (show (l.all fun x => decide (lo ≤ x) && decide (x ≤ hi)) = true from List.all_eq_true.2 fun x hx => by
        obtain ⟨j, hj, rfl⟩ := List.getElem_of_mem hx
        have := HK.out j hj (by omega)
        simp; omega)
      go_wp2_with fail
      go_ret
      refine ⟨?_, rfl⟩
      rw [HR.out]
      rfl
end Go.Proofs.Ytbladkopbkkamaa
