/- Set and Go of package wheel. -/
import Derived.Test.YtnfhmflcaolbbaaWheel
namespace Go.Proofs.Ytnfhmflcaolbbaa
open Go.RowKit
attribute [local go_sem ↓] Go.wp_at_zero Go.wp_at_succ
set_option linter.unusedVariables false
set_option linter.unusedSimpArgs false

theorem set_nil (id at_ : Int) (w : World) : Calls Try.prog 11 #[.pointer none, .int .i64 id, .int .i64 at_] w fun e w' => e = .returned (.int .i64 8) ∧ w = w' := by
  go_enter Try.func11, Try.ntmps11
  go_wp2_with fail
  go_ret
  exact ⟨rfl, rfl⟩
theorem set_bad (g : Nat) (id at_ : Int) (w : World) (h : id < 0 ∨ 64 ≤ id ∨ timeB at_ = false) : Calls Try.prog 11 #[.pointer (some ⟨g, 0, none⟩), .int .i64 id, .int .i64 at_] w fun e w' => e = .returned (.int .i64 3) ∧ Mod (fun _ => False) w w' := by
  have hc : id < 0 ∨ (0 ≤ id ∧ 64 ≤ id) ∨ (0 ≤ id ∧ id < 64 ∧ timeB at_ = false) := by
    rcases h with h | h | h
    · omega
    · omega
    · by_cases h1 : id < 0
      · exact .inl h1
      · by_cases h2 : 64 ≤ id
        · exact .inr (.inl ⟨by omega, h2⟩)
        · exact .inr (.inr ⟨by omega, by omega, h⟩)
  clear h
  rcases hc with h1 | ⟨h1, h2⟩ | ⟨h1, h2, h3⟩
  · go_enter Try.func11, Try.ntmps11
    go_wp2_with fail
    go_ret
    exact ⟨rfl, Mod.refl _ _⟩
  · go_enter Try.func11, Try.ntmps11
    go_wp2_with fail
    go_ret
    exact ⟨rfl, Mod.refl _ _⟩
  · have HT := Lib.hid h3
    clear h3
    go_enter Try.func11, Try.ntmps11
    go_wp2_with fail
    refine (time1 w.heap.size at_ _ (by simp)).mono ?_
    rintro e w1 ⟨rfl, rfl⟩
    rw [HT.out]
    go_wp2_with fail
    go_ret
    exact ⟨rfl, (Mod.refl _ _).alloc _⟩
theorem info_tm : (Try.prog.info? 54).map (fun i => (i.zero, i.size, i.bytes)) = some (some (.agg #[.int .i64 0, .int .i64 0]), 2, 16) := by kernel_rfl
theorem Tm.one (x : Tm) : ∀ u ∈ x.cells, u.oneCell' = true := by
  intro u hu
  simp [Tm.cells] at hu
  rcases hu with rfl | rfl <;> rfl
theorem tc_app (l m : List Tm) : tc (l ++ m) = tc l ++ tc m := by simp [tc]
def SortedT (l : List Tm) : Prop := ∀ i j (hi : i < l.length) (hj : j < l.length), i < j → ltOf cf l[j] l[i] = false
def SetR (w : World) (g : Nat) (F : Nat → Prop) (now : Int) (l : List Tm) (id at_ : Int) (e : Ending) (w' : World) : Prop :=
  ∃ F2 l2, e = .returned (.int .i64 0) ∧ IsW w' g F2 now l2 ∧ l2.Perm (del l id ++ [⟨id, at_⟩]) ∧ SortedT l2 ∧ Mod F w w' ∧ ∀ k, F2 k → F k ∨ w.heap.size ≤ k
set_option maxHeartbeats 3200000 in
theorem set_ok (g : Nat) (F : Nat → Prop) (now : Int) (l : List Tm) (id at_ : Int) (w : World) (h : IsW w g F now l) (hl : l.length ≤ 900) (h0 : 0 ≤ id) (h1 : id < 64) (ht : timeB at_ = true) :
    Calls Try.prog 11 #[.pointer (some ⟨g, 0, none⟩), .int .i64 id, .int .i64 at_] w (SetR w g F now l id at_) := by
  obtain ⟨i0, hi0, hz0, hz1, hz2⟩ := info_parts info_tm
  have HI := Lib.hid hi0
  have HZ0 := Lib.hid hz0
  have HZ1 := Lib.hid hz1
  have HZ2 := Lib.hid hz2
  have HT := Lib.hid ht
  have hone := Lib.hid (Tm.one ⟨id, at_⟩)
  have HFL := Lib.hid h.lt
  have hdl : (del l id).length ≤ l.length := List.length_filter_le ..
  have M0 := Lib.hid ((Mod.refl F w).alloc (.cells #[.int .i64 at_] 2))
  have HS := Lib.hid (stop_any g F now l id _ (h.none_ ((Mod.refl _ w).alloc (.cells #[.int .i64 at_] 2))))
  clear h ht hi0 hz0 hz1 hz2
  go_enter Try.func11, Try.ntmps11
  go_wp2_with fail
  refine (time1 w.heap.size at_ _ (by simp)).mono ?_
  rintro e w1 ⟨rfl, rfl⟩
  rw [HT.out]
  go_wp2_with fail
  refine HS.out.mono ?_
  rintro e w2 ⟨rfl, p2, m2⟩
  have M2 := Lib.hid (M0.out.trans m2 (fun k hk => .inl hk))
  obtain ⟨A, c, c2, o2, n2, f2, s2, b2⟩ := p2
  generalize hl' : del l id = l' at *
  have d1 : w2.cell? ⟨g, 1, none⟩ = some (.slice A l'.length c) := c2.1 1 _ rfl
  have C2 := Lib.hid c2
  have O2 := Lib.hid o2
  have N2 := Lib.hid n2
  have F2 := Lib.hid f2
  have S2 := Lib.hid s2
  have hgl := c2.2.2
  clear m2 c2 o2 n2 f2 s2 b2 HS M0
  go_wp2_with (at_builtin; refine wpList_append_Own _ rfl _ _ _ rfl 54 i0 _ 2 16 Try.underlying50 HI.out HZ0.out HZ1.out HZ2.out rfl (by decide) A l'.length c _ rfl (O2.out.alloc _) ⟨w2.heap.size, 0, none⟩ 1 1 (⟨id, at_⟩ : Tm).cells rfl rfl (World.news_of_block (heap_alloc_new _ _)) hone.out (by decide) (by unfold maxLen; omega) (by omega) ?_; intro A2 cc w4 ho2 hg2 hb2; have hC4 : Cells w4 g [.int .i64 now, .slice A l'.length c] := (C2.out.alloc _).grown hg2 N2.out; have q1 : w4.cell? ⟨g, 1, none⟩ = some (.slice A l'.length c) := hC4.1 1 _ rfl; have r1 := hC4.2.1 1)
  have hne' : blk A2 ≠ some g := by
    rcases hb2 with e | ⟨k, e, hk⟩
    · rw [e]; exact N2.out
    · rw [e]; intro h; injection h with h; simp at hk; omega
  obtain ⟨gA, oA, hA2, hgA⟩ := ho2.form (by omega)
  subst hA2
  have hF' := Lib.hid (show ∀ k, k = g ∨ k = gA → F k ∨ w.heap.size ≤ k from by
    rintro k (rfl | rfl)
    · exact .inl F2.out
    · rcases hb2 with e | ⟨q, e, hq⟩
      · exact .inl (S2.out _ e.symm)
      · have e2 : k = q := Option.some.inj e
        simp at hq
        right
        have := M2.out.size
        omega)
  have hlen : (l' ++ [(⟨id, at_⟩ : Tm)]).length = l'.length + 1 := by simp
  have hsort := sort_any gA oA cc (l' ++ [⟨id, at_⟩]) (w4.setCell ⟨g, 1, none⟩ (.slice (some ⟨gA, oA, none⟩) (l'.length + 1) cc)) (by rw [hlen, tc_app]; exact (show Own w4 2 (some ⟨gA, oA, none⟩) (l'.length + 1) cc (tc l' ++ tc [⟨id, at_⟩]) by simpa [tc] using ho2).far hne' _) (by rw [hlen]; omega)
  rw [hlen] at hsort
  have HSort := Lib.hid hsort
  have C4 := Lib.hid (show Cells (w4.setCell ⟨g, 1, none⟩ (.slice (some ⟨gA, oA, none⟩) (l'.length + 1) cc)) g [.int .i64 now, .slice (some ⟨gA, oA, none⟩) (l'.length + 1) cc] from hC4.set_ 1 _)
  have M4 := Lib.hid (show Mod F w (w4.setCell ⟨g, 1, none⟩ (.slice (some ⟨gA, oA, none⟩) (l'.length + 1) cc)) from (((M2.out.alloc (.cells #[.int .i64 id, .int .i64 at_] 54)).grown hg2 fun k e => .inl (S2.out k e)).setCell (.inl F2.out) _))
  have hne2 : gA ≠ g := fun e => hne' (by rw [← e]; rfl)
  clear hsort ho2 hg2 hb2 hC4 q1 r1 hne'
  refine HSort.out.mono ?_
  rintro e w5 ⟨rfl, l2, hperm, hsorted, o5, m5⟩
  have hl2 : l2.length = l'.length + 1 := by rw [hperm.length_eq, hlen]
  have hr := Lib.hid (show SetR w g F now l id at_ (.returned (.int .i64 0)) w5 from ⟨fun k => k = g ∨ k = gA, l2, rfl, ⟨some ⟨gA, oA, none⟩, cc, by rw [hl2]; exact C4.out.mod m5 (fun e => hne2 e.symm), by rw [hl2]; exact o5, fun e => hne2 (Option.some.inj e), .inl rfl, fun k e => .inr (Option.some.inj e).symm, fun k hk => by
      have h1 := C4.out.2.2
      have h2 := m5.size
      have h3 := o5.lt (g := gA) rfl
      rcases hk with rfl | rfl <;> omega⟩, by rw [hl']; exact hperm, hsorted, M4.out.trans m5 (fun k e => hF'.out k (.inr e)), hF'.out⟩)
  clear o5 m5 HSort
  go_wp2_with fail
  go_ret
  exact hr.out

/-! ### Go -/
def icT (l : List Int) : List Value := l.map (Value.int .i64)
theorem info_int : (Try.prog.info? 3).map (fun i => (i.zero, i.size, i.bytes)) = some (some (.int .i64 0), 1, 8) := by kernel_rfl
theorem go_nil (now' : Int) (w : World) : Calls Try.prog 13 #[.pointer none, .int .i64 now'] w fun e w' => e = .returned (.slice none 0 0) ∧ w = w' := by
  go_enter Try.func13, Try.ntmps13
  go_wp2_with fail
  go_ret
  exact ⟨rfl, rfl⟩
theorem go_bad (g : Nat) (F : Nat → Prop) (now now' : Int) (l : List Tm) (w : World) (h : IsW w g F now l) (hb : timeB now' = false ∨ now' < now) : Calls Try.prog 13 #[.pointer (some ⟨g, 0, none⟩), .int .i64 now'] w fun e w' => e = .returned (.slice none 0 0) ∧ Mod (fun _ => False) w w' := by
  obtain ⟨A, c, h1, _⟩ := h
  have c0 : w.cell? ⟨g, 0, none⟩ = some (.int .i64 now) := h1.1 0 _ rfl
  have c0a : ∀ o, (w.alloc o).cell? ⟨g, 0, none⟩ = some (.int .i64 now) := fun o => (h1.alloc o).1 0 _ rfl
  have hgl := h1.2.2
  clear h1
  cases ht : timeB now'
  · have HT := Lib.hid ht
    clear ht hb
    go_enter Try.func13, Try.ntmps13
    go_wp2_with fail
    refine (time1 w.heap.size now' _ (by simp)).mono ?_
    rintro e w1 ⟨rfl, rfl⟩
    rw [HT.out]
    go_wp2_with fail
    go_ret
    exact ⟨rfl, (Mod.refl _ _).alloc _⟩
  · have hlt : now' < now := by
      rcases hb with h | h
      · rw [ht] at h; cases h
      · exact h
    have HT := Lib.hid ht
    clear ht hb
    go_enter Try.func13, Try.ntmps13
    go_wp2_with fail
    refine (time1 w.heap.size now' _ (by simp)).mono ?_
    rintro e w1 ⟨rfl, rfl⟩
    rw [HT.out]
    go_wp2_with fail
    go_ret
    exact ⟨rfl, (Mod.refl _ _).alloc _⟩
def GoR (w : World) (g : Nat) (F : Nat → Prop) (now' : Int) (l : List Tm) (e : Ending) (w' : World) : Prop :=
  ∃ k B d, k ≤ l.length ∧ (∀ j (h : j < l.length), j < k → l[j].t ≤ now') ∧ (∀ h : k < l.length, now' < l[k].t) ∧ e = .returned (.slice B k d) ∧ Own w' 1 B k d (icT ((l.take k).map Tm.id)) ∧ IsW w' g F now' (l.drop k) ∧ Mod F w w' ∧ ∀ q, blk B = some q → w.heap.size ≤ q
theorem IsW.setNow {w : World} {g : Nat} {F : Nat → Prop} {now : Int} {l : List Tm} (h : IsW w g F now l) (now' : Int) : IsW (w.setCell ⟨g, 0, none⟩ (.int .i64 now')) g F now' l ∧ Mod F w (w.setCell ⟨g, 0, none⟩ (.int .i64 now')) := by
  obtain ⟨A, c, h1, h2, h3, h4, h5, h6⟩ := h
  exact ⟨⟨A, c, h1.set_ 0 _, h2.far h3 _, h3, h4, h5, fun k hk => by simp [World.setCell]; exact h6 k hk⟩, (Mod.refl F w).setCell (p := ⟨g, 0, none⟩) (.inl h4) _⟩
theorem IsW.pop {w : World} {g gA oA c : Nat} {F : Nat → Prop} {now : Int} {l : List Tm} (hC : Cells w g [.int .i64 now, .slice (some ⟨gA, oA, none⟩) l.length c]) (ho : Own w 2 (some ⟨gA, oA, none⟩) l.length c (tc l)) (hne : gA ≠ g) (hg : F g) (hA : F gA) (hF : ∀ k, F k → k < w.heap.size) (hp : 0 < l.length) :
    IsW (w.setCell ⟨g, 1, none⟩ (.slice (if c = 1 then some ⟨gA, oA, none⟩ else some ⟨gA, oA + 2, none⟩) (l.length - 1) (c - 1))) g F now (l.drop 1) ∧ Mod F w (w.setCell ⟨g, 1, none⟩ (.slice (if c = 1 then some ⟨gA, oA, none⟩ else some ⟨gA, oA + 2, none⟩) (l.length - 1) (c - 1))) := by
  have hcut := ho.cut (k := 1) (by omega)
  have e1 : (Option.some (⟨gA, oA, none⟩ : Addr)).map (·.add (1 * 2)) = some ⟨gA, oA + 2, none⟩ := congrArg some (Addr.add_lit ..)
  rw [e1] at hcut
  have hd : (l.drop 1).length = l.length - 1 := by rw [List.length_drop]
  have hb : ∀ q, blk (if c = 1 then some (⟨gA, oA, none⟩ : Addr) else some ⟨gA, oA + 2, none⟩) = some q → q = gA := fun q e => by
    split at e
    · exact (Option.some.inj e).symm
    · exact (Option.some.inj e).symm
  refine ⟨⟨_, c - 1, ?_, ?_, fun e => hne (hb g e).symm, hg, fun k e => by rw [hb k e]; exact hA, fun k hk => by simp [World.setCell]; exact hF k hk⟩, (Mod.refl F w).setCell (p := ⟨g, 1, none⟩) (.inl hg) _⟩
  · rw [hd]; exact hC.set_ 1 _
  · rw [hd, show tc (l.drop 1) = (tc l).drop (1 * 2) from (cl_drop Tm.cells_len l 1).symm]
    exact hcut.far (fun e => hne (hb g e).symm) _
theorem popW1 {w0 w : World} {g gA oA : Nat} {F : Nat → Prop} {now : Int} {l : List Tm} (hC : Cells w g [.int .i64 now, .slice (some ⟨gA, oA, none⟩) l.length 1]) (ho : Own w 2 (some ⟨gA, oA, none⟩) l.length 1 (tc l)) (hne : gA ≠ g) (hg : F g) (hA : F gA) (hF : ∀ k, F k → k < w.heap.size) (hp : 0 < l.length) (hm : Mod F w0 w) (hk : ∀ k, F k → F k ∨ w0.heap.size ≤ k) :
    IsW (w.setCell ⟨g, 1, none⟩ (.slice (some ⟨gA, oA, none⟩) (l.length - 1) (1 - 1))) g F now (l.drop 1) ∧ Mod F w0 (w.setCell ⟨g, 1, none⟩ (.slice (some ⟨gA, oA, none⟩) (l.length - 1) (1 - 1))) := by
  have h := IsW.pop hC ho hne hg hA hF hp
  rw [if_pos rfl] at h
  exact ⟨h.1, hm.trans h.2 hk⟩
theorem popW2 {w0 w : World} {g gA oA c : Nat} {F : Nat → Prop} {now : Int} {l : List Tm} (hc : ¬ c = 1) (hC : Cells w g [.int .i64 now, .slice (some ⟨gA, oA, none⟩) l.length c]) (ho : Own w 2 (some ⟨gA, oA, none⟩) l.length c (tc l)) (hne : gA ≠ g) (hg : F g) (hA : F gA) (hF : ∀ k, F k → k < w.heap.size) (hp : 0 < l.length) (hm : Mod F w0 w) (hk : ∀ k, F k → F k ∨ w0.heap.size ≤ k) :
    IsW (w.setCell ⟨g, 1, none⟩ (.slice (some ⟨gA, oA + 2, none⟩) (l.length - 1) (c - 1))) g F now (l.drop 1) ∧ Mod F w0 (w.setCell ⟨g, 1, none⟩ (.slice (some ⟨gA, oA + 2, none⟩) (l.length - 1) (c - 1))) := by
  have h := IsW.pop hC ho hne hg hA hF hp
  rw [if_neg hc] at h
  exact ⟨h.1, hm.trans h.2 hk⟩
theorem freshC {B B2 : Option Addr} {n q m : Nat} (h : blk B2 = blk B ∨ ∃ g, blk B2 = some g ∧ n ≤ g) (hB : ∀ q, blk B = some q → m ≤ q) (hn : m ≤ n) (e : blk B2 = some q) : m ≤ q := by
  rcases h with h | ⟨g', h, hg⟩
  · exact hB q (by rw [← h]; exact e)
  · rw [h] at e; have := Option.some.inj e; omega
theorem freshB {B B2 : Option Addr} {n q m : Nat} (h : blk B2 = blk B ∨ ∃ g, blk B2 = some g ∧ n ≤ g) (hB : ∀ q, blk B = some q → m ≤ q) (hn : m ≤ n) (hq : q < m) (e : blk B2 = some q) : False := by
  have := freshC h hB hn e
  omega
set_option maxHeartbeats 3200000 in
theorem go_ok (g : Nat) (F : Nat → Prop) (now now' : Int) (l : List Tm) (w : World) (h : IsW w g F now l) (hl : l.length ≤ 900) (ht : timeB now' = true) (hge : now ≤ now') :
    Calls Try.prog 13 #[.pointer (some ⟨g, 0, none⟩), .int .i64 now'] w (GoR w g F now' l) := by
  obtain ⟨i0, hi0, hz0, hz1, hz2⟩ := info_parts info_int
  have HI := Lib.hid hi0
  have HZ0 := Lib.hid hz0
  have HZ1 := Lib.hid hz1
  have HZ2 := Lib.hid hz2
  have HT := Lib.hid ht
  have hF := Lib.hid h.lt
  have h2 := h.none_ ((Mod.refl _ w).alloc (.cells #[.int .i64 now'] 2))
  have hset := h2.setNow now'
  have P1 := Lib.hid hset.1
  have M1 := Lib.hid (((Mod.refl F w).alloc (.cells #[.int .i64 now'] 2)).trans hset.2 (fun k hk => .inl hk))
  obtain ⟨A, c, c2, _⟩ := h2
  have c0 : (w.alloc (.cells #[.int .i64 now'] 2)).cell? ⟨g, 0, none⟩ = some (.int .i64 now) := c2.1 0 _ rfl
  have f0 := c2.2.1 0
  clear h ht hi0 hz0 hz1 hz2 hset c2
  go_enter Try.func13, Try.ntmps13
  go_wp2_with fail
  refine (time1 w.heap.size now' _ (by simp)).mono ?_
  rintro e w1 ⟨rfl, rfl⟩
  rw [HT.out]
  go_wp2_with fail
  go_loopg [5] l.length (fun m v5 wr => ∃ (k : Nat) (B : Option Addr) (d : Nat), k ≤ l.length ∧ v5 = .slice B k d ∧ Hid (∀ j (h : j < l.length), j < k → l[j].t ≤ now') ∧ Hid (Own wr 1 B k d (icT ((l.take k).map Tm.id))) ∧ Hid (IsW wr g F now' (l.drop k)) ∧ Hid (Mod F w wr) ∧ Hid (∀ q, blk B = some q → w.heap.size ≤ q) ∧ m + k = l.length)
  case atStart => exact ⟨0, none, 0, by omega, rfl, Lib.hid fun j _ h => absurd h (by omega), Lib.hid (Own.nil _ _), P1, M1, Lib.hid (by simp [blk]), by omega⟩
  case round =>
    obtain ⟨k, B, d, hk, rfl, HK, HO, HP, HM, HB, hm⟩ := hrel
    have hdl : (l.drop k).length = l.length - k := by rw [List.length_drop]
    obtain ⟨A, c, c2, o2, n2, f2, s2, b2⟩ := HP.out
    by_cases hlt : k < l.length
    · obtain ⟨gA, oA, hA, hgA⟩ := o2.form (by omega)
      subst hA
      have hgAF : F gA := s2 gA rfl
      have hne : gA ≠ g := fun e => n2 (by rw [← e]; rfl)
      obtain ⟨g', o', e', _, q0, q1⟩ := (Sl.of_own o2).tm (k := 0) (by omega)
      injection e' with e'
      injection e' with e1 e2
      subst e1 e2
      have hx : (l.drop k)[0]'(by omega) = l[k] := by rw [List.getElem_drop]; rfl
      rw [hx] at q0 q1
      simp only [Nat.zero_mul, Nat.add_zero] at q0 q1
      have d1 : wr.cell? ⟨g, 1, none⟩ = some (.slice (some ⟨gA, oA, none⟩) (l.drop k).length c) := c2.1 1 _ rfl
      rw [hdl] at d1
      have n1 : (0 : Int) < ((l.length - k : Nat) : Int) := by omega
      have hgl := c2.2.2
      by_cases hnow : l[k].t ≤ now'
      · have hK2 := Lib.hid (show ∀ j (h : j < l.length), j < k + 1 → l[j].t ≤ now' from fun j h hj => by
          by_cases e : j = k
          · subst e; exact hnow
          · exact HK.out j h (by omega))
        have htk := Lib.hid (show icT ((l.take (k + 1)).map Tm.id) = icT ((l.take k).map Tm.id) ++ [.int .i64 l[k].id] by
          rw [List.take_succ_eq_append_getElem hlt]; unfold icT; rw [List.map_append, List.map_append]; rfl)
        have C2 := Lib.hid c2
        have O2 := Lib.hid o2
        have F2 := Lib.hid f2
        have HdL := Lib.hid hdl
        have hcap := o2.2.1
        rw [hdl] at hcap
        have n2' : (1 : Int) ≤ ((l.length - k : Nat) : Int) := by omega
        clear c2 o2 n2 f2 s2 b2 hx
        generalize l[k] = x at *
        have HA := Lib.hid hgAF
        have HBg := Lib.hid (show ∀ q, F q → blk B ≠ some q from fun q hq e => by have h1 := HB.out q e; have h2 := hF.out q hq; omega)
        by_cases hc1 : c = 1
        · subst hc1
          go_wp2_with (at_builtin; refine wpList_append_Own _ rfl _ _ _ rfl 3 i0 _ 1 8 Try.underlying35 HI.out HZ0.out HZ1.out HZ2.out rfl (by decide) B k d _ rfl (HO.out.alloc _) ⟨wr.heap.size, 0, none⟩ 1 1 [.int .i64 x.id] rfl rfl (World.news_of_block (heap_alloc_new _ _)) (by simp [Value.oneCell']) (by decide) (by unfold maxLen; omega) (by omega) ?_; intro B2 d2 w2 ho2 hg2 hb2; have c4 : Cells w2 g [.int .i64 now', .slice (some ⟨gA, oA, none⟩) (l.drop k).length 1] := (C2.out.alloc _).grown hg2 (HBg.out g F2.out); have o4 : Own w2 2 (some ⟨gA, oA, none⟩) (l.drop k).length 1 (tc (l.drop k)) := (O2.out.alloc _).grown hg2 (fun q e => HBg.out q (by rw [← Option.some.inj e]; exact HA.out)); have m4 : Mod F w w2 := ((HM.out.alloc _).grown hg2 (fun q e => .inr (HB.out q e))); have hpop := popW1 c4 o4 hne F2.out HA.out (fun q hq => by have h1 := hF.out q hq; have h2 := m4.size; omega) (by omega) m4 (fun _ hk => .inl hk); have q9 : w2.cell? ⟨g, 1, none⟩ = some (.slice (some ⟨gA, oA, none⟩) (l.drop k).length 1) := c4.1 1 _ rfl; have f9 : w2.frozen? ⟨g, 1, none⟩ = false := c4.2.1 1; have g9 := c4.2.2; rw [HdL.out] at q9 hpop; rw [List.drop_drop] at hpop; have HPOP := Lib.hid hpop; have O5 := Lib.hid (show Own (w2.setCell ⟨g, 1, none⟩ (.slice (some ⟨gA, oA, none⟩) (l.length - k - 1) (1 - 1))) 1 B2 (k + 1) d2 (icT ((l.take (k + 1)).map Tm.id)) from by rw [htk.out]; exact ho2.far (fun e => freshB hb2 (fun q e => HB.out q e) (HM.out.alloc _).size (hF.out g F2.out) e) _); have HB5 := Lib.hid (show ∀ q, blk B2 = some q → w.heap.size ≤ q from fun q e => freshC hb2 (fun q e => HB.out q e) (HM.out.alloc _).size e); clear c4 o4 m4 hpop ho2 hg2 hb2)
          go_roundg (l.length - (k + 1))
          case measure => omega
          case rel =>
            have ez : l.length - k - 1 = 0 := by omega
            rw [ez] at O5 HPOP
            exact ⟨k + 1, B2, d2, by omega, rfl, hK2, O5, Lib.hid HPOP.out.1, Lib.hid HPOP.out.2, HB5, by omega⟩
        · go_wp2_with (at_builtin; refine wpList_append_Own _ rfl _ _ _ rfl 3 i0 _ 1 8 Try.underlying35 HI.out HZ0.out HZ1.out HZ2.out rfl (by decide) B k d _ rfl (HO.out.alloc _) ⟨wr.heap.size, 0, none⟩ 1 1 [.int .i64 x.id] rfl rfl (World.news_of_block (heap_alloc_new _ _)) (by simp [Value.oneCell']) (by decide) (by unfold maxLen; omega) (by omega) ?_; intro B2 d2 w2 ho2 hg2 hb2; have c4 : Cells w2 g [.int .i64 now', .slice (some ⟨gA, oA, none⟩) (l.drop k).length c] := (C2.out.alloc _).grown hg2 (HBg.out g F2.out); have o4 : Own w2 2 (some ⟨gA, oA, none⟩) (l.drop k).length c (tc (l.drop k)) := (O2.out.alloc _).grown hg2 (fun q e => HBg.out q (by rw [← Option.some.inj e]; exact HA.out)); have m4 : Mod F w w2 := ((HM.out.alloc _).grown hg2 (fun q e => .inr (HB.out q e))); have hpop := popW2 hc1 c4 o4 hne F2.out HA.out (fun q hq => by have h1 := hF.out q hq; have h2 := m4.size; omega) (by omega) m4 (fun _ hk => .inl hk); have q9 : w2.cell? ⟨g, 1, none⟩ = some (.slice (some ⟨gA, oA, none⟩) (l.drop k).length c) := c4.1 1 _ rfl; have f9 : w2.frozen? ⟨g, 1, none⟩ = false := c4.2.1 1; have g9 := c4.2.2; rw [HdL.out] at q9 hpop; rw [List.drop_drop] at hpop; have HPOP := Lib.hid hpop; have O5 := Lib.hid (show Own (w2.setCell ⟨g, 1, none⟩ (.slice (some ⟨gA, oA + 2, none⟩) (l.length - k - 1) (c - 1))) 1 B2 (k + 1) d2 (icT ((l.take (k + 1)).map Tm.id)) from by rw [htk.out]; exact ho2.far (fun e => freshB hb2 (fun q e => HB.out q e) (HM.out.alloc _).size (hF.out g F2.out) e) _); have HB5 := Lib.hid (show ∀ q, blk B2 = some q → w.heap.size ≤ q from fun q e => freshC hb2 (fun q e => HB.out q e) (HM.out.alloc _).size e); clear c4 o4 m4 hpop ho2 hg2 hb2)
          go_roundg (l.length - (k + 1))
          case measure => omega
          case rel => exact ⟨k + 1, B2, d2, by omega, rfl, hK2, O5, Lib.hid HPOP.out.1, Lib.hid HPOP.out.2, HB5, by omega⟩
      · have hr := Lib.hid (show GoR w g F now' l (.returned (.slice B k d)) wr from ⟨k, B, d, hk, HK.out, fun _ => by omega, rfl, HO.out, HP.out, HM.out, HB.out⟩)
        have hgt : now' < l[k].t := by omega
        clear hnow c2 o2 n2 f2 s2 b2 hx
        generalize l[k] = x at *
        go_wp2_with fail
        go_ret
        exact hr.out
    · have hr := Lib.hid (show GoR w g F now' l (.returned (.slice B k d)) wr from ⟨k, B, d, hk, HK.out, fun h => absurd h hlt, rfl, HO.out, HP.out, HM.out, HB.out⟩)
      have d1 : wr.cell? ⟨g, 1, none⟩ = some (.slice A (l.drop k).length c) := c2.1 1 _ rfl
      rw [hdl] at d1
      have n1 : l.length - k = 0 := by omega
      rw [n1] at d1
      clear c2 o2 n2 f2 s2 b2
      go_wp2_with fail
      go_ret
      exact hr.out
end Go.Proofs.Ytnfhmflcaolbbaa
