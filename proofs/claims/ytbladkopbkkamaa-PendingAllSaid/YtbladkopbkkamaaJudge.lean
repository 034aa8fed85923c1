/- The walks of the package judge and of the law's own Told and Firm. -/
import Derived.Test.YtbladkopbkkamaaEntry
namespace Go.Proofs.Ytbladkopbkkamaa
open Go.RowKit
attribute [local go_sem ↓] Go.wp_at_zero Go.wp_at_succ
set_option linter.unusedVariables false
set_option linter.unusedSimpArgs false

/-! ### what was told -/
structure To where
  at_ : Int
  e : En
def To.cells (t : To) : List Value := .int .i64 t.at_ :: t.e.cells
def To.val (t : To) : Value := .agg #[.int .i64 t.at_, .int .i64 t.e.fr, .int .i64 t.e.bo, .int .i64 t.e.se, .int .i64 t.e.od, .int .i64 t.e.lv, .int .i64 t.e.st, .string t.e.da]
theorem To.cells_len (t : To) : t.cells.length = 8 := rfl
def tcells (l : List To) : List Value := l.flatMap To.cells
theorem tcells_at (l : List To) {i j : Nat} (hi : i < l.length) (hj : j < 8) : (tcells l)[i * 8 + j]? = l[i].cells[j]? := cl_at To.cells_len l hi hj
theorem tcells_len (l : List To) : (tcells l).length = l.length * 8 := cl_len To.cells_len l
theorem tcells_app (l m : List To) : tcells (l ++ m) = tcells l ++ tcells m := by simp [tcells]
theorem To.one (t : To) : ∀ u ∈ t.cells, u.oneCell' = true := by
  intro u hu
  rcases List.mem_cons.1 hu with rfl | h
  · rfl
  · exact En.one _ u h
theorem info_to : (Try.prog.info? 32).map (fun i => (i.zero, i.size, i.bytes)) = some (some (.agg #[.int .i64 0, .int .i64 0, .int .i64 0, .int .i64 0, .int .i64 0, .int .i64 0, .int .i64 0, .string ByteArray.empty]), 8, 72) := by kernel_rfl

theorem Sl.to {w : World} {A : Option Addr} {n : Nat} {l : List To} (h : Sl w 8 A n (tcells l)) {k : Nat} (hk : k < l.length) : ∃ g o, A = some ⟨g, o, none⟩ ∧ g < w.heap.size ∧
    w.cell? ⟨g, o + k * 8, none⟩ = some (.int .i64 l[k].at_) ∧ w.cell? ⟨g, o + k * 8 + 1, none⟩ = some (.int .i64 l[k].e.fr) ∧ w.cell? ⟨g, o + k * 8 + 2, none⟩ = some (.int .i64 l[k].e.bo) ∧ w.cell? ⟨g, o + k * 8 + 3, none⟩ = some (.int .i64 l[k].e.se) ∧
    w.cell? ⟨g, o + k * 8 + 4, none⟩ = some (.int .i64 l[k].e.od) ∧ w.cell? ⟨g, o + k * 8 + 5, none⟩ = some (.int .i64 l[k].e.lv) ∧ w.cell? ⟨g, o + k * 8 + 6, none⟩ = some (.int .i64 l[k].e.st) ∧ w.cell? ⟨g, o + k * 8 + 7, none⟩ = some (.string l[k].e.da) := by
  have hn : 0 < n := by have h1 := h.1; rw [tcells_len] at h1; omega
  obtain ⟨g, o, rfl, hl, hx⟩ := h.at_ hn
  refine ⟨g, o, rfl, hl, ?_, ?_, ?_, ?_, ?_, ?_, ?_, ?_⟩
  · exact hx (k * 8 + 0) _ ((tcells_at l hk (by omega)).trans rfl)
  all_goals rw [Nat.add_assoc]; exact hx _ _ ((tcells_at l hk (by omega)).trans rfl)

/-! ### firm ones -/
def To.firm (t : To) : Bool := t.e.od == 1 && (t.e.lv == 1 || t.e.lv == 2)
def firm (l : List To) : List En := (l.filter To.firm).map To.e
theorem firm_next (l : List To) {k : Nat} (hk : k < l.length) : firm (l.take (k + 1)) = firm (l.take k) ++ (if l[k].firm = true then [l[k].e] else []) := by
  unfold firm
  rw [List.take_succ_eq_append_getElem hk, List.filter_append, List.map_append]
  congr 1
  by_cases h : l[k].firm = true
  · simp [h]
  · simp [h]
theorem firm_le (l : List To) : (firm l).length ≤ l.length := by unfold firm; rw [List.length_map]; exact List.length_filter_le _ _

/-- a new slice of entries, in a loop -/
def Out (w : World) (l : List En) (v : Value) (wr : World) : Prop :=
  ∃ B d, v = .slice B l.length d ∧ Own wr 7 B l.length d (ecells l) ∧ Mod (fun _ => False) w wr ∧ ∀ g, blk B = some g → w.heap.size ≤ g
theorem Out.start (w : World) : Out w [] (.slice none 0 0) w := ⟨none, 0, rfl, Own.nil _ _, Mod.refl _ _, by simp [blk]⟩
theorem Out.mod {w wr w' : World} {l : List En} {v : Value} (h : Out w l v wr) (hm : Mod (fun _ => False) wr w') : Out w l v w' := by
  obtain ⟨B, d, h1, h2, h3, h4⟩ := h
  exact ⟨B, d, h1, h2.mod hm (by simp), h3.trans hm (by simp), h4⟩
theorem out_app {w w1 w2 : World} {l : List En} {B B2 : Option Addr} {d2 : Nat} {x : En} {n : Nat} (hn : n = l.length) (hM : Mod (fun _ => False) w w1) (hB : ∀ g, blk B = some g → w.heap.size ≤ g)
    (ho2 : Own w2 7 B2 (n + 1) d2 (ecells l ++ x.cells)) (hg2 : w1.grownBy w2 (blk B)) (hb2 : blk B2 = blk B ∨ ∃ g, blk B2 = some g ∧ w1.heap.size ≤ g) :
    Out w (l ++ [x]) (.slice B2 (n + 1) d2) w2 := by
  subst hn
  refine ⟨B2, d2, by simp, ?_, hM.grown hg2 fun g e => .inr (hB g e), fun g e => ?_⟩
  · rw [ecells_app, List.length_append]
    have : ecells [x] = x.cells := by simp [ecells]
    rw [this]; exact ho2
  · rcases hb2 with h | ⟨q, h, hq⟩
    · exact hB g (h.symm.trans e)
    · have := h.symm.trans e; injection this with this; subst this; exact Nat.le_trans hM.size hq
theorem Out.newE {w w' : World} {l : List En} {v : Value} (h : Out w l v w') : NewE w l (.returned v) w' := by
  obtain ⟨B, d, rfl, h2, h3, h4⟩ := h
  exact ⟨B, d, rfl, h2, h3, h4⟩

theorem news2 (w : World) (o : Obj) (cs : Array Value) (t : TypeId) : ∀ j u, cs.toList[j]? = some u → ((w.alloc o).alloc (.cells cs t)).cell? ((⟨w.heap.size + 1, 0, none⟩ : Addr).add j) = some u := by
  have h := World.news_of_block (heap_alloc_new (w.alloc o) (.cells cs t))
  rwa [show (w.alloc o).heap.size = w.heap.size + 1 by simp] at h

set_option maxHeartbeats 3200000 in
theorem jfirm_any (A : Option Addr) (l : List To) (c : Nat) (w : World) (hl : Sl w 8 A l.length (tcells l)) (h99 : l.length ≤ 99) :
    Calls Try.prog 16 #[.slice A l.length c] w (NewE w (firm l)) := by
  obtain ⟨i0, hi0, hz0, hz1, hz2⟩ := info_parts info_en
  have HL := Lib.hid hl
  have HI := Lib.hid hi0
  have HZ0 := Lib.hid hz0
  have HZ1 := Lib.hid hz1
  have HZ2 := Lib.hid hz2
  clear hl hi0 hz0 hz1 hz2
  go_enter Try.func16, Try.ntmps16
  go_wp2_with fail
  go_loopg [3, 5, 8] l.length (fun m v _ i wr => ∃ k : Nat, k ≤ l.length ∧ i = .int .i64 k ∧ Out w (firm (l.take k)) v wr ∧ m + k = l.length)
  case atStart => exact ⟨0, by omega, rfl, Out.start w, by omega⟩
  case round =>
    obtain ⟨k, hk, rfl, hO, hm⟩ := hrel
    by_cases hlt : k < l.length
    · obtain ⟨B, d, rfl, ho, hM, hB⟩ := hO
      obtain ⟨g, o, rfl, hg, q0, q1, q2, q3, q4, q5, q6, q7⟩ := (HL.out.none_ hM).to hlt
      have hn := firm_next l hlt
      have hle := firm_le (l.take k)
      rw [List.length_take] at hle
      have hle2 : (firm (l.take k)).length ≤ 98 := by omega
      have HN := Lib.hid hn
      have HO := Lib.hid ho
      have HM := Lib.hid hM
      have HB := Lib.hid hB
      have hone := Lib.hid (En.one l[k].e)
      clear ho hM hB hn hle
      have hcs : (l[k].e.od == 1) = false ∨ ((l[k].e.od == 1) = true ∧ (l[k].e.lv == 1) = true) ∨ ((l[k].e.od == 1) = true ∧ (l[k].e.lv == 1) = false ∧ (l[k].e.lv == 2) = true) ∨ ((l[k].e.od == 1) = true ∧ (l[k].e.lv == 1) = false ∧ (l[k].e.lv == 2) = false) := by
        cases (l[k].e.od == 1) <;> cases (l[k].e.lv == 1) <;> cases (l[k].e.lv == 2) <;> simp
      have hfm : l[k].firm = (l[k].e.od == 1 && (l[k].e.lv == 1 || l[k].e.lv == 2)) := rfl
      have HF := Lib.hid hfm
      clear hfm
      generalize l[k] = x at *
      obtain ⟨x0, x1, x2, x3, x4, x5, x6, x7⟩ := x
      simp only [] at *
      unfold En.cells at hone
      simp only [] at hone
      rcases hcs with h1 | ⟨h1, h2⟩ | ⟨h1, h2, h3⟩ | ⟨h1, h2, h3⟩
      · have hx : To.firm ⟨x0, x1, x2, x3, x4, x5, x6, x7⟩ = false := by rw [HF.out, h1]; rfl
        have HX := Lib.hid hx
        clear hx
        have hout := Lib.hid (show Out w (firm (l.take (k + 1))) (.slice B (firm (l.take k)).length d) (wr.alloc (.cells #[.int .i64 x0, .int .i64 x1, .int .i64 x2, .int .i64 x3, .int .i64 x4, .int .i64 x5, .int .i64 x6, .string x7] 32)) by
          rw [HN.out, HX.out]
          simp only [Bool.false_eq_true, if_false, List.append_nil]
          exact ⟨B, d, rfl, HO.out.alloc _, HM.out.alloc _, HB.out⟩)
        go_wp2_with fail
        go_roundg (l.length - (k + 1))
        case measure => omega
        case rel => exact ⟨k + 1, by omega, by go_num, hout.out, by omega⟩
      · have hx : To.firm ⟨x0, x1, x2, x3, x4, x5, x6, x7⟩ = true := by rw [HF.out, h1, h2]; rfl
        have HX := Lib.hid hx
        clear hx
        go_wp2_with (at_builtin; refine wpList_append_Own _ rfl _ _ _ rfl 30 i0 _ 7 64 Try.underlying23 HI.out HZ0.out HZ1.out HZ2.out rfl (by decide) B _ d _ rfl ((HO.out.alloc _).alloc _) ⟨wr.heap.size + 1, 0, none⟩ 1 1 _ rfl rfl (news2 _ _ _ _) hone.out (by decide) (by unfold maxLen; omega) (by omega) ?_; intro B2 d2 w2 ho2 hg2 hb2)
        have hout := Lib.hid (show Out w (firm (l.take (k + 1))) (.slice B2 ((firm (l.take k)).length + 1) d2) w2 by
          rw [HN.out, HX.out]
          exact out_app (x := ⟨x1, x2, x3, x4, x5, x6, x7⟩) rfl ((HM.out.alloc _).alloc _) HB.out ho2 hg2 hb2)
        clear ho2 hg2 hb2
        go_roundg (l.length - (k + 1))
        case measure => omega
        case rel => exact ⟨k + 1, by omega, by go_num, hout.out, by omega⟩
      · have hx : To.firm ⟨x0, x1, x2, x3, x4, x5, x6, x7⟩ = true := by rw [HF.out, h1, h2, h3]; rfl
        have HX := Lib.hid hx
        clear hx
        go_wp2_with (at_builtin; refine wpList_append_Own _ rfl _ _ _ rfl 30 i0 _ 7 64 Try.underlying23 HI.out HZ0.out HZ1.out HZ2.out rfl (by decide) B _ d _ rfl ((HO.out.alloc _).alloc _) ⟨wr.heap.size + 1, 0, none⟩ 1 1 _ rfl rfl (news2 _ _ _ _) hone.out (by decide) (by unfold maxLen; omega) (by omega) ?_; intro B2 d2 w2 ho2 hg2 hb2)
        have hout := Lib.hid (show Out w (firm (l.take (k + 1))) (.slice B2 ((firm (l.take k)).length + 1) d2) w2 by
          rw [HN.out, HX.out]
          exact out_app (x := ⟨x1, x2, x3, x4, x5, x6, x7⟩) rfl ((HM.out.alloc _).alloc _) HB.out ho2 hg2 hb2)
        clear ho2 hg2 hb2
        go_roundg (l.length - (k + 1))
        case measure => omega
        case rel => exact ⟨k + 1, by omega, by go_num, hout.out, by omega⟩
      · have hx : To.firm ⟨x0, x1, x2, x3, x4, x5, x6, x7⟩ = false := by rw [HF.out, h1, h2, h3]; rfl
        have HX := Lib.hid hx
        clear hx
        have hout := Lib.hid (show Out w (firm (l.take (k + 1))) (.slice B (firm (l.take k)).length d) (wr.alloc (.cells #[.int .i64 x0, .int .i64 x1, .int .i64 x2, .int .i64 x3, .int .i64 x4, .int .i64 x5, .int .i64 x6, .string x7] 32)) by
          rw [HN.out, HX.out]
          simp only [Bool.false_eq_true, if_false, List.append_nil]
          exact ⟨B, d, rfl, HO.out.alloc _, HM.out.alloc _, HB.out⟩)
        go_wp2_with fail
        go_roundg (l.length - (k + 1))
        case measure => omega
        case rel => exact ⟨k + 1, by omega, by go_num, hout.out, by omega⟩
    · have hkl : k = l.length := by omega
      have HO := Lib.hid hO
      clear hO
      obtain ⟨B, d, rfl, h2, h3, h4⟩ := HO.out
      have H2 := Lib.hid h2
      have H3 := Lib.hid h3
      have H4 := Lib.hid h4
      clear h2 h3 h4 HO
      subst hkl
      go_wp2_with fail
      go_ret
      have e : l.take l.length = l := List.take_length
      have h2 := H2.out
      rw [e] at h2 ⊢
      exact ⟨B, d, rfl, h2, H3.out, H4.out⟩
set_option maxHeartbeats 3200000 in
theorem lfirm_any (A : Option Addr) (l : List To) (c : Nat) (w : World) (hl : Sl w 8 A l.length (tcells l)) (h99 : l.length ≤ 99) :
    Calls Try.prog 13 #[.slice A l.length c] w (NewE w (firm l)) := by
  obtain ⟨i0, hi0, hz0, hz1, hz2⟩ := info_parts info_en
  have HL := Lib.hid hl
  have HI := Lib.hid hi0
  have HZ0 := Lib.hid hz0
  have HZ1 := Lib.hid hz1
  have HZ2 := Lib.hid hz2
  clear hl hi0 hz0 hz1 hz2
  go_enter Try.func13, Try.ntmps13
  go_wp2_with fail
  go_loopg [3, 4] l.length (fun m v i wr => ∃ k : Nat, k ≤ l.length ∧ i = .int .i64 k ∧ Out w (firm (l.take k)) v wr ∧ m + k = l.length)
  case atStart => exact ⟨0, by omega, rfl, Out.start w, by omega⟩
  case round =>
    obtain ⟨k, hk, rfl, hO, hm⟩ := hrel
    by_cases hlt : k < l.length
    · obtain ⟨B, d, rfl, ho, hM, hB⟩ := hO
      obtain ⟨g, o, rfl, hg, q0, q1, q2, q3, q4, q5, q6, q7⟩ := (HL.out.none_ hM).to hlt
      have hn := firm_next l hlt
      have hle := firm_le (l.take k)
      rw [List.length_take] at hle
      have hle2 : (firm (l.take k)).length ≤ 98 := by omega
      have HN := Lib.hid hn
      have HO := Lib.hid ho
      have HM := Lib.hid hM
      have HB := Lib.hid hB
      have hone := Lib.hid (En.one l[k].e)
      clear ho hM hB hn hle
      have hcs : (l[k].e.od == 1) = false ∨ ((l[k].e.od == 1) = true ∧ (l[k].e.lv == 1) = true) ∨ ((l[k].e.od == 1) = true ∧ (l[k].e.lv == 1) = false ∧ (l[k].e.lv == 2) = true) ∨ ((l[k].e.od == 1) = true ∧ (l[k].e.lv == 1) = false ∧ (l[k].e.lv == 2) = false) := by
        cases (l[k].e.od == 1) <;> cases (l[k].e.lv == 1) <;> cases (l[k].e.lv == 2) <;> simp
      have hfm : l[k].firm = (l[k].e.od == 1 && (l[k].e.lv == 1 || l[k].e.lv == 2)) := rfl
      have HF := Lib.hid hfm
      clear hfm
      generalize l[k] = x at *
      obtain ⟨x0, x1, x2, x3, x4, x5, x6, x7⟩ := x
      simp only [] at *
      unfold En.cells at hone
      simp only [] at hone
      rcases hcs with h1 | ⟨h1, h2⟩ | ⟨h1, h2, h3⟩ | ⟨h1, h2, h3⟩
      · have hx : To.firm ⟨x0, x1, x2, x3, x4, x5, x6, x7⟩ = false := by rw [HF.out, h1]; rfl
        have HX := Lib.hid hx
        clear hx
        have hout := Lib.hid (show Out w (firm (l.take (k + 1))) (.slice B (firm (l.take k)).length d) wr by
          rw [HN.out, HX.out]
          simp only [Bool.false_eq_true, if_false, List.append_nil]
          exact ⟨B, d, rfl, HO.out, HM.out, HB.out⟩)
        go_wp2_with fail
        go_roundg (l.length - (k + 1))
        case measure => omega
        case rel => exact ⟨k + 1, by omega, by go_num, hout.out, by omega⟩
      · have hx : To.firm ⟨x0, x1, x2, x3, x4, x5, x6, x7⟩ = true := by rw [HF.out, h1, h2]; rfl
        have HX := Lib.hid hx
        clear hx
        go_wp2_with (at_builtin; refine wpList_append_Own _ rfl _ _ _ rfl 30 i0 _ 7 64 Try.underlying23 HI.out HZ0.out HZ1.out HZ2.out rfl (by decide) B _ d _ rfl (HO.out.alloc _) ⟨wr.heap.size, 0, none⟩ 1 1 _ rfl rfl (World.news_of_block (heap_alloc_new _ _)) hone.out (by decide) (by unfold maxLen; omega) (by omega) ?_; intro B2 d2 w2 ho2 hg2 hb2)
        have hout := Lib.hid (show Out w (firm (l.take (k + 1))) (.slice B2 ((firm (l.take k)).length + 1) d2) w2 by
          rw [HN.out, HX.out]
          exact out_app (x := ⟨x1, x2, x3, x4, x5, x6, x7⟩) rfl (HM.out.alloc _) HB.out ho2 hg2 hb2)
        clear ho2 hg2 hb2
        go_roundg (l.length - (k + 1))
        case measure => omega
        case rel => exact ⟨k + 1, by omega, by go_num, hout.out, by omega⟩
      · have hx : To.firm ⟨x0, x1, x2, x3, x4, x5, x6, x7⟩ = true := by rw [HF.out, h1, h2, h3]; rfl
        have HX := Lib.hid hx
        clear hx
        go_wp2_with (at_builtin; refine wpList_append_Own _ rfl _ _ _ rfl 30 i0 _ 7 64 Try.underlying23 HI.out HZ0.out HZ1.out HZ2.out rfl (by decide) B _ d _ rfl (HO.out.alloc _) ⟨wr.heap.size, 0, none⟩ 1 1 _ rfl rfl (World.news_of_block (heap_alloc_new _ _)) hone.out (by decide) (by unfold maxLen; omega) (by omega) ?_; intro B2 d2 w2 ho2 hg2 hb2)
        have hout := Lib.hid (show Out w (firm (l.take (k + 1))) (.slice B2 ((firm (l.take k)).length + 1) d2) w2 by
          rw [HN.out, HX.out]
          exact out_app (x := ⟨x1, x2, x3, x4, x5, x6, x7⟩) rfl (HM.out.alloc _) HB.out ho2 hg2 hb2)
        clear ho2 hg2 hb2
        go_roundg (l.length - (k + 1))
        case measure => omega
        case rel => exact ⟨k + 1, by omega, by go_num, hout.out, by omega⟩
      · have hx : To.firm ⟨x0, x1, x2, x3, x4, x5, x6, x7⟩ = false := by rw [HF.out, h1, h2, h3]; rfl
        have HX := Lib.hid hx
        clear hx
        have hout := Lib.hid (show Out w (firm (l.take (k + 1))) (.slice B (firm (l.take k)).length d) wr by
          rw [HN.out, HX.out]
          simp only [Bool.false_eq_true, if_false, List.append_nil]
          exact ⟨B, d, rfl, HO.out, HM.out, HB.out⟩)
        go_wp2_with fail
        go_roundg (l.length - (k + 1))
        case measure => omega
        case rel => exact ⟨k + 1, by omega, by go_num, hout.out, by omega⟩
    · have hkl : k = l.length := by omega
      have HO := Lib.hid hO
      clear hO
      obtain ⟨B, d, rfl, h2, h3, h4⟩ := HO.out
      have H2 := Lib.hid h2
      have H3 := Lib.hid h3
      have H4 := Lib.hid h4
      clear h2 h3 h4 HO
      subst hkl
      go_wp2_with fail
      go_ret
      have e : l.take l.length = l := List.take_length
      have h2 := H2.out
      rw [e] at h2 ⊢
      exact ⟨B, d, rfl, h2, H3.out, H4.out⟩

/-! ### all equal -/
def eqAll : List En → List En → Bool
  | [], [] => true
  | a :: l, b :: m => eqE a b && eqAll l m
  | _, _ => false
theorem eqAll_iff (l m : List En) : eqAll l m = true ↔ l.length = m.length ∧ ∀ i (h1 : i < l.length) (h2 : i < m.length), eqE l[i] m[i] = true := by
  induction l generalizing m with
  | nil => cases m with
    | nil => simp [eqAll]
    | cons b m => simp [eqAll]
  | cons a l ih => cases m with
    | nil => simp [eqAll]
    | cons b m =>
      rw [eqAll, Bool.and_eq_true, ih m]
      constructor
      · rintro ⟨h0, h1, h2⟩
        refine ⟨by simp [h1], fun i g1 g2 => ?_⟩
        cases i with
        | zero => exact h0
        | succ i => exact h2 i (by simpa using g1) (by simpa using g2)
      · rintro ⟨h1, h2⟩
        exact ⟨h2 0 (by simp) (by simp), by simpa using h1, fun i g1 g2 => h2 (i + 1) (by simpa using g1) (by simpa using g2)⟩
theorem eqAll_true {l m : List En} (h : l.length = m.length) (h2 : ∀ i (h1 : i < l.length) (h2 : i < m.length), eqE l[i] m[i] = true) : eqAll l m = true := (eqAll_iff l m).2 ⟨h, h2⟩
theorem eqAll_len {l m : List En} (h : l.length ≠ m.length) : eqAll l m = false := by
  cases hh : eqAll l m
  · rfl
  · exact absurd ((eqAll_iff l m).1 hh).1 h
theorem eqAll_at {l m : List En} {i : Nat} (h1 : i < l.length) (h2 : i < m.length) (h : eqE l[i] m[i] = false) : eqAll l m = false := by
  cases hh : eqAll l m
  · rfl
  · have := ((eqAll_iff l m).1 hh).2 i h1 h2; rw [h] at this; cases this

set_option maxHeartbeats 3200000 in
theorem eqall_ref (A B : Option Addr) (l m : List En) (c d : Nat) (w : World) (hl : Sl w 7 A l.length (ecells l)) (hm : Sl w 7 B m.length (ecells m)) :
    Calls Try.prog 15 #[.slice A l.length c, .slice B m.length d] w (Only w (.bool (eqAll l m))) := by
  have hb1 := hl.2.1
  have hb2 := hm.2.1
  unfold maxLen at hb1 hb2
  have HL := Lib.hid hl
  have HM := Lib.hid hm
  clear hl hm
  by_cases hlen : l.length = m.length
  · have hlb : ((l.length : Int) != (m.length : Int)) = false := by rw [hlen]; simp
    have HLen := Lib.hid hlen
    clear hlen
    go_enter Try.func15, Try.ntmps15
    go_wp2_with fail
    go_loopg [5] l.length (fun q i wr => ∃ k : Nat, k ≤ l.length ∧ i = .int .i64 k ∧ Hid (∀ j (h1 : j < l.length) (h2 : j < m.length), j < k → eqE l[j] m[j] = true) ∧ Hid (Mod (fun _ => False) w wr) ∧ q + k = l.length)
    case atStart => exact ⟨0, by omega, rfl, Lib.hid fun j _ _ h => absurd h (by omega), Lib.hid (Mod.refl _ _), by omega⟩
    case round =>
      obtain ⟨k, hk, rfl, hE, hM, hq⟩ := hrel
      by_cases hlt : k < l.length
      · have hlt2 : k < m.length := by rw [← HLen.out]; exact hlt
        obtain ⟨g, o, rfl, hg, q0, q1, q2, q3, q4, q5, q6⟩ := (HL.out.none_ hM.out).ent hlt
        obtain ⟨g', o', rfl, hg', p0, p1, p2, p3, p4, p5, p6⟩ := (HM.out.none_ hM.out).ent hlt2
        have i0 : (0 : Int) ≤ (k : Int) := by omega
        have i1 : (k : Int) < (l.length : Int) := by omega
        have i2 : (k : Int) < (m.length : Int) := by omega
        have hc := fun W => eq_ref l[k] m[k] W
        unfold En.val at hc
        cases hv : eqE l[k] m[k]
        · rw [hv] at hc
          have HC := Lib.hid hc
          have HV := Lib.hid (eqAll_at hlt hlt2 hv)
          clear hc hv
          generalize l[k] = x at *
          generalize m[k] = y at *
          go_wp2_with fail
          go_region_with (go_at_call 26; refine (HC.out _).mono ?_; rintro e w1 ⟨rfl, m1⟩)
          all_goals
            go_wp2_with fail
            go_ret
            exact ⟨by rw [HV.out]; rfl, hM.out.trans (undrew m1) (by simp)⟩
        · rw [hv] at hc
          have HC := Lib.hid hc
          have HV := Lib.hid hv
          clear hc hv
          generalize hxx : l[k] = x at *
          generalize hyy : m[k] = y at *
          have HX := Lib.hid hxx
          have HY := Lib.hid hyy
          clear hxx hyy
          go_wp2_with fail
          go_region_with (go_at_call 26; refine (HC.out _).mono ?_; rintro e w1 ⟨rfl, m1⟩)
          all_goals
            have M1 := Lib.hid (hM.out.trans (undrew m1) (by simp))
            clear m1
            go_wp2_with fail
            go_roundg (l.length - (k + 1))
            case measure => omega
            case rel =>
              refine ⟨k + 1, by omega, by go_num, Lib.hid fun j h1 h2 hj => ?_, M1, by omega⟩
              by_cases e : j = k
              · subst e; rw [HX.out, HY.out]; exact HV.out
              · exact hE.out j h1 h2 (by omega)
      · have hv := Lib.hid (eqAll_true HLen.out fun i h1 h2 => hE.out i h1 h2 (by omega))
        go_wp2_with fail
        go_ret
        exact ⟨by rw [hv.out]; rfl, hM.out⟩
  · have hlb : ((l.length : Int) != (m.length : Int)) = true := by simp; omega
    have hv := Lib.hid (eqAll_len hlen)
    clear hlen
    go_enter Try.func15, Try.ntmps15
    go_wp2_with fail
    go_ret
    exact ⟨by rw [hv.out]; rfl, Mod.refl _ _⟩


/-- slices.EqualFunc by entry.Eq -/
theorem equalFunc_any (A B : Option Addr) (l m : List En) (c d : Nat) (w : World) (hl : Sl w 7 A l.length (ecells l)) (hm : Sl w 7 B m.length (ecells m)) :
    Calls Try.prog 38 #[.slice A l.length c, .slice B m.length d, .func (.func 39) #[] #[]] w (Only w (.bool (eqAll l m))) := by
  have hb1 := hl.2.1
  have hb2 := hm.2.1
  unfold maxLen at hb1 hb2
  have HL := Lib.hid hl
  have HM := Lib.hid hm
  clear hl hm
  by_cases hlen : l.length = m.length
  · have hlb : ((l.length : Int) != (m.length : Int)) = false := by rw [hlen]; simp
    have HLen := Lib.hid hlen
    clear hlen
    go_enter Try.func38, Try.ntmps38
    go_wp2_with fail
    go_loopg [7, 8, 9, 17] l.length (fun q _ _ _ i wr => ∃ k : Nat, k ≤ l.length ∧ i = .int .i64 k ∧ Hid (∀ j (h1 : j < l.length) (h2 : j < m.length), j < k → eqE l[j] m[j] = true) ∧ Hid (Mod (fun _ => False) w wr) ∧ q + k = l.length)
    case atStart => exact ⟨0, by omega, rfl, Lib.hid fun j _ _ h => absurd h (by omega), Lib.hid (Mod.refl _ _), by omega⟩
    case round =>
      obtain ⟨k, hk, rfl, hE, hM, hq⟩ := hrel
      by_cases hlt : k < l.length
      · have hlt2 : k < m.length := by rw [← HLen.out]; exact hlt
        obtain ⟨g, o, rfl, hg, q0, q1, q2, q3, q4, q5, q6⟩ := (HL.out.none_ hM.out).ent hlt
        obtain ⟨g', o', rfl, hg', p0, p1, p2, p3, p4, p5, p6⟩ := (HM.out.none_ hM.out).ent hlt2
        have hc := fun W => eq_ent l[k] m[k] W
        unfold En.val at hc
        cases hv : eqE l[k] m[k]
        · rw [hv] at hc
          have HC := Lib.hid hc
          have HV := Lib.hid (eqAll_at hlt hlt2 hv)
          clear hc hv
          generalize l[k] = x at *
          generalize m[k] = y at *
          go_wp2_with fail
          refine (HC.out _).mono ?_
          rintro e w1 ⟨rfl, m1⟩
          have M1 := Lib.hid (((hM.out.alloc _).alloc _).trans m1 (by simp))
          clear m1
          go_wp2_with fail
          go_ret
          exact ⟨by rw [HV.out]; rfl, M1.out⟩
        · rw [hv] at hc
          have HC := Lib.hid hc
          have HV := Lib.hid hv
          clear hc hv
          generalize hxx : l[k] = x at *
          generalize hyy : m[k] = y at *
          have HX := Lib.hid hxx
          have HY := Lib.hid hyy
          clear hxx hyy
          go_wp2_with fail
          refine (HC.out _).mono ?_
          rintro e w1 ⟨rfl, m1⟩
          have M1 := Lib.hid (((hM.out.alloc _).alloc _).trans m1 (by simp))
          clear m1
          go_wp2_with fail
          go_roundg (l.length - (k + 1))
          case measure => omega
          case rel =>
            refine ⟨k + 1, by omega, by go_num, Lib.hid fun j h1 h2 hj => ?_, M1, by omega⟩
            by_cases e : j = k
            · subst e; rw [HX.out, HY.out]; exact HV.out
            · exact hE.out j h1 h2 (by omega)
      · have hv := Lib.hid (eqAll_true HLen.out fun i h1 h2 => hE.out i h1 h2 (by omega))
        go_wp2_with fail
        go_ret
        exact ⟨by rw [hv.out]; rfl, hM.out⟩
  · have hlb : ((l.length : Int) != (m.length : Int)) = true := by simp; omega
    have hv := Lib.hid (eqAll_len hlen)
    clear hlen
    go_enter Try.func38, Try.ntmps38
    go_wp2_with fail
    go_ret
    exact ⟨by rw [hv.out]; rfl, Mod.refl _ _⟩

theorem Sl.takeE {w : World} {A : Option Addr} {l : List En} (h : Sl w 7 A l.length (ecells l)) {k : Nat} (hk : k ≤ l.length) : Sl w 7 A (l.take k).length (ecells (l.take k)) := by
  have := h.take hk
  rw [show (ecells l).take (k * 7) = ecells (l.take k) from cl_take En.cells_len l k] at this
  rwa [show (l.take k).length = k by simp; omega]

set_option maxHeartbeats 3200000 in
theorem front_any (A B : Option Addr) (l m : List En) (c d : Nat) (w : World) (hl : Sl w 7 A l.length (ecells l)) (hm : Sl w 7 B m.length (ecells m)) (hd : m.length ≤ d) (hd2 : d ≤ maxLen) :
    Calls Try.prog 32 #[.slice A l.length c, .slice B m.length d] w (Only w (.bool (decide (l.length ≤ m.length) && eqAll l (m.take l.length)))) := by
  unfold maxLen at hd2
  have HL := Lib.hid hl
  have HM := Lib.hid hm
  clear hl hm
  by_cases h : l.length ≤ m.length
  · have e1 : decide (l.length ≤ m.length) = true := by simpa using h
    have hlt : (m.take l.length).length = l.length := by simp; omega
    have HT := HM.out.takeE h
    rw [hlt] at HT
    have hc := equalFunc_any A B l (m.take l.length) c d w HL.out (by rw [hlt]; exact HT)
    rw [hlt] at hc
    rw [e1, Bool.true_and]
    generalize eqAll l (m.take l.length) = v at *
    have HC := Lib.hid hc
    clear hc hlt HT e1
    go_enter Try.func32, Try.ntmps32
    go_wp2_with fail
    go_goals
    refine HC.out.mono ?_
    rintro e w1 ⟨rfl, m1⟩
    go_wp2_with fail
    go_ret
    exact ⟨rfl, m1⟩
  · have e1 : decide (l.length ≤ m.length) = false := by simpa using h
    rw [e1, Bool.false_and]
    clear e1
    go_enter Try.func32, Try.ntmps32
    go_wp2_with fail
    go_ret
    exact ⟨rfl, Mod.refl _ _⟩
end Go.Proofs.Ytbladkopbkkamaa
