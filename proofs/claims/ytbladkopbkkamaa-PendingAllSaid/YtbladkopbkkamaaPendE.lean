/- Add of the reference's pending. -/
import Derived.Test.YtbladkopbkkamaaPendD
namespace Go.Proofs.Ytbladkopbkkamaa
open Go.RowKit
attribute [local go_sem ↓] Go.wp_at_zero Go.wp_at_succ
set_option linter.unusedVariables false
set_option linter.unusedSimpArgs false

set_option maxHeartbeats 3200000 in
theorem addR_form (g : Nat) (F : Nat → Prop) (fr bo sq o lv : Int) (d : ByteArray) (l : List En) (w : World) (h : IsP w g F fr bo sq l) (hd : d.size ≤ maxLen) (hsq : 0 ≤ sq ∧ sq < 1000000) (hok : okB (newE fr bo sq o lv d) = false) :
    Calls Try.prog 25 #[.pointer (some ⟨g, 0, none⟩), .int .i64 o, .int .i64 lv, .string d] w (Added w g F fr bo sq l zE 1) := by
  have HP := Lib.hid h
  have HLE := Lib.hid (Nat.le_refl w.heap.size)
  obtain ⟨A, c, h1, h2, h3, h4, h5, h6⟩ := h
  have c0 : w.cell? ⟨g, 0, none⟩ = some (.int .i64 fr) := h1.1 0 _ rfl
  have c1 : w.cell? ⟨g, 1, none⟩ = some (.int .i64 bo) := h1.1 1 _ rfl
  have c2 : w.cell? ⟨g, 2, none⟩ = some (.int .i64 sq) := h1.1 2 _ rfl
  have hgl := h1.2.2
  have hw : wrap64 (sq + 1) = sq + 1 := IntWalk.wrap64_in _ ⟨by omega, by omega⟩
  have HE := Lib.hid (fun W => mayR_any (newE fr bo sq o lv d) W hd)
  have HZ := Lib.hid (Cells.new w #[.int .i64 0, .int .i64 0, .int .i64 0, .int .i64 0, .int .i64 0, .int .i64 0, .string ByteArray.empty] 30)
  have HN := Lib.hid (show Cells ((w.alloc (.cells #[.int .i64 0, .int .i64 0, .int .i64 0, .int .i64 0, .int .i64 0, .int .i64 0, .string ByteArray.empty] 30)).alloc (.cells #[.int .i64 fr, .int .i64 bo, .int .i64 (sq + 1), .int .i64 o, .int .i64 lv, .int .i64 0, .string d] 30)) (w.heap.size + 1) (newE fr bo sq o lv d).cells by
    have := Cells.new (w.alloc (.cells #[.int .i64 0, .int .i64 0, .int .i64 0, .int .i64 0, .int .i64 0, .int .i64 0, .string ByteArray.empty] 30)) #[.int .i64 fr, .int .i64 bo, .int .i64 (sq + 1), .int .i64 o, .int .i64 lv, .int .i64 0, .string d] 30
    simpa [newE, En.cells] using this)
  have H1 := Lib.hid h1
  have H2 := Lib.hid h2
  have H3 := Lib.hid h3
  have H4 := Lib.hid h4
  have H5 := Lib.hid h5
  have H6 := Lib.hid h6
  clear h1 h2 h3 h4 h5 h6
  go_enter Try.func25, Try.ntmps25
  go_upto_region 1 with (fail)
  go_cut [10] (fun s10 wx => ∃ b, s10 = .pointer (some ⟨b, 0, none⟩) ∧ w.heap.size < b ∧ Cells wx b (newE fr bo sq o lv d).cells ∧ Mod (fun _ => False) (w.alloc (.cells #[.int .i64 0, .int .i64 0, .int .i64 0, .int .i64 0, .int .i64 0, .int .i64 0, .string ByteArray.empty] 30)) wx)
  case first =>
    go_wp2_with fail
    go_region
    all_goals
      go_wp2_with fail
      go_meet
      exact ⟨w.heap.size + 1, rfl, by omega, HN.out.drew, (((Mod.refl _ (w.alloc (.cells #[.int .i64 0, .int .i64 0, .int .i64 0, .int .i64 0, .int .i64 0, .int .i64 0, .string ByteArray.empty] 30))).alloc (.cells #[.int .i64 fr, .int .i64 bo, .int .i64 (sq + 1), .int .i64 o, .int .i64 lv, .int .i64 0, .string d] 30))).drew⟩
  case rest =>
    obtain ⟨b, rfl, hbl, hcb, hmb⟩ := hcut
    have b0 : wc.cell? ⟨b, 0, none⟩ = some (.int .i64 fr) := hcb.1 0 _ rfl
    have b1 : wc.cell? ⟨b, 1, none⟩ = some (.int .i64 bo) := hcb.1 1 _ rfl
    have b2 : wc.cell? ⟨b, 2, none⟩ = some (.int .i64 (sq + 1)) := hcb.1 2 _ rfl
    have b3 : wc.cell? ⟨b, 3, none⟩ = some (.int .i64 o) := hcb.1 3 _ rfl
    have b4 : wc.cell? ⟨b, 4, none⟩ = some (.int .i64 lv) := hcb.1 4 _ rfl
    have b5 : wc.cell? ⟨b, 5, none⟩ = some (.int .i64 0) := hcb.1 5 _ rfl
    have b6 : wc.cell? ⟨b, 6, none⟩ = some (.string d) := hcb.1 6 _ rfl
    have HMB := Lib.hid hmb
    have HCB := Lib.hid hcb
    clear hcb hmb HN
    go_wp2_with fail
    refine (HE.out wc).mono ?_
    rintro e w2 ⟨rfl, m2⟩
    rw [hok]
    have M2 := Lib.hid ((((Mod.refl (fun _ => False) w).alloc (.cells #[.int .i64 0, .int .i64 0, .int .i64 0, .int .i64 0, .int .i64 0, .int .i64 0, .string ByteArray.empty] 30)).trans HMB.out (by simp)).trans m2 (by simp))
    have hz := (HZ.out.mod HMB.out (by simp)).mod m2 (by simp)
    have x0 : w2.cell? ⟨w.heap.size, 0, none⟩ = some (.int .i64 0) := hz.1 0 _ rfl
    have x1 : w2.cell? ⟨w.heap.size, 1, none⟩ = some (.int .i64 0) := hz.1 1 _ rfl
    have x2 : w2.cell? ⟨w.heap.size, 2, none⟩ = some (.int .i64 0) := hz.1 2 _ rfl
    have x3 : w2.cell? ⟨w.heap.size, 3, none⟩ = some (.int .i64 0) := hz.1 3 _ rfl
    have x4 : w2.cell? ⟨w.heap.size, 4, none⟩ = some (.int .i64 0) := hz.1 4 _ rfl
    have x5 : w2.cell? ⟨w.heap.size, 5, none⟩ = some (.int .i64 0) := hz.1 5 _ rfl
    have x6 : w2.cell? ⟨w.heap.size, 6, none⟩ = some (.string ByteArray.empty) := hz.1 6 _ rfl
    have g0 := hz.2.1 0
    have g1 := hz.2.1 1
    have g2 := hz.2.1 2
    have g3 := hz.2.1 3
    have g4 := hz.2.1 4
    have g5 := hz.2.1 5
    have g6 := hz.2.1 6
    have HZ2 := Lib.hid hz
    have HCB2 := Lib.hid (HCB.out.mod m2 (by simp))
    clear hz m2
    have hC7 := (((((((HZ2.out.set_ 0 (.int .i64 0)).set_ 1 (.int .i64 0)).set_ 2 (.int .i64 0)).set_ 3 (.int .i64 0)).set_ 4 (.int .i64 0)).set_ 5 (.int .i64 0)).set_ 6 (.string ⟨#[]⟩))
    have hM7 := (((((((M2.out.setCell (p := ⟨w.heap.size, 0, none⟩) (.inr HLE.out) (.int .i64 0)).setCell (p := ⟨w.heap.size, 1, none⟩) (.inr HLE.out) (.int .i64 0)).setCell (p := ⟨w.heap.size, 2, none⟩) (.inr HLE.out) (.int .i64 0)).setCell (p := ⟨w.heap.size, 3, none⟩) (.inr HLE.out) (.int .i64 0)).setCell (p := ⟨w.heap.size, 4, none⟩) (.inr HLE.out) (.int .i64 0)).setCell (p := ⟨w.heap.size, 5, none⟩) (.inr HLE.out) (.int .i64 0)).setCell (p := ⟨w.heap.size, 6, none⟩) (.inr HLE.out) (.string ⟨#[]⟩))
    have y0 := hC7.1 0 _ rfl
    have y1 := hC7.1 1 _ rfl
    have y2 := hC7.1 2 _ rfl
    have y3 := hC7.1 3 _ rfl
    have y4 := hC7.1 4 _ rfl
    have y5 := hC7.1 5 _ rfl
    have y6 := hC7.1 6 _ rfl
    go_wp2_with fail
    exact bodyPost_ret (v := .tuple #[.agg #[.int .i64 0, .int .i64 0, .int .i64 0, .int .i64 0, .int .i64 0, .int .i64 0, .string ⟨#[]⟩], .int .i64 1]) (by simp [results, Try.results25, go_sem, y0, y1, y2, y3, y4, y5, y6]) rfl ⟨F, rfl, HP.out.none_ hM7, hM7.mono (by simp), fun k hk => .inl hk⟩

set_option maxHeartbeats 3200000 in
theorem addR_busy (g : Nat) (F : Nat → Prop) (fr bo sq o lv : Int) (d : ByteArray) (l : List En) (w : World) (h : IsP w g F fr bo sq l) (hd : d.size ≤ maxLen) (hsq : 0 ≤ sq ∧ sq < 1000000) (hok : okB (newE fr bo sq o lv d) = true) (hl : 4 ≤ l.length) :
    Calls Try.prog 25 #[.pointer (some ⟨g, 0, none⟩), .int .i64 o, .int .i64 lv, .string d] w (Added w g F fr bo sq l zE 9) := by
  have HP := Lib.hid h
  have HLE := Lib.hid (Nat.le_refl w.heap.size)
  obtain ⟨A, c, h1, h2, h3, h4, h5, h6⟩ := h
  have c0 : w.cell? ⟨g, 0, none⟩ = some (.int .i64 fr) := h1.1 0 _ rfl
  have c1 : w.cell? ⟨g, 1, none⟩ = some (.int .i64 bo) := h1.1 1 _ rfl
  have c2 : w.cell? ⟨g, 2, none⟩ = some (.int .i64 sq) := h1.1 2 _ rfl
  have hgl := h1.2.2
  have hw : wrap64 (sq + 1) = sq + 1 := IntWalk.wrap64_in _ ⟨by omega, by omega⟩
  have HE := Lib.hid (fun W => mayR_any (newE fr bo sq o lv d) W hd)
  have HZ := Lib.hid (Cells.new w #[.int .i64 0, .int .i64 0, .int .i64 0, .int .i64 0, .int .i64 0, .int .i64 0, .string ByteArray.empty] 30)
  have HN := Lib.hid (show Cells ((w.alloc (.cells #[.int .i64 0, .int .i64 0, .int .i64 0, .int .i64 0, .int .i64 0, .int .i64 0, .string ByteArray.empty] 30)).alloc (.cells #[.int .i64 fr, .int .i64 bo, .int .i64 (sq + 1), .int .i64 o, .int .i64 lv, .int .i64 0, .string d] 30)) (w.heap.size + 1) (newE fr bo sq o lv d).cells by
    have := Cells.new (w.alloc (.cells #[.int .i64 0, .int .i64 0, .int .i64 0, .int .i64 0, .int .i64 0, .int .i64 0, .string ByteArray.empty] 30)) #[.int .i64 fr, .int .i64 bo, .int .i64 (sq + 1), .int .i64 o, .int .i64 lv, .int .i64 0, .string d] 30
    simpa [newE, En.cells] using this)
  have H1 := Lib.hid h1
  have H2 := Lib.hid h2
  have H3 := Lib.hid h3
  have H4 := Lib.hid h4
  have H5 := Lib.hid h5
  have H6 := Lib.hid h6
  clear h1 h2 h3 h4 h5 h6
  go_enter Try.func25, Try.ntmps25
  go_upto_region 1 with (fail)
  go_cut [10] (fun s10 wx => ∃ b, s10 = .pointer (some ⟨b, 0, none⟩) ∧ w.heap.size < b ∧ Cells wx b (newE fr bo sq o lv d).cells ∧ Mod (fun _ => False) (w.alloc (.cells #[.int .i64 0, .int .i64 0, .int .i64 0, .int .i64 0, .int .i64 0, .int .i64 0, .string ByteArray.empty] 30)) wx)
  case first =>
    go_wp2_with fail
    go_region
    all_goals
      go_wp2_with fail
      go_meet
      exact ⟨w.heap.size + 1, rfl, by omega, HN.out.drew, (((Mod.refl _ (w.alloc (.cells #[.int .i64 0, .int .i64 0, .int .i64 0, .int .i64 0, .int .i64 0, .int .i64 0, .string ByteArray.empty] 30))).alloc (.cells #[.int .i64 fr, .int .i64 bo, .int .i64 (sq + 1), .int .i64 o, .int .i64 lv, .int .i64 0, .string d] 30))).drew⟩
  case rest =>
    obtain ⟨b, rfl, hbl, hcb, hmb⟩ := hcut
    have b0 : wc.cell? ⟨b, 0, none⟩ = some (.int .i64 fr) := hcb.1 0 _ rfl
    have b1 : wc.cell? ⟨b, 1, none⟩ = some (.int .i64 bo) := hcb.1 1 _ rfl
    have b2 : wc.cell? ⟨b, 2, none⟩ = some (.int .i64 (sq + 1)) := hcb.1 2 _ rfl
    have b3 : wc.cell? ⟨b, 3, none⟩ = some (.int .i64 o) := hcb.1 3 _ rfl
    have b4 : wc.cell? ⟨b, 4, none⟩ = some (.int .i64 lv) := hcb.1 4 _ rfl
    have b5 : wc.cell? ⟨b, 5, none⟩ = some (.int .i64 0) := hcb.1 5 _ rfl
    have b6 : wc.cell? ⟨b, 6, none⟩ = some (.string d) := hcb.1 6 _ rfl
    have HMB := Lib.hid hmb
    have HCB := Lib.hid hcb
    clear hcb hmb HN
    go_wp2_with fail
    refine (HE.out wc).mono ?_
    rintro e w2 ⟨rfl, m2⟩
    rw [hok]
    have M2 := Lib.hid ((((Mod.refl (fun _ => False) w).alloc (.cells #[.int .i64 0, .int .i64 0, .int .i64 0, .int .i64 0, .int .i64 0, .int .i64 0, .string ByteArray.empty] 30)).trans HMB.out (by simp)).trans m2 (by simp))
    have hz := (HZ.out.mod HMB.out (by simp)).mod m2 (by simp)
    have x0 : w2.cell? ⟨w.heap.size, 0, none⟩ = some (.int .i64 0) := hz.1 0 _ rfl
    have x1 : w2.cell? ⟨w.heap.size, 1, none⟩ = some (.int .i64 0) := hz.1 1 _ rfl
    have x2 : w2.cell? ⟨w.heap.size, 2, none⟩ = some (.int .i64 0) := hz.1 2 _ rfl
    have x3 : w2.cell? ⟨w.heap.size, 3, none⟩ = some (.int .i64 0) := hz.1 3 _ rfl
    have x4 : w2.cell? ⟨w.heap.size, 4, none⟩ = some (.int .i64 0) := hz.1 4 _ rfl
    have x5 : w2.cell? ⟨w.heap.size, 5, none⟩ = some (.int .i64 0) := hz.1 5 _ rfl
    have x6 : w2.cell? ⟨w.heap.size, 6, none⟩ = some (.string ByteArray.empty) := hz.1 6 _ rfl
    have g0 := hz.2.1 0
    have g1 := hz.2.1 1
    have g2 := hz.2.1 2
    have g3 := hz.2.1 3
    have g4 := hz.2.1 4
    have g5 := hz.2.1 5
    have g6 := hz.2.1 6
    have HZ2 := Lib.hid hz
    have HCB2 := Lib.hid (HCB.out.mod m2 (by simp))
    clear hz m2
    have p3 : w2.cell? ⟨g, 3, none⟩ = some (.slice A l.length c) := (H1.out.mod M2.out (by simp)).1 3 _ rfl
    have hl4 : (4 : Int) ≤ (l.length : Int) := by omega
    have hC7 := (((((((HZ2.out.set_ 0 (.int .i64 0)).set_ 1 (.int .i64 0)).set_ 2 (.int .i64 0)).set_ 3 (.int .i64 0)).set_ 4 (.int .i64 0)).set_ 5 (.int .i64 0)).set_ 6 (.string ⟨#[]⟩))
    have hM7 := (((((((M2.out.setCell (p := ⟨w.heap.size, 0, none⟩) (.inr HLE.out) (.int .i64 0)).setCell (p := ⟨w.heap.size, 1, none⟩) (.inr HLE.out) (.int .i64 0)).setCell (p := ⟨w.heap.size, 2, none⟩) (.inr HLE.out) (.int .i64 0)).setCell (p := ⟨w.heap.size, 3, none⟩) (.inr HLE.out) (.int .i64 0)).setCell (p := ⟨w.heap.size, 4, none⟩) (.inr HLE.out) (.int .i64 0)).setCell (p := ⟨w.heap.size, 5, none⟩) (.inr HLE.out) (.int .i64 0)).setCell (p := ⟨w.heap.size, 6, none⟩) (.inr HLE.out) (.string ⟨#[]⟩))
    have y0 := hC7.1 0 _ rfl
    have y1 := hC7.1 1 _ rfl
    have y2 := hC7.1 2 _ rfl
    have y3 := hC7.1 3 _ rfl
    have y4 := hC7.1 4 _ rfl
    have y5 := hC7.1 5 _ rfl
    have y6 := hC7.1 6 _ rfl
    go_wp2_with fail
    exact bodyPost_ret (v := .tuple #[.agg #[.int .i64 0, .int .i64 0, .int .i64 0, .int .i64 0, .int .i64 0, .int .i64 0, .string ⟨#[]⟩], .int .i64 9]) (by simp [results, Try.results25, go_sem, y0, y1, y2, y3, y4, y5, y6]) rfl ⟨F, rfl, HP.out.none_ hM7, hM7.mono (by simp), fun k hk => .inl hk⟩

set_option maxHeartbeats 3200000 in
theorem addR_ok (g : Nat) (F : Nat → Prop) (fr bo sq o lv : Int) (d : ByteArray) (l : List En) (w : World) (h : IsP w g F fr bo sq l) (hd : d.size ≤ maxLen) (hsq : 0 ≤ sq ∧ sq < 1000000) (hok : okB (newE fr bo sq o lv d) = true) (hl : l.length < 4) :
    Calls Try.prog 25 #[.pointer (some ⟨g, 0, none⟩), .int .i64 o, .int .i64 lv, .string d] w (Added w g F fr bo (sq + 1) (l ++ [newE fr bo sq o lv d]) (newE fr bo sq o lv d) 0) := by
  have HP := Lib.hid h
  have HLE := Lib.hid (Nat.le_refl w.heap.size)
  obtain ⟨A, c, h1, h2, h3, h4, h5, h6⟩ := h
  have c0 : w.cell? ⟨g, 0, none⟩ = some (.int .i64 fr) := h1.1 0 _ rfl
  have c1 : w.cell? ⟨g, 1, none⟩ = some (.int .i64 bo) := h1.1 1 _ rfl
  have c2 : w.cell? ⟨g, 2, none⟩ = some (.int .i64 sq) := h1.1 2 _ rfl
  have hgl := h1.2.2
  have hw : wrap64 (sq + 1) = sq + 1 := IntWalk.wrap64_in _ ⟨by omega, by omega⟩
  have HE := Lib.hid (fun W => mayR_any (newE fr bo sq o lv d) W hd)
  have HZ := Lib.hid (Cells.new w #[.int .i64 0, .int .i64 0, .int .i64 0, .int .i64 0, .int .i64 0, .int .i64 0, .string ByteArray.empty] 30)
  have HN := Lib.hid (show Cells ((w.alloc (.cells #[.int .i64 0, .int .i64 0, .int .i64 0, .int .i64 0, .int .i64 0, .int .i64 0, .string ByteArray.empty] 30)).alloc (.cells #[.int .i64 fr, .int .i64 bo, .int .i64 (sq + 1), .int .i64 o, .int .i64 lv, .int .i64 0, .string d] 30)) (w.heap.size + 1) (newE fr bo sq o lv d).cells by
    have := Cells.new (w.alloc (.cells #[.int .i64 0, .int .i64 0, .int .i64 0, .int .i64 0, .int .i64 0, .int .i64 0, .string ByteArray.empty] 30)) #[.int .i64 fr, .int .i64 bo, .int .i64 (sq + 1), .int .i64 o, .int .i64 lv, .int .i64 0, .string d] 30
    simpa [newE, En.cells] using this)
  have H1 := Lib.hid h1
  have H2 := Lib.hid h2
  have H3 := Lib.hid h3
  have H4 := Lib.hid h4
  have H5 := Lib.hid h5
  have H6 := Lib.hid h6
  clear h1 h2 h3 h4 h5 h6
  go_enter Try.func25, Try.ntmps25
  go_upto_region 1 with (fail)
  go_cut [10] (fun s10 wx => ∃ b, s10 = .pointer (some ⟨b, 0, none⟩) ∧ w.heap.size < b ∧ Cells wx b (newE fr bo sq o lv d).cells ∧ Mod (fun _ => False) (w.alloc (.cells #[.int .i64 0, .int .i64 0, .int .i64 0, .int .i64 0, .int .i64 0, .int .i64 0, .string ByteArray.empty] 30)) wx)
  case first =>
    go_wp2_with fail
    go_region
    all_goals
      go_wp2_with fail
      go_meet
      exact ⟨w.heap.size + 1, rfl, by omega, HN.out.drew, (((Mod.refl _ (w.alloc (.cells #[.int .i64 0, .int .i64 0, .int .i64 0, .int .i64 0, .int .i64 0, .int .i64 0, .string ByteArray.empty] 30))).alloc (.cells #[.int .i64 fr, .int .i64 bo, .int .i64 (sq + 1), .int .i64 o, .int .i64 lv, .int .i64 0, .string d] 30))).drew⟩
  case rest =>
    obtain ⟨b, rfl, hbl, hcb, hmb⟩ := hcut
    have b0 : wc.cell? ⟨b, 0, none⟩ = some (.int .i64 fr) := hcb.1 0 _ rfl
    have b1 : wc.cell? ⟨b, 1, none⟩ = some (.int .i64 bo) := hcb.1 1 _ rfl
    have b2 : wc.cell? ⟨b, 2, none⟩ = some (.int .i64 (sq + 1)) := hcb.1 2 _ rfl
    have b3 : wc.cell? ⟨b, 3, none⟩ = some (.int .i64 o) := hcb.1 3 _ rfl
    have b4 : wc.cell? ⟨b, 4, none⟩ = some (.int .i64 lv) := hcb.1 4 _ rfl
    have b5 : wc.cell? ⟨b, 5, none⟩ = some (.int .i64 0) := hcb.1 5 _ rfl
    have b6 : wc.cell? ⟨b, 6, none⟩ = some (.string d) := hcb.1 6 _ rfl
    have HMB := Lib.hid hmb
    have HCB := Lib.hid hcb
    clear hcb hmb HN
    go_wp2_with fail
    refine (HE.out wc).mono ?_
    rintro e w2 ⟨rfl, m2⟩
    rw [hok]
    have M2 := Lib.hid ((((Mod.refl (fun _ => False) w).alloc (.cells #[.int .i64 0, .int .i64 0, .int .i64 0, .int .i64 0, .int .i64 0, .int .i64 0, .string ByteArray.empty] 30)).trans HMB.out (by simp)).trans m2 (by simp))
    have hz := (HZ.out.mod HMB.out (by simp)).mod m2 (by simp)
    have x0 : w2.cell? ⟨w.heap.size, 0, none⟩ = some (.int .i64 0) := hz.1 0 _ rfl
    have x1 : w2.cell? ⟨w.heap.size, 1, none⟩ = some (.int .i64 0) := hz.1 1 _ rfl
    have x2 : w2.cell? ⟨w.heap.size, 2, none⟩ = some (.int .i64 0) := hz.1 2 _ rfl
    have x3 : w2.cell? ⟨w.heap.size, 3, none⟩ = some (.int .i64 0) := hz.1 3 _ rfl
    have x4 : w2.cell? ⟨w.heap.size, 4, none⟩ = some (.int .i64 0) := hz.1 4 _ rfl
    have x5 : w2.cell? ⟨w.heap.size, 5, none⟩ = some (.int .i64 0) := hz.1 5 _ rfl
    have x6 : w2.cell? ⟨w.heap.size, 6, none⟩ = some (.string ByteArray.empty) := hz.1 6 _ rfl
    have g0 := hz.2.1 0
    have g1 := hz.2.1 1
    have g2 := hz.2.1 2
    have g3 := hz.2.1 3
    have g4 := hz.2.1 4
    have g5 := hz.2.1 5
    have g6 := hz.2.1 6
    have HZ2 := Lib.hid hz
    have HCB2 := Lib.hid (HCB.out.mod m2 (by simp))
    clear hz m2
    have hp2 := H1.out.mod M2.out (by simp)
    have p2 : w2.cell? ⟨g, 2, none⟩ = some (.int .i64 sq) := hp2.1 2 _ rfl
    have p3 : w2.cell? ⟨g, 3, none⟩ = some (.slice A l.length c) := hp2.1 3 _ rfl
    have k2 := hp2.2.1 2
    have k3 := hp2.2.1 3
    have hl4 : (l.length : Int) < 4 := by omega
    obtain ⟨i0, hi0, hz0, hz1, hz2⟩ := info_parts info_en
    have HI := Lib.hid hi0
    have HZ0 := Lib.hid hz0
    have HZ1 := Lib.hid hz1
    have HZz := Lib.hid hz2
    have hone := Lib.hid (En.one (newE fr bo sq o lv d))
    have W3 := Lib.hid (show Cells (w2.setCell ⟨g, 2, none⟩ (.int .i64 (sq + 1))) g [.int .i64 fr, .int .i64 bo, .int .i64 (sq + 1), .slice A l.length c] from hp2.set_ 2 _)
    have hbg : b ≠ g := by omega
    have hwg : w.heap.size ≠ g := by omega
    have CB3 := Lib.hid (HCB2.out.far (p := ⟨g, 2, none⟩) hbg (.int .i64 (sq + 1)))
    have CZ3 := Lib.hid (HZ2.out.far (p := ⟨g, 2, none⟩) hwg (.int .i64 (sq + 1)))
    have O3 := Lib.hid ((H2.out.mod M2.out (by simp)).far (p := ⟨g, 2, none⟩) H3.out (.int .i64 (sq + 1)))
    have M3 := Lib.hid ((M2.out.mono (G := F) (by simp)).setCell (p := ⟨g, 2, none⟩) (.inl H4.out) (.int .i64 (sq + 1)))
    clear hi0 hz0 hz1 hz2 hp2 x0 x1 x2 x3 x4 x5 x6 g0 g1 g2 g3 g4 g5 g6 b0 b1 b2 b3 b4 b5 b6
    have b0 : w2.cell? ⟨b, 0, none⟩ = some (.int .i64 fr) := HCB2.out.1 0 _ rfl
    have b1 : w2.cell? ⟨b, 1, none⟩ = some (.int .i64 bo) := HCB2.out.1 1 _ rfl
    have b2 : w2.cell? ⟨b, 2, none⟩ = some (.int .i64 (sq + 1)) := HCB2.out.1 2 _ rfl
    have b3 : w2.cell? ⟨b, 3, none⟩ = some (.int .i64 o) := HCB2.out.1 3 _ rfl
    have b4 : w2.cell? ⟨b, 4, none⟩ = some (.int .i64 lv) := HCB2.out.1 4 _ rfl
    have b5 : w2.cell? ⟨b, 5, none⟩ = some (.int .i64 0) := HCB2.out.1 5 _ rfl
    have b6 : w2.cell? ⟨b, 6, none⟩ = some (.string d) := HCB2.out.1 6 _ rfl
    go_upto_region 7 with (fail)
    generalize w2.setCell ⟨g, 2, none⟩ (.int .i64 (sq + 1)) = w3 at *
    clear b0 b1 b2 b3 b4 b5 b6 p2 p3 k2 k3
    have b0 : w3.cell? ⟨b, 0, none⟩ = some (.int .i64 fr) := CB3.out.1 0 _ rfl
    have b1 : w3.cell? ⟨b, 1, none⟩ = some (.int .i64 bo) := CB3.out.1 1 _ rfl
    have b2 : w3.cell? ⟨b, 2, none⟩ = some (.int .i64 (sq + 1)) := CB3.out.1 2 _ rfl
    have b3 : w3.cell? ⟨b, 3, none⟩ = some (.int .i64 o) := CB3.out.1 3 _ rfl
    have b4 : w3.cell? ⟨b, 4, none⟩ = some (.int .i64 lv) := CB3.out.1 4 _ rfl
    have b5 : w3.cell? ⟨b, 5, none⟩ = some (.int .i64 0) := CB3.out.1 5 _ rfl
    have b6 : w3.cell? ⟨b, 6, none⟩ = some (.string d) := CB3.out.1 6 _ rfl
    have p3 : w3.cell? ⟨g, 3, none⟩ = some (.slice A l.length c) := W3.out.1 3 _ rfl
    have k3 := W3.out.2.1 3
    have p3a : ∀ oo, (w3.alloc oo).cell? ⟨g, 3, none⟩ = some (.slice A l.length c) := fun oo => (W3.out.alloc oo).1 3 _ rfl
    go_cut [] (fun wx => PMid w w3 g F fr bo (sq + 1) l (newE fr bo sq o lv d) b wx)
    case first =>
      go_wp2_with fail
      go_region_law
        ((refine step_append_Own _ (by rfl) _ _ _ (by rfl) 30 i0 _ 7 64 Try.underlying23 HI.out HZ0.out HZ1.out HZz.out (by rfl) (by decide) A l.length c (ecells l) (by rfl) (by exact O3.out.alloc _) ⟨w3.heap.size, 0, none⟩ 1 1 _ (by rfl) (by rfl) (by exact World.news_of_block (heap_alloc_new _ _)) hone.out (by decide) (by unfold maxLen; omega) (by omega) ?_; intro A2 c2 w4 ho2 hg2 hb2; have hC4 : Cells w4 g [.int .i64 fr, .int .i64 bo, .int .i64 (sq + 1), .slice A l.length c] := Cells.grown (by first | exact (W3.out.alloc _).drew | exact W3.out.drew.alloc _) hg2 H3.out; have q3 : w4.cell? ⟨g, 3, none⟩ = some (.slice A l.length c) := hC4.1 3 _ rfl; have r3 := hC4.2.1 3))
      all_goals
        go_wp2_with fail
        go_meet
        exact p_add H3.out H4.out H5.out H6.out (by exact M3.out) (by exact ((Mod.refl _ _).alloc _).drew) ho2 hg2 hb2 hC4
    case rest =>
      clear p3 k3 p3a b0 b1 b2 b3 b4 b5 b6
      obtain ⟨F2, hP6, hM6, hM7, hF2⟩ := hcut
      have hFb : ∀ q, F q → q < w.heap.size := H6.out
      have hCB4 := CB3.out.mod hM6 (fun e => by have := hFb _ e; omega)
      have hCZ4 := CZ3.out.mod hM6 (fun e => by have := hFb _ e; omega)
      have HP6 := Lib.hid hP6
      have HM7 := Lib.hid hM7
      have HF2 := Lib.hid hF2
      have hF2w : ¬ F2 w.heap.size := fun e => by
        rcases hF2 _ e with h | h
        · have := hFb _ h; omega
        · exact absurd h (by have := CZ3.out.2.2; omega)
      have b0 : wc.cell? ⟨b, 0, none⟩ = some (.int .i64 fr) := hCB4.1 0 _ rfl
      have b1 : wc.cell? ⟨b, 1, none⟩ = some (.int .i64 bo) := hCB4.1 1 _ rfl
      have b2 : wc.cell? ⟨b, 2, none⟩ = some (.int .i64 (sq + 1)) := hCB4.1 2 _ rfl
      have b3 : wc.cell? ⟨b, 3, none⟩ = some (.int .i64 o) := hCB4.1 3 _ rfl
      have b4 : wc.cell? ⟨b, 4, none⟩ = some (.int .i64 lv) := hCB4.1 4 _ rfl
      have b5 : wc.cell? ⟨b, 5, none⟩ = some (.int .i64 0) := hCB4.1 5 _ rfl
      have b6 : wc.cell? ⟨b, 6, none⟩ = some (.string d) := hCB4.1 6 _ rfl
      have x0 : wc.cell? ⟨w.heap.size, 0, none⟩ = some (.int .i64 0) := hCZ4.1 0 _ rfl
      have x1 : wc.cell? ⟨w.heap.size, 1, none⟩ = some (.int .i64 0) := hCZ4.1 1 _ rfl
      have x2 : wc.cell? ⟨w.heap.size, 2, none⟩ = some (.int .i64 0) := hCZ4.1 2 _ rfl
      have x3 : wc.cell? ⟨w.heap.size, 3, none⟩ = some (.int .i64 0) := hCZ4.1 3 _ rfl
      have x4 : wc.cell? ⟨w.heap.size, 4, none⟩ = some (.int .i64 0) := hCZ4.1 4 _ rfl
      have x5 : wc.cell? ⟨w.heap.size, 5, none⟩ = some (.int .i64 0) := hCZ4.1 5 _ rfl
      have x6 : wc.cell? ⟨w.heap.size, 6, none⟩ = some (.string ByteArray.empty) := hCZ4.1 6 _ rfl
      have g0 := hCZ4.2.1 0
      have g1 := hCZ4.2.1 1
      have g2 := hCZ4.2.1 2
      have g3 := hCZ4.2.1 3
      have g4 := hCZ4.2.1 4
      have g5 := hCZ4.2.1 5
      have g6 := hCZ4.2.1 6
      have HZ4 := Lib.hid hCZ4
      clear hCB4 hCZ4 hP6 hM6 hM7 hF2
      have hMz := ((((((((Mod.refl (fun q => q = w.heap.size) wc).setCell (p := ⟨w.heap.size, 0, none⟩) (.inl rfl) (.int .i64 fr)).setCell (p := ⟨w.heap.size, 1, none⟩) (.inl rfl) (.int .i64 bo)).setCell (p := ⟨w.heap.size, 2, none⟩) (.inl rfl) (.int .i64 (sq + 1))).setCell (p := ⟨w.heap.size, 3, none⟩) (.inl rfl) (.int .i64 o)).setCell (p := ⟨w.heap.size, 4, none⟩) (.inl rfl) (.int .i64 lv)).setCell (p := ⟨w.heap.size, 5, none⟩) (.inl rfl) (.int .i64 0)).setCell (p := ⟨w.heap.size, 6, none⟩) (.inl rfl) (.string d))
      have hC7 := (((((((HZ4.out.set_ 0 (.int .i64 fr)).set_ 1 (.int .i64 bo)).set_ 2 (.int .i64 (sq + 1))).set_ 3 (.int .i64 o)).set_ 4 (.int .i64 lv)).set_ 5 (.int .i64 0)).set_ 6 (.string d))
      have hM7 := (((((((HM7.out.setCell (p := ⟨w.heap.size, 0, none⟩) (.inr HLE.out) (.int .i64 fr)).setCell (p := ⟨w.heap.size, 1, none⟩) (.inr HLE.out) (.int .i64 bo)).setCell (p := ⟨w.heap.size, 2, none⟩) (.inr HLE.out) (.int .i64 (sq + 1))).setCell (p := ⟨w.heap.size, 3, none⟩) (.inr HLE.out) (.int .i64 o)).setCell (p := ⟨w.heap.size, 4, none⟩) (.inr HLE.out) (.int .i64 lv)).setCell (p := ⟨w.heap.size, 5, none⟩) (.inr HLE.out) (.int .i64 0)).setCell (p := ⟨w.heap.size, 6, none⟩) (.inr HLE.out) (.string d))
      have y0 := hC7.1 0 _ rfl
      have y1 := hC7.1 1 _ rfl
      have y2 := hC7.1 2 _ rfl
      have y3 := hC7.1 3 _ rfl
      have y4 := hC7.1 4 _ rfl
      have y5 := hC7.1 5 _ rfl
      have y6 := hC7.1 6 _ rfl
      go_wp2_with fail
      exact bodyPost_ret (v := .tuple #[.agg #[.int .i64 fr, .int .i64 bo, .int .i64 (sq + 1), .int .i64 o, .int .i64 lv, .int .i64 0, .string d], .int .i64 0]) (by simp [results, Try.results25, go_sem, y0, y1, y2, y3, y4, y5, y6]) rfl ⟨F2, rfl, HP6.out.mod (hMz) (fun k _ hk e => hF2w (by rw [← show k = w.heap.size from e]; exact hk)), hM7, fun k hk => by rcases HF2.out k hk with h | h; exact .inl h; right; have := M3.out.size; omega⟩
end Go.Proofs.Ytbladkopbkkamaa
