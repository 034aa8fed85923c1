/- Timers; the sort of timers. -/
import Derived.Test.YtnfhmflcaolbbaaSl
import Derived.Test.YtnfhmflcaolbbaaClear
import Derived.Shelf.SlSortCmp.WholeK
import Derived.Shelf.Lay
import Derived.Ground.SlsfProg
namespace Go.Proofs
open Go.Shelf
shelf_lay_g SlLaysF0.n6 Slsf 6 at Try 20 as Try.sortT
end Go.Proofs
namespace Go.Proofs.Ytnfhmflcaolbbaa
open Go.RowKit Go.Shelf Go.Lib Go.Sort
attribute [local go_sem ↓] Go.wp_at_zero Go.wp_at_succ
set_option linter.unusedVariables false
set_option linter.unusedSimpArgs false

structure Tm where
  id : Int
  t : Int
instance : Inhabited Tm := ⟨⟨0, 0⟩⟩
def Tm.cells (x : Tm) : List Value := [.int .i64 x.id, .int .i64 x.t]
def Tm.val (x : Tm) : Value := .agg #[.int .i64 x.id, .int .i64 x.t]
theorem Tm.cells_len (x : Tm) : x.cells.length = 2 := rfl
def tc (l : List Tm) : List Value := l.flatMap Tm.cells
def cmp3 (a b : Int) : Int := if a < b then -1 else if b < a then 1 else 0
/-- the order of timers -/
def cf (x y : Tm) : Int := if cmp3 x.t y.t ≠ 0 then cmp3 x.t y.t else cmp3 x.id y.id

theorem nan64 (a : Int) (w : World) : Calls Try.prog 29 #[.int .i64 a] w fun e w' => e = .returned (.bool false) ∧ w = w' := by
  have h : (a != a) = false := by simp
  go_enter Try.func29, Try.ntmps29
  go_wp2_with fail
  go_ret
  exact ⟨rfl, rfl⟩
theorem nanI (a : Int) (w : World) : Calls Try.prog 30 #[.int .i64 a] w fun e w' => e = .returned (.bool false) ∧ w = w' := by
  have h : (a != a) = false := by simp
  go_enter Try.func30, Try.ntmps30
  go_wp2_with fail
  go_ret
  exact ⟨rfl, rfl⟩
theorem cmp64 (a b : Int) (w : World) : Calls Try.prog 23 #[.int .i64 a, .int .i64 b] w fun e w' => e = .returned (.int .i64 (cmp3 a b)) ∧ w = w' := by
  have hc : a < b ∨ b < a ∨ a = b := by omega
  rcases hc with h | h | h
  all_goals
    have HR := Lib.hid (show cmp3 a b = _ from rfl)
    go_enter Try.func23, Try.ntmps23
    go_wp2_with fail
    refine (nan64 _ _).mono ?_
    rintro e w1 ⟨rfl, rfl⟩
    go_wp2_with fail
    refine (nan64 _ _).mono ?_
    rintro e w1 ⟨rfl, rfl⟩
    go_wp2_with fail
    go_ret
    refine ⟨?_, rfl⟩
    unfold cmp3
    first
      | (rw [if_pos h]; rfl)
      | (rw [if_neg (by omega), if_pos h]; rfl)
      | (rw [if_neg (by omega), if_neg (by omega)]; rfl)
theorem cmpI (a b : Int) (w : World) : Calls Try.prog 24 #[.int .i64 a, .int .i64 b] w fun e w' => e = .returned (.int .i64 (cmp3 a b)) ∧ w = w' := by
  have hc : a < b ∨ b < a ∨ a = b := by omega
  rcases hc with h | h | h
  all_goals
    go_enter Try.func24, Try.ntmps24
    go_wp2_with fail
    refine (nanI _ _).mono ?_
    rintro e w1 ⟨rfl, rfl⟩
    go_wp2_with fail
    refine (nanI _ _).mono ?_
    rintro e w1 ⟨rfl, rfl⟩
    go_wp2_with fail
    go_ret
    refine ⟨?_, rfl⟩
    unfold cmp3
    first
      | (rw [if_pos h]; rfl)
      | (rw [if_neg (by omega), if_pos h]; rfl)
      | (rw [if_neg (by omega), if_neg (by omega)]; rfl)
theorem or_any (g : Nat) (a b : Int) (w : World) (h0 : w.cell? ⟨g, 0, none⟩ = some (.int .i64 a)) (h1 : w.cell? ⟨g, 1, none⟩ = some (.int .i64 b)) :
    Calls Try.prog 22 #[.slice (some ⟨g, 0, none⟩) 2 2] w fun e w' => e = .returned (.int .i64 (if a ≠ 0 then a else b)) ∧ w = w' := by
  have hab : (¬ a = 0) ∨ (a = 0 ∧ ¬ b = 0) ∨ (a = 0 ∧ b = 0) := by omega
  have hq0 : (a != 0) = decide (a ≠ 0) := by simp [bne, BEq.beq]
  go_enter Try.func22, Try.ntmps22
  go_wp2_with fail
  go_loopg [5, 8] 2 (fun m v5 v8 wr => ∃ k : Nat, k ≤ 2 ∧ v8 = .int .i64 k ∧ (1 ≤ k → a = 0) ∧ (2 ≤ k → b = 0) ∧ w = wr ∧ m + k = 2)
  case atStart => exact ⟨0, by omega, rfl, by omega, by omega, rfl, by omega⟩
  case round =>
    obtain ⟨k, hk, rfl, ha, hb, rfl, hm⟩ := hrel
    have hk3 : k = 0 ∨ k = 1 ∨ k = 2 := by omega
    rcases hk3 with rfl | rfl | rfl
    · by_cases hz : a = 0
      · have hz1 : (a != 0) = false := by simp [hz]
        go_wp2_with fail
        go_roundg 1
        case measure => omega
        case rel => exact ⟨1, by omega, rfl, fun _ => hz, by omega, rfl, by omega⟩
      · have hz1 : (a != 0) = true := by simp [hz]
        go_wp2_with fail
        go_ret
        refine ⟨?_, rfl⟩
        first | rfl | (rw [if_pos hz]; rfl)
    · have ha0 := ha (by omega)
      by_cases hz : b = 0
      · have hz1 : (b != 0) = false := by simp [hz]
        go_wp2_with fail
        go_roundg 0
        case measure => omega
        case rel => exact ⟨2, by omega, rfl, fun _ => ha0, fun _ => hz, rfl, by omega⟩
      · have hz1 : (b != 0) = true := by simp [hz]
        go_wp2_with fail
        go_ret
        refine ⟨?_, rfl⟩
        first | rfl | (rw [if_neg (by omega)]; rfl)
    · have ha0 := ha (by omega)
      have hb0 := hb (by omega)
      go_wp2_with fail
      go_ret
      refine ⟨?_, rfl⟩
      first | rfl | (rw [if_neg (by omega), hb0]; rfl) | simp_all

theorem cf_eq (x y : Tm) : cf x y = if cmp3 x.t y.t ≠ 0 then cmp3 x.t y.t else cmp3 x.id y.id := rfl
set_option maxHeartbeats 1600000 in
/-- the closure of Set: two blocks and one are laid, nothing else turns -/
theorem set1_any (x y : Tm) (w : World) : Calls Try.prog 21 #[.agg #[.int .i64 x.id, .int .i64 x.t], .agg #[.int .i64 y.id, .int .i64 y.t]] w fun e w' => e = .returned (.int .i64 (cf x y)) ∧ ∃ q os', w' = grow (w.drewN q) os' := by
  have c64 := fun W => cmp64 x.t y.t W
  have cI := fun W => cmpI x.id y.id W
  rw [cf_eq]
  have HO := Lib.hid (fun g W h0 h1 => or_any g (cmp3 x.t y.t) (cmp3 x.id y.id) W h0 h1)
  generalize cmp3 x.t y.t = r1 at *
  generalize cmp3 x.id y.id = r2 at *
  generalize (if r1 ≠ 0 then r1 else r2) = rr at *
  have H1 := Lib.hid c64
  have H2 := Lib.hid cI
  clear c64 cI
  go_enter Try.func21, Try.ntmps21
  go_wp2_with fail
  refine wp_region_held_drew (S := (fun w' => w'.cell? ⟨w.heap.size, 0, none⟩ = some (.int .i64 x.id) ∧ w'.cell? ⟨w.heap.size, 1, none⟩ = some (.int .i64 x.t) ∧ w'.cell? ⟨w.heap.size + 1, 0, none⟩ = some (.int .i64 y.id) ∧ w'.cell? ⟨w.heap.size + 1, 1, none⟩ = some (.int .i64 y.t))) (by kernel_rfl) (by go_keep) (fun hHeld => ?_)
  refine wpAnyH_take (i := 0) (oi := _) (v := ?_) (by simp only [List.getElem?_toArray, List.getElem?_cons_succ, List.getElem?_cons_zero]; rfl) (by kernel_rfl) (by kernel_rfl) (by kernel_rfl) (by intro _ _ _ h; exact h) (Or.inl ⟨by rfl, ?_⟩) (by assumption) ?_
  rotate_left 1
  · (intro w hSw; (try dsimp only at hSw); go_simp; try with_reducible rfl)
  try simp only [Act.put, List.setIfInBounds_toArray, List.set_cons_zero, List.set_cons_succ]
  refine wpAnyH_take (i := 1) (oi := _) (v := ?_) (by simp only [List.getElem?_toArray, List.getElem?_cons_succ, List.getElem?_cons_zero]; rfl) (by kernel_rfl) (by kernel_rfl) (by kernel_rfl) (by intro _ _ _ h; exact h) (Or.inl ⟨by rfl, ?_⟩) (by assumption) ?_
  rotate_left 1
  · (intro w hSw; (try dsimp only at hSw); go_simp; try with_reducible rfl)
  try simp only [Act.put, List.setIfInBounds_toArray, List.set_cons_zero, List.set_cons_succ]
  refine wpAnyH_take (i := 2) (oi := _) (v := ?_) (by simp only [List.getElem?_toArray, List.getElem?_cons_succ, List.getElem?_cons_zero]; rfl) (by kernel_rfl) (by kernel_rfl) (by kernel_rfl) (by intro _ _ _ h; exact h) (Or.inl ⟨by rfl, ?_⟩) (by assumption) ?_
  rotate_left 1
  · (intro w hSw; (try dsimp only at hSw); go_simp; try with_reducible rfl)
  try simp only [Act.put, List.setIfInBounds_toArray, List.set_cons_zero, List.set_cons_succ]
  refine wpAnyH_take (i := 3) (oi := _) (v := ?_) (by simp only [List.getElem?_toArray, List.getElem?_cons_succ, List.getElem?_cons_zero]; rfl) (by kernel_rfl) (by kernel_rfl) (by kernel_rfl) (by intro _ _ _ h; exact h) (Or.inl ⟨by rfl, ?_⟩) (by assumption) ?_
  rotate_left 1
  · (intro w hSw; (try dsimp only at hSw); go_simp; try with_reducible rfl)
  try simp only [Act.put, List.setIfInBounds_toArray, List.set_cons_zero, List.set_cons_succ]
  refine wpAnyH_take (i := 5) (oi := _) (v := ?_) (by simp only [List.getElem?_toArray, List.getElem?_cons_succ, List.getElem?_cons_zero]; rfl) (by kernel_rfl) (by kernel_rfl) (by kernel_rfl) (by intro _ _ _ h; exact h) (Or.inl ⟨by rfl, ?_⟩) (by assumption) ?_
  rotate_left 1
  · (intro w hSw; (try dsimp only at hSw); go_simp; try with_reducible rfl)
  try simp only [Act.put, List.setIfInBounds_toArray, List.set_cons_zero, List.set_cons_succ]
  refine wpAnyH_take (i := 6) (oi := _) (v := ?_) (by simp only [List.getElem?_toArray, List.getElem?_cons_succ, List.getElem?_cons_zero]; rfl) (by kernel_rfl) (by kernel_rfl) (by kernel_rfl) (by intro _ _ _ h; exact h) (Or.inl ⟨by rfl, ?_⟩) (by assumption) ?_
  rotate_left 1
  · (intro w hSw; (try dsimp only at hSw); go_simp; try with_reducible rfl)
  try simp only [Act.put, List.setIfInBounds_toArray, List.set_cons_zero, List.set_cons_succ]
  refine wpAnyH_take (i := 7) (oi := _) (v := ?_) (by simp only [List.getElem?_toArray, List.getElem?_cons_succ, List.getElem?_cons_zero]; rfl) (by kernel_rfl) (by kernel_rfl) (by kernel_rfl) (by intro _ _ _ h; exact h) (Or.inl ⟨by rfl, ?_⟩) (by assumption) ?_
  rotate_left 1
  · (intro w hSw; (try dsimp only at hSw); go_simp; try with_reducible rfl)
  try simp only [Act.put, List.setIfInBounds_toArray, List.set_cons_zero, List.set_cons_succ]
  refine wpAnyH_take (i := 8) (oi := _) (v := ?_) (by simp only [List.getElem?_toArray, List.getElem?_cons_succ, List.getElem?_cons_zero]; rfl) (by kernel_rfl) (by kernel_rfl) (by kernel_rfl) (by intro _ _ _ h; exact h) (Or.inl ⟨by rfl, ?_⟩) (by assumption) ?_
  rotate_left 1
  · (intro w hSw; (try dsimp only at hSw); go_simp; try with_reducible rfl)
  try simp only [Act.put, List.setIfInBounds_toArray, List.set_cons_zero, List.set_cons_succ]
  refine wpAnyH_ready (rs := [4]) (by kernel_rfl) (by simp) ?_
  refine AllReadyH.cons (by simp only [List.getElem?_toArray, List.getElem?_cons_succ, List.getElem?_cons_zero]; rfl) (fun K hK => ?_) AllReadyH.nil
  go_simp
  (go_at_call 23; (with_reducible refine (H1.out _).mono ?_); rintro e z ⟨rfl, rfl⟩)
  refine hK.out _ _ (by go_keep) (fun hHeld => ?_)
  clear hK K
  try simp only [Act.put, List.setIfInBounds_toArray, List.set_cons_zero, List.set_cons_succ]
  refine wpAnyH_ready (rs := [9]) (by kernel_rfl) (by simp) ?_
  refine AllReadyH.cons (by simp only [List.getElem?_toArray, List.getElem?_cons_succ, List.getElem?_cons_zero]; rfl) (fun K hK => ?_) AllReadyH.nil
  go_simp
  (go_at_call 24; (with_reducible refine (H2.out _).mono ?_); rintro e z ⟨rfl, rfl⟩)
  refine hK.out _ _ (by go_keep) (fun hHeld => ?_)
  clear hK K
  try simp only [Act.put, List.setIfInBounds_toArray, List.set_cons_zero, List.set_cons_succ]
  refine wpAnyH_ready (rs := [10]) (by kernel_rfl) (by simp) ?_
  refine AllReadyH.cons (by simp only [List.getElem?_toArray, List.getElem?_cons_succ, List.getElem?_cons_zero]; rfl) (fun K hK => ?_) AllReadyH.nil
  go_simp
  skip
  refine hK.out _ _ (by go_keep) (fun hHeld => ?_)
  clear hK K
  try simp only [Act.put, List.setIfInBounds_toArray, List.set_cons_zero, List.set_cons_succ]
  refine wpAnyH_ready (rs := [11]) (by kernel_rfl) (by simp) ?_
  refine AllReadyH.cons (by simp only [List.getElem?_toArray, List.getElem?_cons_succ, List.getElem?_cons_zero]; rfl) (fun K hK => ?_) AllReadyH.nil
  go_simp
  (go_at_call 22; (refine (HO.out _ _ (by go_simp) (by go_simp)).mono ?_); rintro e z ⟨rfl, rfl⟩)
  refine hK.out _ _ (by go_keep) (fun hHeld => ?_)
  clear hK K
  try simp only [Act.put, List.setIfInBounds_toArray, List.set_cons_zero, List.set_cons_succ]
  refine wpAnyH_take (i := 12) (oi := _) (v := ?_) (by simp only [List.getElem?_toArray, List.getElem?_cons_succ, List.getElem?_cons_zero]; rfl) (by kernel_rfl) (by kernel_rfl) (by kernel_rfl) (by intro _ _ _ h; exact h) (Or.inl ⟨by rfl, ?_⟩) (by assumption) ?_
  rotate_left 1
  · (intro w hSw; (try dsimp only at hSw); go_simp; try with_reducible rfl)
  try simp only [Act.put, List.setIfInBounds_toArray, List.set_cons_zero, List.set_cons_succ]
  refine wpAnyH_done (by kernel_rfl) ?_ _
  go_wp2_with fail
  go_ret
  exact ⟨rfl, 1, _, by rw [alloc_eq_grow, alloc_eq_grow, alloc_eq_grow, grow_grow, grow_grow]; rfl⟩

theorem cmpLays (blk off size : Nat) (w : World) : CmpLays Try.prog 21 #[] Tm.cells 2 cf blk off size w :=
  fun _ _ _ _ x y => set1_any x y _
theorem lt_cf (x y : Tm) : ltOf cf x y = decide (x.t < y.t ∨ (x.t = y.t ∧ x.id < y.id)) := by
  unfold ltOf cf cmp3
  rw [decide_eq_decide]
  by_cases h1 : x.t < y.t
  · simp [h1]
  · by_cases h2 : y.t < x.t
    · simp [h1, h2]; omega
    · have h3 : x.t = y.t := by omega
      simp [h1, h2, h3]
      by_cases h4 : x.id < y.id
      · simp [h4]
      · by_cases h5 : y.id < x.id <;> simp [h4, h5]
theorem swo_cf : SWO (ltOf cf) where
  irrefl x := by rw [lt_cf]; simp
  trans x y z h1 h2 := by rw [lt_cf] at *; simp at *; omega
  ntrans x y z h1 h2 := by rw [lt_cf] at *; simp at *; omega
/-! ### the sort -/
theorem tc_len (l : List Tm) : (tc l).length = l.length * 2 := cl_len Tm.cells_len l
theorem tc_at (l : List Tm) {i j : Nat} (hi : i < l.length) (hj : j < 2) : (tc l)[i * 2 + j]? = l[i].cells[j]? := cl_at Tm.cells_len l hi hj
theorem flat_at (d : Array Tm) {t : Nat} (h : t < d.size * 2) : (tc d.toList)[t]? = some ((flatK Tm.cells 2 d)[t]!) := by
  rw [get_flatK _ _ _ _ h]
  have h1 : t / 2 < d.size := by omega
  have h2 : t % 2 < 2 := Nat.mod_lt _ (by omega)
  have h3 := tc_at d.toList (i := t / 2) (j := t % 2) (by simpa using h1) h2
  rw [show t / 2 * 2 + t % 2 = t by omega] at h3
  rw [h3, getElem!_pos d (t / 2) h1]
  have h4 : t % 2 < (d[t / 2]'h1).cells.length := by rw [Tm.cells_len]; exact h2
  rw [getElem!_pos ((d[t / 2]'h1).cells) (t % 2) h4]
  have h5 : d.toList[t / 2]'(by simpa using h1) = d[t / 2]'h1 := by simp
  rw [h5]
  exact List.getElem?_eq_getElem h4
theorem heap_sort (w : World) (g o m : Nat) (d : Array Tm) (os : Array Obj) {k : Nat} (hk : k < w.heap.size) (hne : k ≠ g) : (sortWorldK Tm.cells 2 w g o m d os).heap[k]? = w.heap[k]? := by
  show ((w.heap.modify g (onCells (putCells id o (flatK Tm.cells 2 d)))) ++ os)[k]? = _
  rw [Array.getElem?_append, if_pos (by simpa using hk), Array.getElem?_modify, if_neg (fun e => hne e.symm)]
/-- slices.SortFunc at timers -/
theorem sort_any (g o c : Nat) (l : List Tm) (w : World) (hl : Own w 2 (some ⟨g, o, none⟩) l.length c (tc l)) (hb : l.length ≤ 1000) :
    Calls Try.prog 20 #[.slice (some ⟨g, o, none⟩) l.length c, .func (.func 21) #[] #[]] w fun e w' => e = .returned (.tuple #[]) ∧
      ∃ l2 : List Tm, l2.Perm l ∧ (∀ i j (hi : i < l2.length) (hj : j < l2.length), i < j → ltOf cf l2[j] l2[i] = false) ∧ Own w' 2 (some ⟨g, o, none⟩) l.length c (tc l2) ∧ Mod (fun q => q = g) w w' := by
  have eg : ∀ args w, (callFunc 21 args).run Try.prog w = .ok (.enter 21 args) w := enters_of Try.func21 (by kernel_rfl) rfl
  obtain ⟨h1, h2, h3, h4⟩ := hl
  rcases h4 with ⟨h, _⟩ | ⟨g', o', e, hgl, hr, hx⟩
  · cases h
  · injection e with e
    injection e with e1 e2
    subst e1 e2
    have hsz : l.toArray.size = l.length := by simp
    have hH : HoldsK Tm.cells 2 w g o l.toArray := fun j hj => by
      rw [size_flatK, hsz] at hj
      exact ⟨hx j _ (by have := flat_at l.toArray (t := j) (by rw [hsz]; exact hj); simpa using this), (hr j (by have : l.length * 2 ≤ c * 2 := Nat.mul_le_mul_right _ h2; omega)).2⟩
    have hcon := AnyQ.slices_SortFunc Try.sortT 2 Try.isAgg54 Try.sizeOf54 Tm.cells (fun _ => rfl) (fun x v hv => by simp [Tm.cells] at hv; rcases hv with rfl | rfl <;> rfl) cf swo_cf 21 #[] g o c l.toArray w eg (cmpLays g o l.toArray.size w) hH hgl (by rw [hsz]; omega)
    rw [hsz] at hcon
    refine hcon.mono ?_
    rintro e w' ⟨rfl, d', n, os, ⟨hp1, _, hp3⟩, hs, rfl⟩
    have hd : d'.size = l.length := by rw [hp1, hsz]
    have hH2 := holdsK_sortWorldK_c Tm.cells 2 w g o l.toArray d' n os hH hgl hp1
    have hsz2 := size_sortWorldK_c Tm.cells 2 w g o n d' os
    have hlen : d'.toList.length = l.length := by simpa using hd
    refine ⟨rfl, d'.toList, ?_, fun i j hi hj hij => ?_, ⟨by rw [tc_len, hlen], h2, h3, .inr ⟨g, o, rfl, Nat.lt_of_lt_of_le hgl hsz2, fun j hj => ?_, fun j u hu => ?_⟩⟩, ⟨rfl, rfl, rfl, hsz2, fun k hk hne => heap_sort w g o n d' os hk hne⟩⟩
    · have e1 : d'.extract 0 l.length = d' := by rw [← hd]; simp
      have e2 : l.toArray.extract 0 l.length = l.toArray := by simp
      rw [e1, e2] at hp3
      simpa using hp3
    · have h5 := hs i j (Nat.zero_le _) hij (by rw [hlen] at hj; exact hj)
      rw [getElem!_pos d' j (by rw [hlen] at hj; omega), getElem!_pos d' i (by rw [hlen] at hi; omega)] at h5
      simpa using h5
    · constructor
      · by_cases hjn : j < l.length * 2
        · rw [(hH2 j (by rw [size_flatK, hd]; exact hjn)).1]; rfl
        · have e : (sortWorldK Tm.cells 2 w g o n d' os).cell? ⟨g, o + j, none⟩ = w.cell? ⟨g, o + j, none⟩ := by
            unfold sortWorldK putRowK
            rw [cell?_grow _ _ _ (by rw [size_putRow]; exact hgl), cell?_putRow_other _ _ _ _ _ _ (.inr (.inr (by rw [size_flatK, hd]; show o + l.length * 2 ≤ o + j; omega))), cell?_ahead]
          rw [e]
          exact (hr j hj).1
      · have e : (sortWorldK Tm.cells 2 w g o n d' os).frozen? ⟨g, o + j, none⟩ = w.frozen? ⟨g, o + j, none⟩ := by
          unfold sortWorldK putRowK
          rw [frozen?_grow _ _ _ (by rw [size_putRow]; exact hgl), frozen?_putRow]
          rfl
        rw [e]
        exact (hr j hj).2
    · have hj : j < l.length * 2 := by
        have := (List.getElem?_eq_some_iff.1 hu).1
        rw [tc_len, hlen] at this; exact this
      have h5 := flat_at d' (t := j) (by rw [hd]; exact hj)
      rw [hu] at h5
      injection h5 with h5
      rw [h5]
      exact (hH2 j (by rw [size_flatK, hd]; exact hj)).1
end Go.Proofs.Ytnfhmflcaolbbaa
