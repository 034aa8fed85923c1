/- The walks of package wheel, each as a contract. -/
import Derived.Test.YtnfhmflcaolbbaaWheelD
import Derived.IntWalk
namespace Go.Proofs.Ytnfhmflcaolbbaa
open Go.RowKit
attribute [local go_sem ↓] Go.wp_at_zero Go.wp_at_succ
set_option linter.unusedVariables false
set_option linter.unusedSimpArgs false

def timeB (a : Int) : Bool := decide (-1099511627776 ≤ a) && decide (a ≤ 1099511627776)
theorem timeB_true {a : Int} : timeB a = true ↔ -1099511627776 ≤ a ∧ a ≤ 1099511627776 := by unfold timeB; simp
theorem timeB_false {a : Int} : timeB a = false ↔ a < -1099511627776 ∨ (-1099511627776 ≤ a ∧ 1099511627776 < a) := by
  rw [← Bool.not_eq_true, timeB_true]; omega
theorem time1 (gb : Nat) (a : Int) (w : World) (h0 : w.cell? ⟨gb, 0, none⟩ = some (.int .i64 a)) : Calls Try.prog 19 #[.slice (some ⟨gb, 0, none⟩) 1 1] w fun e w' => e = .returned (.bool (timeB a)) ∧ w = w' := by
  have hc : a < -1099511627776 ∨ (-1099511627776 ≤ a ∧ 1099511627776 < a) ∨ (-1099511627776 ≤ a ∧ a ≤ 1099511627776) := by omega
  go_enter Try.func19, Try.ntmps19
  go_wp2_with fail
  go_loopg [4, 7] 1 (fun m v4 v7 wr => ∃ k : Nat, k ≤ 1 ∧ v7 = .int .i64 k ∧ (1 ≤ k → -1099511627776 ≤ a ∧ a ≤ 1099511627776) ∧ w = wr ∧ m + k = 1)
  case atStart => exact ⟨0, by omega, rfl, by omega, rfl, by omega⟩
  case round =>
    obtain ⟨k, hk, rfl, ha, rfl, hm⟩ := hrel
    have hk3 : k = 0 ∨ k = 1 := by omega
    rcases hk3 with rfl | rfl
    · rcases hc with h | ⟨h1, h2⟩ | ⟨h1, h2⟩
      · have hf := Lib.hid (timeB_false.2 (.inl h))
        go_wp2_with fail
        go_ret
        refine ⟨?_, rfl⟩
        rw [hf.out]
        rfl
      · have hf := Lib.hid (timeB_false.2 (.inr ⟨h1, h2⟩))
        go_wp2_with fail
        go_ret
        refine ⟨?_, rfl⟩
        rw [hf.out]
        rfl
      · go_wp2_with fail
        go_roundg 0
        case measure => omega
        case rel => exact ⟨1, by omega, rfl, fun _ => ⟨h1, h2⟩, rfl, by omega⟩
    · have hf := Lib.hid (timeB_true.2 (ha (by omega)))
      go_wp2_with fail
      go_ret
      refine ⟨?_, rfl⟩
      rw [hf.out]
      rfl
theorem timeR (a : Int) (w : World) : Calls Try.prog 10 #[.int .i64 a] w fun e w' => e = .returned (.bool (timeB a)) ∧ w = w' := by
  have hc : a < -1099511627776 ∨ (-1099511627776 ≤ a ∧ 1099511627776 < a) ∨ (-1099511627776 ≤ a ∧ a ≤ 1099511627776) := by omega
  rcases hc with h | ⟨h1, h2⟩ | ⟨h1, h2⟩
  · have hf := Lib.hid (timeB_false.2 (.inl h))
    go_enter Try.func10, Try.ntmps10
    go_wp2_with fail
    go_ret
    refine ⟨?_, rfl⟩
    rw [hf.out]
    first
      | rfl
      | (show Ending.returned (.bool (decide (a ≤ 1099511627776))) = _; rw [decide_eq_false (by omega)])
      | (show Ending.returned (.bool (decide (a ≤ 1099511627776))) = _; rw [decide_eq_true (by omega)])
  · have hf := Lib.hid (timeB_false.2 (.inr ⟨h1, h2⟩))
    go_enter Try.func10, Try.ntmps10
    go_wp2_with fail
    go_ret
    refine ⟨?_, rfl⟩
    rw [hf.out]
    first
      | rfl
      | (show Ending.returned (.bool (decide (a ≤ 1099511627776))) = _; rw [decide_eq_false (by omega)])
      | (show Ending.returned (.bool (decide (a ≤ 1099511627776))) = _; rw [decide_eq_true (by omega)])
  · have hf := Lib.hid (timeB_true.2 ⟨h1, h2⟩)
    go_enter Try.func10, Try.ntmps10
    go_wp2_with fail
    go_ret
    refine ⟨?_, rfl⟩
    rw [hf.out]
    first
      | rfl
      | (show Ending.returned (.bool (decide (a ≤ 1099511627776))) = _; rw [decide_eq_false (by omega)])
      | (show Ending.returned (.bool (decide (a ≤ 1099511627776))) = _; rw [decide_eq_true (by omega)])

/-! ### a wheel -/
def IsW (w : World) (g : Nat) (F : Nat → Prop) (now : Int) (l : List Tm) : Prop :=
  ∃ A c, Cells w g [.int .i64 now, .slice A l.length c] ∧ Own w 2 A l.length c (tc l) ∧ blk A ≠ some g ∧ F g ∧ (∀ k, blk A = some k → F k) ∧ ∀ k, F k → k < w.heap.size
theorem IsW.mod {w w' : World} {g : Nat} {F G : Nat → Prop} {now : Int} {l : List Tm} (h : IsW w g F now l) (hm : Mod G w w') (hF : ∀ k, k < w.heap.size → F k → ¬ G k) : IsW w' g F now l := by
  obtain ⟨A, c, h1, h2, h3, h4, h5, h6⟩ := h
  exact ⟨A, c, h1.mod hm (hF g h1.2.2 h4), h2.mod hm fun q e => hF q (h2.lt e) (h5 q e), h3, h4, h5, fun k hk => Nat.lt_of_lt_of_le (h6 k hk) hm.size⟩
theorem IsW.none_ {w w' : World} {g : Nat} {F : Nat → Prop} {now : Int} {l : List Tm} (h : IsW w g F now l) (hm : Mod (fun _ => False) w w') : IsW w' g F now l := h.mod hm (by simp)
theorem IsW.lt {w : World} {g : Nat} {F : Nat → Prop} {now : Int} {l : List Tm} (h : IsW w g F now l) : ∀ k, F k → k < w.heap.size := by obtain ⟨A, c, h1, h2, h3, h4, h5, h6⟩ := h; exact h6
theorem own_none {w : World} {C n c : Nat} {xs : List Value} (h : Own w C none n c xs) : n = 0 ∧ c = 0 := by
  rcases h.2.2.2 with ⟨_, h0⟩ | ⟨g, o, e, _⟩
  · have := h.2.1; omega
  · cases e
theorem newW_any (now : Int) (w : World) : Calls Try.prog 9 #[.int .i64 now] w fun e w' =>
    ∃ g, e = .returned (.pointer (some ⟨g, 0, none⟩)) ∧ IsW w' g (fun k => k = g) (if timeB now then now else 0) [] ∧ w.heap.size ≤ g ∧ Mod (fun _ => False) w w' := by
  cases ht : timeB now
  all_goals
    have HT := Lib.hid ht
    clear ht
    go_enter Try.func9, Try.ntmps9
    go_wp2_with fail
    refine (time1 w.heap.size now _ (by simp)).mono ?_
    rintro e w1 ⟨rfl, rfl⟩
    rw [HT.out]
    go_wp2_with fail
    go_ret
    refine ⟨w.heap.size + 1, rfl, ⟨none, 0, ?_, Own.nil _ _, by simp [blk], rfl, by simp [blk], fun k e => by subst e; simp⟩, by omega, ((Mod.refl _ _).alloc _).alloc _⟩
    first
      | (have := Cells.new (w.alloc (.cells #[.int .i64 now] 2)) #[.int .i64 now, .slice none 0 0] 52; simpa using this)
      | (have := Cells.new (w.alloc (.cells #[.int .i64 now] 2)) #[.int .i64 0, .slice none 0 0] 52; simpa using this)
theorem lenW_any (g : Nat) (F : Nat → Prop) (now : Int) (l : List Tm) (w : World) (h : IsW w g F now l) : Calls Try.prog 18 #[.pointer (some ⟨g, 0, none⟩)] w fun e w' => e = .returned (.int .i64 l.length) ∧ w = w' := by
  obtain ⟨A, c, h1, _⟩ := h
  have c3 : w.cell? ⟨g, 1, none⟩ = some (.slice A l.length c) := h1.1 1 _ rfl
  clear h1
  go_enter Try.func18, Try.ntmps18
  go_wp2_with fail
  go_ret
  exact ⟨rfl, rfl⟩
theorem nowW_any (g : Nat) (F : Nat → Prop) (now : Int) (l : List Tm) (w : World) (h : IsW w g F now l) : Calls Try.prog 17 #[.pointer (some ⟨g, 0, none⟩)] w fun e w' => e = .returned (.int .i64 now) ∧ w = w' := by
  obtain ⟨A, c, h1, _⟩ := h
  have c3 : w.cell? ⟨g, 0, none⟩ = some (.int .i64 now) := h1.1 0 _ rfl
  clear h1
  go_enter Try.func17, Try.ntmps17
  go_wp2_with fail
  go_ret
  exact ⟨rfl, rfl⟩
theorem lenW_nil (w : World) : Calls Try.prog 18 #[.pointer none] w fun e w' => e = .returned (.int .i64 0) ∧ w = w' := by
  go_enter Try.func18, Try.ntmps18
  go_wp2_with fail
  go_ret
  exact ⟨rfl, rfl⟩
theorem nowW_nil (w : World) : Calls Try.prog 17 #[.pointer none] w fun e w' => e = .returned (.int .i64 0) ∧ w = w' := by
  go_enter Try.func17, Try.ntmps17
  go_wp2_with fail
  go_ret
  exact ⟨rfl, rfl⟩
theorem nextW_none (g : Nat) (F : Nat → Prop) (now : Int) (w : World) (h : IsW w g F now []) : Calls Try.prog 16 #[.pointer (some ⟨g, 0, none⟩)] w fun e w' => e = .returned (.tuple #[.int .i64 0, .bool false]) ∧ w = w' := by
  have HL := Lib.hid (lenW_any g F now [] w h)
  go_enter Try.func16, Try.ntmps16
  go_wp2_with fail
  refine HL.out.mono ?_
  rintro e w1 ⟨rfl, rfl⟩
  go_wp2_with fail
  exact bodyPost_ret (v := .tuple #[.int .i64 0, .bool false]) (by simp [results, Try.results16, go_sem]) rfl ⟨rfl, rfl⟩
theorem nextW_nil (w : World) : Calls Try.prog 16 #[.pointer none] w fun e w' => e = .returned (.tuple #[.int .i64 0, .bool false]) ∧ w = w' := by
  go_enter Try.func16, Try.ntmps16
  go_wp2_with fail
  refine (lenW_nil _).mono ?_
  rintro e w1 ⟨rfl, rfl⟩
  go_wp2_with fail
  exact bodyPost_ret (v := .tuple #[.int .i64 0, .bool false]) (by simp [results, Try.results16, go_sem]) rfl ⟨rfl, rfl⟩
theorem nextW_some (g : Nat) (F : Nat → Prop) (now : Int) (l : List Tm) (w : World) (h : IsW w g F now l) (hl : 0 < l.length) : Calls Try.prog 16 #[.pointer (some ⟨g, 0, none⟩)] w fun e w' => e = .returned (.tuple #[.int .i64 l[0].t, .bool true]) ∧ w = w' := by
  have HL := Lib.hid (lenW_any g F now l w h)
  obtain ⟨A, c, h1, h2, _⟩ := h
  have c1 : w.cell? ⟨g, 1, none⟩ = some (.slice A l.length c) := h1.1 1 _ rfl
  obtain ⟨ga, oa, hA, hga, q0, q1⟩ := (Sl.of_own h2).tm hl
  simp only [Nat.zero_mul, Nat.add_zero] at q0 q1
  have n0 : ¬ ((l.length : Int) = 0) := by omega
  have n1 : (0 : Int) < (l.length : Int) := by omega
  rw [hA] at c1
  generalize l[0] = x at *
  clear h1 h2 hA
  go_enter Try.func16, Try.ntmps16
  go_wp2_with fail
  refine HL.out.mono ?_
  rintro e w1 ⟨rfl, rfl⟩
  go_wp2_with fail
  exact bodyPost_ret (v := .tuple #[.int .i64 x.t, .bool true]) (by simp [results, Try.results16, go_sem]) rfl ⟨rfl, rfl⟩
theorem at_nil (id : Int) (w : World) : Calls Try.prog 15 #[.pointer none, .int .i64 id] w fun e w' => e = .returned (.tuple #[.int .i64 0, .bool false]) ∧ w = w' := by
  go_enter Try.func15, Try.ntmps15
  go_wp2_with fail
  exact bodyPost_ret (v := .tuple #[.int .i64 0, .bool false]) (by simp [results, Try.results15, go_sem]) rfl ⟨rfl, rfl⟩
/-- the first timer with that number, or none -/
def AtR (w : World) (l : List Tm) (id : Int) (e : Ending) (w' : World) : Prop :=
  ∃ (a : Int) (b : Bool), e = .returned (.tuple #[.int .i64 a, .bool b]) ∧ ((b = true ∧ ∃ k, ∃ h : k < l.length, l[k].id = id ∧ l[k].t = a) ∨ (b = false ∧ a = 0 ∧ ∀ x ∈ l, x.id ≠ id)) ∧ Mod (fun _ => False) w w'
theorem at_any (g : Nat) (F : Nat → Prop) (now : Int) (l : List Tm) (id : Int) (w : World) (h : IsW w g F now l) : Calls Try.prog 15 #[.pointer (some ⟨g, 0, none⟩), .int .i64 id] w (AtR w l id) := by
  obtain ⟨A, c, h1, h2, _⟩ := h
  have c1 : w.cell? ⟨g, 1, none⟩ = some (.slice A l.length c) := h1.1 1 _ rfl
  have HO := Lib.hid h2
  have hb := h2.2.1
  have hb2 := h2.2.2.1
  unfold maxLen at hb2
  clear h1 h2
  go_enter Try.func15, Try.ntmps15
  go_wp2_with fail
  go_loopg [7, 15] l.length (fun m v7 v15 wr => ∃ k : Nat, k ≤ l.length ∧ v15 = .int .i64 k ∧ Hid (∀ j (h : j < l.length), j < k → l[j].id ≠ id) ∧ Hid (Mod (fun _ => False) w wr) ∧ m + k = l.length)
  case atStart => exact ⟨0, by omega, rfl, Lib.hid fun j _ h => absurd h (by omega), Lib.hid (Mod.refl _ _), by omega⟩
  case round =>
    obtain ⟨k, hk, rfl, HK, HM, hm⟩ := hrel
    by_cases hlt : k < l.length
    · obtain ⟨ga, oa, hA, hga, q0, q1⟩ := ((Sl.of_own HO.out).none_ HM.out).tm hlt
      have HA := Lib.hid hA
      have j0 : (0 : Int) ≤ (k : Int) := by omega
      have j1 : (k : Int) < (l.length : Int) := by omega
      have HX := Lib.hid (show ∃ x, x = l[k] from ⟨_, rfl⟩)
      by_cases hid : l[k].id = id
      · have hr := Lib.hid (show ∃ k, ∃ h : k < l.length, l[k].id = id ∧ l[k].t = l[k].t from ⟨k, hlt, hid, rfl⟩)
        have hr2 := Lib.hid (show ∀ a, l[k].t = a → ∃ k, ∃ h : k < l.length, l[k].id = id ∧ l[k].t = a from fun a e => ⟨k, hlt, hid, e⟩)
        have heq : (l[k].id == id) = true := by simp [hid]
        clear hid HX hr
        generalize l[k] = x at *
        rw [hA]
        clear hA
        go_wp2_with fail
        exact bodyPost_ret (v := .tuple #[.int .i64 x.t, .bool true]) (by simp [results, Try.results15, go_sem]) rfl ⟨_, _, rfl, .inl ⟨rfl, hr2.out _ rfl⟩, HM.out.alloc _⟩
      · have hn := Lib.hid (show ∀ j (h : j < l.length), j < k + 1 → l[j].id ≠ id from fun j h hj => by
          by_cases e : j = k
          · subst e; exact hid
          · exact HK.out j h (by omega))
        have heq : (l[k].id == id) = false := by simp [hid]
        clear hid HX
        generalize l[k] = x at *
        rw [hA]
        clear hA
        go_wp2_with fail
        rw [← HA.out]
        go_roundg (l.length - (k + 1))
        case measure => omega
        case rel => exact ⟨k + 1, by omega, by go_num, hn, Lib.hid (HM.out.alloc _), by omega⟩
    · go_wp2_with fail
      exact bodyPost_ret (v := .tuple #[.int .i64 0, .bool false]) (by simp [results, Try.results15, go_sem]) rfl ⟨0, false, rfl, .inr ⟨rfl, rfl, fun x hx => by
        obtain ⟨j, hj, rfl⟩ := List.getElem_of_mem hx
        exact HK.out j hj (by omega)⟩, HM.out⟩

theorem deleteT_nil (v : Value) (c : Nat) (w : World) : Calls Try.prog 25 #[.slice none 0 c, v] w fun e w' => e = .returned (.slice none 0 c) ∧ w = w' := by
  have hi : Calls Try.prog 31 #[.slice none 0 c, v] w fun e w' => e = .returned (.int .i64 (-1)) ∧ w = w' := by
    go_enter Try.func31, Try.ntmps31
    go_wp2_with fail
    go_loopg [5, 8] 0 (fun m _ v8 wr => v8 = .int .i64 0 ∧ w = wr ∧ m = 0)
    case atStart => exact ⟨rfl, rfl, rfl⟩
    case round =>
      obtain ⟨rfl, rfl, _⟩ := hrel
      go_wp2_with fail
      go_ret
      exact ⟨rfl, rfl⟩
  have HI := Lib.hid hi
  clear hi
  go_enter Try.func25, Try.ntmps25
  go_wp2_with fail
  refine HI.out.mono ?_
  rintro e w1 ⟨rfl, rfl⟩
  go_wp2_with fail
  go_ret
  exact ⟨rfl, rfl⟩

def del (l : List Tm) (id : Int) : List Tm := l.filter fun x => !(x.id == id)
def hasId (l : List Tm) (id : Int) : Bool := l.any fun x => x.id == id
theorem del_none {l : List Tm} {id : Int} (h : ∀ x ∈ l, x.id ≠ id) : del l id = l := List.filter_eq_self.2 fun x hx => by simp [h x hx]
set_option maxHeartbeats 1600000 in
theorem stop_any (g : Nat) (F : Nat → Prop) (now : Int) (l : List Tm) (id : Int) (w : World) (h : IsW w g F now l) :
    Calls Try.prog 12 #[.pointer (some ⟨g, 0, none⟩), .int .i64 id] w fun e w' => e = .returned (.bool (hasId l id)) ∧ IsW w' g F now (del l id) ∧ Mod F w w' := by
  have hmf : ∀ (fn : Fn) (first cap : Array Value) (w : World), (Instr.makeFunc fn first cap).run Try.prog w = .ok (.func fn first cap) w := fun _ _ _ _ => rfl
  have HA := Lib.hid (at_any g F now l id _ (h.none_ ((Mod.refl _ w).alloc (.cells #[.int .i64 id] 3))))
  have HB := Lib.hid (Cells.new w #[.int .i64 id] 3)
  have H := Lib.hid h
  have M0 := Lib.hid ((Mod.refl (fun _ => False) w).alloc (.cells #[.int .i64 id] 3))
  have b0 : (w.alloc (.cells #[.int .i64 id] 3)).cell? ⟨w.heap.size, 0, none⟩ = some (.int .i64 id) := HB.out.1 0 _ rfl
  clear h
  go_enter Try.func12, Try.ntmps12
  go_wp2_with fail
  refine HA.out.mono ?_
  rintro e w1 ⟨a, b, rfl, hab, m1⟩
  have M1 := Lib.hid (M0.out.trans m1 (by simp))
  have BX := Lib.hid (HB.out.mod m1 (by simp))
  have H1 := Lib.hid (H.out.none_ M1.out)
  clear m1 b0 HA
  rcases hab with ⟨rfl, k, hk, hid, _⟩ | ⟨rfl, rfl, hno⟩
  · have hh := Lib.hid (show hasId l id = true from List.any_eq_true.2 ⟨l[k], List.getElem_mem hk, by simp [hid]⟩)
    clear hid
    obtain ⟨A, c, h1, h2, h3, h4, h5, h6⟩ := H1.out
    have hgl := H.out.lt
    obtain ⟨gA, oA, hA, hgA⟩ := h2.form (by omega)
    subst hA
    have hgAF : F gA := h5 gA rfl
    have hgne : gA ≠ g := fun e => h3 (by rw [← e]; rfl)
    have hgAl := hgl gA hgAF
    have c1 : w1.cell? ⟨g, 1, none⟩ = some (.slice (some ⟨gA, oA, none⟩) l.length c) := h1.1 1 _ rfl
    have HDel := Lib.hid (delete_any gA oA l c w.heap.size (fun x => x.id == id) w1 h2 (fun u W hm => stop1_any w.heap.size id u W (BX.out.mod hm (by omega))))
    have C1 := Lib.hid h1
    have H3 := Lib.hid h3
    have H5 := Lib.hid h5
    have HGL := Lib.hid hgl
    clear h1 h2 h3 h5 h6 H H1 hgl
    go_wp2_with fail
    refine HDel.out.mono ?_
    rintro e w2 ⟨rfl, o2, m2⟩
    have hC2 := C1.out.mod m2 (fun e => hgne e.symm)
    have c4 : w2.cell? ⟨g, 1, none⟩ = some (.slice (some ⟨gA, oA, none⟩) l.length c) := hC2.1 1 _ rfl
    have f4 := hC2.2.1 1
    have hP := Lib.hid (show IsW (w2.setCell ⟨g, 1, none⟩ (.slice (some ⟨gA, oA, none⟩) (l.filter fun x => !(x.id == id)).length c)) g F now (del l id) from
      ⟨some ⟨gA, oA, none⟩, c, hC2.set_ 1 _, o2.far (fun e => hgne (by injection e)) _, H3.out, h4, H5.out, fun k hk => by have h7 := HGL.out k hk; have h8 := M1.out.size; have h9 := m2.size; simp [World.setCell]; omega⟩)
    have hM := Lib.hid (((M1.out.mono (G := F) (by simp)).trans m2 (fun k hk => .inl (by rw [show k = gA from hk]; exact hgAF))).setCell (p := ⟨g, 1, none⟩) (.inl h4) (.slice (some ⟨gA, oA, none⟩) (l.filter fun x => !(x.id == id)).length c))
    generalize hl2 : (l.filter fun x => !(x.id == id)) = l2 at *
    clear o2 m2 hC2 HDel
    go_wp2_with fail
    go_ret
    exact ⟨by rw [hh.out]; rfl, hP.out, hM.out⟩
  · have hh := Lib.hid (show hasId l id = false from by
      unfold hasId
      rw [List.any_eq_false]
      intro x hx
      simp [hno x hx])
    have hd := Lib.hid (del_none hno)
    clear hno
    go_wp2_with fail
    go_ret
    exact ⟨by rw [hh.out]; rfl, by rw [hd.out]; exact H1.out, M1.out.mono (by simp)⟩
theorem stop_nil (id : Int) (w : World) : Calls Try.prog 12 #[.pointer none, .int .i64 id] w fun e w' => e = .returned (.bool false) ∧ Mod (fun _ => False) w w' := by
  go_enter Try.func12, Try.ntmps12
  go_wp2_with fail
  refine (at_nil id _).mono ?_
  rintro e w1 ⟨rfl, rfl⟩
  go_wp2_with fail
  go_ret
  exact ⟨rfl, (Mod.refl _ _).alloc _⟩
end Go.Proofs.Ytnfhmflcaolbbaa
